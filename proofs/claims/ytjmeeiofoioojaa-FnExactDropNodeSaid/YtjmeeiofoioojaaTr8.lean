/-
  A tree without a node and all below it: the contracts of the reference's and the program's functions.
-/
import Derived.Test.YtjmeeiofoioojaaTr4
import Derived.Test.YtjmeeiofoioojaaMem2
import Derived.Test.YtjmeeiofoioojaaTNd3
namespace Go.Proofs.Ytjmeeiofoioojaa
open Go.RowKit

/-- the new numbers as cells -/
def plC (t : List Nd) (a k : Nat) : Array Value := ((plcL t a k).map (Value.int .i64)).toArray
theorem plC_size (t : List Nd) (a k : Nat) : (plC t a k).size = t.length := by simp [plC, plcL_len]
theorem plC_at {t : List Nd} {a k j : Nat} (hj : j < t.length) : (plC t a k)[j]? = some (.int .i64 (plc t a k j)) := by
  have h : j < (plcL t a k).length := by rw [plcL_len]; exact hj
  simp only [plC, List.getElem?_toArray, List.getElem?_map, List.getElem?_eq_getElem h, Option.map_some, plcL_at h]
theorem plC_yes {t : List Nd} {a k : Nat} (h : abv t a k = false) {d : Int} (hd : d = (cnt t a k : Int)) : (plC t a k).setIfInBounds k (.int .i64 d) = plC t a (k + 1) := by
  subst hd
  unfold plC
  rw [plcL_yes h, List.map_set, List.setIfInBounds_toArray]
theorem plC_no {t : List Nd} {a k : Nat} (h : abv t a k = true) : plC t a (k + 1) = plC t a k := by
  unfold plC; rw [plcL_no h]
theorem plC_zero (t : List Nd) (a : Nat) : madeCells (Value.int .i64 0).cells (t.length * 1) = plC t a 0 := by
  unfold plC
  rw [plcL_zero]
  apply Array.ext_getElem?
  intro j
  by_cases hj : j < t.length
  · simp [madeCells, hj, Value.cells, Nat.mod_one]
  · simp [madeCells, hj]
theorem plc_next {t : List Nd} {a k p : Nat} (hp : p < k) : plc t a (k + 1) p = plc t a k p := by
  unfold plc
  have : (p < k + 1) ↔ (p < k) := by omega
  simp only [this]
theorem rn_zero (t : List Nd) (a : Nat) {k : Nat} (hk : k = 0) (x : Nd) : rn t a k x = x := by simp [rn, hk]
theorem rn_more (t : List Nd) (a : Nat) {k p : Nat} (hk : 0 < k) {x : Nd} (hp : x.par = (p : Int)) : ndE.cells (rn t a k x) = [.int .i64 (plc t a k p), .string x.name, .int .i64 x.val] := by
  simp [rn, show k ≠ 0 by omega, hp, ndE]
theorem drop_no {t : List Nd} {a : Int} (h : dropB t a = false) : dropR t a = [] := by simp [dropR, h]
theorem drop_yes {t : List Nd} {i : Nat} (h : dropB t i = true) : dropR t i = dropL t i t.length := by simp [dropR, h]

set_option maxRecDepth 100000 in
set_option maxHeartbeats 1000000 in
theorem without_c (A : Option Addr) (c : Nat) (t : List Nd) (a : Nat) (w : World) (h : Rd ndE w w.heap.size A t) (hl : t.length ≤ 12) (ho : OkTo t t.length) :
    Calls Try.prog 64 #[.slice A t.length c, .int .i64 a] w fun e w' => ∃ u, e = .returned u ∧ Own ndE 57 w' w.heap.size u (dropL t a t.length) ∧ Below w.heap.size w w' := by
  have H := Lib.hid (And.intro h ho)
  clear h ho
  obtain ⟨gp, hgp⟩ : ∃ gp, w.heap.size + 1 = gp := ⟨_, rfl⟩
  have hmk := fun W => run_make_rowN (P := Try.prog) 41 3 _ _ slIn.und (info_parts slIn.info).choose_spec.1 (info_parts slIn.info).choose_spec.2.1 .i64 .i64 t.length t.length (Nat.le_refl _) (by rw [(info_parts slIn.info).choose_spec.2.2.2]; omega) (by omega) W
  have hsz := (info_parts slIn.info).choose_spec.2.2.1
  rw [hsz] at hmk
  clear hsz
  rw [show inE.sz = 1 from rfl, plC_zero t a] at hmk
  have B0 := Lib.hid (((Below.refl w.heap.size w).alloc (Nat.le_refl _) (.cells #[] 57)).alloc (by simp) (.cells (plC t a 0) 3))
  have N0 := Lib.hid (And.intro ((own_new (E := ndE) (e := 57) w #[] [] w.heap.size (Nat.le_refl _) (by simp) rfl).alloc (.cells (plC t a 0) 3)) (show Blk ((w.alloc (.cells #[] 57)).alloc (.cells (plC t a 0) 3)) gp 3 (plC t a 0) by
    have := Blk.new (w.alloc (.cells #[] 57)) 3 (plC t a 0)
    rwa [show (w.alloc (.cells #[] 57)).heap.size = gp by simpa using hgp] at this))
  go_enter Try.func64, Try.ntmps64
  go_wp2_with fail
  have HG := Lib.hid hgp
  clear hmk hgp
  go_loopw [5, 7] (fun v iv wr => ∃ (k : Nat) (L : List Nd), iv = .int .i64 k ∧ k ≤ t.length ∧ L.length ≤ k ∧ Hid (L = dropL t a k) ∧ v.ownBlock ≠ some gp ∧ Blk wr gp 3 (plC t a k) ∧ Own ndE 57 wr w.heap.size v L ∧ Below w.heap.size w wr) (fun _ iv _ => t.length - (intOf iv).toNat)
  case atStart => exact ⟨0, [], rfl, by omega, by simp, Lib.hid rfl, by have := HG.out; simp [Value.ownBlock]; omega, N0.out.2, N0.out.1, B0.out⟩
  case round =>
    obtain ⟨k, L, rfl, hk, hlL, hL, hne, hblk, ho, hbel⟩ := hrel
    obtain ⟨Ao, co, rfl, _, _, _⟩ := ho.form
    by_cases hlt : k < t.length
    · obtain ⟨b, o, rfl, hb, c0, c1, c2⟩ := (H.out.1.below hbel (Nat.le_refl _)).nd hlt
      have R := Lib.hid (And.intro ho (And.intro hbel (And.intro hblk hne)))
      have hgl := hblk.lt
      have hgw : w.heap.size ≤ gp := by have := HG.out; omega
      by_cases hab : abv t a k = true
      · have F := Lib.hid (show L = dropL t a (k + 1) by rw [dropL_no hab]; exact hL.out)
        have FP := Lib.hid (plC_no hab)
        have HA := Lib.hid hab
        clear ho hbel hblk hne hab
        go_wp2_with fail
        refine (above_c _ c t a k _ _ (H.out.1.below R.out.2.1 (Nat.le_refl _)) (by omega) H.out.2 hlt).mono ?_
        rintro e w2 ⟨rfl, rfl⟩
        rw [HA.out]
        go_wp2_with fail
        go_roundw
        case rel => exact ⟨k + 1, L, by go_num, by omega, by omega, F, R.out.2.2.2, by rw [FP.out]; exact R.out.2.2.1, R.out.1, R.out.2.1⟩
        case measure => simp [intOf]; omega
      · rw [Bool.not_eq_true] at hab
        have F := Lib.hid (show L ++ [rn t a k t[k]] = dropL t a (k + 1) by rw [dropL_yes hlt hab, hL.out])
        have FL := Lib.hid (show (L ++ [rn t a k t[k]]).length ≤ k + 1 by simp; omega)
        have FC := Lib.hid (plC_yes hab (d := (L.length : Int)) (by rw [hL.out, dropL_len k (by omega)]))
        have HA := Lib.hid hab
        have hlo := ho.lt
        have hnx : ∀ g, (Value.slice Ao L.length co).ownBlock = some g → g ≠ wr.heap.size := fun g e => by have := (hlo g e).2; omega
        have HX := Lib.hid hnx
        obtain ⟨gc, hgc⟩ := hblk.cell k (by rw [plC_size]; exact hlt)
        have gf := hblk.free k
        have hgne : ¬ gp = wr.heap.size := by omega
        have hgne2 : ¬ wr.heap.size = gp := by omega
        rcases Nat.eq_zero_or_pos k with hz | hz
        · have X := Lib.hid (show #[Value.int .i64 t[k].par, .string t[k].name, .int .i64 t[k].val].toList = ndE.cells (rn t a k t[k]) by rw [rn_zero t a hz]; rfl)
          have hz2 : ¬ 0 < k := by omega
          have BB := Lib.hid (show (Own ndE 57 ((wr.setCell ⟨gp, k, none⟩ (.int .i64 (L.length : Int))).alloc (.cells #[.int .i64 t[k].par, .string t[k].name, .int .i64 t[k].val] 57)) w.heap.size (.slice Ao L.length co) L ∧ Below w.heap.size w ((wr.setCell ⟨gp, k, none⟩ (.int .i64 (L.length : Int))).alloc (.cells #[.int .i64 t[k].par, .string t[k].name, .int .i64 t[k].val] 57)) ∧ Blk ((wr.setCell ⟨gp, k, none⟩ (.int .i64 (L.length : Int))).alloc (.cells #[.int .i64 t[k].par, .string t[k].name, .int .i64 t[k].val] 57)) gp 3 ((plC t a k).setIfInBounds k (.int .i64 (L.length : Int))) ∧ gp < ((wr.setCell ⟨gp, k, none⟩ (.int .i64 (L.length : Int))).alloc (.cells #[.int .i64 t[k].par, .string t[k].name, .int .i64 t[k].val] 57)).heap.size) from
            ⟨(R.out.1.setOther R.out.2.2.2).alloc _, (R.out.2.1.setCell (p := ⟨gp, k, none⟩) hgw _).alloc (by simp [World.setCell]; exact R.out.2.1.size) _, (R.out.2.2.1.set k _).alloc _, by simp [World.setCell]; omega⟩)
          clear ho hbel hblk hne hab hlo hnx hz
          go_wp2_with fail
          refine (above_c _ c t a k _ _ (H.out.1.below R.out.2.1 (Nat.le_refl _)) (by omega) H.out.2 hlt).mono ?_
          rintro e w2 ⟨rfl, rfl⟩
          rw [HA.out]
          go_wp2_with (at_builtin; refine wpList_ap1g slNd rfl (.tmp 40) (.tmp 42) rfl _ _ (rn t a k t[k]) X.out w w.heap.size _ L rfl BB.out.1 (wr.heap.size + 1) (by simp [World.setCell]) rfl (by omega) BB.out.2.1 (Nat.le_refl _) ?_; intro v3 w3 ho3 hb3 hg3 hat3; have Y := Lib.hid (And.intro ho3 (And.intro hb3 (And.intro (BB.out.2.2.1.kept hg3 (fun e => R.out.2.2.2 e.symm)) (ne_grown R.out.2.2.2 BB.out.2.2.2 hat3)))); clear ho3 hb3 hg3 hat3)
          go_roundw
          case rel => exact ⟨k + 1, _, by go_num, by omega, FL.out, F, Y.out.2.2.2, by rw [← FC.out]; exact Y.out.2.2.1, Y.out.1, Y.out.2.1⟩
          case measure => simp [intOf]; omega
        · obtain ⟨p, hp, hpk⟩ := H.out.2.parN hlt hz
          have X := Lib.hid (show #[Value.int .i64 (plc t a k p), .string t[k].name, .int .i64 t[k].val].toList = ndE.cells (rn t a k t[k]) by rw [rn_more t a hz hp])
          have gp0 : wr.cell? ⟨gp, p, none⟩ = some (.int .i64 (plc t a k p)) := by rw [cell_of_row _ _ p _ _ _ hblk]; exact plC_at (by omega)
          have BB := Lib.hid (show (Own ndE 57 ((wr.setCell ⟨gp, k, none⟩ (.int .i64 (L.length : Int))).alloc (.cells #[.int .i64 (plc t a k p), .string t[k].name, .int .i64 t[k].val] 57)) w.heap.size (.slice Ao L.length co) L ∧ Below w.heap.size w ((wr.setCell ⟨gp, k, none⟩ (.int .i64 (L.length : Int))).alloc (.cells #[.int .i64 (plc t a k p), .string t[k].name, .int .i64 t[k].val] 57)) ∧ Blk ((wr.setCell ⟨gp, k, none⟩ (.int .i64 (L.length : Int))).alloc (.cells #[.int .i64 (plc t a k p), .string t[k].name, .int .i64 t[k].val] 57)) gp 3 ((plC t a k).setIfInBounds k (.int .i64 (L.length : Int))) ∧ gp < ((wr.setCell ⟨gp, k, none⟩ (.int .i64 (L.length : Int))).alloc (.cells #[.int .i64 (plc t a k p), .string t[k].name, .int .i64 t[k].val] 57)).heap.size) from
            ⟨(R.out.1.setOther R.out.2.2.2).alloc _, (R.out.2.1.setCell (p := ⟨gp, k, none⟩) hgw _).alloc (by simp [World.setCell]; exact R.out.2.1.size) _, (R.out.2.2.1.set k _).alloc _, by simp [World.setCell]; omega⟩)
          rw [hp] at c0
          clear ho hbel hblk hne hab hlo hnx hp
          go_wp2_with fail
          refine (above_c _ c t a k _ _ (H.out.1.below R.out.2.1 (Nat.le_refl _)) (by omega) H.out.2 hlt).mono ?_
          rintro e w2 ⟨rfl, rfl⟩
          rw [HA.out]
          go_wp2_with (at_builtin; refine wpList_ap1g slNd rfl (.tmp 40) (.tmp 42) rfl _ _ (rn t a k t[k]) X.out w w.heap.size _ L rfl BB.out.1 (wr.heap.size + 1) (by simp [World.setCell]) rfl (by omega) BB.out.2.1 (Nat.le_refl _) ?_; intro v3 w3 ho3 hb3 hg3 hat3; have Y := Lib.hid (And.intro ho3 (And.intro hb3 (And.intro (BB.out.2.2.1.kept hg3 (fun e => R.out.2.2.2 e.symm)) (ne_grown R.out.2.2.2 BB.out.2.2.2 hat3)))); clear ho3 hb3 hg3 hat3)
          go_roundw
          case rel => exact ⟨k + 1, _, by go_num, by omega, FL.out, F, Y.out.2.2.2, by rw [← FC.out]; exact Y.out.2.2.1, Y.out.1, Y.out.2.1⟩
          case measure => simp [intOf]; omega
    · have e : k = t.length := by omega
      subst e
      have R := Lib.hid (And.intro ho hbel)
      clear ho hbel hblk hne
      go_wp2_with fail
      go_ret
      exact ⟨_, rfl, by rw [← hL.out]; exact R.out.1, R.out.2⟩
theorem drop_cases (t : List Nd) (a : Int) : (treeOk t = false ∧ dropB t a = false) ∨ (treeOk t = true ∧ inR a 1 ((t.length : Int) - 1) = false ∧ dropB t a = false) ∨ (treeOk t = true ∧ inR a 1 ((t.length : Int) - 1) = true ∧ dropB t a = true ∧ nodeB t a = true) := by
  cases h : treeOk t with
  | false => exact .inl ⟨rfl, by simp [dropB, nodeB, h]⟩
  | true =>
    right
    cases h2 : inR a 1 ((t.length : Int) - 1) with
    | false =>
      refine .inl ⟨rfl, rfl, ?_⟩
      rw [Bool.eq_false_iff]
      intro h3
      simp only [dropB, nodeB, atOk, inR, Bool.and_eq_true, decide_eq_true_eq, Bool.not_eq_true', beq_eq_false_iff_ne] at h3
      have h4 : inR a 1 ((t.length : Int) - 1) = true := by simp only [inR, Bool.and_eq_true, decide_eq_true_eq]; omega
      rw [h2] at h4; cases h4
    | true =>
      simp only [inR, Bool.and_eq_true, decide_eq_true_eq] at h2
      have h3 : nodeB t a = true := nodeB_iff.2 ⟨h, atOk_iff.2 (by omega)⟩
      have h4 : (a == 0) = false := by rw [beq_eq_false_iff_ne]; omega
      exact .inr ⟨rfl, rfl, by simp only [dropB, h3, h4]; rfl, h3⟩

set_option maxRecDepth 100000 in
set_option maxHeartbeats 1000000 in
theorem spec_DropNode_c (A : Option Addr) (c : Nat) (t : List Nd) (a : Int) (w : World) (h : Rd ndE w w.heap.size A t) (hl : t.length ≤ 1048576) (hc : t.length ≤ c) :
    Calls Try.prog 28 #[.slice A t.length c, .int .i64 a] w fun e w' => ∃ u, e = .returned (.tuple #[u, .bool (dropB t a)]) ∧ Own ndE 57 w' w.heap.size u (dropR t a) ∧ Below w.heap.size w w' := by
  have H := Lib.hid h
  clear h
  rcases drop_cases t a with ⟨h1, h2⟩ | ⟨h1, h3, h2⟩ | ⟨h1, h3, h2, h5⟩
  · have F := Lib.hid h2
    have HT := Lib.hid h1
    clear h1 h2
    go_enter Try.func28, Try.ntmps28
    go_wp2_with fail
    refine (validTree_c A c t _ _ H.out (by omega) hc).mono ?_
    rintro e w1 ⟨rfl, hd⟩
    have B := Lib.hid hd
    clear hd
    rw [HT.out]
    go_wp2_with fail
    go_ret2
    rw [F.out, drop_no F.out]
    exact ⟨_, rfl, Own.nil, B.out.below _⟩
  · have F := Lib.hid h2
    have HT := Lib.hid h1
    clear h1 h2
    go_enter Try.func28, Try.ntmps28
    go_wp2_with fail
    refine (validTree_c A c t _ _ H.out (by omega) hc).mono ?_
    rintro e w1 ⟨rfl, hd⟩
    have B := Lib.hid hd
    clear hd
    rw [HT.out]
    go_wp2_with (go_at_call 57; refine (inRange_c _ _ _ _).mono ?_; rintro e w' ⟨rfl, rfl⟩)
    go_ret2
    rw [F.out, drop_no F.out]
    exact ⟨_, rfl, Own.nil, B.out.below _⟩
  · obtain ⟨i, rfl, hi⟩ := nodeB_nat h5
    have h12 := (nodeB_len h5).2
    have F := Lib.hid h2
    have OK := Lib.hid (nodeB_okTo h5)
    have HT := Lib.hid h1
    clear h1 h2 h5
    go_enter Try.func28, Try.ntmps28
    go_wp2_with fail
    refine (validTree_c A c t _ _ H.out (by omega) hc).mono ?_
    rintro e w1 ⟨rfl, hd⟩
    have B := Lib.hid (hd.below w.heap.size)
    clear hd
    rw [HT.out]
    go_wp2_with (go_at_call 57; refine (inRange_c _ _ _ _).mono ?_; rintro e w' ⟨rfl, rfl⟩)
    refine (without_c A c t i _ (H.out.grow B.out) h12 OK.out).mono ?_
    rintro e w2 ⟨u, rfl, ho, hb⟩
    have Z := Lib.hid (And.intro (ho.base B.out.size) (B.out.trans (hb.mono B.out.size)))
    clear ho hb
    go_wp2_with fail
    go_ret2
    rw [F.out, drop_yes F.out]
    exact ⟨_, rfl, Z.out.1, Z.out.2⟩
set_option maxRecDepth 100000 in
set_option maxHeartbeats 1000000 in
theorem impl_DropNode_c (A : Option Addr) (c : Nat) (t : List Nd) (x : Int) (w : World) (h : Rd ndE w w.heap.size A t) (hl : t.length ≤ 1048576) (hc : t.length ≤ c) :
    Calls Try.prog 29 #[.slice A t.length c, .int .i64 x] w fun e w' => ∃ u, e = .returned (.tuple #[u, .bool (dropB t x)]) ∧ Own ndE 57 w' w.heap.size u (dropR t x) ∧ Below w.heap.size w w' := by
  have H := Lib.hid h
  clear h
  by_cases h2 : nodeB t x = true
  · by_cases hx0 : (x == 0) = true
    · have F := Lib.hid (show dropB t x = false by simp only [dropB, hx0]; simp)
      have HB := Lib.hid h2
      clear h2
      go_enter Try.func29, Try.ntmps29
      go_wp2_with fail
      refine (isNode_c A c t x _ H.out (by omega) hc).mono ?_
      rintro e w1 ⟨rfl, hb⟩
      have B := Lib.hid hb
      clear hb
      rw [HB.out]
      go_wp2_with fail
      go_ret2
      rw [F.out, drop_no F.out]
      exact ⟨_, rfl, Own.nil, B.out⟩
    · rw [Bool.not_eq_true] at hx0
      obtain ⟨a, rfl, hi⟩ := nodeB_nat h2
      have h12 := (nodeB_len h2).2
      have F := Lib.hid (show dropB t a = true by simp only [dropB, h2, hx0]; rfl)
      have OK := Lib.hid (nodeB_okTo h2)
      have HB := Lib.hid h2
      clear h2
      have hmk := fun W => run_make_rowN (P := Try.prog) 41 3 _ _ slIn.und (info_parts slIn.info).choose_spec.1 (info_parts slIn.info).choose_spec.2.1 .i64 .i64 t.length t.length (Nat.le_refl _) (by rw [(info_parts slIn.info).choose_spec.2.2.2]; omega) (by omega) W
      have hsz := (info_parts slIn.info).choose_spec.2.2.1
      rw [hsz] at hmk
      clear hsz
      rw [show inE.sz = 1 from rfl, plC_zero t a] at hmk
      go_enter Try.func29, Try.ntmps29
      go_wp2_with fail
      refine (isNode_c A c t a _ H.out (by omega) hc).mono ?_
      rintro e w1 ⟨rfl, hb⟩
      have B := Lib.hid hb
      clear hb
      rw [HB.out]
      obtain ⟨gp, hgp⟩ : ∃ gp, w1.heap.size = gp := ⟨_, rfl⟩
      have B0 := Lib.hid (B.out.alloc B.out.size (.cells (plC t a 0) 3))
      have N0 := Lib.hid (show Blk (w1.alloc (.cells (plC t a 0) 3)) gp 3 (plC t a 0) by rw [← hgp]; exact Blk.new _ _ _)
      go_wp2_with fail
      have HG := Lib.hid hgp
      clear hmk hgp
      go_loopw [7, 23] (fun v iv wr => ∃ (k : Nat) (L : List Nd), iv = .int .i64 k ∧ k ≤ t.length ∧ L.length ≤ k ∧ Hid (L = dropL t a k) ∧ v.ownBlock ≠ some gp ∧ Blk wr gp 3 (plC t a k) ∧ Own ndE 57 wr w.heap.size v L ∧ Below w.heap.size w wr) (fun _ iv _ => t.length - (intOf iv).toNat)
      case atStart => exact ⟨0, [], rfl, by omega, by simp, Lib.hid rfl, by simp [Value.ownBlock], N0.out, Own.nil, B0.out⟩
      case round =>
        obtain ⟨k, L, rfl, hk, hlL, hL, hne, hblk, ho, hbel⟩ := hrel
        obtain ⟨Ao, co, rfl, _, _, _⟩ := ho.form
        by_cases hlt : k < t.length
        · obtain ⟨b, o, rfl, hb, c0, c1, c2⟩ := (H.out.below hbel (Nat.le_refl _)).nd hlt
          have R := Lib.hid (And.intro ho (And.intro hbel (And.intro hblk hne)))
          have hgl := hblk.lt
          have hgw : w.heap.size ≤ gp := by have := HG.out; have := B.out.size; omega
          by_cases hab : abv t a k = true
          · have F2 := Lib.hid (show L = dropL t a (k + 1) by rw [dropL_no hab]; exact hL.out)
            have FP := Lib.hid (plC_no hab)
            have HA := Lib.hid hab
            clear ho hbel hblk hne hab
            go_wp2_with fail
            refine (reaches_c _ c t a k _ _ (H.out.below (R.out.2.1.alloc R.out.2.1.size _) (Nat.le_refl _)) (by omega) OK.out hlt).mono ?_
            rintro e w2 ⟨rfl, rfl⟩
            rw [HA.out]
            go_wp2_with fail
            go_roundw
            case rel => exact ⟨k + 1, L, by go_num, by omega, by omega, F2, R.out.2.2.2, by rw [FP.out]; exact R.out.2.2.1.alloc _, R.out.1.alloc _, R.out.2.1.alloc R.out.2.1.size _⟩
            case measure => simp [intOf]; omega
          · rw [Bool.not_eq_true] at hab
            have F2 := Lib.hid (show L ++ [rn t a k t[k]] = dropL t a (k + 1) by rw [dropL_yes hlt hab, hL.out])
            have FL := Lib.hid (show (L ++ [rn t a k t[k]]).length ≤ k + 1 by simp; omega)
            have FC := Lib.hid (plC_yes hab (d := (L.length : Int)) (by rw [hL.out, dropL_len k (by omega)]))
            have HA := Lib.hid hab
            obtain ⟨gc, hgc⟩ := hblk.cell k (by rw [plC_size]; exact hlt)
            have gf := hblk.free k
            have hgne : ¬ gp = wr.heap.size := by omega
            have hgne2 : ¬ wr.heap.size = gp := by omega
            rcases Nat.eq_zero_or_pos k with hz | hz
            · have X := Lib.hid (show #[Value.int .i64 t[k].par, .string t[k].name, .int .i64 t[k].val].toList = ndE.cells (rn t a k t[k]) by rw [rn_zero t a hz]; rfl)
              have hz2 : ¬ 0 < k := by omega
              have BB := Lib.hid (show (Own ndE 57 ((wr.setCell ⟨gp, k, none⟩ (.int .i64 (L.length : Int))).alloc (.cells #[.int .i64 t[k].par, .string t[k].name, .int .i64 t[k].val] 57)) w.heap.size (.slice Ao L.length co) L ∧ Below w.heap.size w ((wr.setCell ⟨gp, k, none⟩ (.int .i64 (L.length : Int))).alloc (.cells #[.int .i64 t[k].par, .string t[k].name, .int .i64 t[k].val] 57)) ∧ Blk ((wr.setCell ⟨gp, k, none⟩ (.int .i64 (L.length : Int))).alloc (.cells #[.int .i64 t[k].par, .string t[k].name, .int .i64 t[k].val] 57)) gp 3 ((plC t a k).setIfInBounds k (.int .i64 (L.length : Int))) ∧ gp < ((wr.setCell ⟨gp, k, none⟩ (.int .i64 (L.length : Int))).alloc (.cells #[.int .i64 t[k].par, .string t[k].name, .int .i64 t[k].val] 57)).heap.size) from
                ⟨(R.out.1.setOther R.out.2.2.2).alloc _, (R.out.2.1.setCell (p := ⟨gp, k, none⟩) hgw _).alloc (by simp [World.setCell]; exact R.out.2.1.size) _, (R.out.2.2.1.set k _).alloc _, by simp [World.setCell]; omega⟩)
              clear ho hbel hblk hne hab hz
              go_wp2_with fail
              refine (reaches_c _ c t a k _ _ (H.out.below (R.out.2.1.alloc R.out.2.1.size _) (Nat.le_refl _)) (by omega) OK.out hlt).mono ?_
              rintro e w2 ⟨rfl, rfl⟩
              rw [HA.out]
              go_wp2_with (at_builtin; refine wpList_ap1g slNd rfl (.tmp 45) (.tmp 47) rfl _ _ (rn t a k t[k]) X.out w w.heap.size _ L rfl BB.out.1 (wr.heap.size + 1) (by simp [World.setCell]) rfl (by omega) BB.out.2.1 (Nat.le_refl _) ?_; intro v3 w3 ho3 hb3 hg3 hat3; have Y := Lib.hid (And.intro ho3 (And.intro hb3 (And.intro (BB.out.2.2.1.kept hg3 (fun e => R.out.2.2.2 e.symm)) (ne_grown R.out.2.2.2 BB.out.2.2.2 hat3)))); clear ho3 hb3 hg3 hat3)
              go_roundw
              case rel => exact ⟨k + 1, _, by go_num, by omega, FL.out, F2, Y.out.2.2.2, by rw [← FC.out]; exact Y.out.2.2.1, Y.out.1, Y.out.2.1⟩
              case measure => simp [intOf]; omega
            · obtain ⟨p, hp, hpk⟩ := OK.out.parN hlt hz
              have X := Lib.hid (show #[Value.int .i64 (plc t a k p), .string t[k].name, .int .i64 t[k].val].toList = ndE.cells (rn t a k t[k]) by rw [rn_more t a hz hp])
              have gp0 : wr.cell? ⟨gp, p, none⟩ = some (.int .i64 (plc t a k p)) := by rw [cell_of_row _ _ p _ _ _ hblk]; exact plC_at (by omega)
              have hkp : ¬ k = p := by omega
              have hkp2 : ¬ p = k := by omega
              have BB := Lib.hid (show (Own ndE 57 ((wr.setCell ⟨gp, k, none⟩ (.int .i64 (L.length : Int))).alloc (.cells #[.int .i64 (plc t a k p), .string t[k].name, .int .i64 t[k].val] 57)) w.heap.size (.slice Ao L.length co) L ∧ Below w.heap.size w ((wr.setCell ⟨gp, k, none⟩ (.int .i64 (L.length : Int))).alloc (.cells #[.int .i64 (plc t a k p), .string t[k].name, .int .i64 t[k].val] 57)) ∧ Blk ((wr.setCell ⟨gp, k, none⟩ (.int .i64 (L.length : Int))).alloc (.cells #[.int .i64 (plc t a k p), .string t[k].name, .int .i64 t[k].val] 57)) gp 3 ((plC t a k).setIfInBounds k (.int .i64 (L.length : Int))) ∧ gp < ((wr.setCell ⟨gp, k, none⟩ (.int .i64 (L.length : Int))).alloc (.cells #[.int .i64 (plc t a k p), .string t[k].name, .int .i64 t[k].val] 57)).heap.size) from
                ⟨(R.out.1.setOther R.out.2.2.2).alloc _, (R.out.2.1.setCell (p := ⟨gp, k, none⟩) hgw _).alloc (by simp [World.setCell]; exact R.out.2.1.size) _, (R.out.2.2.1.set k _).alloc _, by simp [World.setCell]; omega⟩)
              rw [hp] at c0
              clear ho hbel hblk hne hab hp
              go_wp2_with fail
              refine (reaches_c _ c t a k _ _ (H.out.below (R.out.2.1.alloc R.out.2.1.size _) (Nat.le_refl _)) (by omega) OK.out hlt).mono ?_
              rintro e w2 ⟨rfl, rfl⟩
              rw [HA.out]
              go_wp2_with (at_builtin; refine wpList_ap1g slNd rfl (.tmp 45) (.tmp 47) rfl _ _ (rn t a k t[k]) X.out w w.heap.size _ L rfl BB.out.1 (wr.heap.size + 1) (by simp [World.setCell]) rfl (by omega) BB.out.2.1 (Nat.le_refl _) ?_; intro v3 w3 ho3 hb3 hg3 hat3; have Y := Lib.hid (And.intro ho3 (And.intro hb3 (And.intro (BB.out.2.2.1.kept hg3 (fun e => R.out.2.2.2 e.symm)) (ne_grown R.out.2.2.2 BB.out.2.2.2 hat3)))); clear ho3 hb3 hg3 hat3)
              go_roundw
              case rel => exact ⟨k + 1, _, by go_num, by omega, FL.out, F2, Y.out.2.2.2, by rw [← FC.out]; exact Y.out.2.2.1, Y.out.1, Y.out.2.1⟩
              case measure => simp [intOf]; omega
        · have e : k = t.length := by omega
          subst e
          have R := Lib.hid (And.intro ho hbel)
          clear ho hbel hblk hne
          go_wp2_with fail
          go_ret2
          rw [F.out, drop_yes F.out, ← hL.out]
          exact ⟨_, rfl, R.out.1, R.out.2⟩
  · rw [Bool.not_eq_true] at h2
    have F := Lib.hid (show dropB t x = false by simp only [dropB, h2]; rfl)
    have HB := Lib.hid h2
    clear h2
    go_enter Try.func29, Try.ntmps29
    go_wp2_with fail
    refine (isNode_c A c t x _ H.out (by omega) hc).mono ?_
    rintro e w1 ⟨rfl, hb⟩
    have B := Lib.hid hb
    clear hb
    rw [HB.out]
    go_wp2_with fail
    go_ret2
    rw [F.out, drop_no F.out]
    exact ⟨_, rfl, Own.nil, B.out⟩
end Go.Proofs.Ytjmeeiofoioojaa
