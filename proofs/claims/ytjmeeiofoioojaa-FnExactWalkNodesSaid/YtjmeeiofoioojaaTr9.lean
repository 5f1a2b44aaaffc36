/-
  The walk over a tree by names: the contracts of the reference's functions.
-/
import Derived.Test.YtjmeeiofoioojaaTr4
import Derived.Test.YtjmeeiofoioojaaMem3
import Derived.Test.YtjmeeiofoioojaaMem4
import Derived.Test.YtjmeeiofoioojaaTIn
import Derived.Test.YtjmeeiofoioojaaPWalk2
namespace Go.Proofs.Ytjmeeiofoioojaa
open Go.RowKit Go.Sort

theorem Own.int {w : World} {base : Nat} {v : Value} {l : List Int} {e : TypeId} (h : Own inE e w base v l) {i : Nat} (hi : i < l.length) :
    ∃ g c, v = .slice (some ⟨g, 0, none⟩) l.length c ∧ base ≤ g ∧ w.cell? ⟨g, i, none⟩ = some (.int .i64 l[i]) ∧ w.frozen? ⟨g, i, none⟩ = false ∧ g < w.heap.size ∧ ∀ y : Int, Own inE e (w.setCell ⟨g, i, none⟩ (.int .i64 y)) base v (l.set i y) := by
  obtain ⟨g, c, cs, e1, hb, hblk, _, hcell, hput⟩ := h.at hi
  have hs : inE.sz = 1 := rfl
  refine ⟨g, c, e1, hb, ?_, hblk.free i, hblk.lt, fun y => ?_⟩
  · have := hcell 0 _ (rfl : (inE.cells l[i])[0]? = some (.int .i64 l[i]))
    rw [hs, Nat.mul_one, Nat.add_zero] at this
    exact this
  · have := hput 0 y (.int .i64 y) (by rw [hs]; omega) rfl
    rw [hs, Nat.mul_one, Nat.add_zero] at this
    exact this

theorem Own.keep {α : Type} {E : Enc α} {e : TypeId} {w w' : World} {base : Nat} {v : Value} {l : List α} (h : Own E e w base v l) {B : Nat} (hb : Below B w w') (hlt : ∀ k, v.ownBlock = some k → k < B) : Own E e w' base v l := by
  rcases h.block with ⟨rfl, rfl⟩ | ⟨g, c, cs, rfl, hbg, hblk, hc, hcm, hcs, ht⟩
  · exact Own.nil
  · exact own_blk (hblk.below hb (hlt g rfl)) base hbg l rfl hc hcm hcs ht

set_option maxRecDepth 100000 in
set_option maxHeartbeats 1000000 in
theorem kids_c (A : Option Addr) (c : Nat) (t : List Nd) (a : Nat) (w : World) (h : Rd ndE w w.heap.size A t) (hl : t.length ≤ 12) (h1 : 1 ≤ t.length) (ho : OkTo t t.length) :
    Calls Try.prog 84 #[.slice A t.length c, .int .i64 a] w fun e w' => ∃ u, e = .returned u ∧ Own inE 3 w' w.heap.size u (ints (kidsL t a)) ∧ Below w.heap.size w w' := by
  have H := Lib.hid (And.intro h ho)
  clear h ho
  have N := Lib.hid (own_new (E := inE) (e := 3) w #[] [] w.heap.size (Nat.le_refl _) (by simp) rfl)
  have B0 := Lib.hid ((Below.refl w.heap.size w).alloc (Nat.le_refl _) (.cells #[] 3))
  go_enter Try.func84, Try.ntmps84
  go_wp2_with fail
  go_loopw [5, 6] (fun v iv wr => ∃ (k : Nat) (L : List Int), iv = .int .i64 k ∧ 1 ≤ k ∧ k ≤ t.length ∧ L.length ≤ k ∧ Hid (L = ints (kidsTo t a k)) ∧ Own inE 3 wr w.heap.size v L ∧ Below w.heap.size w wr) (fun _ iv _ => t.length - (intOf iv).toNat)
  case atStart => exact ⟨1, [], rfl, Nat.le_refl _, h1, by simp, Lib.hid (by rw [kidsTo_one H.out.2 a (by omega)]; rfl), N.out, B0.out⟩
  case round =>
    obtain ⟨k, L, rfl, hk1, hk, hlL, hL, ho, hbel⟩ := hrel
    obtain ⟨Ao, co, rfl, _, _, _⟩ := ho.form
    by_cases hlt : k < t.length
    · obtain ⟨b, o, rfl, hb, c0, c1, c2⟩ := (H.out.1.below hbel (Nat.le_refl _)).nd hlt
      have R := Lib.hid (And.intro ho hbel)
      clear ho hbel
      by_cases hp : (t[k].par == (a : Int)) = true
      · have F := Lib.hid (show L ++ [(k : Int)] = ints (kidsTo t a (k + 1)) by rw [kidsTo_yes (by rw [isKid_at hlt]; exact hp), ints_snoc, hL.out])
        have FL := Lib.hid (show (L ++ [(k : Int)]).length ≤ k + 1 by simp; omega)
        go_wp2_with (at_builtin; refine wpList_ap1 slIn rfl (.tmp 21) (.tmp 23) rfl _ _ (k : Int) rfl w w.heap.size _ L rfl R.out.1 rfl (by omega) R.out.2 (Nat.le_refl _) ?_; intro v3 w3 ho3 hb3 hg3 hat3; have Y := Lib.hid (And.intro ho3 hb3); clear ho3 hb3 hg3 hat3)
        go_roundw
        case rel => exact ⟨k + 1, _, by go_num, by omega, by omega, FL.out, F, Y.out.1, Y.out.2⟩
        case measure => simp [intOf]; omega
      · rw [Bool.not_eq_true] at hp
        have F := Lib.hid (show L = ints (kidsTo t a (k + 1)) by rw [kidsTo_no (by rw [isKid_at hlt]; exact hp), hL.out])
        go_wp2_with fail
        go_roundw
        case rel => exact ⟨k + 1, L, by go_num, by omega, by omega, by omega, F, R.out.1, R.out.2⟩
        case measure => simp [intOf]; omega
    · have e : k = t.length := by omega
      subst e
      have R := Lib.hid (And.intro ho hbel)
      clear ho hbel
      go_wp2_with fail
      go_ret
      exact ⟨_, rfl, by rw [kidsL, ← hL.out]; exact R.out.1, R.out.2⟩
theorem name_cells {w : World} {B : Nat} {A : Option Addr} {t : List Nd} (h : Rd ndE w B A t) {d : Array Nat} {a j : Nat} (hp : d.toList.Perm (kidsL t a)) (hj : j < d.size) :
    ∃ (b o x : Nat) (_ : x < t.length), A = some ⟨b, o, none⟩ ∧ d[j]! = x ∧ w.cell? ⟨b, o + x * 3 + 1, none⟩ = some (.string t[x].name) ∧ nameL t x = t[x].name.data.toList := by
  have hm : d[j] ∈ kidsL t a := hp.mem_iff.1 (by rw [← Array.getElem_toList]; exact List.getElem_mem _)
  have hx := (mem_kids.1 hm).1
  obtain ⟨b, o, e1, _, _, c1, _⟩ := h.nd hx
  exact ⟨b, o, d[j], hx, e1, by rw [getElem!_pos d j hj], c1, nameL_at hx⟩
theorem less_eq (t : List Nd) {x y : Nat} (hx : x < t.length) (hy : y < t.length) : Op.bytesLess t[x].name.toList t[y].name.toList = ltN t x y := by
  rw [bytesLess_eq, Lib.toList_data, Lib.toList_data, ltN, nameL_at hx, nameL_at hy]

set_option maxRecDepth 100000 in
set_option maxHeartbeats 2000000 in
theorem walk_c (A : Option Addr) (c : Nat) (t : List Nd) (ok : treeOk t = true) : ∀ (f a : Nat) (_ : t.length - a ≤ f) (_ : a < t.length) (w : World) (_ : Rd ndE w w.heap.size A t),
    Calls Try.prog 74 #[.slice A t.length c, .int .i64 a] w fun e w' => ∃ u, e = .returned u ∧ Own inE 3 w' w.heap.size u (walkL t a) ∧ Below w.heap.size w w'
  | 0, a, hf, ha, w, h => by omega
  | f + 1, a, hf, ha, w, h => by
    have ih := walk_c A c t ok f
    have IH := Lib.hid ih
    have OK := Lib.hid (And.intro ok (treeOk_iff.1 ok).1)
    have h12 := (treeOk_len ok).2
    have hw3 := walkL_len ok ha
    have H := Lib.hid h
    have WS := Lib.hid (walkL_step (treeOk_iff.1 ok).1 ha)
    clear h ih ok
    obtain ⟨T, hT⟩ : ∃ T, walkL t a = T := ⟨_, rfl⟩
    rw [hT] at hw3
    have HT := Lib.hid hT
    clear hT
    have N := Lib.hid (own_new (E := inE) (e := 3) w #[.int .i64 a] [(a : Int)] w.heap.size (Nat.le_refl _) (by simp) rfl)
    have B0 := Lib.hid ((Below.refl w.heap.size w).alloc (Nat.le_refl _) (.cells #[.int .i64 a] 3))
    go_enter Try.func74, Try.ntmps74
    go_wp2_with fail
    refine (kids_c A c t a _ (H.out.grow B0.out) h12 (by omega) OK.out.2).mono ?_
    rintro e w1 ⟨lv, rfl, ho, hb⟩
    obtain ⟨K, hK⟩ : ∃ K, (kidsL t a).length = K := ⟨_, rfl⟩
    have hK12 : K ≤ 12 := by have := kidsTo_len t a t.length; rw [kidsL] at hK; omega
    have hform := ho.form
    rw [ints_len, hK] at hform
    obtain ⟨Al, cl, rfl, _, _, _⟩ := hform
    have hB1 : w.heap.size + 1 ≤ w1.heap.size := by have := hb.size; simp at this; omega
    have Z := Lib.hid (And.intro (show Own inE 3 w1 (w.heap.size + 1) (.slice Al K cl) (ints (kidsL t a)) from by have := ho; simpa using this) (And.intro (show Own inE 3 w1 w.heap.size (.slice (some ⟨w.heap.size, 0, none⟩) 1 1) [(a : Int)] from N.out.grow hb) (B0.out.trans (hb.mono B0.out.size))))
    have HK := Lib.hid hK
    clear ho hb hK
    go_wp2_with fail
    go_loopw [7] (fun iv wr => ∃ (n : Nat) (d : Array Nat), iv = .int .i64 n ∧ n ≤ K ∧ d.size = K ∧ Hid (d.toList.Perm (kidsL t a) ∧ SortedIn (ltN t) 0 n d) ∧ Own inE 3 wr (w.heap.size + 1) (.slice Al K cl) (ints d.toList) ∧ Below (w.heap.size + 1) w1 wr) (fun iv _ => K - (intOf iv).toNat)
    case atStart => exact ⟨0, (kidsL t a).toArray, rfl, by omega, by rw [← HK.out]; simp, Lib.hid ⟨by simp, fun i j _ hij hj => by omega⟩, Z.out.1, Below.refl _ _⟩
    case round =>
      obtain ⟨n, d, rfl, hn, hd, hs, ho, hbel⟩ := hrel
      by_cases hlt : n < K
      · have R := Lib.hid (And.intro ho hbel)
        clear ho hbel
        go_wp2_with fail
        go_loopw [8] (fun kv wr' => ∃ (k : Nat) (d : Array Nat), kv = .int .i64 k ∧ k ≤ n ∧ d.size = K ∧ Hid (d.toList.Perm (kidsL t a) ∧ Ins (ltN t) 0 k n d) ∧ Own inE 3 wr' (w.heap.size + 1) (.slice Al K cl) (ints d.toList) ∧ Below (w.heap.size + 1) w1 wr') (fun kv _ => (intOf kv).toNat)
        case atStart => exact ⟨n, d, rfl, Nat.le_refl _, hd, Lib.hid ⟨hs.out.1, ⟨fun p q hap hpq hqi _ hq => hs.out.2 p q hap hpq (by omega), fun q h1 h2 => by omega⟩⟩, R.out.1, R.out.2⟩
        case round =>
          obtain ⟨k, d, rfl, hk, hd, hs, ho, hbel⟩ := hrel
          have RB := Lib.hid (show Below w.heap.size w wr from Z.out.2.2.trans (hbel.mono (by omega)))
          by_cases h0 : 0 < k
          · obtain ⟨m, hm⟩ : ∃ m, k = m + 1 := ⟨k - 1, by omega⟩
            have hkm : IntKind.i64.wrap ((k : Int) - 1) = (m : Int) := by rw [IntKind.wrap_i64]; omega
            have hkm2 : (k : Int) - 1 = (m : Int) := by omega
            obtain ⟨g, c1, e1, hg, gk, fk, hgl, putk⟩ := ho.int (show k < (ints d.toList).length by rw [ints_len]; simp; omega)
            obtain ⟨g', c1', e1', _, gm, fm, _, _⟩ := ho.int (show m < (ints d.toList).length by rw [ints_len]; simp; omega)
            rw [ints_at] at gk gm
            have hkd : k < d.size := by omega
            have hmd : m < d.size := by omega
            rw [Array.getElem_toList] at gk gm
            obtain ⟨b, o, x, hx, eA, ex, nx, _⟩ := name_cells (H.out.below RB.out (Nat.le_refl _)) hs.out.1 hkd
            obtain ⟨b', o', y, hy, eA', ey, ny, _⟩ := name_cells (H.out.below RB.out (Nat.le_refl _)) hs.out.1 hmd
            rw [eA] at eA'
            cases eA'
            injection e1 with e1 e2 e3
            injection e1' with e1' e2' e3'
            rw [e1] at e1'
            cases e1'
            subst e1
            have exd : d[k] = x := by rw [← ex, getElem!_pos d k hkd]
            have eyd : d[m] = y := by rw [← ey, getElem!_pos d m hmd]
            rw [exd] at gk
            rw [eyd] at gm
            have LE := Lib.hid (less_eq t hx hy)
            have hkK : k < K := by omega
            have hmK : m < K := by omega
            have hk0 : (0 : Int) < (k : Int) := by omega
            by_cases hlt2 : ltN t x y = true
            · have hq : Op.bytesLess t[x].name.toList t[y].name.toList = true := by rw [LE.out]; exact hlt2
              have SW := Lib.hid (show (swp d (m + 1) m).toList.Perm (kidsL t a) ∧ Ins (ltN t) 0 m n (swp d (m + 1) m) ∧ ints (swp d (m + 1) m).toList = ((ints d.toList).set k (y : Int)).set m (x : Int) by
                have hI := hs.out.2
                rw [hm] at hI
                refine ⟨(swp_perm (by omega) hmd).trans hs.out.1, hI.step (by rw [← hm, ex, ey]; exact hlt2) (Nat.zero_le _) (by omega), ?_⟩
                rw [swp_list (by omega) hmd, ← hm, ex, ey])
              have Ok := putk (y : Int)
              obtain ⟨g2, c2, e4, _, _, fm2, _, putm⟩ := Ok.int (i := m) (show m < ((ints d.toList).set k (y : Int)).length by rw [List.length_set, ints_len]; simp; omega)
              have hgg : g2 = g := by injection e4 with e4 _ _; injection e4 with e4; injection e4 with e4 _ _; exact e4.symm
              subst hgg
              have P := Lib.hid (putm (x : Int))
              have RR := Lib.hid hbel
              clear ho hbel putk Ok putm e4 e2 e3 e2' e3' hlt2 ex ey exd eyd hm
              go_wp2_with fail
              go_quiet (fail)
              go_wp2_with fail
              go_roundw
              case rel => exact ⟨m, swp d (m + 1) m, by first | rfl | trivial, by omega, by rw [swp_size]; exact hd, Lib.hid ⟨SW.out.1, SW.out.2.1⟩, by rw [SW.out.2.2]; exact P.out.drewN _, ((below_drewN RR.out _).setCell hg _).setCell hg _⟩
              case measure => simp [intOf]; omega
            · rw [Bool.not_eq_true] at hlt2
              have hq : Op.bytesLess t[x].name.toList t[y].name.toList = false := by rw [LE.out]; exact hlt2
              have SS := Lib.hid (show SortedIn (ltN t) 0 (n + 1) d from hs.out.2.stop (swoN t) (.inr (by rw [show k - 1 = m by omega, ex, ey]; exact hlt2)))
              have RR := Lib.hid (And.intro ho hbel)
              clear ho hbel putk e2 e3 e2' e3' hlt2 ex ey exd eyd hm
              go_wp2_with fail
              go_quiet (fail)
              go_wp2_with fail
              go_roundw
              case rel => exact ⟨n + 1, d, by go_num, by omega, hd, Lib.hid ⟨hs.out.1, SS.out⟩, RR.out.1.drewN _, below_drewN RR.out.2 _⟩
              case measure => simp [intOf]; omega
          · have hk0 : decide ((0 : Int) < (k : Int)) = false := by simp; omega
            have SS := Lib.hid (show SortedIn (ltN t) 0 (n + 1) d from hs.out.2.stop (swoN t) (.inl (by omega)))
            have RR := Lib.hid (And.intro ho hbel)
            clear ho hbel
            go_wp2_with fail
            go_quiet (fail)
            go_wp2_with fail
            go_roundw
            case rel => exact ⟨n + 1, d, by go_num, by omega, hd, Lib.hid ⟨hs.out.1, SS.out⟩, RR.out.1.drewN _, below_drewN RR.out.2 _⟩
            case measure => simp [intOf]; omega
      · have e : n = K := by omega
        have SRT := isSort_arr hs.out.1 (show SortedIn (ltN t) 0 d.size d by rw [hd, ← e]; exact hs.out.2) OK.out.2
        obtain ⟨S, hS⟩ : ∃ S, sortK t a = S := ⟨_, rfl⟩
        rw [hS] at SRT
        obtain ⟨SI, hSI⟩ : ∃ SI, ints d.toList = SI := ⟨_, rfl⟩
        have hSIl : SI.length = K := by rw [← hSI, ints_len]; simpa using hd
        have hSl : S.length = K := by rw [← SRT]; simpa using hd
        have SX := Lib.hid (show SI = ints S by rw [← hSI, SRT])
        have HS := Lib.hid hS
        rw [hSI] at ho
        have PA := Lib.hid (show RdA inE wr Al SI (.slice (some ⟨w.heap.size, 0, none⟩) 1 1) from RdA.own ho (fun k hk => by have e : w.heap.size = k := (by simpa [Value.ownBlock] using hk); omega))
        have OO := Lib.hid (And.intro (Z.out.2.1.keep hbel (fun k hk => by have e : w.heap.size = k := (by simpa [Value.ownBlock] using hk); omega)) (Z.out.2.2.trans (hbel.mono (by omega))))
        have TT := Lib.hid (show T = (a : Int) :: S.flatMap (walkL t) by rw [← HT.out, WS.out, hS])
        clear ho hbel hs SRT hSI hS e
        go_wp2_with fail
        go_loopw [5, 10] (fun v iv wr3 => ∃ (k : Nat) (L : List Int), iv = .int .i64 k ∧ k ≤ K ∧ L.length ≤ 30000 ∧ Hid (L = (a : Int) :: (S.take k).flatMap (walkL t)) ∧ RdA inE wr3 Al SI v ∧ Own inE 3 wr3 w.heap.size v L ∧ Below w.heap.size w wr3) (fun _ iv _ => K - (intOf iv).toNat)
        case atStart => exact ⟨0, [(a : Int)], rfl, by omega, by simp, Lib.hid rfl, PA.out, OO.out.1, OO.out.2⟩
        case round =>
          obtain ⟨k, L, rfl, hk, hlL, hL, hpa, ho, hbel⟩ := hrel
          obtain ⟨Ao, co, rfl, _, _, _⟩ := ho.form
          by_cases hlt : k < K
          · have hkS : k < S.length := by omega
            obtain ⟨x, hx⟩ : ∃ x, S[k] = x := ⟨_, rfl⟩
            obtain ⟨hxl, _, _, hax⟩ := kid_gt OK.out.2 (sortK_mem (show x ∈ sortK t a by rw [HS.out, ← hx]; exact List.getElem_mem _))
            obtain ⟨b, o, eA, hb, c0⟩ := hpa.rd.int (show k < SI.length by omega)
            have hsx : SI[k]'(by omega) = (x : Int) := by
              have : SI[k]'(by omega) = (ints S)[k]'(by rw [ints_len]; exact hkS) := by simp only [SX.out]
              rw [this, ints_at, hx]
            rw [hsx] at c0
            have FL := Lib.hid (show L ++ walkL t x = (a : Int) :: (S.take (k + 1)).flatMap (walkL t) by
              rw [hL.out, List.take_succ_eq_append_getElem hkS, List.flatMap_append, hx]; simp)
            have FB : (L ++ walkL t x).length ≤ 30000 := by
              rw [FL.out]
              refine Nat.le_trans ?_ hw3
              rw [TT.out]
              have : S.flatMap (walkL t) = (S.take (k + 1)).flatMap (walkL t) ++ (S.drop (k + 1)).flatMap (walkL t) := by rw [← List.flatMap_append, List.take_append_drop]
              rw [this]; simp
            have FB2 : L.length + (walkL t x).length ≤ 100000000 := by rw [List.length_append] at FB; omega
            have R := Lib.hid (And.intro ho (And.intro hbel hpa))
            clear ho hbel hpa hsx hx
            subst eA
            go_wp2_with fail
            refine (IH.out x (by omega) hxl _ (H.out.grow R.out.2.1)).mono ?_
            rintro e w4 ⟨u, rfl, ho2, hb2⟩
            obtain ⟨Au, cu, rfl, _, _, hru⟩ := ho2.form
            have Q := Lib.hid (And.intro (R.out.1.grow hb2) (And.intro (R.out.2.1.trans (hb2.mono R.out.2.1.size)) (And.intro (R.out.2.2.grow hb2) hru)))
            clear ho2 hb2 hru
            go_wp2_with (at_builtin; refine wpList_ap slIn rfl (.tmp 70) (.tmp 76) rfl w.heap.size _ L rfl Q.out.1 _ Au cu (walkL t x) rfl Q.out.2.2.2 FB2 Q.out.2.1.size ?_; intro v5 w5 ho5 hg5 hat5; have Y := Lib.hid (And.intro ho5 (And.intro (below_own Q.out.2.1 Q.out.1 hg5 Q.out.2.1.size) (Q.out.2.2.1.push hg5 (by rcases hat5 with e | e; exact .inl e; exact .inr ⟨_, Nat.le_refl _, e⟩)))); clear ho5 hg5 hat5)
            go_roundw
            case rel => exact ⟨k + 1, _, by go_num, by omega, FB, FL, Y.out.2.2, Y.out.1, Y.out.2.1⟩
            case measure => simp [intOf]; omega
          · have F := Lib.hid (show L = T by rw [hL.out, TT.out, List.take_of_length_le (by omega)])
            have R := Lib.hid (And.intro ho hbel)
            clear ho hbel hpa
            go_wp2_with fail
            go_ret
            exact ⟨_, rfl, by rw [HT.out, ← F.out]; exact R.out.1, R.out.2⟩
theorem walk_no {t : List Nd} {a : Int} (h : nodeB t a = false) : walkF t a = [] := by simp [walkF, h]
theorem walk_yes {t : List Nd} {k : Nat} (h : nodeB t k = true) : walkF t k = walkL t k := by simp [walkF, h]
set_option maxRecDepth 100000 in
set_option maxHeartbeats 1000000 in
theorem spec_WalkNodes_c (A : Option Addr) (c : Nat) (t : List Nd) (a : Int) (w : World) (h : Rd ndE w w.heap.size A t) (hl : t.length ≤ 1048576) (hc : t.length ≤ c) :
    Calls Try.prog 43 #[.slice A t.length c, .int .i64 a] w fun e w' => ∃ u, e = .returned u ∧ Own inE 3 w' w.heap.size u (walkF t a) ∧ Below w.heap.size w w' := by
  have H := Lib.hid h
  clear h
  rcases node_cases t a with ⟨h1, h2⟩ | ⟨h1, h3, h2⟩ | ⟨h1, h3, h2⟩
  · have F := Lib.hid (walk_no h2)
    have HT := Lib.hid h1
    clear h1 h2
    go_enter Try.func43, Try.ntmps43
    go_wp2_with fail
    refine (validTree_c A c t _ _ H.out (by omega) hc).mono ?_
    rintro e w1 ⟨rfl, hd⟩
    have B := Lib.hid hd
    clear hd
    rw [HT.out]
    go_wp2_with fail
    go_ret
    exact ⟨_, rfl, by rw [F.out]; exact Own.nil, B.out.below _⟩
  · have F := Lib.hid (walk_no h2)
    have HT := Lib.hid h1
    have h4 : inR a 0 ((t.length : Int) - 1) = false := h3
    clear h1 h2 h3
    go_enter Try.func43, Try.ntmps43
    go_wp2_with fail
    refine (validTree_c A c t _ _ H.out (by omega) hc).mono ?_
    rintro e w1 ⟨rfl, hd⟩
    have B := Lib.hid hd
    clear hd
    rw [HT.out]
    go_wp2_with (go_at_call 57; refine (inRange_c _ _ _ _).mono ?_; rintro e w' ⟨rfl, rfl⟩)
    go_ret
    exact ⟨_, rfl, by rw [F.out]; exact Own.nil, B.out.below _⟩
  · have h4 : inR a 0 ((t.length : Int) - 1) = true := h3
    obtain ⟨k, rfl, hk⟩ := atOk_nat h3
    have F := Lib.hid (walk_yes h2)
    have HT := Lib.hid h1
    clear h1 h2 h3
    go_enter Try.func43, Try.ntmps43
    go_wp2_with fail
    refine (validTree_c A c t _ _ H.out (by omega) hc).mono ?_
    rintro e w1 ⟨rfl, hd⟩
    have B := Lib.hid (hd.below w.heap.size)
    clear hd
    rw [HT.out]
    go_wp2_with (go_at_call 57; refine (inRange_c _ _ _ _).mono ?_; rintro e w' ⟨rfl, rfl⟩)
    refine (walk_c A c t HT.out (t.length - k) k (Nat.le_refl _) hk _ (H.out.grow B.out)).mono ?_
    rintro e w2 ⟨u, rfl, ho, hb⟩
    have Z := Lib.hid (And.intro (ho.base B.out.size) (B.out.trans (hb.mono B.out.size)))
    clear ho hb
    go_wp2_with fail
    go_ret
    exact ⟨_, rfl, by rw [F.out]; exact Z.out.1, Z.out.2⟩
end Go.Proofs.Ytjmeeiofoioojaa
