/-
  The walk over a tree by names: the contracts of the program's functions.
-/
import Derived.Test.YtjmeeiofoioojaaTr9
import Derived.Test.YtjmeeiofoioojaaMemS
import Derived.Test.YtjmeeiofoioojaaShelf
namespace Go.Proofs.Ytjmeeiofoioojaa
open Go.RowKit Go.Sort

theorem cell_sorted {α : Type} [Inhabited α] {enc : α → Value} {w : World} {blk off m : Nat} {dk : Array α} {os : Array Obj} {a : Addr} (hne : a.block ≠ blk) (hlt : a.block < w.heap.size) : (Go.Proofs.sortWorld enc w blk off m dk os).cell? a = w.cell? a := by
  unfold Go.Proofs.sortWorld
  rw [cell?_grow _ _ _ (by simpa using hlt), cell?_putRow_other _ _ _ _ _ _ (.inl hne)]
  rfl
theorem Rd.sorted {α β : Type} [Inhabited α] {E : Enc β} {enc : α → Value} {w : World} {B blk off m : Nat} {dk : Array α} {os : Array Obj} {A : Option Addr} {l : List β} (h : Rd E w B A l) (hB : B ≤ blk) (hw : B ≤ w.heap.size) : Rd E (Go.Proofs.sortWorld enc w blk off m dk os) B A l := by
  rcases h with h | ⟨b, o, rfl, hb, hc⟩
  · exact .inl h
  · exact .inr ⟨b, o, rfl, hb, fun k x hx j v hv => by rw [cell_sorted (show b ≠ blk by omega) (show b < w.heap.size by omega)]; exact hc k x hx j v hv⟩

theorem cmp_q (a b : ByteArray) (w : World) (k : Nat) : Calls Try.prog 87 #[.string a, .string b] (w.drewN k) fun e w' => e = .returned (.int .i64 (Go.Lib.compareBytes a.data.toList b.data.toList)) ∧ ∃ m, w' = w.drewN m :=
  (Try.strings_Compare a b _).mono fun _ _ ⟨he, hm⟩ => ⟨he, k, hm⟩
set_option maxRecDepth 100000 in
set_option maxHeartbeats 1000000 in
theorem clo_c (A : Option Addr) (c : Nat) (t : List Nd) (x y : Fin t.length) (box B : Nat) (W : World) (hbox : W.cell? ⟨box, 0, none⟩ = some (.slice A t.length c)) (h : Rd ndE W B A t) :
    Calls Try.prog 86 #[.int .i64 ((x.val : Nat) : Int), .int .i64 ((y.val : Nat) : Int), .pointer (some ⟨box, 0, none⟩)] W fun e w' => e = .returned (.int .i64 (cfN t x y)) ∧ ∃ q, w' = W.drewN q := by
  obtain ⟨x, hx⟩ := x
  obtain ⟨y, hy⟩ := y
  obtain ⟨b, o, rfl, _, _, c1, _⟩ := h.nd hx
  obtain ⟨b', o', e', _, _, d1, _⟩ := h.nd hy
  cases e'
  have F := Lib.hid (show cfN t ⟨x, hx⟩ ⟨y, hy⟩ = Go.Lib.compareBytes t[x].name.data.toList t[y].name.data.toList by unfold cfN; rw [nameL_at hx, nameL_at hy])
  clear h
  have hb := cell_lt hbox
  go_enter Try.func86, Try.ntmps86
  go_wp2_with fail
  go_quiet ((go_at_call 87; exact cmp_q _ _ _ _))
  go_wp2_with fail
  go_ret
  exact ⟨ret_int F.out.symm, _, rfl⟩

theorem sortKids_c (A : Option Addr) (c : Nat) (t : List Nd) (ok : OkTo t t.length) (h12 : t.length ≤ 12) (a : Nat) (ha : a < t.length) (Ak : Option Addr) (ck : Nat) (wr : World) (bk box base : Nat) (ho : Own inE 3 wr bk (.slice Ak (kidsL t a).length ck) (ints (kidsL t a)))
    (hbox : wr.cell? ⟨box, 0, none⟩ = some (.slice A t.length c)) (hbb : box < bk) (hr : Rd ndE wr base A t) (hbase : base ≤ bk) (hbk : bk ≤ wr.heap.size) :
    Calls Try.prog 85 #[.slice Ak (kidsL t a).length ck, .func (.func 86) #[] #[.pointer (some ⟨box, 0, none⟩)]] wr fun e w' => e = .returned (.tuple #[]) ∧ Own inE 3 w' bk (.slice Ak (kidsL t a).length ck) (ints (sortK t a)) ∧ Below bk wr w' := by
  haveI : Inhabited (Fin t.length) := ⟨⟨a, ha⟩⟩
  rcases ho.block with ⟨hv, hl⟩ | ⟨g, c', cs, hv, hbg, hblk, _, _, _, _⟩
  · injection hv with h1 h2 h3
    have hk : kidsL t a = [] := List.eq_nil_of_length_eq_zero h2
    have hs : sortK t a = [] := sortK_of ok ⟨by rw [hk], List.Pairwise.nil⟩
    rw [h2, h1, h3]
    refine (Try.slices_SortFunc_none (α := Int) none 0 _ wr).mono ?_
    rintro e w' ⟨he, rfl⟩
    rw [hs]
    exact ⟨he, Own.nil, Below.refl _ _⟩
  · rw [ints_len] at hv
    injection hv with h1 h2 h3
    subst h1
    have he : ∀ x : Fin t.length, Value.int .i64 ((x.val : Nat) : Int) = .int .i64 ((fun y : Fin t.length => ((y.val : Nat) : Int)) x) := fun _ => rfl
    have hd : (kidsA t a).toList.map (fun y : Fin t.length => ((y.val : Nat) : Int)) = ints (kidsL t a) := by
      rw [ints, ← kidsA_list, List.map_map]; rfl
    have hH := own_holds (enc := fun x : Fin t.length => Value.int .i64 ((x.val : Nat) : Int)) he ho (kidsA t a) hd
    have hg := hblk.lt
    have hcmp : Go.Proofs.CmpReads Try.prog 86 #[.pointer (some ⟨box, 0, none⟩)] (fun x : Fin t.length => Value.int .i64 ((x.val : Nat) : Int)) (cfN t) g 0 (kidsA t a).size wr := fun m os dk _ x y =>
      clo_c A c t x y box base _ (by rw [cell_sorted (show box ≠ g by omega) (show box < wr.heap.size by omega)]; exact hbox) (hr.sorted (by omega) (by omega))
    have eg : ∀ args w, (callFunc 86 args).run Try.prog w = .ok (.enter 86 args) w := enters_of Try.func86 (by kernel_rfl) rfl
    have hk12 : (kidsL t a).length ≤ 12 := Nat.le_trans (kidsTo_len t a _) h12
    have hC := Try.slices_SortFunc (fun x : Fin t.length => Value.int .i64 ((x.val : Nat) : Int)) (fun _ => rfl) (cfN t) (swo_cf t) 86 #[.pointer (some ⟨box, 0, none⟩)] g 0 ck (kidsA t a) wr eg hcmp.lays hH hg (by rw [kidsA_size]; omega)
    rw [kidsA_size] at hC
    refine hC.mono ?_
    rintro e w' ⟨he2, d', n, os, hp, hs, hw⟩
    have hsz : d'.size = (ints (kidsL t a)).length := by rw [ints_len, ← kidsA_size]; exact hp.1
    have O := own_sorted (enc := fun x : Fin t.length => Value.int .i64 ((x.val : Nat) : Int)) he ho d' hsz n os
    unfold Go.Proofs.sortWorld at hw
    rw [← hw] at O
    have hS : d'.toList.map (fun y : Fin t.length => ((y.val : Nat) : Int)) = ints (sortK t a) := by
      rw [sortK_of ok (sorted_cf (by rw [kidsA_size]; exact hp) (by rw [kidsA_size]; exact hs)), ints, List.map_map]; rfl
    rw [hS] at O
    exact ⟨he2, O.1, (Below.refl bk wr).grown O.2 hbk (fun k hk => by cases hk; exact hbg)⟩

theorem grown_next {w wr w4 : World} {vo vc : Option Nat} (h1 : w.grownBy wr vo) (h2 : wr.grownBy w4 vc) (hv : vc = vo ∨ ∃ j, w.heap.size < j ∧ vc = some j) : w.grownBy w4 vo :=
  ⟨h2.os.trans h1.os, h2.tape.trans h1.tape, h2.output.trans h1.output, Nat.le_trans h1.size h2.size, fun k hk hne => (h2.block k (Nat.lt_of_lt_of_le hk h1.size) (by
    rcases hv with e | ⟨j, hj, e⟩
    · rw [e]; exact hne
    · rw [e]; intro e2; injection e2 with e2; omega)).trans (h1.block k hk hne)⟩
theorem grown_start {w w1 w3 : World} {o : Obj} {vo : Option Nat} (h1 : (w.alloc o).grownBy w1 vo) (h2 : Below w1.heap.size w1 w3) : w.grownBy w3 vo :=
  ⟨h2.os.trans h1.os, h2.tape.trans h1.tape, h2.output.trans h1.output, by have := h1.size; have := h2.size; simp at *; omega, fun k hk hne => (h2.block k (by have := h1.size; simp at this; omega)).trans ((h1.block k (by simp; omega) hne).trans (Below.heap_alloc w o k hk))⟩

set_option maxRecDepth 100000 in
set_option maxHeartbeats 2000000 in
theorem walkFrom_c (A : Option Addr) (c : Nat) (t : List Nd) (ok : treeOk t = true) : ∀ (f a : Nat) (_ : t.length - a ≤ f) (_ : a < t.length) (w : World) (v : Value) (L : List Int) (base : Nat) (_ : base ≤ w.heap.size) (_ : Own inE 3 w base v L) (_ : Rd ndE w base A t) (_ : L.length + (walkL t a).length ≤ 100000),
    Calls Try.prog 75 #[.slice A t.length c, .int .i64 a, v] w fun e w' => ∃ v', e = .returned v' ∧ Own inE 3 w' base v' (L ++ walkL t a) ∧ w.grownBy w' v.ownBlock ∧ (v'.ownBlock = v.ownBlock ∨ ∃ k, w.heap.size ≤ k ∧ v'.ownBlock = some k)
  | 0, a, hf, ha, w, v, L, base, hbase, ho, h, hlen => by omega
  | f + 1, a, hf, ha, w, v, L, base, hbase, ho, h, hlen => by
    have IH := Lib.hid (walkFrom_c A c t ok f)
    have OK := Lib.hid (And.intro ok (treeOk_iff.1 ok).1)
    have h12 := (treeOk_len ok).2
    have WS := Lib.hid (walkL_step (treeOk_iff.1 ok).1 ha)
    obtain ⟨T, hT⟩ : ∃ T, walkL t a = T := ⟨_, rfl⟩
    rw [hT] at hlen
    have HT := Lib.hid hT
    obtain ⟨Av, cv, rfl, _, _, _⟩ := ho.form
    obtain ⟨vo, hvo⟩ : ∃ vo, (Value.slice Av L.length cv).ownBlock = vo := ⟨_, rfl⟩
    have HV := Lib.hid hvo
    have hvlt : ∀ k, vo = some k → base ≤ k ∧ k < w.heap.size := fun k e => ho.lt k (by rw [hvo, e])
    have VL := Lib.hid hvlt
    have H := Lib.hid (And.intro h ho)
    obtain ⟨L1, hL1⟩ : ∃ L1, L ++ [(a : Int)] = L1 := ⟨_, rfl⟩
    have LT : L1.length ≤ 100000 := by
      have : 0 < T.length := by rw [← hT, WS.out]; simp
      rw [← hL1]; simp; omega
    have HL1 := Lib.hid hL1
    clear h ho ok hT hvo hvlt hL1
    go_enter Try.func75, Try.ntmps75
    go_wp2_with (at_builtin; go_loud (refine wpList_ap1g slIn rfl (.tmp 12) (.tmp 14) rfl (w.alloc (.cells #[.slice A t.length c] 25)) _ (a : Int) rfl w base _ L rfl (H.out.2.alloc _) (w.heap.size + 1) (by simp) rfl (by omega) ((Below.refl _ _).alloc hbase _) hbase ?_; intro v1 w1 ho1 hb1 hg1 hat1; have hgx : (w.alloc (.cells #[.slice A t.length c] 25)).grownBy w1 vo := (by rw [← HV.out]; exact hg1); have hax : v1.ownBlock = vo ∨ ∃ k, w.heap.size < k ∧ v1.ownBlock = some k := hat1.elim (fun e => .inl (e.trans HV.out)) (fun ⟨k, hk, e⟩ => .inr ⟨k, (by simp at hk; omega), e⟩); have BX : Blk w1 w.heap.size 25 #[.slice A t.length c] := (Blk.new w _ _).kept hgx (fun e => (by have := (VL.out _ e.symm).2; omega)); have bx0 : w1.cell? ⟨w.heap.size, 0, none⟩ = some (.slice A t.length c) := (by rw [cell_of_row _ _ 0 _ _ _ BX]; rfl); rw [HL1.out] at ho1; have Z := Lib.hid (And.intro ho1 (And.intro hb1 (And.intro hgx (And.intro hax BX)))); clear hgx hax; clear ho1 hb1 hg1 hat1 BX))
    have hb1 := cell_lt bx0
    have HR := Lib.hid (H.out.1.below Z.out.2.1 (Nat.le_refl _))
    have hbw : base ≤ w1.heap.size := Nat.le_trans hbase Z.out.2.1.size
    go_loopw [7, 18] (fun kv iv wr => ∃ (k : Nat) (KL : List Int), iv = .int .i64 k ∧ k ≤ t.length ∧ KL.length ≤ k ∧ Hid (KL = ints (kidsTo t a k)) ∧ Own inE 3 wr w1.heap.size kv KL ∧ Below w1.heap.size w1 wr) (fun _ iv _ => t.length - (intOf iv).toNat)
    case atStart => exact ⟨0, [], rfl, by omega, by simp, Lib.hid rfl, Own.nil, Below.refl _ _⟩
    case round =>
      obtain ⟨k, KL, rfl, hk, hlK, hK, ho, hbel⟩ := hrel
      obtain ⟨Ak, ck, rfl, _, _, _⟩ := ho.form
      by_cases hlt : k < t.length
      · obtain ⟨b, o, rfl, hb, c0, c1, c2⟩ := (HR.out.below hbel hbw).nd hlt
        have R := Lib.hid (And.intro ho hbel)
        clear ho hbel bx0
        by_cases hp : (t[k].par == (a : Int)) = true
        · have F := Lib.hid (show KL ++ [(k : Int)] = ints (kidsTo t a (k + 1)) by rw [kidsTo_yes (by rw [isKid_at hlt]; exact hp), ints_snoc, hK.out])
          have FL := Lib.hid (show (KL ++ [(k : Int)]).length ≤ k + 1 by simp; omega)
          go_wp2_with (at_builtin; refine wpList_ap1g slIn rfl (.tmp 27) (.tmp 29) rfl (wr.alloc (.cells #[.int .i64 t[k].par, .string t[k].name, .int .i64 t[k].val] 57)) _ (k : Int) rfl w1 w1.heap.size _ KL rfl (R.out.1.alloc _) (wr.heap.size + 1) (by simp) rfl (by omega) (R.out.2.alloc R.out.2.size _) (Nat.le_refl _) ?_; intro v3 w3 ho3 hb3 hg3 hat3; have Y := Lib.hid (And.intro ho3 hb3); clear ho3 hb3 hg3 hat3)
          go_roundw
          case rel => exact ⟨k + 1, _, by go_num, by omega, FL.out, F, Y.out.1, Y.out.2⟩
          case measure => simp [intOf]; omega
        · rw [Bool.not_eq_true] at hp
          have F := Lib.hid (show KL = ints (kidsTo t a (k + 1)) by rw [kidsTo_no (by rw [isKid_at hlt]; exact hp), hK.out])
          go_wp2_with fail
          go_roundw
          case rel => exact ⟨k + 1, KL, by go_num, by omega, by omega, F, R.out.1.alloc _, R.out.2.alloc R.out.2.size _⟩
          case measure => simp [intOf]; omega
      · have e : k = t.length := by omega
        have hKK : KL = ints (kidsL t a) := by rw [hK.out, e]; rfl
        obtain ⟨K, hKn⟩ : ∃ K, (kidsL t a).length = K := ⟨_, rfl⟩
        have hKL : KL.length = K := by rw [hKK, ints_len, hKn]
        have SC := Lib.hid (show Calls Try.prog 85 #[.slice Ak K ck, .func (.func 86) #[] #[.pointer (some ⟨w.heap.size, 0, none⟩)]] wr fun e w' => e = .returned (.tuple #[]) ∧ Own inE 3 w' w1.heap.size (.slice Ak K ck) (ints (sortK t a)) ∧ Below w1.heap.size w1 w' by
          have ho2 : Own inE 3 wr w1.heap.size (.slice Ak (kidsL t a).length ck) (ints (kidsL t a)) := by
            rw [← ints_len (kidsL t a), ← hKK]; exact ho
          have hbx : wr.cell? ⟨w.heap.size, 0, none⟩ = some (.slice A t.length c) := (hbel.cell (p := ⟨w.heap.size, 0, none⟩) hb1).trans bx0
          have := sortKids_c A c t OK.out.2 h12 a ha Ak ck wr w1.heap.size w.heap.size base ho2 hbx hb1 (HR.out.below hbel hbw) hbw hbel.size
          rw [hKn] at this
          exact this.mono fun e w' h => ⟨h.1, h.2.1, hbel.trans h.2.2⟩)
        clear ho hbel hK hKK e bx0
        go_wp2_with fail
        refine SC.out.mono ?_
        rintro e w3 ⟨rfl, ho3, hb3⟩
        obtain ⟨S, hS⟩ : ∃ S, sortK t a = S := ⟨_, rfl⟩
        rw [hS] at ho3
        obtain ⟨SI, hSI⟩ : ∃ SI, ints S = SI := ⟨_, rfl⟩
        rw [hSI] at ho3
        have hSIl : SI.length = K := ho3.rd.2.1.symm
        have hSl : S.length = K := by rw [← hSIl, ← hSI, ints_len]
        have SX := Lib.hid hSI
        have HS := Lib.hid hS
        have TT := Lib.hid (show T = (a : Int) :: S.flatMap (walkL t) by rw [← HT.out, WS.out, hS])
        have O1 := Z.out.1.keep hb3 (fun k hk => (Z.out.1.lt k hk).2)
        obtain ⟨A1, c1, rfl, _, _, _⟩ := Z.out.1.form
        have PA := Lib.hid (show RdA inE w3 Ak SI _ from RdA.own (vo := .slice A1 L1.length c1) ho3 (fun k hk => (Z.out.1.lt k hk).2))
        have GG := Lib.hid (show w.grownBy w3 vo ∧ ((Value.slice A1 L1.length c1).ownBlock = vo ∨ ∃ j, w.heap.size < j ∧ (Value.slice A1 L1.length c1).ownBlock = some j) ∧ Blk w3 w.heap.size 25 #[.slice A t.length c] ∧ Rd ndE w3 base A t from
          ⟨grown_start Z.out.2.2.1 hb3, Z.out.2.2.2.1, Z.out.2.2.2.2.below hb3 hb1, HR.out.below hb3 hbw⟩)
        have OO := Lib.hid O1
        clear ho3 hb3 hS hSI O1 SC
        go_wp2_with fail
        go_loopw [2, 37] (fun vv iv wr3 => ∃ (k : Nat) (Lc : List Int), iv = .int .i64 k ∧ k ≤ K ∧ Lc.length ≤ 100000 ∧ Hid (Lc = L1 ++ (S.take k).flatMap (walkL t)) ∧ RdA inE wr3 Ak SI vv ∧ Own inE 3 wr3 base vv Lc ∧ Hid (w.grownBy wr3 vo ∧ (vv.ownBlock = vo ∨ ∃ j, w.heap.size < j ∧ vv.ownBlock = some j) ∧ Blk wr3 w.heap.size 25 #[.slice A t.length c] ∧ Rd ndE wr3 base A t)) (fun _ iv _ => K - (intOf iv).toNat)
        case atStart => exact ⟨0, _, rfl, by omega, LT, Lib.hid (by simp), PA.out, OO.out, GG⟩
        case round =>
          obtain ⟨k, Lc, rfl, hk, hlL, hL, hpa, ho, hG⟩ := hrel
          obtain ⟨Ao, co, rfl, _, _, _⟩ := ho.form
          by_cases hlt : k < K
          · have hkS : k < S.length := by omega
            obtain ⟨x, hx⟩ : ∃ x, S[k] = x := ⟨_, rfl⟩
            obtain ⟨hxl, _, _, hax⟩ := kid_gt OK.out.2 (sortK_mem (show x ∈ sortK t a by rw [HS.out, ← hx]; exact List.getElem_mem _))
            obtain ⟨b, o, eA, hb, c0⟩ := hpa.rd.int (show k < SI.length by omega)
            have hsx : SI[k]'(by omega) = (x : Int) := by
              have : SI[k]'(by omega) = (ints S)[k]'(by rw [ints_len]; exact hkS) := by simp only [SX.out]
              rw [this, ints_at, hx]
            rw [hsx] at c0
            have bx1 : wr.cell? ⟨w.heap.size, 0, none⟩ = some (.slice A t.length c) := by rw [cell_of_row _ _ 0 _ _ _ hG.out.2.2.1]; rfl
            have FL := Lib.hid (show Lc ++ walkL t x = L1 ++ (S.take (k + 1)).flatMap (walkL t) by
              rw [hL.out, List.take_succ_eq_append_getElem hkS, List.flatMap_append, hx]; simp)
            have FB : (Lc ++ walkL t x).length ≤ 100000 := by
              rw [FL.out]
              refine Nat.le_trans ?_ hlen
              rw [TT.out]
              have : S.flatMap (walkL t) = (S.take (k + 1)).flatMap (walkL t) ++ (S.drop (k + 1)).flatMap (walkL t) := by rw [← List.flatMap_append, List.take_append_drop]
              rw [this, ← HL1.out]; simp
            have R := Lib.hid (And.intro ho hpa)
            clear ho hpa hsx hx
            subst eA
            go_wp2_with fail
            refine (IH.out x (by omega) hxl wr _ Lc base (Nat.le_trans hbase hG.out.1.size) R.out.1 hG.out.2.2.2 (by rw [← List.length_append]; exact FB)).mono ?_
            rintro e w4 ⟨v4, rfl, ho4, hg4, hat4⟩
            have Y := Lib.hid (And.intro ho4 (And.intro (R.out.2.push hg4 hat4) (show Hid (w.grownBy w4 vo ∧ (v4.ownBlock = vo ∨ ∃ j, w.heap.size < j ∧ v4.ownBlock = some j) ∧ Blk w4 w.heap.size 25 #[.slice A t.length c] ∧ Rd ndE w4 base A t) from Lib.hid ⟨grown_next hG.out.1 hg4 hG.out.2.1, by
                rcases hat4 with e | ⟨j, hj, e⟩
                · rw [e]; exact hG.out.2.1
                · exact .inr ⟨j, by have := hG.out.2.2.1.lt; omega, e⟩, hG.out.2.2.1.kept hg4 (by
                rcases hG.out.2.1 with e | ⟨j, hj, e⟩
                · rw [e]; intro e2; have := (VL.out _ e2.symm).2; omega
                · rw [e]; intro e2; injection e2 with e2; omega), hG.out.2.2.2.other hg4 (Nat.le_trans hbase hG.out.1.size) (fun g e => (R.out.1.lt g e).1)⟩)))
            clear ho4 hg4 hat4
            go_wp2_with fail
            go_roundw
            case rel => exact ⟨k + 1, _, by go_num, by omega, FB, FL, Y.out.2.1, Y.out.1, Y.out.2.2⟩
            case measure => simp [intOf]; omega
          · have F := Lib.hid (show Lc = L ++ T by rw [hL.out, TT.out, List.take_of_length_le (by omega), ← HL1.out]; simp)
            have R := Lib.hid (And.intro ho hG)
            clear ho hpa
            go_wp2_with fail
            go_ret
            refine ⟨_, rfl, by rw [HT.out, ← F.out]; exact R.out.1, by rw [HV.out]; exact R.out.2.out.1, ?_⟩
            rw [HV.out]
            rcases R.out.2.out.2.1 with e | ⟨j, hj, e⟩
            · exact .inl e
            · exact .inr ⟨j, by omega, e⟩
set_option maxRecDepth 100000 in
set_option maxHeartbeats 1000000 in
theorem impl_WalkNodes_c (A : Option Addr) (c : Nat) (t : List Nd) (a : Int) (w : World) (h : Rd ndE w w.heap.size A t) (hl : t.length ≤ 1048576) (hc : t.length ≤ c) :
    Calls Try.prog 44 #[.slice A t.length c, .int .i64 a] w fun e w' => ∃ u, e = .returned u ∧ Own inE 3 w' w.heap.size u (walkF t a) ∧ Below w.heap.size w w' := by
  have H := Lib.hid h
  clear h
  by_cases h2 : nodeB t a = true
  · obtain ⟨i, rfl, hi⟩ := nodeB_nat h2
    have F := Lib.hid (walk_yes h2)
    have OK := Lib.hid (nodeB_iff.1 h2).1
    have hw3 := walkL_len OK.out hi
    have HB := Lib.hid h2
    clear h2
    go_enter Try.func44, Try.ntmps44
    go_wp2_with fail
    refine (isNode_c A c t i _ H.out (by omega) hc).mono ?_
    rintro e w1 ⟨rfl, hb⟩
    have B := Lib.hid hb
    clear hb
    rw [HB.out]
    go_wp2_with fail
    refine (walkFrom_c A c t OK.out (t.length - i) i (Nat.le_refl _) hi _ (.slice none 0 0) [] w.heap.size B.out.size Own.nil (H.out.below B.out (Nat.le_refl _)) (by simp; omega)).mono ?_
    rintro e w2 ⟨u, rfl, ho, hg, _⟩
    have Z := Lib.hid (And.intro ho (below_own (E := inE) (e := 3) (v := .slice none 0 0) (l := []) B.out Own.nil hg B.out.size))
    clear ho hg
    go_wp2_with fail
    go_ret
    exact ⟨_, rfl, by rw [F.out]; exact Z.out.1, Z.out.2⟩
  · rw [Bool.not_eq_true] at h2
    have F := Lib.hid (walk_no h2)
    have HB := Lib.hid h2
    clear h2
    go_enter Try.func44, Try.ntmps44
    go_wp2_with fail
    refine (isNode_c A c t a _ H.out (by omega) hc).mono ?_
    rintro e w1 ⟨rfl, hb⟩
    have B := Lib.hid hb
    clear hb
    rw [HB.out]
    go_wp2_with fail
    go_ret
    exact ⟨_, rfl, by rw [F.out]; exact Own.nil, B.out⟩
end Go.Proofs.Ytjmeeiofoioojaa
