/-
  The library's DeleteFunc at waits, with the program's closure: the row is written over in place.
-/
import Derived.Test.YtbbnibjnjmmmnaaDelF
namespace Go.Proofs.Ytbbnibjnjmmmnaa
open Go.RowKit

theorem zeroWt_one (n : Nat) : ∀ u ∈ (Builtin.zeroCells (Value.agg #[.int .i64 0, .int .i64 0]).cells n).toList, u.oneCell' = true := by
  intro u hu
  simp only [Builtin.zeroCells, Array.toList_map, List.mem_map] at hu
  obtain ⟨i, _, rfl⟩ := hu
  have h : ∀ j, j < 2 → ((Value.agg #[.int .i64 0, .int .i64 0]).cells)[j]!.oneCell' = true := by
    intro j hj
    rcases (by omega : j = 0 ∨ j = 1) with rfl | rfl <;> kernel_rfl
  exact h _ (Nat.mod_lt _ (by decide))
theorem filter_all {α : Type} {p : α → Bool} {l : List α} (h : l.any (fun x => !(p x)) = false) : l.filter p = l := by
  rw [List.filter_eq_self]
  rw [List.any_eq_false] at h
  intro x hx
  simpa using h x hx
theorem tail_keep {l : List Wt} {cs : Array Value} {j i : Nat} {vs : List Value} (h : ∀ m (hm : m < l.length), j ≤ m → cs[m * 2]? = some (.int .i64 l[m].who) ∧ cs[m * 2 + 1]? = some (.int .i64 l[m].wfor)) (hi : i * 2 + vs.length ≤ j * 2) :
    ∀ m (hm : m < l.length), j + 1 ≤ m → (setAll cs (i * 2) vs)[m * 2]? = some (.int .i64 l[m].who) ∧ (setAll cs (i * 2) vs)[m * 2 + 1]? = some (.int .i64 l[m].wfor) := by
  intro m hm hj
  have := h m hm (by omega)
  rw [setAll_far _ _ _ _ (by omega), setAll_far _ _ _ _ (by omega)]
  exact this

theorem grown_below {w wr w2 : World} {row : Option Nat} (h : w.grownBy wr row) (hb : Below wr.heap.size wr w2) : w.grownBy w2 row :=
  ⟨hb.os.trans h.os, hb.tape.trans h.tape, hb.output.trans h.output, Nat.le_trans h.size hb.size, fun k hk hne => (hb.block k (Nat.lt_of_lt_of_le hk h.size)).trans (h.block k hk hne)⟩
theorem take_next {l : List Wt} {x : Int} {cs : Array Value} {c j n : Nat} (hlt : j < l.length) (hk : keepW x l[j] = true) (hcs : cs.size = c * wtE.sz) (hnc : n < c) (htk : cs.toList.take (n * wtE.sz) = wtE.flat ((l.take j).filter (keepW x))) :
    (setAll cs (n * 2) (wtE.cells l[j])).toList.take ((n + 1) * wtE.sz) = wtE.flat ((l.take (j + 1)).filter (keepW x)) := by
  have h1 := setAll_take (wtE.cells l[j]) cs (n * 2) (by rw [wtE.len, hcs]; show n * 2 + 2 ≤ c * 2; omega)
  rw [wtE.len] at h1
  have e1 : (n + 1) * wtE.sz = n * 2 + wtE.sz := by show (n + 1) * 2 = n * 2 + 2; omega
  rw [e1, h1, filter_yes hlt hk, wtE.flat_append, wtE.flat_one, ← htk]
  rfl

set_option maxRecDepth 100000 in
set_option maxHeartbeats 4000000 in
theorem delFW_c (v : Value) (l : List Wt) (x : Int) (gx base : Nat) (w : World) (ho : Own wtE 39 w base v l) (hl : l.length ≤ 1048576) (hc : w.cell? ⟨gx, 0, none⟩ = some (.int .i64 x)) (hne : v.ownBlock ≠ some gx) :
    Calls Try.prog 76 #[v, .func (.func 77) #[] #[.pointer (some ⟨gx, 0, none⟩)]] w fun e w' => ∃ v', e = .returned v' ∧ Own wtE 39 w' base v' (dropW x l) ∧ v'.ownBlock = v.ownBlock ∧ w.grownBy w' v.ownBlock := by
  rcases idxP_cases (fun y => !(keepW x y)) l with ⟨h1, h2⟩ | ⟨i, hi, h1, h2, h3⟩
  · have F := Lib.hid (filter_all h2)
    obtain ⟨A, c, rfl, _, _, hr⟩ := ho.form
    have C := Lib.hid (idxFW_c A c l x gx w hr hl hc)
    have O := Lib.hid (And.intro ho h1)
    clear ho hc h1 h2 hr hne
    go_enter Try.func76, Try.ntmps76
    go_wp2_with fail
    refine C.out.mono ?_
    rintro e w1 ⟨rfl, hb⟩
    have B := Lib.hid hb
    clear hb
    rw [O.out.2]
    go_wp2_with fail
    go_ret
    exact ⟨_, rfl, by unfold dropW; rw [F.out]; exact O.out.1.grow B.out, rfl, ⟨B.out.os, B.out.tape, B.out.output, B.out.size, fun k hk _ => B.out.block k hk⟩⟩
  · rcases ho.block with ⟨rfl, rfl⟩ | ⟨g, c, cs0, rfl, hbg, hblk, hlc, hcm, hcs, htake⟩
    · simp at hi
    have hr := ho.rd.1
    have C := Lib.hid (idxFW_c _ c l x gx w hr hl hc)
    have hgne : g ≠ gx := fun e => hne (by rw [e]; rfl)
    have hfi : ((l.take i).filter (keepW x)) = l.take i := filter_all h3
    have hf0 : ((l.take (i + 1)).filter (keepW x)) = l.take i := by rw [filter_no hi (by simpa using h2), hfi]
    have hl0 : ((l.take (i + 1)).filter (keepW x)).length = i := by rw [hf0, List.length_take]; omega
    have ht0 : cs0.toList.take (((l.take (i + 1)).filter (keepW x)).length * wtE.sz) = wtE.flat ((l.take (i + 1)).filter (keepW x)) := by
      rw [hl0, hf0]
      have e1 : cs0.toList.take (i * wtE.sz) = (cs0.toList.take (l.length * wtE.sz)).take (i * wtE.sz) := by rw [List.take_take, Nat.min_eq_left (Nat.mul_le_mul_right _ (by omega))]
      rw [e1, htake]
      have e2 : wtE.flat l = wtE.flat (l.take i) ++ wtE.flat (l.drop i) := by rw [← wtE.flat_append, List.take_append_drop]
      rw [e2, List.take_append_of_le_length (by rw [wtE.flat_len, List.length_take]; simp [Nat.min_eq_left (Nat.le_of_lt hi)]), List.take_of_length_le (by rw [wtE.flat_len, List.length_take]; simp [Nat.min_eq_left (Nat.le_of_lt hi)])]
    have htail : ∀ m (hm : m < l.length), i + 1 ≤ m → cs0[m * 2]? = some (.int .i64 l[m].who) ∧ cs0[m * 2 + 1]? = some (.int .i64 l[m].wfor) := by
      intro m hm _
      obtain ⟨b, o, e1, _, c0, c1⟩ := hr.wt hm
      cases e1
      rw [cell_of_row w g _ cs0 _ _ hblk] at c0 c1
      rw [Nat.zero_add] at c0 c1
      exact ⟨c0, c1⟩
    have hclt := cell_lt hc
    have P := Lib.hid (And.intro hc (And.intro hclt (And.intro hgne (And.intro hblk (And.intro hcs (And.intro ht0 (And.intro htail h1)))))))
    have L0 := Lib.hid hl0
    have HW := Lib.hid (show ((Value.slice (some ⟨g, 0, none⟩) l.length c).ownBlock = some g) from rfl)
    clear ho hc hne hr hgne hfi hf0 ht0 htail h1 h2 h3 hcs htake hl0 hblk hclt
    go_enter Try.func76, Try.ntmps76
    go_wp2_with fail
    refine C.out.mono ?_
    rintro e w1 ⟨rfl, hb⟩
    have B := Lib.hid hb
    clear hb
    rw [P.out.2.2.2.2.2.2.2]
    have hni : ((i : Int) == -1) = false := by rw [beq_eq_false_iff_ne]; omega
    go_wp2_with fail
    go_loopw [5, 6] (fun iv jv wr => ∃ (j n : Nat) (cs : Array Value), i + 1 ≤ j ∧ j ≤ l.length ∧ jv = .int .i64 j ∧ iv = .int .i64 n ∧ n < j ∧ Hid (n = ((l.take j).filter (keepW x)).length) ∧ Blk wr g 39 cs ∧ Hid (cs.size = c * wtE.sz) ∧
      Hid (cs.toList.take (n * wtE.sz) = wtE.flat ((l.take j).filter (keepW x))) ∧ Hid (∀ m (hm : m < l.length), j ≤ m → cs[m * 2]? = some (.int .i64 l[m].who) ∧ cs[m * 2 + 1]? = some (.int .i64 l[m].wfor)) ∧ w.grownBy wr (some g)) (fun _ j _ => l.length - (intOf j).toNat)
    case atStart =>
      exact ⟨i + 1, i, cs0, by omega, by omega, by go_num, rfl, by omega, Lib.hid L0.out.symm, P.out.2.2.2.1.grow B.out, Lib.hid P.out.2.2.2.2.1, Lib.hid (by have := P.out.2.2.2.2.2.1; rwa [L0.out] at this), Lib.hid P.out.2.2.2.2.2.2.1, ⟨B.out.os, B.out.tape, B.out.output, B.out.size, fun k hk _ => B.out.block k hk⟩⟩
    case round =>
      obtain ⟨j, n, cs, hj1, hj2, rfl, rfl, hnj, hn, hblk, hcs, htk, htl, hgr⟩ := hrel
      by_cases hlt : j < l.length
      · have hsz : cs.size = c * 2 := hcs.out
        have c0 := (cell_of_row wr g (j * 2) cs _ _ hblk).trans (htl.out j hlt (Nat.le_refl _)).1
        have c1 := (cell_of_row wr g (j * 2 + 1) cs _ _ hblk).trans (htl.out j hlt (Nat.le_refl _)).2
        have R := Lib.hid (And.intro hblk hgr)
        have hgl := hblk.lt
        have hcg : wr.cell? ⟨gx, 0, none⟩ = some (.int .i64 x) := (World.cell?_of_block (w := w) (hgr.block gx P.out.2.1 (fun e => P.out.2.2.1 (Option.some.inj e).symm))).trans P.out.1
        have CG := Lib.hid (And.intro hcg (cell_lt hcg))
        clear hblk hgr hsz hcg
        by_cases hk : keepW x l[j] = true
        · have HX := Lib.hid (And.intro hk (show (!(keepW x l[j])) = false by simp [hk]))
          clear hk
          go_wp2_with fail
          refine (victClo_c l[j] x gx _ ((((Below.refl wr.heap.size wr).alloc (Nat.le_refl _) _).cell (p := ⟨gx, 0, none⟩) CG.out.2).trans CG.out.1)).mono ?_
          rintro e w2 ⟨rfl, hb2⟩
          have e0 : w2.cell? ⟨wr.heap.size, 0, none⟩ = some (.int .i64 l[j].who) := (hb2.cell (p := ⟨wr.heap.size, 0, none⟩) (by simp)).trans (cell_of_row _ _ _ _ _ _ (Blk.new wr _ _))
          have e1 : w2.cell? ⟨wr.heap.size, 1, none⟩ = some (.int .i64 l[j].wfor) := (hb2.cell (p := ⟨wr.heap.size, 1, none⟩) (by simp)).trans (cell_of_row _ _ _ _ _ _ (Blk.new wr _ _))
          have hblk2 := (R.out.1.alloc (.cells #[.int .i64 l[j].who, .int .i64 l[j].wfor] 39)).grow hb2
          have hsz : cs.size = c * 2 := hcs.out
          obtain ⟨u0, d0⟩ := hblk2.cell (n * 2) (by omega)
          obtain ⟨u1, d1⟩ := hblk2.cell (n * 2 + 1) (by omega)
          have f0 := hblk2.free (n * 2)
          have f1 := hblk2.free (n * 2 + 1)
          have Z := Lib.hid (And.intro hblk2 (grown_below (grown_below R.out.2 ((Below.refl _ _).alloc (Nat.le_refl _) _)) hb2))
          clear hblk2 hb2 hsz
          rw [HX.out.2]
          go_wp2_with fail
          go_roundw
          case rel => exact ⟨j + 1, n + 1, _, by omega, by omega, by go_num, by go_num, by omega, Lib.hid (by rw [filter_yes hlt HX.out.1, List.length_append, ← hn.out]; rfl), (Z.out.1.set (n * 2) _).set (n * 2 + 1) _, Lib.hid (by have := setAll_size (wtE.cells l[j]) cs (n * 2); exact this.trans hcs.out), Lib.hid (take_next hlt HX.out.1 hcs.out (by omega) htk.out), Lib.hid (tail_keep htl.out (vs := wtE.cells l[j]) (i := n) (by show n * 2 + 2 ≤ j * 2; omega)), only_set (only_set Z.out.2)⟩
          case measure => simp [intOf]; omega
        · rw [Bool.not_eq_true] at hk
          have HX := Lib.hid (And.intro hk (show (!(keepW x l[j])) = true by simp [hk]))
          clear hk
          go_wp2_with fail
          refine (victClo_c l[j] x gx _ ((((Below.refl wr.heap.size wr).alloc (Nat.le_refl _) _).cell (p := ⟨gx, 0, none⟩) CG.out.2).trans CG.out.1)).mono ?_
          rintro e w2 ⟨rfl, hb2⟩
          have hblk2 := (R.out.1.alloc (.cells #[.int .i64 l[j].who, .int .i64 l[j].wfor] 39)).grow hb2
          have Z := Lib.hid (And.intro hblk2 (grown_below (grown_below R.out.2 ((Below.refl _ _).alloc (Nat.le_refl _) _)) hb2))
          clear hblk2 hb2
          rw [HX.out.2]
          go_wp2_with fail
          go_roundw
          case rel => exact ⟨j + 1, n, cs, by omega, by omega, by go_num, rfl, by omega, Lib.hid (by rw [filter_no hlt HX.out.1]; exact hn.out), Z.out.1, hcs, Lib.hid (by rw [filter_no hlt HX.out.1]; exact htk.out), Lib.hid (fun m hm hj => htl.out m hm (by omega)), Z.out.2⟩
          case measure => simp [intOf]; omega
      · have ej : j = l.length := by omega
        have hcl := run_clear_blk (P := Try.prog) (t := 35) (e := 39) (ty := 0) (z := .agg #[.int .i64 0, .int .i64 0]) (n := l.length - n) Try.underlying35 (fun _ => by kernel_rfl) (zeroWt_one _) (o := n * 2) (c := c - n) hblk (by omega) (by have : cs.size = c * 2 := hcs.out; show n * 2 + (l.length - n) * 2 ≤ cs.size; omega)
        have R := Lib.hid (And.intro hblk hgr)
        clear hblk hgr
        go_wp2_with fail
        go_ret
        have hfd : (l.take j).filter (keepW x) = dropW x l := filter_done (by omega)
        refine ⟨_, rfl, own_blk (Blk.setCells _ _ R.out.1) base hbg (dropW x l) (by rw [hn.out, hfd]) (by omega) hcm (by rw [setAll_size]; exact hcs.out) ?_, rfl, only_setCells _ _ R.out.2⟩
        have h1 := htk.out
        rw [hfd] at h1
        rw [← h1]
        exact setAll_take_le _ _ _ _ (Nat.le_refl _)
end Go.Proofs.Ytbbnibjnjmmmnaa
