/-
  Plain facts on deadlocks and victims: what both sides' functions on waits answer.
-/
import Derived.Test.YtbbnibjnjmmmnaaWt3
namespace Go.Proofs.Ytbbnibjnjmmmnaa

/-- the transactions that wait for themselves, ascending -/
noncomputable def deadF (wl : List Wt) : List Int := if validWt wl then markU (fun i => hasI (waitsL wl (i : Int)) (i : Int)) 4 else []
theorem deadF_len (wl : List Wt) : (deadF wl).length ≤ 4 := by
  unfold deadF; split
  · exact markU_len _ 4
  · simp
theorem Reach.first {wl : List Wt} {a b : Int} (h : Reach wl a b) : ∃ x, x ∈ wl ∧ x.who = a := by
  induction h with
  | single he => obtain ⟨x, hx, h1, _⟩ := he; exact ⟨x, hx, h1⟩
  | tail _ _ ih => exact ih
open Classical in
theorem deadF_has {wl : List Wt} {v : Int} (h : v ∈ deadF wl) : ∃ x, x ∈ wl ∧ x.who = v := by
  unfold deadF at h
  split at h
  · obtain ⟨i, _, rfl, hp⟩ := markU_mem h
    have := hasI_mem.1 hp
    unfold waitsL at this
    obtain ⟨j, _, e, hr⟩ := markU_mem this
    have hr2 : Reach wl (i : Int) (j : Int) := of_decide_eq_true hr
    rw [← e] at hr2
    exact hr2.first
  · cases h
def keepW (v : Int) (x : Wt) : Bool := !(x.who == v) && !(x.wfor == v)
/-- waits without a transaction -/
def dropW (v : Int) (wl : List Wt) : List Wt := wl.filter (keepW v)
theorem dropW_lt {wl : List Wt} {v : Int} (h : v ∈ deadF wl) : (dropW v wl).length < wl.length := by
  obtain ⟨x, hx, e⟩ := deadF_has h
  exact List.length_filter_lt_length_iff_exists.2 ⟨x, hx, by simp [keepW, e]⟩
theorem dropW_le (wl : List Wt) (v : Int) : (dropW v wl).length ≤ wl.length := List.length_filter_le _ _
theorem dropW_valid {wl : List Wt} {v : Int} (h : validWt wl = true) : validWt (dropW v wl) = true := by
  rw [validWt_iff] at h ⊢
  refine ⟨?_, Nat.le_trans (dropW_le wl v) h.2⟩
  rw [List.all_eq_true] at h ⊢
  exact fun x hx => h.1 x ((List.mem_filter.1 hx).1)
noncomputable def victN : Nat → List Wt → List Int
  | 0, _ => []
  | n + 1, wl => match (deadF wl).getLast? with
    | none => []
    | some v => v :: victN n (dropW v wl)
theorem victN_none {n : Nat} {wl : List Wt} (h : deadF wl = []) : victN n wl = [] := by
  cases n with
  | zero => rfl
  | succ n => rw [victN, h]; rfl
theorem victN_some {n : Nat} {wl : List Wt} {v : Int} (h : (deadF wl).getLast? = some v) : victN (n + 1) wl = v :: victN n (dropW v wl) := by
  rw [victN, h]
theorem victN_fuel : ∀ (n m : Nat) (wl : List Wt), wl.length ≤ n → wl.length ≤ m → victN n wl = victN m wl
  | n, m, wl, hn, hm => by
    rcases hd : (deadF wl).getLast? with _ | v
    · rw [List.getLast?_eq_none_iff] at hd
      rw [victN_none hd, victN_none hd]
    · have hv : v ∈ deadF wl := List.mem_of_getLast? hd
      have hl := dropW_lt hv
      obtain ⟨n, rfl⟩ : ∃ k, n = k + 1 := ⟨n - 1, by omega⟩
      obtain ⟨m, rfl⟩ : ∃ k, m = k + 1 := ⟨m - 1, by omega⟩
      rw [victN_some hd, victN_some hd, victN_fuel n m (dropW v wl) (by omega) (by omega)]
/-- the transactions that are ended, in order -/
noncomputable def victF (wl : List Wt) : List Int := if validWt wl then victN wl.length wl else []
theorem victN_step {wl : List Wt} {v : Int} (h : (deadF wl).getLast? = some v) : victN wl.length wl = v :: victN (dropW v wl).length (dropW v wl) := by
  have hl := dropW_lt (List.mem_of_getLast? h)
  obtain ⟨n, hn⟩ : ∃ k, wl.length = k + 1 := ⟨wl.length - 1, by omega⟩
  rw [hn, victN_some h, victN_fuel n (dropW v wl).length (dropW v wl) (by omega) (Nat.le_refl _)]
theorem getLast_of {l : List Int} (h : 0 < l.length) : l.getLast? = some l[l.length - 1] := by
  rw [List.getLast?_eq_getElem?, List.getElem?_eq_getElem (by omega)]
/-- What the loop has: those that are ended so far, and the waits that are left. -/
structure VInv (wl0 : List Wt) (D : List Int) (wl : List Wt) : Prop where
  valid : validWt wl = true
  len : D.length + wl.length ≤ 12
  eq : victF wl0 = D ++ victN wl.length wl
theorem VInv.start {wl : List Wt} (h : validWt wl = true) : VInv wl [] wl :=
  ⟨h, by simpa using (validWt_iff.1 h).2, by simp [victF, h]⟩
theorem VInv.step {wl0 wl : List Wt} {D : List Int} (h : VInv wl0 D wl) (hp : 0 < (deadF wl).length) :
    VInv wl0 (D ++ [(deadF wl)[(deadF wl).length - 1]]) (dropW (deadF wl)[(deadF wl).length - 1] wl) ∧ (dropW (deadF wl)[(deadF wl).length - 1] wl).length < wl.length := by
  have hv := getLast_of hp
  have hl := dropW_lt (List.mem_of_getLast? hv)
  have h1 := h.len
  refine ⟨⟨dropW_valid h.valid, by simp; omega, ?_⟩, hl⟩
  rw [h.eq, victN_step hv, List.append_assoc, List.singleton_append]
theorem VInv.fin {wl0 wl : List Wt} {D : List Int} (h : VInv wl0 D wl) (hp : deadF wl = []) : victF wl0 = D := by
  rw [h.eq, victN_none hp, List.append_nil]
theorem victF_len (wl : List Wt) : (victF wl).length ≤ 12 := by
  have key : ∀ (n : Nat) (wl : List Wt), (victN n wl).length ≤ n := by
    intro n
    induction n with
    | zero => intro wl; simp [victN]
    | succ n ih =>
      intro wl
      rw [victN]
      split
      · simp
      · simpa using ih _
  unfold victF
  split
  · rename_i h
    exact Nat.le_trans (key _ _) (validWt_iff.1 h).2
  · simp
end Go.Proofs.Ytbbnibjnjmmmnaa
