/- Plain laws of histories: parts of what fits fit, and the like. -/
import Derived.Test.YtjcbhnbbhcfbiaaStepsF
namespace Go.Proofs.Ytjcbhnbbhcfbiaa
open Go.RowKit

theorem firstBad_spec (l : List Stp) : (firstBad l = -1 ∧ ∀ i, i < l.length → badAt l i = false) ∨ ∃ k : Nat, firstBad l = (k : Int) ∧ k < l.length ∧ badAt l k = true ∧ ∀ i, i < k → badAt l i = false := by
  by_cases h : ∃ k, k < l.length ∧ badAt l k = true
  · have ex : ∃ k, k < l.length ∧ badAt l k = true ∧ ∀ i, i < k → badAt l i = false := by
      obtain ⟨k, hk, hb⟩ := h
      induction k using Nat.strongRecOn with
      | _ k ih =>
        by_cases hs : ∃ i, i < k ∧ badAt l i = true
        · obtain ⟨i, hi, hbi⟩ := hs; exact ih i hi (by omega) hbi
        · refine ⟨k, hk, hb, fun i hi => ?_⟩
          cases e : badAt l i
          · rfl
          · exact absurd ⟨i, hi, e⟩ hs
    obtain ⟨k, hk, hb, hlow⟩ := ex
    exact .inr ⟨k, firstBad_at hlow hb hk, hk, hb, hlow⟩
  · refine .inl ⟨?_, ?_⟩
    · exact firstBad_none (fun i hi => by
        cases e : badAt l i
        · rfl
        · exact absurd ⟨i, hi, e⟩ h)
    · intro i hi
      cases e : badAt l i
      · rfl
      · exact absurd ⟨i, hi, e⟩ h
theorem stepsOk_sub {l l' : List Stp} (hs : l'.Sublist l) (h : stepsOk l = true) : stepsOk l' = true := by
  unfold stepsOk at h ⊢
  simp only [Bool.and_eq_true, decide_eq_true_eq, List.all_eq_true] at h ⊢
  refine ⟨⟨Nat.le_trans hs.length_le h.1.1, fun x hx => h.1.2 x (hs.mem hx)⟩, Nat.le_trans ?_ h.2⟩
  exact (hs.filter _).length_le
theorem stepsOk_take {l : List Stp} (h : stepsOk l = true) (k : Nat) : stepsOk (l.take k) = true := stepsOk_sub (List.take_sublist k l) h
theorem fit_iff (l : List Stp) : stepsFit l = true ↔ stepsOk l = true ∧ ∀ i, i < l.length → badAt l i = false := by
  unfold stepsFit stepsBad
  rw [decide_eq_true_eq]
  cases h : stepsOk l
  · simp
  · simp only [if_true, true_and]
    rcases firstBad_spec l with ⟨h1, h2⟩ | ⟨k, h1, h2, h3, h4⟩
    · exact ⟨fun _ => h2, fun _ => h1⟩
    · refine ⟨fun e => by rw [h1] at e; omega, fun e => ?_⟩
      rw [e k h2] at h3; cases h3
theorem fit_ok {l : List Stp} (h : stepsFit l = true) : stepsOk l = true := ((fit_iff l).1 h).1
theorem fit_take {l : List Stp} (h : stepsFit l = true) (k : Nat) : stepsFit (l.take k) = true := by
  rw [fit_iff] at h ⊢
  refine ⟨stepsOk_take h.1 k, fun i hi => ?_⟩
  rw [List.length_take] at hi
  rw [badAt_take (by omega)]
  exact h.2 i (by omega)
theorem bad_lo (l : List Stp) : -2 ≤ stepsBad l := by
  unfold stepsBad
  split
  · rcases firstBad_spec l with ⟨h1, _⟩ | ⟨k, h1, _⟩ <;> omega
  · omega
/-- the first bad one -/
theorem bad_spec {l : List Stp} {k : Nat} (h : stepsBad l = (k : Int)) : stepsOk l = true ∧ k < l.length ∧ badAt l k = true ∧ ∀ i, i < k → badAt l i = false := by
  unfold stepsBad at h
  cases e : stepsOk l
  · rw [e] at h; simp at h
  · rw [e, if_pos rfl] at h
    rcases firstBad_spec l with ⟨h1, _⟩ | ⟨j, h1, h2, h3, h4⟩
    · omega
    · obtain rfl : j = k := by omega
      exact ⟨rfl, h2, h3, h4⟩
theorem bad_take_lo {l : List Stp} {k : Nat} (h : stepsBad l = (k : Int)) : stepsFit (l.take k) = true := by
  obtain ⟨h0, h1, h2, h3⟩ := bad_spec h
  rw [fit_iff]
  refine ⟨stepsOk_take h0 k, fun i hi => ?_⟩
  rw [List.length_take] at hi
  rw [badAt_take (by omega)]; exact h3 i (by omega)
theorem bad_take {l : List Stp} {k m : Nat} (h : stepsBad l = (k : Int)) (hm : k < m) : stepsBad (l.take m) = (k : Int) := by
  obtain ⟨h0, h1, h2, h3⟩ := bad_spec h
  unfold stepsBad
  rw [stepsOk_take h0 m, if_pos rfl]
  refine firstBad_at (fun i hi => ?_) ?_ (by rw [List.length_take]; omega)
  · rw [badAt_take (by omega)]; exact h3 i hi
  · rw [badAt_take hm]; exact h2
theorem bad_not_fit {l : List Stp} {k : Nat} (h : stepsBad l = (k : Int)) : stepsFit l = false := by
  unfold stepsFit; rw [h, decide_eq_false_iff_not]; omega
theorem bad_reads {l : List Stp} {k : Nat} {s : Stp} (h : stepsBad l = (k : Int)) (hs : l[k]? = some s) : s.reads = true := by
  obtain ⟨_, _, h2, _⟩ := bad_spec h
  unfold badAt at h2
  rw [hs] at h2
  simp only [Bool.and_eq_true] at h2
  exact h2.1

/-! one read less -/
theorem erase_lo {l : List Stp} {k i : Nat} (hk : k < l.length) (hi : i ≤ k) : (l.take k ++ l.drop (k + 1)).take i = l.take i := by
  rw [List.take_append_of_le_length (by rw [List.length_take]; omega), List.take_take, Nat.min_eq_left hi]
theorem stTo_erase_lo {l : List Stp} {k i : Nat} (hk : k < l.length) (hi : i ≤ k) : stTo (l.take k ++ l.drop (k + 1)) i = stTo l i := by
  unfold stTo; rw [erase_lo hk hi]
theorem stTo_erase_hi {l : List Stp} {k i : Nat} {s : Stp} (hs : l[k]? = some s) (hr : s.reads = true) (hi : k ≤ i) : stTo (l.take k ++ l.drop (k + 1)) i = stTo l (i + 1) := by
  have hk := (List.getElem?_eq_some_iff.1 hs).1
  have e : l[k] = s := by rw [List.getElem?_eq_getElem hk] at hs; injection hs
  obtain ⟨d, rfl⟩ : ∃ d, i = k + d := ⟨i - k, by omega⟩
  have h1 : (l.take k ++ l.drop (k + 1)).take (k + d) = l.take k ++ (l.drop (k + 1)).take d := by
    have : (l.take k).length = k := by rw [List.length_take]; omega
    rw [List.take_append, this, List.take_of_length_le (by omega)]
    congr 2; omega
  have h2 : l.take (k + d + 1) = l.take k ++ [s] ++ (l.drop (k + 1)).take d := by
    rw [show k + d + 1 = (k + 1) + d by omega, List.take_add, List.take_succ_eq_append_getElem hk, e]
  unfold stTo
  rw [h1, h2, List.foldl_append, List.foldl_append, List.foldl_append]
  have : [s].foldl stStep ((l.take k).foldl stStep st0) = (l.take k).foldl stStep st0 := by
    simp [stStep, hr]
  rw [this]
theorem erase_at_lo {l : List Stp} {k i : Nat} (hk : k < l.length) (hi : i < k) : (l.take k ++ l.drop (k + 1))[i]? = l[i]? := by
  rw [List.getElem?_append_left (by rw [List.length_take]; omega), List.getElem?_take, if_pos hi]
theorem erase_at_hi {l : List Stp} {k i : Nat} (hk : k < l.length) (hi : k ≤ i) : (l.take k ++ l.drop (k + 1))[i]? = l[i + 1]? := by
  have hl : (l.take k).length = k := by rw [List.length_take]; omega
  rw [List.getElem?_append_right (by omega), List.getElem?_drop, hl]
  congr 1; omega
theorem fit_erase {l : List Stp} {k : Nat} {s : Stp} (h : stepsFit l = true) (hs : l[k]? = some s) (hr : s.reads = true) : stepsFit (l.take k ++ l.drop (k + 1)) = true := by
  have hk := (List.getElem?_eq_some_iff.1 hs).1
  rw [fit_iff] at h ⊢
  refine ⟨stepsOk_sub ?_ h.1, fun i hi => ?_⟩
  · rw [← List.eraseIdx_eq_take_drop_succ]; exact List.eraseIdx_sublist _ _
  · have hlen : (l.take k ++ l.drop (k + 1)).length = l.length - 1 := by rw [List.length_append, List.length_take, List.length_drop]; omega
    by_cases hik : i < k
    · have := h.2 i (by omega)
      unfold badAt at this ⊢
      rw [erase_at_lo hk hik, stTo_erase_lo hk (by omega)]
      exact this
    · have := h.2 (i + 1) (by omega)
      unfold badAt at this ⊢
      rw [erase_at_hi hk (by omega), stTo_erase_hi hs hr (by omega)]
      exact this
/-- one step put that holds no value -/
theorem ok_spoilt {l : List Stp} {k : Nat} (hk : k < l.length) : stepsOk (l.set k ⟨false, 1, -1⟩) = false := by
  have : (l.set k ⟨false, 1, -1⟩).all Stp.ok = false := by
    rw [List.all_eq_false]
    refine ⟨⟨false, 1, -1⟩, ?_, by decide⟩
    exact List.mem_of_getElem? (i := k) (by rw [List.getElem?_set_self hk])
  unfold stepsOk
  rw [this]; simp
end Go.Proofs.Ytjcbhnbbhcfbiaa
