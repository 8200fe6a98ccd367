/- Plain laws on valid calls: without one call they stay valid, with one call twice they are not. No program in sight. -/
import Derived.Test.YtfdhgahhcnipjaaCallsA
namespace Go.Proofs.Ytfdhgahhcnipjaa

def CallsOk (l : List Cll) : Prop := l.length ≤ 6 ∧ (∀ x ∈ l, x.ok = true) ∧ l.Pairwise (fun x y => x.client < y.client)

theorem pairwise_of_steps : ∀ (l : List Cll), (∀ j x y, l[j]? = some y → l[j + 1]? = some x → y.client < x.client) → l.Pairwise (fun x y => x.client < y.client) := by
  intro l
  induction l with
  | nil => intro _; exact List.Pairwise.nil
  | cons a l ih =>
    intro h
    have ht := ih (fun j x y hy hx => h (j + 1) x y (by simpa using hy) (by simpa using hx))
    refine List.Pairwise.cons ?_ ht
    intro b hb
    cases l with
    | nil => simp at hb
    | cons c l =>
      have hac := h 0 c a (by simp) (by simp)
      cases List.mem_cons.1 hb with
      | inl e => subst e; exact hac
      | inr e => have := (List.pairwise_cons.1 ht).1 b e; omega

theorem callsOk_iff (l : List Cll) : callsOk l = true ↔ CallsOk l := by
  unfold callsOk CallsOk
  simp only [Bool.and_eq_true, decide_eq_true_eq, List.all_eq_true, List.mem_range]
  constructor
  · rintro ⟨h6, h⟩
    refine ⟨h6, fun x hx => ?_, pairwise_of_steps l fun j x y hy hx => ?_⟩
    · obtain ⟨i, hi⟩ := List.getElem?_of_mem hx
      have hlt := (List.getElem?_eq_some_iff.1 hi).1
      have := h i hlt
      cases i with
      | zero => rw [cllAt_zero hi] at this; exact this
      | succ j =>
        rw [cllAt_succ hi (List.getElem?_eq_getElem (by omega : j < l.length))] at this
        simp at this; exact this.1
    · have := h (j + 1) (List.getElem?_eq_some_iff.1 hx).1
      rw [cllAt_succ hx hy] at this
      simp at this; exact this.2
  · rintro ⟨h6, hok, hp⟩
    refine ⟨h6, fun i hi => ?_⟩
    have hx := List.getElem?_eq_getElem hi
    cases i with
    | zero => rw [cllAt_zero hx]; exact hok _ (List.getElem_mem _)
    | succ j =>
      have hy := List.getElem?_eq_getElem (by omega : j < l.length)
      rw [cllAt_succ hx hy, hok _ (List.getElem_mem _)]
      simp only [Bool.true_and, decide_eq_true_eq]
      exact List.pairwise_iff_getElem.1 hp j (j + 1) (by omega) hi (by omega)

theorem callsOk_erase {l : List Cll} (h : callsOk l = true) (k : Nat) : callsOk (l.take k ++ l.drop (k + 1)) = true := by
  rw [callsOk_iff] at h ⊢
  obtain ⟨h6, hok, hp⟩ := h
  have hs : (l.take k ++ l.drop (k + 1)).Sublist l := by
    rw [← List.eraseIdx_eq_take_drop_succ]; exact List.eraseIdx_sublist l k
  exact ⟨Nat.le_trans hs.length_le h6, fun x hx => hok x (hs.subset hx), hp.sublist hs⟩

theorem callsOk_twice {l : List Cll} {k : Nat} (hk : k < l.length) : callsOk (l.take (k + 1) ++ l.drop k) = false := by
  rw [Bool.eq_false_iff]
  intro h
  rw [callsOk_iff] at h
  have hp := h.2.2
  rw [List.pairwise_append] at hp
  have h1 : l[k] ∈ l.take (k + 1) := by rw [List.take_succ_eq_append_getElem hk]; exact List.mem_append.2 (.inr (List.mem_singleton.2 rfl))
  have h2 : l[k] ∈ l.drop k := by rw [List.drop_eq_getElem_cons hk]; exact List.mem_cons_self
  have := hp.2.2 _ h1 _ h2
  omega
end Go.Proofs.Ytfdhgahhcnipjaa
