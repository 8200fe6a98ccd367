/- What dropping a node loses: the model, in plain Lean. -/
import Derived.Test.YtnbakpdphfdacaaDropRole
namespace Go.Proofs.Ytnbakpdphfdacaa
open Go.RowKit

/-- the head's updates that the next node has not: lost when the head of two or more is dropped -/
def lost (v : Int) (l : List Nod) (id : Int) : List Upd :=
  if dropRole v l id = 1 then (match l[0]?, l[1]? with | some x, some y => x.log.drop y.log.length | _, _ => []) else []
theorem lost_not {v : Int} {l : List Nod} {id : Int} (h : dropRole v l id ≠ 1) : lost v l id = [] := by simp [lost, h]
theorem lost_head {v : Int} {l : List Nod} {id : Int} {x y : Nod} (h : dropRole v l id = 1) (hx : l[0]? = some x) (hy : l[1]? = some y) : lost v l id = x.log.drop y.log.length := by simp [lost, h, hx, hy]
/-- a head's role: the chain is valid and has two nodes or more, the next node's log begins the head's, and its done is no smaller than.. -/
theorem head_of {v : Int} {l : List Nod} {id : Int} (h : dropRole v l id = 1) : chainOk v l = true ∧ placeI (placeOf l id) = 0 ∧ 1 < l.length := by
  unfold dropRole at h
  split at h
  · rename_i hok
    refine ⟨hok, ?_⟩
    unfold roleOf at h
    split at h
    · omega
    split at h
    · omega
    split at h
    · rename_i h1 h2 h3
      have := placeI_lt (l := l) (id := id)
      have := chainOk_len hok
      exact ⟨h3, by omega⟩
    split at h <;> omega
  · omega
theorem head_logs {v : Int} {l : List Nod} {x y : Nod} (h : chainOk v l = true) (hx : l[0]? = some x) (hy : l[1]? = some y) : nodeOk x = true ∧ y.log <+: x.log ∧ x.done ≤ y.done ∧ nodeOk y = true := by
  have hl := (List.getElem?_eq_some_iff.1 hy).1
  unfold chainOk at h
  simp only [Bool.and_eq_true, List.all_eq_true, List.mem_range] at h
  have h0 := h.1.2 0 (by omega)
  have h1 := h.1.2 1 hl
  rw [nodAt_zero hx] at h0
  rw [nodAt_succ (j := 0) hy hx] at h1
  simp only [Bool.and_eq_true, decide_eq_true_eq, logBegins_iff] at h0 h1
  exact ⟨h0.1, h1.2.1.2.2, h1.2.2, h1.1.1⟩
theorem lost_len {v : Int} {l : List Nod} {x y : Nod} (h : chainOk v l = true) (hx : l[0]? = some x) (hy : l[1]? = some y) : y.log.length ≤ x.log.length := (head_logs h hx hy).2.1.length_le
end Go.Proofs.Ytnbakpdphfdacaa
