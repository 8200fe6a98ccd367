/- How many updates a new node must get: the plain function, the program's and the reference's walks. -/
import Derived.Test.YtnbakpdphfdacaaChainW
namespace Go.Proofs.Ytnbakpdphfdacaa
open Go.RowKit

def addCost (v : Int) (l : List Nod) : Int := if chainOk v l then (match l[l.length - 1]? with | some x => (x.log.length : Int) | none => 0) else -1
theorem chainOk_len {v : Int} {l : List Nod} (h : chainOk v l = true) : 1 ≤ l.length ∧ l.length ≤ 5 := by
  unfold chainOk at h; simp only [Bool.and_eq_true, decide_eq_true_eq] at h; exact ⟨h.1.1.1.2, h.1.1.2⟩
theorem addCost_ok {v : Int} {l : List Nod} {n : Nat} {x : Nod} (h : chainOk v l = true) (hl : l.length = n) (hx : l[n - 1]? = some x) : addCost v l = x.log.length := by
  unfold addCost; rw [h, hl, hx]; rfl


end Go.Proofs.Ytnbakpdphfdacaa
