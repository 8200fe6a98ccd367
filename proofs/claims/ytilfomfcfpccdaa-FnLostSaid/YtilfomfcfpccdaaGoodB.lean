/- The head's log is the longest, behind a drop too: plain Lean. -/
import Derived.Test.YtilfomfcfpccdaaGood
namespace Go.Proofs.Ytilfomfcfpccdaa
open Go.RowKit

theorem drop_head {v u : Int} {l r : List Nod} {id : Int} {a b : Nod} (h : dropM v l id = some (u, r)) (ha : l[0]? = some a) (hb : r[0]? = some b) : b.log.length ≤ a.log.length := by
  obtain ⟨g, rfl, hv, hl, k, hk, rfl, g1, hlen⟩ := dropM_some h
  obtain ⟨i, x, hx, hne, _, e, _, hj⟩ := dropped_from hb
  rw [e]
  have pw := g.2.2.2.2.2.1
  rw [List.pairwise_iff_getElem] at pw
  obtain ⟨h0, rfl⟩ := List.getElem?_eq_some_iff.1 ha
  obtain ⟨hi, rfl⟩ := List.getElem?_eq_some_iff.1 hx
  by_cases hi0 : i = 0
  · subst hi0; exact Nat.le_refl _
  · exact (pw 0 i h0 hi (by omega)).2.1.length_le
end Go.Proofs.Ytilfomfcfpccdaa
