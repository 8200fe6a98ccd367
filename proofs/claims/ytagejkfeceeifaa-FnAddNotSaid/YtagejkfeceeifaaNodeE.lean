/- What a node answers: the reference's NodeValueAt, and both walks of NodeRead. -/
import Derived.Test.YtagejkfeceeifaaNodeD
namespace Go.Proofs.Ytagejkfeceeifaa
open Go.RowKit

theorem nodeValueAt_ok {x : Nod} {kk k : Nat} (ho : nodeOk x = true) (hk5 : kk < 5) (hk : k ≤ x.log.length) :
    nodeValueAt x kk k = ((if valOf x.log kk k < 0 then 0 else valOf x.log kk k), (if valOf x.log kk k < 0 then false else true)) := by
  unfold nodeValueAt; rw [ho, show inB (kk : Int) 0 4 = true from by simp [inB]; omega, show inB (k : Int) 0 x.log.length = true from by simp [inB]; omega]
  simp; split <;> simp_all


theorem nodeRead_bad {x : Nod} {key : Int} (h : (nodeOk x && inB key 0 4) = false) : nodeRead x key = (0, 3) := by unfold nodeRead; rw [h]; rfl
theorem nodeRead_ask {x : Nod} {key : Int} (h : (nodeOk x && inB key 0 4) = true) (hw : keyWaits x key = true) : nodeRead x key = (0, 1) := by unfold nodeRead; rw [h, hw]; rfl
theorem nodeRead_none {x : Nod} {key : Int} (h : (nodeOk x && inB key 0 4) = true) (hw : keyWaits x key = false) (hv : valOf x.log key x.done.toNat < 0) : nodeRead x key = (0, 2) := by
  unfold nodeRead; rw [h, hw]; simp [hv]
theorem nodeRead_clean {x : Nod} {key : Int} (h : (nodeOk x && inB key 0 4) = true) (hw : keyWaits x key = false) (hv : ¬ valOf x.log key x.done.toNat < 0) : nodeRead x key = (valOf x.log key x.done.toNat, 0) := by
  unfold nodeRead; rw [h, hw]; simp [hv]


end Go.Proofs.Ytagejkfeceeifaa
