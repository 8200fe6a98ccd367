/- What a node answers: NodeValueAt, NodeRead: the program's and the reference's walks. -/
import Derived.Test.YtagejkfeceeifaaNodeC
namespace Go.Proofs.Ytagejkfeceeifaa
open Go.RowKit

theorem stAt_at {l : List Upd} {k key : Nat} (h : key < 5) : (stAt l k)[key]? = some (valOf l key k) := by
  have hl := stAt_len l k
  have e := List.getElem?_eq_getElem (l := stAt l k) (i := key) (by omega)
  rw [e]
  simp [valOf, List.getD, e]

theorem nodeOk_log {x : Nod} (h : nodeOk x = true) : logOk x.log = true := by obtain ⟨_, _, _, h⟩ := nodeOk_done h; exact h


end Go.Proofs.Ytagejkfeceeifaa
