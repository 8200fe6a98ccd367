/- What a node answers: NodeValueAt, NodeRead: the program's and the reference's walks. -/
import Derived.Test.YtnbakpdphfdacaaNodeC
namespace Go.Proofs.Ytnbakpdphfdacaa
open Go.RowKit

theorem stAt_at {l : List Upd} {k key : Nat} (h : key < 5) : (stAt l k)[key]? = some (valOf l key k) := by
  have hl := stAt_len l k
  have e := List.getElem?_eq_getElem (l := stAt l k) (i := key) (by omega)
  rw [e]
  simp [valOf, List.getD, e]

theorem nodeOk_log {x : Nod} (h : nodeOk x = true) : logOk x.log = true := by obtain ⟨_, _, _, h⟩ := nodeOk_done h; exact h

set_option maxHeartbeats 1000000 in
theorem valueAt_any (id done : Int) (l : List Upd) (key k : Nat) (A : Option Addr) (n c : Nat) (w : World) (h : Flat Upd.enc 2 w 0 w.heap.size A n c l) (hn : n ≤ 1048576) (hk : k ≤ n) (hok : logOk l = true) (hkey : key < 5) :
    Calls Try.prog 96 #[.agg #[.int .i64 id, .slice A n c, .int .i64 done], .int .i64 key, .int .i64 k] w fun e w' =>
      e = .returned (.tuple #[.int .i64 (if valOf l key k < 0 then 0 else valOf l key k), .bool (if valOf l key k < 0 then false else true)]) ∧ Below w.heap.size w w' := by
  have HL := Lib.hid h.len
  have H := Lib.hid h
  have e0 : stateOf l k = stAt l k := by have := HL.out; simp [stateOf, hok, inB]; omega
  have E0 := Lib.hid e0
  clear h e0 hok
  obtain ⟨v, hv⟩ : ∃ v, v = valOf l key k := ⟨_, rfl⟩
  rw [← hv]
  have HV := Lib.hid hv
  clear hv
  have hk0 : (0 : Int) ≤ (key : Int) := by omega
  have hk5 : (key : Int) < 5 := by omega
  go_enter Try.func96, Try.ntmps96
  go_wp2_with fail
  refine (stateAt_any _ _ _ l _ _ (H.out.box _) hn).mono ?_
  rintro e w3 ⟨g, cc, rfl, hl1, hl2, hl3, hs3, hb3⟩
  rw [E0.out] at hs3 hl1 ⊢
  rw [stAt_len] at hl1 ⊢
  have B3 := Lib.hid (below_box hb3)
  obtain ⟨x, hx, hcx⟩ := hs3.at_ (show key < (stAt l k).length by rw [stAt_len]; exact hkey)
  rw [stAt_at hkey] at hx
  injection hx with hx
  rw [← HV.out] at hx
  subst hx
  clear hs3 hb3
  by_cases hneg : v < 0
  · go_wp2
    go_ret2
    exact ⟨by simp, B3.out⟩
  · go_wp2
    go_ret2
    exact ⟨by simp, B3.out⟩

end Go.Proofs.Ytnbakpdphfdacaa
