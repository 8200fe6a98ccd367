/- What a node answers: NodeValueAt, NodeRead: the program's and the reference's walks. -/
import Derived.Test.YtplhhjmmkohljaaNodeC
namespace Go.Proofs.Ytplhhjmmkohljaa
open Go.RowKit

theorem stAt_at {l : List Upd} {k key : Nat} (h : key < 5) : (stAt l k)[key]? = some (valOf l key k) := by
  have hl := stAt_len l k
  have e := List.getElem?_eq_getElem (l := stAt l k) (i := key) (by omega)
  rw [e]
  simp [valOf, List.getD, e]

theorem nodeOk_log {x : Nod} (h : nodeOk x = true) : logOk x.log = true := by obtain ⟨_, _, _, h⟩ := nodeOk_done h; exact h

set_option maxHeartbeats 1000000 in
theorem valueAt_any (id done : Int) (l : List Upd) (key k : Nat) (A : Option Addr) (n c : Nat) (w : World) (h : Flat Upd.enc 2 w 0 w.heap.size A n c l) (hn : n ≤ 1048576) (hk : k ≤ n) (hok : logOk l = true) (hkey : key < 5) :
    Calls Try.prog 30 #[.agg #[.int .i64 id, .slice A n c, .int .i64 done], .int .i64 key, .int .i64 k] w fun e w' =>
      e = .returned (.tuple #[.int .i64 (if valOf l key k < 0 then 0 else valOf l key k), .bool (if valOf l key k < 0 then false else true)]) ∧ Below w.heap.size w w' := by
  have HL := Lib.hid h.len
  have H := Lib.hid h
  have e0 : stateOf l k = stAt l k := by have := HL.out; simp [stateOf, hok, inB]; omega
  have E0 := Lib.hid e0
  clear h e0 hok
  obtain ⟨v, hv⟩ : ∃ v, v = valOf l key k := ⟨_, rfl⟩
  rw [← hv]
  have HV := Lib.hid hv
  clear hv
  have hk0 : (0 : Int) ≤ (key : Int) := by omega
  have hk5 : (key : Int) < 5 := by omega
  go_enter Try.func30, Try.ntmps30
  go_wp2_with fail
  refine (stateAt_any _ _ _ l _ _ (H.out.box _) hn).mono ?_
  rintro e w3 ⟨g, cc, rfl, hl1, hl2, hl3, hs3, hb3⟩
  rw [E0.out] at hs3 hl1 ⊢
  rw [stAt_len] at hl1 ⊢
  have B3 := Lib.hid (below_box hb3)
  obtain ⟨x, hx, hcx⟩ := hs3.at_ (show key < (stAt l k).length by rw [stAt_len]; exact hkey)
  rw [stAt_at hkey] at hx
  injection hx with hx
  rw [← HV.out] at hx
  subst hx
  clear hs3 hb3
  by_cases hneg : v < 0
  · go_wp2
    go_ret2
    exact ⟨by simp, B3.out⟩
  · go_wp2
    go_ret2
    exact ⟨by simp, B3.out⟩

set_option maxHeartbeats 2000000 in
theorem nodeValueAt_any (x : Nod) (key many : Int) (A : Option Addr) (n c : Nat) (w : World) (h : Flat Upd.enc 2 w 0 w.heap.size A n c x.log) (hn : n ≤ 1048576) :
    Calls Try.prog 12 #[.agg #[.int .i64 x.id, .slice A n c, .int .i64 x.done], .int .i64 key, .int .i64 many] w fun e w' =>
      e = .returned (.tuple #[.int .i64 (nodeValueAt x key many).1, .bool (nodeValueAt x key many).2]) ∧ Below w.heap.size w w' := by
  have HL := Lib.hid h.len
  have H := Lib.hid h
  have H0 := Lib.hid (h.box (.cells #[.int .i64 x.id, .slice A n c, .int .i64 x.done] 25))
  clear h
  cases hok : nodeOk x
  · have e0 : nodeValueAt x key many = (0, false) := by simp [nodeValueAt, hok]
    rw [e0]; clear e0
    go_enter Try.func12, Try.ntmps12
    go_wp2_with (go_at_call 28; refine (nodeValid_any x _ _ _ _ H0.out hn).mono ?_; rintro e w1 ⟨rfl, hb1⟩; rw [hok]; have B1 := Lib.hid hb1; clear hb1)
    go_ret2
    exact ⟨rfl, below_box B1.out⟩
  have HO := Lib.hid hok
  clear hok
  cases hkey : inB key 0 4
  · have e0 : nodeValueAt x key many = (0, false) := by simp [nodeValueAt, hkey]
    rw [e0]; clear e0
    go_enter Try.func12, Try.ntmps12
    go_wp2_with (first | (go_at_call 28; refine (nodeValid_any x _ _ _ _ H0.out hn).mono ?_; rintro e w1 ⟨rfl, hb1⟩; rw [HO.out]; have B1 := Lib.hid hb1; clear hb1) | (go_at_call 29; refine (keyValid_any _ _).mono ?_; rintro e w' ⟨rfl, rfl⟩))
    go_ret2
    exact ⟨rfl, below_box B1.out⟩
  obtain ⟨kk, rfl⟩ : ∃ kk : Nat, key = (kk : Int) := ⟨key.toNat, by simp [inB] at hkey; omega⟩
  have hkk5 : kk < 5 := by simp [inB] at hkey; omega
  by_cases h0 : 0 ≤ many
  case neg =>
    have e0 : nodeValueAt x kk many = (0, false) := by simp [nodeValueAt, inB]; omega
    rw [e0]; clear e0
    go_enter Try.func12, Try.ntmps12
    go_wp2_with (first | (go_at_call 28; refine (nodeValid_any x _ _ _ _ H0.out hn).mono ?_; rintro e w1 ⟨rfl, hb1⟩; rw [HO.out]; have B1 := Lib.hid hb1; clear hb1) | (go_at_call 29; refine (keyValid_any _ _).mono ?_; rintro e w' ⟨rfl, rfl⟩))
    go_ret2
    exact ⟨rfl, below_box B1.out⟩
  obtain ⟨k, rfl⟩ := Int.eq_ofNat_of_zero_le h0
  by_cases h1 : k ≤ n
  case neg =>
    have e0 : nodeValueAt x kk k = (0, false) := by have := HL.out; simp [nodeValueAt, inB]; omega
    rw [e0]; clear e0
    go_enter Try.func12, Try.ntmps12
    go_wp2_with (first | (go_at_call 28; refine (nodeValid_any x _ _ _ _ H0.out hn).mono ?_; rintro e w1 ⟨rfl, hb1⟩; rw [HO.out]; have B1 := Lib.hid hb1; have q1 := box_cell (i := 1) hb1 rfl; clear hb1) | (go_at_call 29; refine (keyValid_any _ _).mono ?_; rintro e w' ⟨rfl, rfl⟩))
    go_ret2
    exact ⟨rfl, below_box B1.out⟩
  have HLOG := Lib.hid (nodeOk_log HO.out)
  have e1 : (nodeValueAt x kk k).1 = if valOf x.log kk k < 0 then 0 else valOf x.log kk k := by
    have := HL.out
    unfold nodeValueAt; rw [HO.out, hkey, show inB (k : Int) 0 x.log.length = true from by simp [inB]; omega]
    simp; split <;> rfl
  have e2 : (nodeValueAt x kk k).2 = if valOf x.log kk k < 0 then false else true := by
    have := HL.out
    unfold nodeValueAt; rw [HO.out, hkey, show inB (k : Int) 0 x.log.length = true from by simp [inB]; omega]
    simp; split <;> simp_all
  rw [e1, e2]
  clear e1 e2
  obtain ⟨a1, ha1⟩ : ∃ a1, a1 = (if valOf x.log kk k < 0 then 0 else valOf x.log kk k) := ⟨_, rfl⟩
  obtain ⟨a2, ha2⟩ : ∃ a2, a2 = (if valOf x.log kk k < 0 then false else true) := ⟨_, rfl⟩
  rw [← ha1, ← ha2]
  have HA1 := Lib.hid ha1
  have HA2 := Lib.hid ha2
  clear ha1 ha2
  go_enter Try.func12, Try.ntmps12
  go_wp2_with fail
  refine (nodeValid_any x _ _ _ _ H0.out hn).mono ?_
  rintro e w1 ⟨rfl, hb1⟩
  rw [HO.out]
  have B1 := Lib.hid (below_box hb1)
  have q0 := box_cell (i := 0) hb1 rfl
  have q1 := box_cell (i := 1) hb1 rfl
  have q2 := box_cell (i := 2) hb1 rfl
  have F1 := Lib.hid (H.out.on B1.out)
  clear hb1
  go_wp2_with (first | (go_at_call 29; refine (keyValid_any _ _).mono ?_; rintro e w' ⟨rfl, rfl⟩) | (go_at_call 30; refine (valueAt_any _ _ x.log kk k _ _ _ _ F1.out hn h1 HLOG.out hkk5).mono ?_; rintro e w2 ⟨rfl, hb2⟩; rw [← HA1.out, ← HA2.out]; have B2 := Lib.hid (B1.out.trans (hb2.mono B1.out.size)); clear hb2))
  go_ret2
  exact ⟨rfl, B2.out⟩
end Go.Proofs.Ytplhhjmmkohljaa
