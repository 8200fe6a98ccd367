/- What a node answers: the reference's NodeValueAt, and both walks of NodeRead. -/
import Derived.Test.YtnbakpdphfdacaaNodeD
namespace Go.Proofs.Ytnbakpdphfdacaa
open Go.RowKit

theorem nodeValueAt_ok {x : Nod} {kk k : Nat} (ho : nodeOk x = true) (hk5 : kk < 5) (hk : k ≤ x.log.length) :
    nodeValueAt x kk k = ((if valOf x.log kk k < 0 then 0 else valOf x.log kk k), (if valOf x.log kk k < 0 then false else true)) := by
  unfold nodeValueAt; rw [ho, show inB (kk : Int) 0 4 = true from by simp [inB]; omega, show inB (k : Int) 0 x.log.length = true from by simp [inB]; omega]
  simp; split <;> simp_all


theorem nodeRead_bad {x : Nod} {key : Int} (h : (nodeOk x && inB key 0 4) = false) : nodeRead x key = (0, 3) := by unfold nodeRead; rw [h]; rfl
theorem nodeRead_ask {x : Nod} {key : Int} (h : (nodeOk x && inB key 0 4) = true) (hw : keyWaits x key = true) : nodeRead x key = (0, 1) := by unfold nodeRead; rw [h, hw]; rfl
theorem nodeRead_none {x : Nod} {key : Int} (h : (nodeOk x && inB key 0 4) = true) (hw : keyWaits x key = false) (hv : valOf x.log key x.done.toNat < 0) : nodeRead x key = (0, 2) := by
  unfold nodeRead; rw [h, hw]; simp [hv]
theorem nodeRead_clean {x : Nod} {key : Int} (h : (nodeOk x && inB key 0 4) = true) (hw : keyWaits x key = false) (hv : ¬ valOf x.log key x.done.toNat < 0) : nodeRead x key = (valOf x.log key x.done.toNat, 0) := by
  unfold nodeRead; rw [h, hw]; simp [hv]

set_option maxHeartbeats 2000000 in
theorem nodeRead_any (x : Nod) (key : Int) (A : Option Addr) (n c : Nat) (w : World) (h : Flat Upd.enc 2 w 0 w.heap.size A n c x.log) (hn : n ≤ 1048576) :
    Calls Try.prog 70 #[.agg #[.int .i64 x.id, .slice A n c, .int .i64 x.done], .int .i64 key] w fun e w' =>
      e = .returned (.tuple #[.int .i64 (nodeRead x key).1, .int .i64 (nodeRead x key).2]) ∧ Below w.heap.size w w' := by
  have HL := Lib.hid h.len
  have H := Lib.hid h
  have H0 := Lib.hid (h.box (.cells #[.int .i64 x.id, .slice A n c, .int .i64 x.done] 57))
  clear h
  cases hok : nodeOk x
  · rw [nodeRead_bad (by rw [hok]; rfl)]
    go_enter Try.func70, Try.ntmps70
    go_wp2_with (go_at_call 86; refine (nodeValid_any x _ _ _ _ H0.out hn).mono ?_; rintro e w1 ⟨rfl, hb1⟩; rw [hok]; have B1 := Lib.hid hb1; clear hb1)
    go_ret2
    exact ⟨rfl, below_box B1.out⟩
  have HO := Lib.hid hok
  clear hok
  cases hkey : inB key 0 4
  · rw [nodeRead_bad (by rw [hkey]; simp)]
    go_enter Try.func70, Try.ntmps70
    go_wp2_with (first | (go_at_call 86; refine (nodeValid_any x _ _ _ _ H0.out hn).mono ?_; rintro e w1 ⟨rfl, hb1⟩; rw [HO.out]; have B1 := Lib.hid hb1; clear hb1) | (go_at_call 69; refine (keyValid_any _ _).mono ?_; rintro e w' ⟨rfl, rfl⟩))
    go_ret2
    exact ⟨rfl, below_box B1.out⟩
  obtain ⟨kk, rfl⟩ : ∃ kk : Nat, key = (kk : Int) := ⟨key.toNat, by simp [inB] at hkey; omega⟩
  have hkk5 : kk < 5 := by simp [inB] at hkey; omega
  have HB2 := Lib.hid (show (nodeOk x && inB (kk : Int) 0 4) = true by rw [HO.out, hkey]; rfl)
  have HLOG := Lib.hid (nodeOk_log HO.out)
  obtain ⟨k, hdone, hkn, _⟩ := nodeOk_done HO.out
  rw [HL.out] at hkn
  have HD := Lib.hid hdone
  have hW : keyWaits x kk = keyIn (x.log.drop k) kk := by unfold keyWaits; rw [hdone]; rfl
  have hV : valOf x.log kk x.done.toNat = valOf x.log kk k := by rw [hdone]; rfl
  have HW := Lib.hid hW
  have HV := Lib.hid hV
  clear hW hV
  cases hwait : keyIn (x.log.drop k) kk
  · obtain ⟨a1, ha1⟩ : ∃ a1, a1 = (nodeRead x kk).1 := ⟨_, rfl⟩
    obtain ⟨a2, ha2⟩ : ∃ a2, a2 = (nodeRead x kk).2 := ⟨_, rfl⟩
    rw [← ha1, ← ha2]
    have HA1 := Lib.hid ha1
    have HA2 := Lib.hid ha2
    have HWT := Lib.hid hwait
    clear ha1 ha2 hwait
    rw [hdone] at H0 ⊢
    clear hdone
    go_enter Try.func70, Try.ntmps70
    go_wp2_with fail
    have hvn := nodeValid_any x A n c _ H0.out hn
    rw [HD.out] at hvn
    refine hvn.mono ?_
    clear hvn
    rintro e w1 ⟨rfl, hb1⟩
    rw [HO.out]
    have B1 := Lib.hid (below_box hb1)
    have q0 := box_cell (i := 0) hb1 rfl
    have q1 := box_cell (i := 1) hb1 rfl
    have q2 := box_cell (i := 2) hb1 rfl
    have F1 := Lib.hid ((H.out.on B1.out).box (.cells #[.int .i64 x.id, .slice A n c, .int .i64 k] 113))
    clear hb1
    go_wp2_with (go_at_call 69; refine (keyValid_any _ _).mono ?_; rintro e w' ⟨rfl, rfl⟩)
    refine (waits_any x.id x.log k kk _ _ _ _ F1.out hn hkn).mono ?_
    rintro e w2 ⟨rfl, hb2⟩
    rw [HWT.out]
    have B2 := Lib.hid (B1.out.trans ((below_box hb2).mono B1.out.size))
    have r0 := box_cell (i := 0) hb2 rfl
    have r1 := box_cell (i := 1) hb2 rfl
    have r2 := box_cell (i := 2) hb2 rfl
    have F2 := Lib.hid (H.out.on B2.out)
    clear hb2
    by_cases hneg : valOf x.log kk k < 0
    · have HN := Lib.hid hneg
      have hif1 : (if valOf x.log kk k < 0 then 0 else valOf x.log kk k) = 0 := if_pos hneg
      have hif2 : (if valOf x.log kk k < 0 then false else true) = false := if_pos hneg
      have I1 := Lib.hid hif1
      have I2 := Lib.hid hif2
      clear hneg hif1 hif2
      go_wp2_with (go_at_call 96; refine (valueAt_any x.id k x.log kk k _ _ _ _ F2.out hn hkn HLOG.out hkk5).mono ?_; rintro e w3 ⟨rfl, hb3⟩; rw [I1.out, I2.out]; have B3 := Lib.hid (B2.out.trans (hb3.mono B2.out.size)); clear hb3)
      go_ret2
      refine ⟨?_, B3.out⟩
      rw [HA1.out, HA2.out, nodeRead_none HB2.out (HW.out.trans HWT.out) (by rw [HV.out]; exact HN.out)]; rfl
    · have HN := Lib.hid hneg
      have hif1 : (if valOf x.log kk k < 0 then 0 else valOf x.log kk k) = valOf x.log kk k := if_neg hneg
      have hif2 : (if valOf x.log kk k < 0 then false else true) = true := if_neg hneg
      have I1 := Lib.hid hif1
      have I2 := Lib.hid hif2
      clear hneg hif1 hif2
      go_wp2_with (go_at_call 96; refine (valueAt_any x.id k x.log kk k _ _ _ _ F2.out hn hkn HLOG.out hkk5).mono ?_; rintro e w3 ⟨rfl, hb3⟩; rw [I1.out, I2.out]; have B3 := Lib.hid (B2.out.trans (hb3.mono B2.out.size)); clear hb3)
      go_ret2
      refine ⟨?_, B3.out⟩
      rw [HA1.out, HA2.out, nodeRead_clean HB2.out (HW.out.trans HWT.out) (by rw [HV.out]; have := HN.out; omega), HV.out]; rfl
  · rw [nodeRead_ask HB2.out (HW.out.trans hwait)]
    have HWT := Lib.hid hwait
    clear hwait
    rw [hdone] at H0 ⊢
    clear hdone
    go_enter Try.func70, Try.ntmps70
    go_wp2_with fail
    have hvn := nodeValid_any x A n c _ H0.out hn
    rw [HD.out] at hvn
    refine hvn.mono ?_
    clear hvn
    rintro e w1 ⟨rfl, hb1⟩
    rw [HO.out]
    have B1 := Lib.hid (below_box hb1)
    have q0 := box_cell (i := 0) hb1 rfl
    have q1 := box_cell (i := 1) hb1 rfl
    have q2 := box_cell (i := 2) hb1 rfl
    have F1 := Lib.hid ((H.out.on B1.out).box (.cells #[.int .i64 x.id, .slice A n c, .int .i64 k] 113))
    clear hb1
    go_wp2_with (first | (go_at_call 69; refine (keyValid_any _ _).mono ?_; rintro e w' ⟨rfl, rfl⟩) | (go_at_call 95; refine (waits_any x.id x.log k kk _ _ _ _ F1.out hn hkn).mono ?_; rintro e w2 ⟨rfl, hb2⟩; rw [HWT.out]; have B2 := Lib.hid (B1.out.trans ((below_box hb2).mono B1.out.size)); clear hb2))
    go_ret2
    exact ⟨rfl, B2.out⟩

set_option maxHeartbeats 2000000 in
theorem specNodeRead_any (x : Nod) (key : Int) (A : Option Addr) (n c : Nat) (w : World) (h : Flat Upd.enc 2 w 0 w.heap.size A n c x.log) (hn : n ≤ 1048576) :
    Calls Try.prog 67 #[.agg #[.int .i64 x.id, .slice A n c, .int .i64 x.done], .int .i64 key] w fun e w' =>
      e = .returned (.tuple #[.int .i64 (nodeRead x key).1, .int .i64 (nodeRead x key).2]) ∧ Below w.heap.size w w' := by
  have HL := Lib.hid h.len
  have H := Lib.hid h
  have H0 := Lib.hid (h.box (.cells #[.int .i64 x.id, .slice A n c, .int .i64 x.done] 57))
  clear h
  cases hok : nodeOk x
  · rw [nodeRead_bad (by rw [hok]; rfl)]
    go_enter Try.func67, Try.ntmps67
    go_wp2_with (go_at_call 82; refine (specNodeValid_any x _ _ _ _ H0.out hn).mono ?_; rintro e w1 ⟨rfl, hb1⟩; rw [hok]; have B1 := Lib.hid hb1; clear hb1)
    go_ret2
    exact ⟨rfl, below_box B1.out⟩
  have HO := Lib.hid hok
  clear hok
  cases hkey : inB key 0 4
  · rw [nodeRead_bad (by rw [hkey]; simp)]
    go_enter Try.func67, Try.ntmps67
    go_wp2_with (first | (go_at_call 82; refine (specNodeValid_any x _ _ _ _ H0.out hn).mono ?_; rintro e w1 ⟨rfl, hb1⟩; rw [HO.out]; have B1 := Lib.hid hb1; clear hb1) | (go_at_call 66; refine (l6In_any _ _ _ _).mono ?_; rintro e w' ⟨rfl, rfl⟩))
    go_ret2
    exact ⟨rfl, below_box B1.out⟩
  obtain ⟨kk, rfl⟩ : ∃ kk : Nat, key = (kk : Int) := ⟨key.toNat, by simp [inB] at hkey; omega⟩
  have hkk5 : kk < 5 := by simp [inB] at hkey; omega
  have k0 : (0 : Int) ≤ (kk : Int) := by omega
  have k5 : (kk : Int) < 5 := by omega
  have HB2 := Lib.hid (show (nodeOk x && inB (kk : Int) 0 4) = true by rw [HO.out, hkey]; rfl)
  have HLOG := Lib.hid (nodeOk_log HO.out)
  obtain ⟨k, hdone, hkn, _⟩ := nodeOk_done HO.out
  rw [HL.out] at hkn
  have HD := Lib.hid hdone
  have hW : keyWaits x kk = keyIn (x.log.drop k) kk := by unfold keyWaits; rw [hdone]; rfl
  have hV : valOf x.log kk x.done.toNat = valOf x.log kk k := by rw [hdone]; rfl
  have HW := Lib.hid hW
  have HV := Lib.hid hV
  clear hW hV
  cases hwait : keyIn (x.log.drop k) kk
  · obtain ⟨a1, ha1⟩ : ∃ a1, a1 = (nodeRead x kk).1 := ⟨_, rfl⟩
    obtain ⟨a2, ha2⟩ : ∃ a2, a2 = (nodeRead x kk).2 := ⟨_, rfl⟩
    rw [← ha1, ← ha2]
    have HA1 := Lib.hid ha1
    have HA2 := Lib.hid ha2
    have HWT := Lib.hid hwait
    clear ha1 ha2 hwait
    rw [hdone] at H0 ⊢
    clear hdone
    obtain ⟨v, hv⟩ : ∃ v, v = valOf x.log kk k := ⟨_, rfl⟩
    have HVV := Lib.hid hv
    clear hv
    by_cases hneg : v < 0
    all_goals
      go_enter Try.func67, Try.ntmps67
      go_wp2_with fail
      have hvn := specNodeValid_any x A n c _ H0.out hn
      rw [HD.out] at hvn
      refine hvn.mono ?_
      clear hvn
      rintro e w1 ⟨rfl, hb1⟩
      rw [HO.out]
      have B1 := Lib.hid (below_box hb1)
      have q0 := box_cell (i := 0) hb1 rfl
      have q1 := box_cell (i := 1) hb1 rfl
      have q2 := box_cell (i := 2) hb1 rfl
      have hw1 : w.heap.size < w1.heap.size := by have := hb1.size; simp at this; omega
      have F1 := Lib.hid (H.out.on B1.out)
      clear hb1
      go_wp2_with (go_at_call 66; refine (l6In_any _ _ _ _).mono ?_; rintro e w' ⟨rfl, rfl⟩)
      refine (l14Dirty_any x.id x.log k kk _ _ _ _ F1.out hn hkn).mono ?_
      rintro e w2 ⟨rfl, hb2⟩
      rw [HWT.out]
      have r1 := (hb2.cell (p := ⟨w.heap.size, 1, none⟩) hw1).trans q1
      have r2 := (hb2.cell (p := ⟨w.heap.size, 2, none⟩) hw1).trans q2
      have B2 := Lib.hid (B1.out.trans (hb2.mono B1.out.size))
      have F2 := Lib.hid (H.out.on B2.out)
      clear hb2
      go_wp2_with fail
      refine (l2At_any _ _ _ x.log k _ F2.out hn HLOG.out hkn).mono ?_
      rintro e w3 ⟨g, cc, rfl, hl1, hl2, hl3, hs3, hb3⟩
      rw [stAt_len] at hl1 ⊢
      have B3 := Lib.hid (B2.out.trans (hb3.mono B2.out.size))
      obtain ⟨y, hx, hcx⟩ := hs3.at_ (show kk < (stAt x.log k).length by rw [stAt_len]; exact hkk5)
      rw [stAt_at hkk5] at hx
      injection hx with hx
      rw [← HVV.out] at hx
      subst hx
      clear hs3 hb3
      go_wp2
      go_ret2
      refine ⟨?_, B3.out⟩
      first
        | (rw [HA1.out, HA2.out, nodeRead_none HB2.out (HW.out.trans HWT.out) (by rw [HV.out, ← HVV.out]; omega)]; rfl)
        | (rw [HA1.out, HA2.out, nodeRead_clean HB2.out (HW.out.trans HWT.out) (by rw [HV.out, ← HVV.out]; omega), HV.out, ← HVV.out]; rfl)
  · rw [nodeRead_ask HB2.out (HW.out.trans hwait)]
    have HWT := Lib.hid hwait
    clear hwait
    rw [hdone] at H0 ⊢
    clear hdone
    go_enter Try.func67, Try.ntmps67
    go_wp2_with fail
    have hvn := specNodeValid_any x A n c _ H0.out hn
    rw [HD.out] at hvn
    refine hvn.mono ?_
    clear hvn
    rintro e w1 ⟨rfl, hb1⟩
    rw [HO.out]
    have B1 := Lib.hid (below_box hb1)
    have q0 := box_cell (i := 0) hb1 rfl
    have q1 := box_cell (i := 1) hb1 rfl
    have q2 := box_cell (i := 2) hb1 rfl
    have F1 := Lib.hid (H.out.on B1.out)
    clear hb1
    go_wp2_with (first | (go_at_call 66; refine (l6In_any _ _ _ _).mono ?_; rintro e w' ⟨rfl, rfl⟩) | (go_at_call 93; refine (l14Dirty_any x.id x.log k kk _ _ _ _ F1.out hn hkn).mono ?_; rintro e w2 ⟨rfl, hb2⟩; rw [HWT.out]; have B2 := Lib.hid (B1.out.trans (hb2.mono B1.out.size)); clear hb2))
    go_ret2
    exact ⟨rfl, B2.out⟩
end Go.Proofs.Ytnbakpdphfdacaa
