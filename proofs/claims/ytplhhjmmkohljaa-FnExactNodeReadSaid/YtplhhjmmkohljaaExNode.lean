/- 'laws.FnExactNodeValueAt', 'laws.FnExactNodeRead': the walks of the laws: they return true, and write nothing that was there. -/
import Derived.Test.YtplhhjmmkohljaaNodeF
import Derived.Test.YtplhhjmmkohljaaConvU
namespace Go.Proofs.Ytplhhjmmkohljaa
open Go.RowKit

set_option maxHeartbeats 2000000 in
theorem exNodeValueAt_walk (id : Int) (A : Option Addr) (n c : Nat) (done : Int) (l : List Upd) (key many : Int) (w : World) (h : Flat Upd.enc 2 w 0 w.heap.size A n c l) (_ : (Lit.int .i64 key).wf = true) (_ : (Lit.int .i64 many).wf = true) :
    Calls Try.prog 4 #[.agg #[.int .i64 id, .slice A n c, .int .i64 done], .int .i64 key, .int .i64 many] w fun e w' => e = .returned (.bool true) ∧ Below w.heap.size w w' := by
  have hc : n ≤ 9223372036854775807 := by have := h.2.1; have := h.2.2.1; unfold maxLen at *; omega
  have H := Lib.hid h
  have HL := Lib.hid h.len
  clear h
  by_cases hn : n ≤ 1048576
  case neg =>
    have hif : (if (n : Int) ≤ 1048576 then 1048576 - (n : Int) else -1) = -1 := if_neg (by omega)
    have HI := Lib.hid hif
    clear hif
    go_enter Try.func4, Try.ntmps4
    go_wp2_with (go_at_call 15; refine (szNode_any _ _ _ _ _ _ _ (by omega) (by omega) hc).mono ?_; rintro e w1 ⟨rfl, hb1⟩; rw [HI.out]; have B1 := Lib.hid (below_box hb1); clear hb1)
    go_ret
    exact ⟨rfl, B1.out⟩
  case pos =>
    have hif : (if (n : Int) ≤ 1048576 then 1048576 - (n : Int) else -1) = 1048576 - n := if_pos (by omega)
    have HI := Lib.hid hif
    have h0 : 0 ≤ 1048576 - (n : Int) := by omega
    clear hif
    obtain ⟨x, hx⟩ : ∃ x : Nod, x = ⟨id, l, done⟩ := ⟨_, rfl⟩
    have hx1 : id = x.id := by rw [hx]
    have hx2 : done = x.done := by rw [hx]
    have hx3 : l = x.log := by rw [hx]
    clear hx
    subst hx1; subst hx2; subst hx3
    go_enter Try.func4, Try.ntmps4
    go_wp2_with fail
    refine (szNode_any _ _ _ _ _ _ _ (by omega) (by omega) hc).mono ?_
    rintro e w1 ⟨rfl, hb1⟩
    rw [HI.out]
    have B1 := Lib.hid (below_box hb1)
    have K1 := Lib.hid ((Blk.new w #[.int .i64 x.id, .slice A n c, .int .i64 x.done] 35).below hb1)
    have F1 := Lib.hid (H.out.on B1.out)
    have q0 := box_cell (i := 0) hb1 rfl
    have q1 := box_cell (i := 1) hb1 rfl
    have q2 := box_cell (i := 2) hb1 rfl
    clear hb1
    go_wp2_with fail
    refine (toNode_any x _ _ _ _ F1.out hn).mono ?_
    rintro e w2 ⟨g2, rfl, hown2, hb2⟩
    have F2 := Lib.hid ((own_flat' Upd.len hown2 HL.out).mono (Nat.zero_le _) (Nat.le_refl _))
    have B2 := Lib.hid (B1.out.trans (hb2.mono B1.out.size))
    have K2 := Lib.hid (K1.out.below hb2)
    clear hown2 hb2 q0 q1 q2
    go_wp2_with fail
    refine (specNodeValueAt_any x key many _ _ _ _ F2.out hn).mono ?_
    rintro e w3 ⟨rfl, hb3⟩
    have B3 := Lib.hid (B2.out.trans (hb3.mono B2.out.size))
    have K3 := Lib.hid (K2.out.below hb3)
    have F3 := Lib.hid (H.out.on B3.out)
    clear hb3
    have q0 := K3.out.cell (i := 0) (v := .int .i64 x.id) rfl
    have q1 := K3.out.cell (i := 1) (v := .slice A n c) rfl
    have q2 := K3.out.cell (i := 2) (v := .int .i64 x.done) rfl
    obtain ⟨v1, hv1⟩ : ∃ v1, (nodeValueAt x key many).1 = v1 := ⟨_, rfl⟩
    obtain ⟨v2, hv2⟩ : ∃ v2, (nodeValueAt x key many).2 = v2 := ⟨_, rfl⟩
    rw [hv1, hv2]
    have HV1 := Lib.hid hv1
    have HV2 := Lib.hid hv2
    clear hv1 hv2
    go_wp2_with fail
    refine (toNode_any x _ _ _ _ F3.out hn).mono ?_
    rintro e w4 ⟨g4, rfl, hown4, hb4⟩
    have F4 := Lib.hid (((own_flat' Upd.len hown4 HL.out).mono (Nat.zero_le _) (Nat.le_refl _)).box (.cells #[.int .i64 x.id, .slice (some ⟨g4, 0, none⟩) n n, .int .i64 x.done] 25))
    have B4 := Lib.hid (B3.out.trans (hb4.mono B3.out.size))
    have K4 := Lib.hid ((K3.out.below hb4).alloc (.cells #[.int .i64 x.id, .slice (some ⟨g4, 0, none⟩) n n, .int .i64 x.done] 25))
    have X4 := Lib.hid (Blk.new w4 #[.int .i64 x.id, .slice (some ⟨g4, 0, none⟩) n n, .int .i64 x.done] 25)
    clear hown4 hb4 q0 q1 q2
    go_wp2_with fail
    refine (nodeValueAt_any x key many _ _ _ _ F4.out hn).mono ?_
    rintro e w5 ⟨rfl, hb5⟩
    rw [HV1.out, HV2.out]
    have B5 := Lib.hid (B4.out.trans ((below_box hb5).mono B4.out.size))
    have K5 := Lib.hid (K4.out.below hb5)
    have X5 := Lib.hid (X4.out.below hb5)
    have F5 := Lib.hid (H.out.on B5.out)
    have G5 := Lib.hid (F4.out.on hb5)
    have F5d := Lib.hid (show Flat Upd.enc 2 w5.drew 0 w5.drew.heap.size A n c x.log from F5.out.below (Below.refl w5.heap.size w5).drew (Nat.le_refl _))
    clear hb5 F4 X4 K4
    have q0 := K5.out.cell (i := 0) (v := .int .i64 x.id) rfl
    have q1 := K5.out.cell (i := 1) (v := .slice A n c) rfl
    have q2 := K5.out.cell (i := 2) (v := .int .i64 x.done) rfl
    have r0 := X5.out.cell (i := 0) (v := .int .i64 x.id) rfl
    have r1 := X5.out.cell (i := 1) (v := .slice (some ⟨g4, 0, none⟩) n n) rfl
    have r2 := X5.out.cell (i := 2) (v := .int .i64 x.done) rfl
    have e1 : (v1 != v1) = false := by simp
    have e2 : (v2 != v2) = false := by simp
    go_wp2_with fail
    go_region_held3 (fun V => V.cell? ⟨w4.heap.size, 0, none⟩ = some (.int .i64 x.id) ∧ V.cell? ⟨w4.heap.size, 1, none⟩ = some (.slice (some ⟨g4, 0, none⟩) n n) ∧ V.cell? ⟨w4.heap.size, 2, none⟩ = some (.int .i64 x.done) ∧ V.cell? ⟨w.heap.size, 0, none⟩ = some (.int .i64 x.id) ∧ V.cell? ⟨w.heap.size, 1, none⟩ = some (.slice A n c) ∧ V.cell? ⟨w.heap.size, 2, none⟩ = some (.int .i64 x.done)) (go_keep)
      ((first
        | (go_at_call 16; (with_reducible refine (toNode_any x _ _ _ _ F5d.out hn).mono ?_); rintro e w6 ⟨g6, rfl, hown6, hb6⟩; have F6 := Lib.hid ((own_flat' Upd.len hown6 HL.out).mono (Nat.zero_le _) (Nat.le_refl _)); have G6 := Lib.hid ((show Flat Upd.enc 2 w5.drew 0 w5.drew.heap.size (some ⟨g4, 0, none⟩) n n x.log from G5.out.below (Below.refl w5.heap.size w5).drew (Nat.le_refl _)).on hb6); have B6 := Lib.hid (B5.out.drew.trans (hb6.mono B5.out.size)); have kk := K5.out.drew.below hb6; have xx := X5.out.drew.below hb6; have t0 := kk.cell (i := 0) (v := .int .i64 x.id) rfl; have t1 := kk.cell (i := 1) (v := .slice A n c) rfl; have t2 := kk.cell (i := 2) (v := .int .i64 x.done) rfl; have u0 := xx.cell (i := 0) (v := .int .i64 x.id) rfl; have u1 := xx.cell (i := 1) (v := .slice (some ⟨g4, 0, none⟩) n n) rfl; have u2 := xx.cell (i := 2) (v := .int .i64 x.done) rfl; have KK := Lib.hid kk; have XX := Lib.hid xx; clear hown6 hb6 kk xx)
        | (go_at_call 17; (with_reducible refine (eqNode_same x _ _ _ _ _ _ G6.out F6.out hn).mono ?_); rintro e w7 ⟨rfl, hb7⟩; have B7 := Lib.hid (B6.out.trans (hb7.mono B6.out.size)); have kk := KK.out.below hb7; have xx := XX.out.below hb7; have t0 := kk.cell (i := 0) (v := .int .i64 x.id) rfl; have t1 := kk.cell (i := 1) (v := .slice A n c) rfl; have t2 := kk.cell (i := 2) (v := .int .i64 x.done) rfl; have u0 := xx.cell (i := 0) (v := .int .i64 x.id) rfl; have u1 := xx.cell (i := 1) (v := .slice (some ⟨g4, 0, none⟩) n n) rfl; have u2 := xx.cell (i := 2) (v := .int .i64 x.done) rfl; clear hb7 kk xx)))
    go_wp2
    go_ret
    exact ⟨rfl, B7.out⟩
set_option maxHeartbeats 2000000 in
theorem exNodeRead_walk (id : Int) (A : Option Addr) (n c : Nat) (done : Int) (l : List Upd) (key : Int) (w : World) (h : Flat Upd.enc 2 w 0 w.heap.size A n c l) (_ : (Lit.int .i64 key).wf = true) :
    Calls Try.prog 6 #[.agg #[.int .i64 id, .slice A n c, .int .i64 done], .int .i64 key] w fun e w' => e = .returned (.bool true) ∧ Below w.heap.size w w' := by
  have hc : n ≤ 9223372036854775807 := by have := h.2.1; have := h.2.2.1; unfold maxLen at *; omega
  have H := Lib.hid h
  have HL := Lib.hid h.len
  clear h
  by_cases hn : n ≤ 1048576
  case neg =>
    have hif : (if (n : Int) ≤ 1048576 then 1048576 - (n : Int) else -1) = -1 := if_neg (by omega)
    have HI := Lib.hid hif
    clear hif
    go_enter Try.func6, Try.ntmps6
    go_wp2_with (go_at_call 15; refine (szNode_any _ _ _ _ _ _ _ (by omega) (by omega) hc).mono ?_; rintro e w1 ⟨rfl, hb1⟩; rw [HI.out]; have B1 := Lib.hid (below_box hb1); clear hb1)
    go_ret
    exact ⟨rfl, B1.out⟩
  case pos =>
    have hif : (if (n : Int) ≤ 1048576 then 1048576 - (n : Int) else -1) = 1048576 - n := if_pos (by omega)
    have HI := Lib.hid hif
    have h0 : 0 ≤ 1048576 - (n : Int) := by omega
    clear hif
    obtain ⟨x, hx⟩ : ∃ x : Nod, x = ⟨id, l, done⟩ := ⟨_, rfl⟩
    have hx1 : id = x.id := by rw [hx]
    have hx2 : done = x.done := by rw [hx]
    have hx3 : l = x.log := by rw [hx]
    clear hx
    subst hx1; subst hx2; subst hx3
    go_enter Try.func6, Try.ntmps6
    go_wp2_with fail
    refine (szNode_any _ _ _ _ _ _ _ (by omega) (by omega) hc).mono ?_
    rintro e w1 ⟨rfl, hb1⟩
    rw [HI.out]
    have B1 := Lib.hid (below_box hb1)
    have K1 := Lib.hid ((Blk.new w #[.int .i64 x.id, .slice A n c, .int .i64 x.done] 35).below hb1)
    have F1 := Lib.hid (H.out.on B1.out)
    have q0 := box_cell (i := 0) hb1 rfl
    have q1 := box_cell (i := 1) hb1 rfl
    have q2 := box_cell (i := 2) hb1 rfl
    clear hb1
    go_wp2_with fail
    refine (toNode_any x _ _ _ _ F1.out hn).mono ?_
    rintro e w2 ⟨g2, rfl, hown2, hb2⟩
    have F2 := Lib.hid ((own_flat' Upd.len hown2 HL.out).mono (Nat.zero_le _) (Nat.le_refl _))
    have B2 := Lib.hid (B1.out.trans (hb2.mono B1.out.size))
    have K2 := Lib.hid (K1.out.below hb2)
    clear hown2 hb2 q0 q1 q2
    go_wp2_with fail
    refine (specNodeRead_any x key _ _ _ _ F2.out hn).mono ?_
    rintro e w3 ⟨rfl, hb3⟩
    have B3 := Lib.hid (B2.out.trans (hb3.mono B2.out.size))
    have K3 := Lib.hid (K2.out.below hb3)
    have F3 := Lib.hid (H.out.on B3.out)
    clear hb3
    have q0 := K3.out.cell (i := 0) (v := .int .i64 x.id) rfl
    have q1 := K3.out.cell (i := 1) (v := .slice A n c) rfl
    have q2 := K3.out.cell (i := 2) (v := .int .i64 x.done) rfl
    obtain ⟨v1, hv1⟩ : ∃ v1, (nodeRead x key).1 = v1 := ⟨_, rfl⟩
    obtain ⟨v2, hv2⟩ : ∃ v2, (nodeRead x key).2 = v2 := ⟨_, rfl⟩
    rw [hv1, hv2]
    have HV1 := Lib.hid hv1
    have HV2 := Lib.hid hv2
    clear hv1 hv2
    go_wp2_with fail
    refine (toNode_any x _ _ _ _ F3.out hn).mono ?_
    rintro e w4 ⟨g4, rfl, hown4, hb4⟩
    have F4 := Lib.hid (((own_flat' Upd.len hown4 HL.out).mono (Nat.zero_le _) (Nat.le_refl _)).box (.cells #[.int .i64 x.id, .slice (some ⟨g4, 0, none⟩) n n, .int .i64 x.done] 25))
    have B4 := Lib.hid (B3.out.trans (hb4.mono B3.out.size))
    have K4 := Lib.hid ((K3.out.below hb4).alloc (.cells #[.int .i64 x.id, .slice (some ⟨g4, 0, none⟩) n n, .int .i64 x.done] 25))
    have X4 := Lib.hid (Blk.new w4 #[.int .i64 x.id, .slice (some ⟨g4, 0, none⟩) n n, .int .i64 x.done] 25)
    clear hown4 hb4 q0 q1 q2
    go_wp2_with fail
    refine (nodeRead_any x key _ _ _ _ F4.out hn).mono ?_
    rintro e w5 ⟨rfl, hb5⟩
    rw [HV1.out, HV2.out]
    have B5 := Lib.hid (B4.out.trans ((below_box hb5).mono B4.out.size))
    have K5 := Lib.hid (K4.out.below hb5)
    have X5 := Lib.hid (X4.out.below hb5)
    have F5 := Lib.hid (H.out.on B5.out)
    have G5 := Lib.hid (F4.out.on hb5)
    have F5d := Lib.hid (show Flat Upd.enc 2 w5.drew 0 w5.drew.heap.size A n c x.log from F5.out.below (Below.refl w5.heap.size w5).drew (Nat.le_refl _))
    clear hb5 F4 X4 K4
    have q0 := K5.out.cell (i := 0) (v := .int .i64 x.id) rfl
    have q1 := K5.out.cell (i := 1) (v := .slice A n c) rfl
    have q2 := K5.out.cell (i := 2) (v := .int .i64 x.done) rfl
    have r0 := X5.out.cell (i := 0) (v := .int .i64 x.id) rfl
    have r1 := X5.out.cell (i := 1) (v := .slice (some ⟨g4, 0, none⟩) n n) rfl
    have r2 := X5.out.cell (i := 2) (v := .int .i64 x.done) rfl
    have e1 : (v1 != v1) = false := by simp
    have e2 : (v2 != v2) = false := by simp
    go_wp2_with fail
    go_region_held3 (fun V => V.cell? ⟨w4.heap.size, 0, none⟩ = some (.int .i64 x.id) ∧ V.cell? ⟨w4.heap.size, 1, none⟩ = some (.slice (some ⟨g4, 0, none⟩) n n) ∧ V.cell? ⟨w4.heap.size, 2, none⟩ = some (.int .i64 x.done) ∧ V.cell? ⟨w.heap.size, 0, none⟩ = some (.int .i64 x.id) ∧ V.cell? ⟨w.heap.size, 1, none⟩ = some (.slice A n c) ∧ V.cell? ⟨w.heap.size, 2, none⟩ = some (.int .i64 x.done)) (go_keep)
      ((first
        | (go_at_call 16; (with_reducible refine (toNode_any x _ _ _ _ F5d.out hn).mono ?_); rintro e w6 ⟨g6, rfl, hown6, hb6⟩; have F6 := Lib.hid ((own_flat' Upd.len hown6 HL.out).mono (Nat.zero_le _) (Nat.le_refl _)); have G6 := Lib.hid ((show Flat Upd.enc 2 w5.drew 0 w5.drew.heap.size (some ⟨g4, 0, none⟩) n n x.log from G5.out.below (Below.refl w5.heap.size w5).drew (Nat.le_refl _)).on hb6); have B6 := Lib.hid (B5.out.drew.trans (hb6.mono B5.out.size)); have kk := K5.out.drew.below hb6; have xx := X5.out.drew.below hb6; have t0 := kk.cell (i := 0) (v := .int .i64 x.id) rfl; have t1 := kk.cell (i := 1) (v := .slice A n c) rfl; have t2 := kk.cell (i := 2) (v := .int .i64 x.done) rfl; have u0 := xx.cell (i := 0) (v := .int .i64 x.id) rfl; have u1 := xx.cell (i := 1) (v := .slice (some ⟨g4, 0, none⟩) n n) rfl; have u2 := xx.cell (i := 2) (v := .int .i64 x.done) rfl; have KK := Lib.hid kk; have XX := Lib.hid xx; clear hown6 hb6 kk xx)
        | (go_at_call 17; (with_reducible refine (eqNode_same x _ _ _ _ _ _ G6.out F6.out hn).mono ?_); rintro e w7 ⟨rfl, hb7⟩; have B7 := Lib.hid (B6.out.trans (hb7.mono B6.out.size)); have kk := KK.out.below hb7; have xx := XX.out.below hb7; have t0 := kk.cell (i := 0) (v := .int .i64 x.id) rfl; have t1 := kk.cell (i := 1) (v := .slice A n c) rfl; have t2 := kk.cell (i := 2) (v := .int .i64 x.done) rfl; have u0 := xx.cell (i := 0) (v := .int .i64 x.id) rfl; have u1 := xx.cell (i := 1) (v := .slice (some ⟨g4, 0, none⟩) n n) rfl; have u2 := xx.cell (i := 2) (v := .int .i64 x.done) rfl; clear hb7 kk xx)))
    go_wp2
    go_ret
    exact ⟨rfl, B7.out⟩
end Go.Proofs.Ytplhhjmmkohljaa
