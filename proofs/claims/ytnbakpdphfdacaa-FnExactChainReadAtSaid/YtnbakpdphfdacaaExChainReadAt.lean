/- 'laws.FnExactChainReadAt': the walk of the law: it returns true, and writes nothing that was there. -/
import Derived.Test.YtnbakpdphfdacaaReadAt
import Derived.Test.YtnbakpdphfdacaaConvN
import Derived.Deep.RegionHeld3
namespace Go.Proofs.Ytnbakpdphfdacaa
open Go.RowKit

set_option maxHeartbeats 4000000 in
theorem exChainReadAt_walk (view : Int) (A : Option Addr) (n c : Nat) (l : List Nod) (id : Int) (key : Int) (w : World) (h : Nods w 0 w.heap.size A n c l) (_ : (Lit.int .i64 id).wf = true) (_ : (Lit.int .i64 key).wf = true) :
    Calls Try.prog 7 #[.agg #[.int .i64 view, .slice A n c], .int .i64 id, .int .i64 key] w fun e w' => e = .returned (.bool true) ∧ Below w.heap.size w w' := by
  have HL := Lib.hid h.len
  have H := Lib.hid h
  have H0 := Lib.hid (h.box (.cells #[.int .i64 view, .slice A n c] 24))
  have KB := Lib.hid (Blk.new w #[.int .i64 view, .slice A n c] 24)
  clear h
  obtain ⟨v0, hv0⟩ : ∃ v, (chainReadAt view l id key).1 = v := ⟨_, rfl⟩
  have HV0 := Lib.hid hv0
  clear hv0
  obtain ⟨v1, hv1⟩ : ∃ v, (chainReadAt view l id key).2 = v := ⟨_, rfl⟩
  have HV1 := Lib.hid hv1
  clear hv1
  have e0 : (v0 != v0) = false := by simp
  have e1 : (v1 != v1) = false := by simp
  go_enter Try.func7, Try.ntmps7
  go_wp2_with fail
  refine (szChain_any _ _ _ _ l _ _ H0.out (by omega) (by omega)).mono ?_
  rintro e w1 ⟨z, rfl, hz, hb1⟩
  have B1 := Lib.hid (below_box hb1)
  have K1 := Lib.hid (KB.out.below hb1)
  clear hb1 H0 KB
  by_cases hz0 : z < 0
  · clear hz
    go_wp2
    go_ret
    exact ⟨rfl, B1.out⟩
  have hz' := hz.resolve_left hz0
  have hn : n ≤ 1048576 := by omega
  have HG := Lib.hid (show ∀ x ∈ l, x.log.length ≤ 1048576 from fun x hx => by have := hz'.2.2.2 x hx; have := hz'.2.1; omega)
  clear hz hz'
  have F1 := Lib.hid (H.out.on B1.out)
  have q0 := K1.out.cell (i := 0) (v := .int .i64 view) rfl
  have q1 := K1.out.cell (i := 1) (v := .slice A n c) rfl
  go_wp2_with fail
  refine (toChain_any _ _ _ _ l _ F1.out hn HG.out).mono ?_
  rintro e w2 ⟨A2, n2, c2, rfl, hl2, hrow2, hb2⟩
  obtain rfl : n2 = n := by rw [← hl2]; exact HL.out
  have F2 := Lib.hid (hrow2.nods'.2.mono (Nat.zero_le _) (Nat.le_refl _))
  have B2 := Lib.hid (B1.out.trans (hb2.mono B1.out.size))
  have K2 := Lib.hid (K1.out.below hb2)
  clear hrow2 hb2 hl2 q0 q1 F1 K1
  go_wp2_with fail
  refine (specChainReadAt_any view _ _ _ l id key _ F2.out hn HG.out).mono ?_
  rintro e w3 ⟨rfl, hb3⟩
  rw [HV0.out, HV1.out]
  have B3 := Lib.hid (B2.out.trans (hb3.mono B2.out.size))
  have K3 := Lib.hid (K2.out.below hb3)
  have F3 := Lib.hid (H.out.on B3.out)
  clear hb3 F2 K2
  have q0 := K3.out.cell (i := 0) (v := .int .i64 view) rfl
  have q1 := K3.out.cell (i := 1) (v := .slice A n2 c) rfl
  go_wp2_with fail
  refine (toChain_any _ _ _ _ l _ F3.out hn HG.out).mono ?_
  rintro e w4 ⟨A4, n4, c4, rfl, hl4, hrow4, hb4⟩
  obtain rfl : n4 = n2 := by rw [← hl4]; exact HL.out
  have F4 := Lib.hid ((hrow4.nods'.2.mono (Nat.zero_le _) (Nat.le_refl _)).box (.cells #[.int .i64 view, .slice A4 n4 c4] 33))
  have B4 := Lib.hid (B3.out.trans (hb4.mono B3.out.size))
  have K4 := Lib.hid ((K3.out.below hb4).alloc (.cells #[.int .i64 view, .slice A4 n4 c4] 33))
  have X4 := Lib.hid (Blk.new w4 #[.int .i64 view, .slice A4 n4 c4] 33)
  clear hrow4 hb4 hl4 q0 q1 F3 K3
  go_wp2_with fail
  refine (chainReadAt_any view _ _ _ l id key _ F4.out hn HG.out).mono ?_
  rintro e w5 ⟨rfl, hb5⟩
  rw [HV0.out, HV1.out]
  have B5 := Lib.hid (B4.out.trans ((below_box hb5).mono B4.out.size))
  have K5 := Lib.hid (K4.out.below hb5)
  have X5 := Lib.hid (X4.out.below hb5)
  have G5 := Lib.hid (F4.out.on hb5)
  have F5d := Lib.hid (show Nods w5.drew 0 w5.drew.heap.size A n4 c l from (H.out.on B5.out).below (Below.refl w5.heap.size w5).drew (Nat.le_refl _))
  have G5d := Lib.hid (show Nods w5.drew 0 w5.drew.heap.size A4 n4 c4 l from G5.out.below (Below.refl w5.heap.size w5).drew (Nat.le_refl _))
  clear hb5 F4 X4 K4 G5
  have q0 := K5.out.cell (i := 0) (v := .int .i64 view) rfl
  have q1 := K5.out.cell (i := 1) (v := .slice A n4 c) rfl
  have r0 := X5.out.cell (i := 0) (v := .int .i64 view) rfl
  have r1 := X5.out.cell (i := 1) (v := .slice A4 n4 c4) rfl
  go_wp2_with fail
  go_region_held3 (fun V => V.cell? ⟨w4.heap.size, 0, none⟩ = some (.int .i64 view) ∧ V.cell? ⟨w4.heap.size, 1, none⟩ = some (.slice A4 n4 c4) ∧ V.cell? ⟨w.heap.size, 0, none⟩ = some (.int .i64 view) ∧ V.cell? ⟨w.heap.size, 1, none⟩ = some (.slice A n4 c)) (go_keep)
    ((first
      | (go_at_call 16; (with_reducible refine (toChain_any _ _ _ _ l _ F5d.out hn HG.out).mono ?_); rintro e w6 ⟨A6, n6, c6, rfl, hl6, hrow6, hb6⟩; obtain rfl : n6 = n4 := by rw [← hl6]; exact HL.out
         have F6 := Lib.hid (hrow6.nods'.2.mono (Nat.zero_le _) (Nat.le_refl _)); have G6 := Lib.hid (G5d.out.on hb6); have B6 := Lib.hid (B5.out.drew.trans (hb6.mono B5.out.size)); have kk := K5.out.drew.below hb6; have xx := X5.out.drew.below hb6; have t0 := kk.cell (i := 0) (v := .int .i64 view) rfl; have t1 := kk.cell (i := 1) (v := .slice A n6 c) rfl; have u0 := xx.cell (i := 0) (v := .int .i64 view) rfl; have u1 := xx.cell (i := 1) (v := .slice A4 n6 c4) rfl; have KK := Lib.hid kk; have XX := Lib.hid xx; clear hrow6 hb6 hl6 kk xx)
      | (go_at_call 19; (with_reducible refine (eqChain_same _ _ _ _ _ _ l _ G6.out F6.out hn HG.out).mono ?_); rintro e w7 ⟨rfl, hb7⟩; have B7 := Lib.hid (B6.out.trans (hb7.mono B6.out.size)); have kk := KK.out.below hb7; have xx := XX.out.below hb7; have t0 := kk.cell (i := 0) (v := .int .i64 view) rfl; have t1 := kk.cell (i := 1) (v := .slice A n6 c) rfl; have u0 := xx.cell (i := 0) (v := .int .i64 view) rfl; have u1 := xx.cell (i := 1) (v := .slice A4 n6 c4) rfl; clear hb7 kk xx)))
  go_wp2
  go_ret
  exact ⟨rfl, B7.out⟩
end Go.Proofs.Ytnbakpdphfdacaa
