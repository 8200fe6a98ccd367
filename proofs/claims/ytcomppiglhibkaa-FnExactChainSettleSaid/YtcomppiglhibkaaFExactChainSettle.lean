/- The texts SetAt RunN ExChainSettle ClaimExactChainSettle, joined. -/
import Derived.Deep.RegionHeld3
import Derived.Conc.LeavingOf
import Derived.Test.YtcomppiglhibkaaK1
import Derived.Test.YtcomppiglhibkaaB4
import Derived.Test.YtcomppiglhibkaaB1
import Derived.Test.YtcomppiglhibkaaC1
/- What settling answers, as the exact statements' walks take it. -/
namespace Go.Proofs.Ytcomppiglhibkaa
open Go.RowKit

theorem SetRes.at_ {w w' : World} {r : (Int × List Nod) × Int} {e : Ending} {v1 : Int} {l1 : List Nod} {t1 : Int} (h : SetRes w r e w') (hr : r = ((v1, l1), t1)) : ResAt w v1 l1 (.int .i64 t1) e w' := by
  obtain ⟨v, A, n, c, l, e1, rfl, hl, hrow, hb⟩ := h
  subst hr
  injection e1 with e1 e2
  subst e1; subst e2
  exact ⟨A, n, c, rfl, hl, hrow, hb⟩
theorem settle_ok {v : Int} {l : List Nod} {v1 : Int} {l1 : List Nod} {t1 : Int} (h : settleM v l = ((v1, l1), t1)) : l1.length ≤ 5 ∧ ∀ x ∈ l1, x.log.length ≤ 13 := by
  unfold settleM at h
  split at h
  · rename_i hok
    injection h with h _
    injection h with _ h
    subst h
    exact good_ok (good_settled (good_iff.1 hok)).1
  · injection h with h _
    injection h with _ h
    subst h
    exact ⟨by simp, fun x hx => by cases hx⟩
end Go.Proofs.Ytcomppiglhibkaa
/- Chains as they lie at the model's start. -/
namespace Go.Proofs.Ytcomppiglhibkaa
open Go Go.RowKit
theorem brk_nods {W w : World} (hw : w.heap = (brk W).heap) {A : Option Addr} {n c : Nat} {l : List Nod} (h : Nods W 0 W.heap.size A n c l) : Nods w 0 w.heap.size A n c l := by
  obtain ⟨rs, h1, h2, h3⟩ := h
  exact ⟨rs, brk_flat hw h1, h2, fun i r x a b => ⟨(h3 i r x a b).1, (h3 i r x a b).2.1, brk_flat hw (h3 i r x a b).2.2⟩⟩
end Go.Proofs.Ytcomppiglhibkaa
/- 'laws.FnExactChainSettle': the walk of the law: it returns true, and writes nothing that was there. -/
namespace Go.Proofs.Ytcomppiglhibkaa
open Go.RowKit
set_option linter.unusedVariables false
set_option linter.unusedSimpArgs false

set_option maxHeartbeats 4000000 in
theorem exChainSettle_walk (view : Int) (A : Option Addr) (n c : Nat) (l : List Nod) (w : World) (h : Nods w 0 w.heap.size A n c l) :
    Calls Mo.prog 7 #[.agg #[.int .i64 view, .slice A n c]] w fun e w' => e = .returned (.bool true) ∧ Below w.heap.size w w' := by
  obtain ⟨v1, hv1⟩ : ∃ v, (settleM view l).1.1 = v := ⟨_, rfl⟩
  obtain ⟨l1, hl1⟩ : ∃ v, (settleM view l).1.2 = v := ⟨_, rfl⟩
  obtain ⟨t1, ht1⟩ : ∃ v, (settleM view l).2 = v := ⟨_, rfl⟩
  have hp : settleM view l = ((v1, l1), t1) := by rw [← hv1, ← hl1, ← ht1]
  have gg := settle_ok hp
  have HG1 := Lib.hid (show ∀ x ∈ l1, x.log.length ≤ 1048576 from fun x hx => by have := gg.2 x hx; omega)
  have hl5 := gg.1
  have sp : ∀ (W : World) (A : Option Addr) (n c : Nat), Nods W 0 W.heap.size A n c l → n ≤ 1048576 → (∀ x ∈ l, x.log.length ≤ 1048576) → Calls Mo.prog 10 #[.agg #[.int .i64 view, .slice A n c]] W (ResAt W v1 l1 (.int .i64 t1)) := fun W A n c h hn hg =>
    (specChainSettle_any view A n c l W h hn hg).mono (fun e w' hq => SetRes.at_ hq hp)
  have im : ∀ (W : World) (A : Option Addr) (n c : Nat), Nods W 0 W.heap.size A n c l → n ≤ 1048576 → (∀ x ∈ l, x.log.length ≤ 1048576) → Calls Mo.prog 9 #[.agg #[.int .i64 view, .slice A n c]] W (ResAt W v1 l1 (.int .i64 t1)) := fun W A n c h hn hg =>
    (chainSettle_any view A n c l W h hn hg).mono (fun e w' hq => SetRes.at_ hq hp)
  have SP := Lib.hid sp
  have IM := Lib.hid im
  have tt : (t1 != t1) = false := by simp
  have MB1 := Lib.hid (fun k => mk_bd (s := 1) HG1.out k)
  have HL := Lib.hid h.len
  have H := Lib.hid h
  have H0 := Lib.hid (h.box (.cells #[.int .i64 view, .slice A n c] 47))
  have CA0 := Lib.hid (CI.mk (Blk.new w #[.int .i64 view, .slice A n c] 47) (h.keep (w' := w.alloc (.cells #[.int .i64 view, .slice A n c] 47)) (fun _ _ hk => Below.heap_alloc _ _ _ hk)) (Nat.le_refl _))
  clear h hv1 hl1 ht1 hp gg sp im
  go_enter Mo.func7, Try.ntmps7
  go_wp2_with fail
  refine (szChain_any _ _ _ _ l _ _ H0.out (by omega) (by omega)).mono ?_
  rintro e w1 ⟨z, rfl, hz, hb1⟩
  have B1 := Lib.hid (below_box hb1)
  have CA1 := Lib.hid (CA0.out.below hb1)
  clear hb1 H0 CA0
  by_cases hz0 : z < 0
  · clear hz
    go_wp2
    go_ret
    exact ⟨rfl, B1.out⟩
  have hz' := hz.resolve_left hz0
  have hn : n ≤ 1048576 := by omega
  have HG := Lib.hid (show ∀ x ∈ l, x.log.length ≤ 1048576 from fun x hx => by have := hz'.2.2.2 x hx; have := hz'.2.1; omega)
  have MB := Lib.hid (fun k => mk_bd (s := 1) HG.out k)
  clear hz hz'
  have q0 := CA1.out.c0
  have q1 := CA1.out.c1
  go_wp2_with fail
  refine (toChain_any _ _ _ _ l _ CA1.out.wide hn HG.out).mono ?_
  rintro e w2 ⟨A2, n2, c2, rfl, hl2, hrow2, hb2⟩
  obtain rfl : n2 = n := by rw [← hl2]; exact HL.out
  have F2 := Lib.hid (hrow2.nods'.2.mono (Nat.zero_le _) (Nat.le_refl _))
  have CA2 := Lib.hid (CA1.out.below hb2)
  have B2 := Lib.hid (B1.out.trans (hb2.mono B1.out.size))
  clear hrow2 hb2 hl2 q0 q1 CA1
  go_wp2_with fail
  refine (SP.out _ _ _ _ F2.out hn HG.out).mono ?_
  rintro e w3 ⟨A3, n3, c3, rfl, hl3, hrow3, hb3⟩
  have hn3 : n3 ≤ 5 := by omega
  have HL3 := Lib.hid hl3
  have CW3 := Lib.hid (CR.new hrow3 v1)
  have CA3 := Lib.hid ((CA2.out.below hb3).alloc (.cells #[.int .i64 v1, .slice A3 n3 c3] 25))
  have B3 := Lib.hid ((B2.out.trans (hb3.mono B2.out.size)))
  have s3 := hb3.size
  clear hrow3 hb3 hl3 F2 CA2
  have q0 := CA3.out.c0
  have q1 := CA3.out.c1
  go_wp2_with fail
  refine (toChain_any _ _ _ _ l _ CA3.out.wide hn HG.out).mono ?_
  rintro e w4 ⟨A4, n4, c4, rfl, hl4, hrow4, hb4⟩
  obtain rfl : n4 = n2 := by rw [← hl4]; exact HL.out
  have CX4 := Lib.hid (CR.new hrow4 view)
  have CA4 := Lib.hid ((CA3.out.below hb4).alloc (.cells #[.int .i64 view, .slice A4 n4 c4] 25))
  have CW4 := Lib.hid ((CW3.out.below hb4).alloc (.cells #[.int .i64 view, .slice A4 n4 c4] 25))
  have s4 := hb4.size
  simp only [World.size_alloc] at s4
  have B4 := Lib.hid (((B3.out.alloc B3.out.size (.cells #[.int .i64 v1, .slice A3 n3 c3] 25)).trans (hb4.mono (by simp; have := B3.out.size; omega))))
  clear hrow4 hb4 hl4 q0 q1 CA3 CW3
  have q0 := CX4.out.ci.c0
  have q1 := CX4.out.ci.c1
  go_wp2_with fail
  refine (IM.out _ _ _ _ CX4.out.ci.wide hn HG.out).mono ?_
  rintro e w5 ⟨A5, n5, c5, rfl, hl5, hrow5, hb5⟩
  obtain rfl : n5 = n3 := by rw [← hl5]; exact HL3.out
  have CG5 := Lib.hid (CR.new hrow5 v1)
  have CX5 := Lib.hid ((CX4.out.below hb5).alloc (.cells #[.int .i64 v1, .slice A5 n5 c5] 25))
  have CA5 := Lib.hid ((CA4.out.below hb5).alloc (.cells #[.int .i64 v1, .slice A5 n5 c5] 25))
  have CW5 := Lib.hid ((CW4.out.below hb5).alloc (.cells #[.int .i64 v1, .slice A5 n5 c5] 25))
  have s5 := hb5.size
  simp only [World.size_alloc] at s5
  have B5 := Lib.hid (((B4.out.alloc B4.out.size (.cells #[.int .i64 view, .slice A4 n4 c4] 25)).trans (hb5.mono (by simp; have := B4.out.size; omega))).alloc (by have := B4.out.size; omega) (.cells #[.int .i64 v1, .slice A5 n5 c5] 25))
  clear hrow5 hb5 hl5 q0 q1 CA4 CW4 CX4
  have q0 := CG5.out.ci.c0
  have q1 := CG5.out.ci.c1
  have r0 := CW5.out.ci.c0
  have r1 := CW5.out.ci.c1
  have hn5 : n5 ≤ 1048576 := by omega
  go_wp2_with fail
  refine (eqChain_same v1 _ _ _ _ _ l1 _ CG5.out.ci.wide CW5.out.ci.wide hn5 HG1.out).mono ?_
  rintro e w6 ⟨rfl, hb6⟩
  have CG6 := Lib.hid (CG5.out.below hb6).drew
  have CX6 := Lib.hid (CX5.out.below hb6).drew
  have CA6 := Lib.hid (CA5.out.below hb6).drew
  have CW6 := Lib.hid (CW5.out.below hb6).drew
  have s6 := hb6.size
  simp only [World.size_alloc] at s6
  have B6 := Lib.hid (B5.out.trans (hb6.mono (by have := B5.out.size; omega))).drew
  clear hb6 q0 q1 r0 r1 CG5 CX5 CA5 CW5
  have q0 : w6.cell? ⟨w.heap.size, 0, none⟩ = _ := CA6.out.c0
  have q1 : w6.cell? ⟨w.heap.size, 1, none⟩ = _ := CA6.out.c1
  have r0 : w6.cell? ⟨w4.heap.size, 0, none⟩ = _ := CX6.out.ci.c0
  have r1 : w6.cell? ⟨w4.heap.size, 1, none⟩ = _ := CX6.out.ci.c1
  go_wp2_with fail
  go_region_held3 (fun V => V.cell? ⟨w4.heap.size, 0, none⟩ = some (.int .i64 view) ∧ V.cell? ⟨w4.heap.size, 1, none⟩ = some (.slice A4 n4 c4) ∧ V.cell? ⟨w.heap.size, 0, none⟩ = some (.int .i64 view) ∧ V.cell? ⟨w.heap.size, 1, none⟩ = some (.slice A n4 c)) (go_keep)
    ((first
      | (go_at_call 23; (with_reducible refine (toChain_any _ _ _ _ l _ CA6.out.wide hn HG.out).mono ?_); rintro e w7 ⟨A7, n7, c7, rfl, hl7, hrow7, hb7⟩; obtain rfl : n7 = n4 := by rw [← hl7]; exact HL.out
         have F7 := Lib.hid (hrow7.nods'.2.mono (Nat.zero_le _) (Nat.le_refl _)); have CG7 := Lib.hid (CG6.out.below hb7); have CW7 := Lib.hid (CW6.out.below hb7); have B7 := Lib.hid (B6.out.trans (hb7.mono B6.out.size)); have ca := CA6.out.below hb7; have cx := CX6.out.below hb7; have t0 := ca.c0; have u0 := ca.c1; have t2 := cx.ci.c0; have u2 := cx.ci.c1; have CA7 := Lib.hid ca; have CX7 := Lib.hid cx; have s7 := hb7.size; clear hrow7 hb7 hl7 ca cx)
      | (go_at_call 24; (with_reducible refine (eqChain_same _ _ _ _ _ _ l _ CX7.out.ci.wide F7.out hn HG.out).mono ?_); rintro e w8 ⟨rfl, hb8⟩; have CG8 := Lib.hid (CG7.out.below hb8); have CW8 := Lib.hid (CW7.out.below hb8); have B8 := Lib.hid (B7.out.trans (hb8.mono B7.out.size)); have ca := CA7.out.below hb8; have cx := CX7.out.below hb8; have t0 := ca.c0; have u0 := ca.c1; have t2 := cx.ci.c0; have u2 := cx.ci.c1; have CA8 := Lib.hid ca; have CX8 := Lib.hid cx; have s8 := hb8.size; clear hb8 ca cx)))
  clear CA7 CX7 CG7 CW7 CA6 CX6 CG6 CW6 F7
  have q0 := CX8.out.ci.c0
  have q1 := CX8.out.ci.c1
  obtain ⟨kv, hkv⟩ : ∃ v, mk 1 l n7 = v := ⟨_, rfl⟩
  have KV := Lib.hid hkv
  have kv1 : 1 ≤ kv := by rw [← hkv]; exact (MB.out n7).1
  have kv0 : ¬ kv < 0 := by omega
  clear hkv
  go_wp2_with fail
  refine (markChain_any _ _ view _ _ _ l 1 _ CX8.out.row CX8.out.his' hn HG.out (by omega) (by omega)).mono ?_
  rintro e w9 ⟨rfl, hr9, hk9⟩
  rw [KV.out]
  have CG9 := Lib.hid (CG8.out.kept hk9 (.inr ⟨by simp, by omega⟩))
  have CW9 := Lib.hid (CW8.out.kept hk9 (.inl (by simp)))
  have CA9 := Lib.hid (CA8.out.kept hk9 (.inl (by have := B3.out.size; simp; omega)))
  have B9 := Lib.hid (B8.out.trans (hk9.below (by have := B3.out.size; simp; omega) B8.out.size))
  clear hr9 hk9 q0 q1 CX8 CG8 CW8 CA8
  have q0 := CG9.out.ci.c0
  have q1 := CG9.out.ci.c1
  have r0 := CW9.out.ci.c0
  have r1 := CW9.out.ci.c1
  go_wp2_with fail
  refine (eqChain_same v1 _ _ _ _ _ l1 _ CG9.out.ci.wide CW9.out.ci.wide hn5 HG1.out).mono ?_
  rintro e w10 ⟨rfl, hb10⟩
  have CG10 := Lib.hid (CG9.out.below hb10)
  have CA10 := Lib.hid (CA9.out.below hb10)
  have CW10 := Lib.hid (CW9.out.below hb10)
  have B10 := Lib.hid (B9.out.trans (hb10.mono B9.out.size))
  clear hb10 q0 q1 r0 r1 CG9 CA9 CW9
  have q0 := CG10.out.ci.c0
  have q1 := CG10.out.ci.c1
  obtain ⟨mv, hmv⟩ : ∃ v, mk 1 l1 n5 = v := ⟨_, rfl⟩
  have MV := Lib.hid hmv
  have mv1 : 1 ≤ mv := by rw [← hmv]; exact (MB1.out n5).1
  have mv0 : ¬ mv < 0 := by omega
  have mvv : (mv != mv) = false := by simp
  clear hmv
  go_wp2_with fail
  refine (markChain_any _ _ v1 _ _ _ l1 1 _ CG10.out.row CG10.out.his' hn5 HG1.out (by omega) (by omega)).mono ?_
  rintro e w11 ⟨rfl, hr11, hk11⟩
  rw [MV.out]
  have CG11 := Lib.hid (CG10.out.mark hr11 hk11)
  have CW11 := Lib.hid (CW10.out.kept hk11 (.inl (by simp; omega)))
  have CA11 := Lib.hid (CA10.out.kept hk11 (.inl (by have := B4.out.size; simp; omega)))
  have B11 := Lib.hid (B10.out.trans (hk11.below (by have := B4.out.size; simp; omega) B10.out.size))
  clear hr11 hk11 q0 q1 CG10 CW10 CA10
  have q0 := CG11.out.ci.c0
  have q1 := CG11.out.ci.c1
  go_wp2_with fail
  refine (heldChain_marks v1 _ _ _ l1 1 _ CG11.out.ci.wide hn5 HG1.out (by omega) (by omega)).mono ?_
  rintro e w12 ⟨rfl, hb12⟩
  rw [MV.out]
  have CG12 := Lib.hid (CG11.out.below hb12)
  have CA12 := Lib.hid (CA11.out.below hb12)
  have CW12 := Lib.hid (CW11.out.below hb12)
  have B12 := Lib.hid (B11.out.trans (hb12.mono B11.out.size))
  clear hb12 q0 q1 CG11 CA11 CW11
  have q0 := CA12.out.c0
  have q1 := CA12.out.c1
  go_wp2_with fail
  refine (toChain_any _ _ _ _ l _ CA12.out.wide hn HG.out).mono ?_
  rintro e w13 ⟨A13, n13, c13, rfl, hl13, hrow13, hb13⟩
  obtain rfl : n13 = n7 := by rw [← hl13]; exact HL.out
  have F13 := Lib.hid (hrow13.nods'.2.mono (Nat.zero_le _) (Nat.le_refl _))
  have CG13 := Lib.hid (CG12.out.below hb13)
  have CW13 := Lib.hid (CW12.out.below hb13)
  have B13 := Lib.hid (B12.out.trans (hb13.mono B12.out.size))
  clear hrow13 hb13 hl13 q0 q1 CG12 CA12 CW12
  go_wp2_with fail
  refine (IM.out _ _ _ _ F13.out hn HG.out).mono ?_
  rintro e w14 ⟨A14, n14, c14, rfl, hl14, hrow14, hb14⟩
  obtain rfl : n14 = n5 := by rw [← hl14]; exact HL3.out
  have CH14 := Lib.hid (CR.new hrow14 v1)
  have CG14 := Lib.hid ((CG13.out.below hb14).alloc (.cells #[.int .i64 v1, .slice A14 n14 c14] 25))
  have CW14 := Lib.hid ((CW13.out.below hb14).alloc (.cells #[.int .i64 v1, .slice A14 n14 c14] 25))
  have B14 := Lib.hid ((B13.out.trans (hb14.mono B13.out.size)).alloc (by have := B13.out.size; have := hb14.size; omega) (.cells #[.int .i64 v1, .slice A14 n14 c14] 25))
  clear hrow14 hb14 hl14 CG13 CW13 F13
  have q0 := CH14.out.ci.c0
  have q1 := CH14.out.ci.c1
  have r0 := CW14.out.ci.c0
  have r1 := CW14.out.ci.c1
  go_wp2_with fail
  refine (eqChain_same v1 _ _ _ _ _ l1 _ CH14.out.ci.wide CW14.out.ci.wide hn5 HG1.out).mono ?_
  rintro e w15 ⟨rfl, hb15⟩
  have CG15 := Lib.hid (CG14.out.below hb15)
  have B15 := Lib.hid (B14.out.trans (hb15.mono B14.out.size))
  clear hb15 q0 q1 r0 r1 CG14 CW14 CH14
  have q0 := CG15.out.ci.c0
  have q1 := CG15.out.ci.c1
  go_wp2_with fail
  refine (heldChain_marks v1 _ _ _ l1 1 _ CG15.out.ci.wide hn5 HG1.out (by omega) (by omega)).mono ?_
  rintro e w16 ⟨rfl, hb16⟩
  rw [MV.out]
  have B16 := Lib.hid (B15.out.trans (hb16.mono B15.out.size))
  clear hb16
  go_wp2_with fail
  go_ret
  exact ⟨rfl, B16.out⟩
end Go.Proofs.Ytcomppiglhibkaa
/- 'Rows.FnExactChainSettleSaid': the law returns true for every input, on every tape, free of races, and each argument reads behind the call as it read before; no condition. The walk is exChainSettle_walk; here it is carried from the model over to the true program and lifted into the given row. -/
namespace Go.Proofs.Ytcomppiglhibkaa.fnExactChainSettle
open Go Go.Conc Go.ChangeShapes Go.WideShapes Go.ChangeAt Go.RowKit
set_option linter.unusedVariables false

set_option maxRecDepth 100000 in
theorem lifted (os : Os) (started : os.Started) (H : Type) (enc : TypeId × Value → H) :
    ReturnsInLeavingWide {} Try.checked os 7 .any (Rows.fnExactChainSettleSpec.pre6 enc Try.prog Try.f7 Rows.fnExactChainSettleRow.domain false) (Rows.fnExactChainSettleSpec.post enc Try.prog Try.f7 false true false false) := by
  refine returnsInLeavingWide_of_change_sized (C := Try.checked) ownK started Try.func7
    (ChangeSpec.witness6 (enc := enc) (C := Try.checked) false ⟨#[], #[.agg #[.int .i64 0, .slice none 0 0]], []⟩ 8 (by kernel_rfl) (by kernel_rfl) (by kernel_rfl) (by kernel_rfl)) ?_
  intro W base args ds gs before hval0 hW hcnd _ _
  have hval : ∀ (j : Nat) t v, Try.f7.params[j]? = some t → args[j]? = some v → Value.okWide Try.prog W .any base t v := hval0
  have hW' := hW
  obtain ⟨p, q, hA0, hV, rfl, hfz, hnd⟩ := hW
  have hA : DataW.TrodAll enc Try.prog W 0 (fun _ => true) true Try.f7.params.toList args.toList ds p := hA0
  rw [Try.params7] at hA hval
  obtain ⟨v0, vs0, d0, ds0, p0, q0, hargs, rfl, rfl, h0, r0⟩ := trodAll_cons hA
  obtain ⟨rfl, rfl, rfl⟩ := trodAll_nil r0
  obtain rfl : args = #[v0] := by cases args; simp_all
  obtain ⟨rfl, rfl⟩ := trodVars_none hV
  have k0 := h0
  have lt0 : ∀ x ∈ p0, x.block < W.heap.size := by obtain ⟨m, hm⟩ := k0; exact DataW.trod_lt m _ _ _ hm
  obtain ⟨view0, A0, n0, c0, l0, rfl, f0⟩ := reads_chain (hval 0 47 v0 rfl rfl) h0
  clear hA0 hval0
  obtain ⟨M, last, o, w', t', e1, e2, e3, e4⟩ := mo_run fmo7 (by kernel_rfl) (by decide) (by kernel_rfl) #[.agg #[.int .i64 view0, .slice A0 n0 c0]] W (fun w hw => exChainSettle_walk view0 A0 n0 c0 l0 w (brk_nods hw f0))
  refine ⟨M, last, o, w', t', e1, e2, e3, e4.mono fun v hp => ?_⟩
  obtain ⟨rfl, bel⟩ := hp
  exact ⟨_, _, _, [], _, [], hW', trodAll_mk1 (shut_bool Try.underlying4 _), (trodAll_cons_mk (BelowT.trod laidOut (by kernel_rfl) (of_decide_eq_true (by kernel_rfl)) k0 bel lt0) trodAll_mk0), rfl, bel.frame _, fun h => by cases h⟩

theorem over : Rows.fnExactChainSettleRow.holds Try.pinned (OpenSpec.ofChange Rows.fnExactChainSettleSpec) :=
  OpenClaim.holds_of_wide_leaving 7 Try.f7 rfl rfl rfl rfl rfl rfl rfl ⟨rfl, rfl, rfl, rfl, rfl⟩ rfl rfl rfl rfl rfl (by kernel_rfl) Try.func7 (by kernel_rfl)
    (of_decide_eq_true (by kernel_rfl)) (by unfold Func.isWrapper; first | (rw [if_pos (by decide +kernel)]; kernel_rfl) | (rw [if_neg (by decide +kernel)]; exact ⟨rfl, rfl⟩))
    (fun os started H enc _ => lifted os started H enc)

theorem proved : Rows.FnExactChainSettleSaid := over
#print axioms proved
end Go.Proofs.Ytcomppiglhibkaa.fnExactChainSettle
