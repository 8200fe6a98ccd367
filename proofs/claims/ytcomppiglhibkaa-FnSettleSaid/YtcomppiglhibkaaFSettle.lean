/- The texts LSettle ClaimSettle, joined. -/
import Derived.Conc.LeavingOf
import Derived.Test.YtcomppiglhibkaaC1
import Derived.Test.YtcomppiglhibkaaB4
import Derived.Test.YtcomppiglhibkaaB1
/- The walk of a law on settling (laws.FnSettle): it returns true, and writes nothing that was there. Printed by genlawst.py. -/
namespace Go.Proofs.Ytcomppiglhibkaa
open Go.RowKit Go.Sort

set_option maxRecDepth 100000 in
set_option maxHeartbeats 16000000 in
theorem settle_walk (A : Option Addr) (n c : Nat) (l : List Int) (w : World) (h : Flat encU8 1 w 0 w.heap.size A n c l) (hl : ∀ x ∈ l, 0 ≤ x ∧ x ≤ 255) :
    Calls Mo.prog 3 #[.slice A n c] w fun e w' => e = .returned (.bool true) ∧ Below w.heap.size w w' := by
  have H := Lib.hid h
  have HL := Lib.hid hl
  clear h hl
  by_cases hn : 1048576 < n
  · go_enter Mo.func3, Try.ntmps3
    go_wp2
    go_ret
    exact ⟨rfl, Below.refl _ _⟩
  go_enter Mo.func3, Try.ntmps3
  go_wp2_with fail
  refine (drawChainSettle_any _ _ _ l _ H.out HL.out).mono ?_
  rintro e w1 ⟨view, A1, n1, c1, r, rfl, h1, h2, h3, h4, h6, hb1⟩
  obtain ⟨hn1, hl1⟩ := nods_ok h1 h3 h4
  have HG := Lib.hid hl1
  have M1 := Lib.hid h1
  have Vc := Lib.hid (Var.row h6 view)
  have HB := Lib.hid (hb1.alloc hb1.size (.cells #[.int .i64 view, .slice A1 n1 c1] 25))
  clear h1 h4 h6 hb1 H HL hl1
  cases hok : chainOk view r
  · have HO := Lib.hid (settle_bad hok)
    clear hok
    go_wp2_with fail
    refine (chainSettle_any view _ _ _ r _ Vc.out.nods hn1 HG.out).mono ?_
    rintro e w2 hq
    obtain ⟨A2, c2, rfl, hq2, hb⟩ := hq.not HO.out
    clear hq
    have Nc := Lib.hid (Vc.out.on hb)
    have NB := Lib.hid (HB.out.trans (hb.mono HB.out.size))
    clear hb HB Vc
    have Vc := Lib.hid Nc.out
    clear Nc
    have HB := Lib.hid NB.out
    clear NB
    have fc0 := Vc.out.c0
    have fc1 := Vc.out.c1
    have fcl := Vc.out.lt
    have Nc := Lib.hid (Vc.out.alloc (.cells #[.int .i64 0, .slice A2 0 c2] 25))
    have No := Lib.hid (Var.new hq2 0)
    have NB := Lib.hid (HB.out.alloc HB.out.size (.cells #[.int .i64 0, .slice A2 0 c2] 25))
    clear hq2
    clear HB Vc
    have Vc := Lib.hid Nc.out
    clear Nc
    have Vo := Lib.hid No.out
    clear No
    have HB := Lib.hid NB.out
    clear NB
    go_wp2_with fail
    refine (specChainSettle_any view _ _ _ r _ Vc.out.nods hn1 HG.out).mono ?_
    rintro e w3 hq
    obtain ⟨A3, c3, rfl, hq2, hb⟩ := hq.not HO.out
    clear hq
    clear fc0 fc1 fcl
    have Nc := Lib.hid (Vc.out.on hb)
    have No := Lib.hid (Vo.out.on hb)
    have NB := Lib.hid (HB.out.trans (hb.mono HB.out.size))
    clear hb HB Vc Vo
    have Vc := Lib.hid Nc.out
    clear Nc
    have Vo := Lib.hid No.out
    clear No
    have HB := Lib.hid NB.out
    clear NB
    have fc0 := Vc.out.c0
    have fc1 := Vc.out.c1
    have fcl := Vc.out.lt
    have fo0 := Vo.out.c0
    have fo1 := Vo.out.c1
    have fol := Vo.out.lt
    have Nc := Lib.hid (Vc.out.alloc (.cells #[.int .i64 0, .slice A3 0 c3] 25))
    have No := Lib.hid (Vo.out.alloc (.cells #[.int .i64 0, .slice A3 0 c3] 25))
    have Nw := Lib.hid (Var.new hq2 0)
    have NB := Lib.hid (HB.out.alloc HB.out.size (.cells #[.int .i64 0, .slice A3 0 c3] 25))
    clear hq2
    clear HB Vc Vo
    have Vc := Lib.hid Nc.out
    clear Nc
    have Vo := Lib.hid No.out
    clear No
    have Vw := Lib.hid Nw.out
    clear Nw
    have HB := Lib.hid NB.out
    clear NB
    go_wp2_with fail
    refine (sameChain_same 0 _ _ 0 _ _ [] _ Vo.out.nods Vw.out.nods (by omega) (fun x h => by cases h)).mono ?_
    rintro e w4 ⟨rfl, hb⟩
    clear fc0 fc1 fcl fo0 fo1 fol
    have Nc := Lib.hid (Vc.out.on hb)
    have No := Lib.hid (Vo.out.on hb)
    have Nw := Lib.hid (Vw.out.on hb)
    have NB := Lib.hid (HB.out.trans (hb.mono HB.out.size))
    clear hb HB Vc Vo Vw
    have Vc := Lib.hid Nc.out
    clear Nc
    have Vo := Lib.hid No.out
    clear No
    have Vw := Lib.hid Nw.out
    clear Nw
    have HB := Lib.hid NB.out
    clear NB
    have fc0 := Vc.out.c0
    have fc1 := Vc.out.c1
    have fcl := Vc.out.lt
    have fo0 := Vo.out.c0
    have fo1 := Vo.out.c1
    have fol := Vo.out.lt
    have fw0 := Vw.out.c0
    have fw1 := Vw.out.c1
    have fwl := Vw.out.lt
    go_wp2_with fail
    refine (sameChain_same 0 _ _ 0 _ _ [] _ Vo.out.nods Vw.out.nods (by omega) (fun x h => by cases h)).mono ?_
    rintro e w5 ⟨rfl, hb⟩
    clear fc0 fc1 fcl fo0 fo1 fol fw0 fw1 fwl
    have Nc := Lib.hid (Vc.out.on hb)
    have No := Lib.hid (Vo.out.on hb)
    have Nw := Lib.hid (Vw.out.on hb)
    have NB := Lib.hid (HB.out.trans (hb.mono HB.out.size))
    clear hb HB Vc Vo Vw
    have Vc := Lib.hid Nc.out
    clear Nc
    have Vo := Lib.hid No.out
    clear No
    have Vw := Lib.hid Nw.out
    clear Nw
    have HB := Lib.hid NB.out
    clear NB
    have fc0 := Vc.out.c0
    have fc1 := Vc.out.c1
    have fcl := Vc.out.lt
    have fo0 := Vo.out.c0
    have fo1 := Vo.out.c1
    have fol := Vo.out.lt
    have fw0 := Vw.out.c0
    have fw1 := Vw.out.c1
    have fwl := Vw.out.lt
    go_wp2
    go_ret
    exact ⟨rfl, HB.out⟩
  obtain ⟨p, hp⟩ : ∃ p : Nat, pot r = p := ⟨_, rfl⟩
  have hgr := good_iff.1 hok
  have GG := Lib.hid hgr
  have HO := Lib.hid (settle_good hgr hp)
  have HPOT := Lib.hid hp
  have hp0 : ¬ ((p : Int) < 0) := by omega
  have GS := Lib.hid (good_settled hgr)
  have hn1p : 0 < n1 := by have := hgr.2.2.1; have := M1.out; omega
  clear hok hgr hp
  go_wp2_with fail
  refine (chainSettle_any view _ _ _ r _ Vc.out.nods hn1 HG.out).mono ?_
  rintro e w2 hq
  obtain ⟨A2, n2, c2, rfl, hq1, hq2, hb⟩ := hq.yes HO.out
  clear hq
  have MLo := Lib.hid hq1
  clear hq1
  have Nc := Lib.hid (Vc.out.on hb)
  have NB := Lib.hid (HB.out.trans (hb.mono HB.out.size))
  clear hb HB Vc
  have Vc := Lib.hid Nc.out
  clear Nc
  have HB := Lib.hid NB.out
  clear NB
  have fc0 := Vc.out.c0
  have fc1 := Vc.out.c1
  have fcl := Vc.out.lt
  have Nc := Lib.hid (Vc.out.alloc (.cells #[.int .i64 view, .slice A2 n2 c2] 25))
  have No := Lib.hid (Var.new hq2 view)
  have NB := Lib.hid (HB.out.alloc HB.out.size (.cells #[.int .i64 view, .slice A2 n2 c2] 25))
  clear hq2
  clear HB Vc
  have Vc := Lib.hid Nc.out
  clear Nc
  have Vo := Lib.hid No.out
  clear No
  have HB := Lib.hid NB.out
  clear NB
  go_wp2_with fail
  refine (specChainSettle_any view _ _ _ r _ Vc.out.nods hn1 HG.out).mono ?_
  rintro e w3 hq
  obtain ⟨A3, n3, c3, rfl, hq1, hq2, hb⟩ := hq.yes HO.out
  clear hq
  have MLw := Lib.hid hq1
  clear hq1
  clear fc0 fc1 fcl
  have Nc := Lib.hid (Vc.out.on hb)
  have No := Lib.hid (Vo.out.on hb)
  have NB := Lib.hid (HB.out.trans (hb.mono HB.out.size))
  clear hb HB Vc Vo
  have Vc := Lib.hid Nc.out
  clear Nc
  have Vo := Lib.hid No.out
  clear No
  have HB := Lib.hid NB.out
  clear NB
  have fc0 := Vc.out.c0
  have fc1 := Vc.out.c1
  have fcl := Vc.out.lt
  have fo0 := Vo.out.c0
  have fo1 := Vo.out.c1
  have fol := Vo.out.lt
  have Nc := Lib.hid (Vc.out.alloc (.cells #[.int .i64 view, .slice A3 n3 c3] 25))
  have No := Lib.hid (Vo.out.alloc (.cells #[.int .i64 view, .slice A3 n3 c3] 25))
  have Nw := Lib.hid (Var.new hq2 view)
  have NB := Lib.hid (HB.out.alloc HB.out.size (.cells #[.int .i64 view, .slice A3 n3 c3] 25))
  clear hq2
  obtain rfl : n3 = n2 := by rw [← MLo.out, ← MLw.out]
  clear HB Vc Vo
  have Vc := Lib.hid Nc.out
  clear Nc
  have Vo := Lib.hid No.out
  clear No
  have Vw := Lib.hid Nw.out
  clear Nw
  have HB := Lib.hid NB.out
  clear NB
  obtain rfl : n1 = n3 := by rw [← M1.out, ← MLo.out]; exact GS.out.2.2.symm
  have HG2 := Lib.hid (good_logs GS.out.1)
  go_wp2_with fail
  refine (sameChain_same view _ _ n1 _ _ (settledM r) _ Vo.out.nods Vw.out.nods hn1 HG2.out).mono ?_
  rintro e w4 ⟨rfl, hb⟩
  clear fc0 fc1 fcl fo0 fo1 fol
  have Nc := Lib.hid (Vc.out.on hb)
  have No := Lib.hid (Vo.out.on hb)
  have Nw := Lib.hid (Vw.out.on hb)
  have NB := Lib.hid (HB.out.trans (hb.mono HB.out.size))
  clear hb HB Vc Vo Vw
  have Vc := Lib.hid Nc.out
  clear Nc
  have Vo := Lib.hid No.out
  clear No
  have Vw := Lib.hid Nw.out
  clear Nw
  have HB := Lib.hid NB.out
  clear NB
  have fc0 := Vc.out.c0
  have fc1 := Vc.out.c1
  have fcl := Vc.out.lt
  have fo0 := Vo.out.c0
  have fo1 := Vo.out.c1
  have fol := Vo.out.lt
  have fw0 := Vw.out.c0
  have fw1 := Vw.out.c1
  have fwl := Vw.out.lt
  clear Vw MLw fw0 fw1 fwl
  have p1' : (0 : Int) < (n1 : Int) := by omega
  obtain ⟨b, off, x, A5, m5, d5, hA, _, hbB, hx, _, c5, _, hf⟩ := Vc.out.nods.nod (k := 0) hn1p
  obtain ⟨b', off', y, A6, m6, d6, hA', _, hbB', hy, _, c6, _, hf'⟩ := Vo.out.nods.nod (k := 0) hn1p
  subst hA; subst hA'
  have hxl : x.log = hd r := (hd_at hx).symm
  have hyl : y.log = hd r := by rw [← hd_at hy]; exact GS.out.2.1
  have hm5 : m5 ≤ 1048576 := by have := hf.len; have := HG.out x (List.mem_of_getElem? hx); omega
  obtain rfl : m6 = m5 := by rw [← hf.len, ← hf'.len, hxl, hyl]
  rw [hxl] at hf
  rw [hyl] at hf'
  simp only [Nat.zero_mul, Nat.add_zero] at c5 c6
  have T1 := Lib.hid (show ∀ (q : Nat) (os : Array Obj), Calls Mo.prog 12 #[.agg #[.int .i64 view, .slice (some ⟨b', off', none⟩) n1 c2]] (grow (redrawn w4 q) os) fun e w' => e = .returned (.bool true) ∧ Below (grow (redrawn w4 q) os).heap.size (grow (redrawn w4 q) os) w' from fun q os => by
    have hc := chainQuiet_any view _ _ _ (settledM r) (grow (redrawn w4 q) os) (Vo.out.nods.on (below_regrown w4 q os)) hn1 HG2.out
    rwa [quiet_settled GG.out] at hc)
  have T2 := Lib.hid (show ∀ (q : Nat) (os : Array Obj), Calls Mo.prog 13 #[.slice A6 m6 d6, .slice A5 m6 d5] (grow (redrawn w4 q) os) fun e w' => e = .returned (.bool true) ∧ Below (grow (redrawn w4 q) os).heap.size (grow (redrawn w4 q) os) w' from fun q os =>
    sameLog_same A6 A5 m6 d6 d5 (hd r) _ (hf'.on (below_regrown w4 q os)) (hf.on (below_regrown w4 q os)) hm5)
  have d0 := cell_regrown fc0
  have d1 := cell_regrown fc1
  have d2 := cell_regrown fo0
  have d3 := cell_regrown fo1
  have d4 := cell_regrown c5
  have d6' := cell_regrown c6
  clear hx hf hy hf' hxl hyl
  go_wp2_with fail
  refine wp_region_quiet_below (by kernel_rfl) (by kernel_rfl) ?_
  repeat (go_big_quiet_step ((first | (go_at_call 12; with_reducible exact Calls.regrown_of (T1.out _ _)) | (go_at_call 13; with_reducible exact Calls.regrown_of (T2.out _ _)))))
  refine wpQuiet_nil ?_
  intro w5 hw5
  have hb := Lib.hid (below_of_regrown hw5)
  clear hw5 d0 d1 d2 d3 d4 d6'
  go_wp2
  go_ret
  exact ⟨rfl, HB.out.trans (hb.out.mono HB.out.size)⟩
end Go.Proofs.Ytcomppiglhibkaa
/- 'Rows.FnSettleSaid': the law returns true for every input, on every tape, race-free, and each argument reads behind the call as it read before; no condition. The walk over the model is settle_walk; here it is carried over to the true program and lifted into the given row. -/
namespace Go.Proofs.Ytcomppiglhibkaa.fnSettle
open Go Go.Conc Go.ChangeShapes Go.WideShapes Go.ChangeAt Go.RowKit
set_option linter.unusedVariables false

set_option maxRecDepth 100000 in
theorem lifted (os : Os) (started : os.Started) (H : Type) (enc : TypeId × Value → H) :
    ReturnsInLeavingWide {} Try.checked os 3 .any (Rows.fnSettleSpec.pre6 enc Try.prog Try.f3 Rows.fnSettleRow.domain false) (Rows.fnSettleSpec.post enc Try.prog Try.f3 false true false false) := by
  refine returnsInLeavingWide_of_change_sized (C := Try.checked) ownK started Try.func3
    (ChangeSpec.witness6 (enc := enc) (C := Try.checked) false ⟨#[], #[.slice none 0 0], []⟩ 8 (by kernel_rfl) (by kernel_rfl) (by kernel_rfl) (by kernel_rfl)) ?_
  intro W base args ds gs before hval0 hW hcnd _ _
  have hval : ∀ (j : Nat) t v, Try.f3.params[j]? = some t → args[j]? = some v → Value.okWide Try.prog W .any base t v := hval0
  have hW' := hW
  obtain ⟨p, q, hA0, hV, rfl, hfz, hnd⟩ := hW
  have hA : DataW.TrodAll enc Try.prog W 0 (fun _ => true) true Try.f3.params.toList args.toList ds p := hA0
  rw [Try.params3] at hA hval
  obtain ⟨v0, vs0, d0, ds0, p0, q0, hargs, rfl, rfl, h0, r0⟩ := trodAll_cons hA
  obtain ⟨rfl, rfl, rfl⟩ := trodAll_nil r0
  obtain rfl : args = #[v0] := by cases args; simp_all
  obtain ⟨rfl, rfl⟩ := trodVars_none hV
  have k0 := h0
  have lt0 : ∀ x ∈ p0, x.block < W.heap.size := by obtain ⟨m, hm⟩ := k0; exact DataW.trod_lt m _ _ _ hm
  obtain ⟨A0, n0, c0, l0, rfl, f0, g0⟩ := reads_bytes (hval 0 22 v0 rfl rfl) h0
  clear hA0 hval0
  obtain ⟨M, last, o, w', t', h1, h2, h3, h4⟩ := mo_run fmo3 (by kernel_rfl) (by decide) (by kernel_rfl) #[.slice A0 n0 c0] W (fun w hw => settle_walk A0 n0 c0 l0 w (brk_flat hw f0) g0)
  refine ⟨M, last, o, w', t', h1, h2, h3, h4.mono fun v hp => ?_⟩
  obtain ⟨rfl, bel⟩ := hp
  exact ⟨_, _, _, [], _, [], hW', trodAll_mk1 (shut_bool Try.underlying4 _), (trodAll_cons_mk (BelowT.trod laidOut (by kernel_rfl) (of_decide_eq_true (by kernel_rfl)) k0 bel lt0) trodAll_mk0), rfl, bel.frame _, fun h => by cases h⟩

theorem over : Rows.fnSettleRow.holds Try.pinned (OpenSpec.ofChange Rows.fnSettleSpec) :=
  OpenClaim.holds_of_wide_leaving 3 Try.f3 rfl rfl rfl rfl rfl rfl rfl ⟨rfl, rfl, rfl, rfl, rfl⟩ rfl rfl rfl rfl rfl (by kernel_rfl) Try.func3 (by kernel_rfl)
    (of_decide_eq_true (by kernel_rfl)) (by unfold Func.isWrapper; first | (rw [if_pos (by decide +kernel)]; kernel_rfl) | (rw [if_neg (by decide +kernel)]; exact ⟨rfl, rfl⟩))
    (fun os started H enc _ => lifted os started H enc)

theorem proved : Rows.FnSettleSaid := over
#print axioms proved
end Go.Proofs.Ytcomppiglhibkaa.fnSettle
