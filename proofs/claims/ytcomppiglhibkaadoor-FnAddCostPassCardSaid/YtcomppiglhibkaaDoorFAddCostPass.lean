/- The texts LAddCostPass ClaimAddCostPass, joined. -/
import Derived.Test.YtcomppiglhibkaaDoorC1
import Derived.Test.YtcomppiglhibkaaDoorP1
import Derived.Test.YtcomppiglhibkaaDoorB1
import Derived.Test.YtcomppiglhibkaaDoorL1
import Derived.Test.YtcomppiglhibkaaDoorB4
/- The walk of a law on putting (laws.FnAddCostPass): it returns true, and writes nothing that was there. Printed by genlawsp.py. -/
namespace Go.Proofs.YtcomppiglhibkaaDoor
open Go.RowKit Go.Sort

set_option maxRecDepth 100000 in
set_option maxHeartbeats 16000000 in
theorem addCostPass_walk (A : Option Addr) (n c : Nat) (l : List Int) (a : Addr) (w : World) (he : ErrAt a w) (h : Flat encU8 1 w 0 w.heap.size A n c l) (hl : ∀ x ∈ l, 0 ≤ x ∧ x ≤ 255) :
    Calls Mo.prog 3 #[.slice A n c] w fun e w' => e = .returned (.bool true) ∧ Below w.heap.size w w' := by
  have H := Lib.hid h
  have HL := Lib.hid hl
  have HE := Lib.hid he
  clear h hl he
  by_cases hn : 1048576 < n
  · go_enter Mo.func3, Tryd.ntmps3
    go_wp2
    go_ret
    exact ⟨rfl, Below.refl _ _⟩
  go_enter Mo.func3, Tryd.ntmps3
  go_wp2_with fail
  refine (drawAddCost_any _ _ _ l _ H.out HL.out).mono ?_
  rintro e w1 ⟨view, A1, n1, c1, r, rfl, h1, h2, h3, h4, h6, hb1⟩
  obtain ⟨hn1, hl1⟩ := nods_ok h1 h3 h4
  have HG := Lib.hid hl1
  have M1 := Lib.hid h1
  have Vc := Lib.hid (Var.row h6 view)
  have HB := Lib.hid (hb1.alloc hb1.size (.cells #[.int .i64 view, .slice A1 n1 c1] 25))
  clear h1 h4 h6 hb1 H HL hl1
  obtain ⟨v1, hv1⟩ : ∃ v1, addCost view r = v1 := ⟨_, rfl⟩
  have HV := Lib.hid hv1
  have e1 : (v1 != v1) = false := by simp
  have e2 : (v1 == v1) = true := by simp
  go_wp2_with fail
  refine (addCost_any view _ _ _ r _ Vc.out.nods hn1 HG.out).mono ?_
  rintro e w2 ⟨rfl, hb⟩
  rw [HV.out]
  have Nc := Lib.hid (Vc.out.on hb)
  have NB := Lib.hid (HB.out.trans (hb.mono HB.out.size))
  clear hb HB Vc
  have Vc := Lib.hid Nc.out
  clear Nc
  have HB := Lib.hid NB.out
  clear NB
  have fc0 := Vc.out.c0
  have fc1 := Vc.out.c1
  have fcl := Vc.out.lt
  go_wp2_with fail
  refine (specAddCost_any view _ _ _ r _ Vc.out.nods hn1 HG.out).mono ?_
  rintro e w3 ⟨rfl, hb⟩
  rw [HV.out]
  clear fc0 fc1 fcl
  have Nc := Lib.hid (Vc.out.on hb)
  have NB := Lib.hid (HB.out.trans (hb.mono HB.out.size))
  clear hb HB Vc
  have Vc := Lib.hid Nc.out
  clear Nc
  have HB := Lib.hid NB.out
  clear NB
  have fc0 := Vc.out.c0
  have fc1 := Vc.out.c1
  have fcl := Vc.out.lt
  cases hok : chainOk view r
  · have hneg : v1 < 0 := by rw [← hv1]; unfold addCost; simp [hok]
    clear hv1 hok
    go_wp2
    go_ret
    exact ⟨rfl, HB.out⟩
  have hgr := good_iff.1 hok
  have hneg : ¬ v1 < 0 := by rw [← hv1]; exact cost_pos hgr
  have HLT := Lib.hid (show v1 ≤ ((hd r).length : Int) by rw [← hv1]; exact cost_le hgr)
  have GG := Lib.hid hgr
  have hn1p : 0 < n1 := by have := hgr.2.2.1; have := M1.out; omega
  clear hv1 hok hgr
  obtain ⟨o, ho⟩ : ∃ o, putM view r ⟨1, 1⟩ = o := ⟨_, rfl⟩
  rcases o with _ | ⟨u, r2⟩
  · have HO := Lib.hid ho
    clear ho
    go_wp2_with fail
    refine (chainPut_any a view _ _ _ r ⟨1, 1⟩ _ (HE.out.below HB.out) Vc.out.nods hn1 HG.out).mono ?_
    rintro e w4 hq
    obtain ⟨A4, c4, rfl, hq2, hb⟩ := hq.not HO.out
    clear hq
    clear fc0 fc1 fcl
    have Nc := Lib.hid (Vc.out.on hb)
    have NB := Lib.hid (HB.out.trans (hb.mono HB.out.size))
    clear hb HB Vc
    have Vc := Lib.hid Nc.out
    clear Nc
    have HB := Lib.hid NB.out
    clear NB
    have fc0 := Vc.out.c0
    have fc1 := Vc.out.c1
    have fcl := Vc.out.lt
    have Nc := Lib.hid (Vc.out.alloc (.cells #[.int .i64 0, .slice A4 0 c4] 25))
    have No := Lib.hid (Var.new hq2 0)
    have NB := Lib.hid (HB.out.alloc HB.out.size (.cells #[.int .i64 0, .slice A4 0 c4] 25))
    clear hq2
    clear HB Vc
    have Vc := Lib.hid Nc.out
    clear Nc
    have Vo := Lib.hid No.out
    clear No
    have HB := Lib.hid NB.out
    clear NB
    go_wp2_with fail
    refine wp_region_quiet_below (by kernel_rfl) (by kernel_rfl) ?_
    repeat (go_big_quiet_step (fail))
    refine wpQuiet_nil ?_
    intro w5 hw5
    have hb := Lib.hid (below_of_regrown hw5)
    clear hw5
    go_wp2
    go_ret
    exact ⟨rfl, HB.out.trans (hb.out.mono HB.out.size)⟩
  have HO := Lib.hid ho
  obtain ⟨_, _, _, e⟩ := put_some ho
  injection e with e1' e2'
  subst e1'; subst e2'
  clear ho
  have HO := HO
  go_wp2_with fail
  refine (chainPut_any a u _ _ _ r ⟨1, 1⟩ _ (HE.out.below HB.out) Vc.out.nods hn1 HG.out).mono ?_
  rintro e w4 hq
  obtain ⟨A4, n4, c4, rfl, hq1, hq2, hb⟩ := hq.yes HO.out
  clear hq
  have MLo := Lib.hid hq1
  clear hq1
  clear fc0 fc1 fcl
  have Nc := Lib.hid (Vc.out.on hb)
  have NB := Lib.hid (HB.out.trans (hb.mono HB.out.size))
  clear hb HB Vc
  have Vc := Lib.hid Nc.out
  clear Nc
  have HB := Lib.hid NB.out
  clear NB
  have fc0 := Vc.out.c0
  have fc1 := Vc.out.c1
  have fcl := Vc.out.lt
  have Nc := Lib.hid (Vc.out.alloc (.cells #[.int .i64 u, .slice A4 n4 c4] 25))
  have No := Lib.hid (Var.new hq2 u)
  have NB := Lib.hid (HB.out.alloc HB.out.size (.cells #[.int .i64 u, .slice A4 n4 c4] 25))
  clear hq2
  clear HB Vc
  have Vc := Lib.hid Nc.out
  clear Nc
  have Vo := Lib.hid No.out
  clear No
  have HB := Lib.hid NB.out
  clear NB
  go_wp2_with fail
  generalize w4.alloc (.cells #[.int .i64 u, .slice A4 n4 c4] 25) = W4 at *
  clear fc0 fc1 fcl
  have fc0 := Vc.out.c0
  have fc1 := Vc.out.c1
  have fcl := Vc.out.lt
  have fo0 := Vo.out.c0
  have fo1 := Vo.out.c1
  have fol := Vo.out.lt
  have HP := Lib.hid (good_put HO.out)
  have HG2 := Lib.hid (good_logs HP.out.1)
  have hn2 : n4 ≤ 1048576 := by have h5 : (putL r ⟨1, 1⟩).length ≤ 5 := HP.out.1.2.2.2.1; have := MLo.out; omega
  obtain ⟨b, off, x, A5, m5, d5, hA, _, hbB, hx, _, c5, _, hf⟩ := Vc.out.nods.nod (k := 0) hn1p
  subst hA
  have hxl : (hd r).length = m5 := by rw [hd_at hx, hf.len]
  have hm5 : m5 ≤ 12 := by rw [← hxl]; exact hd_len GG.out
  simp only [Nat.zero_mul, Nat.add_zero] at c5
  have hw5' : IntKind.i64.wrap ((m5 : Int) + 1) = (m5 : Int) + 1 := IntWalk.i64_in _ (by omega)
  have hlt5 : v1 < (m5 : Int) + 1 := by have := HLT.out; omega
  have eqm : ((m5 : Int) + 1 == (m5 : Int) + 1) = true := by simp
  have p1' : (0 : Int) < (n1 : Int) := by omega
  have HC := Lib.hid (show addCost u (putL r ⟨1, 1⟩) = (m5 : Int) + 1 by rw [cost_put HO.out, hxl])
  have T1 := Lib.hid (show ∀ (q : Nat) (os : Array Obj), Calls Mo.prog 6 #[.agg #[.int .i64 u, .slice A4 n4 c4]] (grow (redrawn W4 q) os) fun e w' => e = .returned (.int .i64 ((m5 : Int) + 1)) ∧ Below (grow (redrawn W4 q) os).heap.size (grow (redrawn W4 q) os) w' from fun q os => by
    have hc := addCost_any u _ _ _ (putL r ⟨1, 1⟩) (grow (redrawn W4 q) os) (Vo.out.nods.on (below_regrown W4 q os)) hn2 HG2.out
    rwa [HC.out] at hc)
  have d0 := cell_regrown fc0
  have d1 := cell_regrown fc1
  have d2 := cell_regrown fo0
  have d3 := cell_regrown fo1
  have d4 := cell_regrown c5
  clear hx hf hxl c5
  refine wp_region_quiet_below (by kernel_rfl) (by kernel_rfl) ?_
  repeat (go_big_quiet_step ((go_at_call 6; with_reducible exact Calls.regrown_of (T1.out _ _))))
  refine wpQuiet_nil ?_
  intro w5 hw5
  have hb := Lib.hid (below_of_regrown hw5)
  clear hw5 d0 d1 d2 d3 d4
  go_wp2
  go_ret
  exact ⟨rfl, HB.out.trans (hb.out.mono HB.out.size)⟩
end Go.Proofs.YtcomppiglhibkaaDoor
/- The tied card 'Rows.FnAddCostPassCardSaid', out of the row's statement 'Rows.FnAddCostPassSaid': the law returns true for every input, on every tape, free of races, and each argument reads behind the call as it read before; the variable errTake laid. The walk is addCostPass_walk; here it is carried from the model over to the true program and lifted into the given row. -/
namespace Go.Proofs.YtcomppiglhibkaaDoor.fnAddCostPass
open Go Go.Conc Go.ChangeShapes Go.WideShapes Go.ChangeAt Go.RowKit
set_option linter.unusedVariables false

set_option maxRecDepth 100000 in
theorem lifted (os : Os) (started : os.Started) (H : Type) (enc : TypeId × Value → H) :
    ReturnsInLeavingWide {} Tryd.checked os 3 .any (fun w args => (Rows.fnAddCostPassSpec.pre enc Tryd.prog Tryd.f3 Rows.fnAddCostPassRow.domain false w args ∧ laidMetH Tryd.prog laidList w) ∧ sizedMet enc Tryd.prog Tryd.f3 (OpenSpec.ofChange Rows.fnAddCostPassSpec) false w args)
      (Rows.fnAddCostPassSpec.post enc Tryd.prog Tryd.f3 false true false false) := by
  refine leaving_and (C := Tryd.checked) (X := fun w _ => laidMetH Tryd.prog laidList w) (fun _ _ _ hh h => h.of_heap hh) ownK started Tryd.func3
    (ChangeSpec.witness_at (enc := enc) (C := Tryd.checked) (os := os) (X := fun w _ => laidMetH Tryd.prog laidList w) false (laidWorld os) #[.slice none 0 0] 8 rfl (by kernel_rfl) (by kernel_rfl) (by kernel_rfl) (by kernel_rfl) (by kernel_rfl) laid_metH) ?_
  intro W base args ds gs before hval0 hW hL
  have hval : ∀ (j : Nat) t v, Tryd.f3.params[j]? = some t → args[j]? = some v → Value.okWide Tryd.prog W .any base t v := hval0
  have hW' := hW
  obtain ⟨p, q, hA0, hV, rfl, hfz, hnd⟩ := hW
  have hA : DataW.TrodAll enc Tryd.prog W 0 (fun _ => true) true Tryd.f3.params.toList args.toList ds p := hA0
  rw [Tryd.params3] at hA hval
  obtain ⟨v0, vs0, d0, ds0, p0, q0, hargs, rfl, rfl, h0, r0⟩ := trodAll_cons hA
  obtain ⟨rfl, rfl, rfl⟩ := trodAll_nil r0
  obtain rfl : args = #[v0] := by cases args; simp_all
  have hV' : DataW.TrodVars enc Tryd.prog W (fun _ => true) ["loop.example/chainfiles/impl.errTake"] gs q := hV
  obtain ⟨g1, rfl⟩ := trodVars_len hV'
  obtain ⟨ea, he⟩ := err_of_laid hL
  have k0 := h0
  have lt0 : ∀ x ∈ p0, x.block < W.heap.size := by obtain ⟨m, hm⟩ := k0; exact DataW.trod_lt m _ _ _ hm
  obtain ⟨A0, n0, c0, l0, rfl, f0, g0⟩ := reads_bytes (hval 0 22 v0 rfl rfl) h0
  clear hA0 hval0
  obtain ⟨M, last, o, w', t', e1, e2, e3, e4⟩ := mo_run fmo3 (by kernel_rfl) (by decide) (by kernel_rfl) #[.slice A0 n0 c0] W (fun w hw => addCostPass_walk A0 n0 c0 l0 ea w (he.brk hw) (brk_flat hw f0) g0)
  refine ⟨M, last, o, w', t', e1, e2, e3, e4.mono fun v hp => ?_⟩
  obtain ⟨rfl, bel⟩ := hp
  exact ⟨_, _, _, [], _, _, hW', trodAll_mk1 (shut_bool Tryd.underlying4 _), (trodAll_cons_mk (BelowT.trod laidOut (by kernel_rfl) (of_decide_eq_true (by kernel_rfl)) k0 bel lt0) trodAll_mk0), BelowT.trodVars bel hV', bel.frame _, fun h => by cases h⟩

theorem over : Rows.fnAddCostPassRow.holds Tryd.pinned (OpenSpec.ofChange Rows.fnAddCostPassSpec) :=
  OpenClaim.holds_of_wide_leaving 3 Tryd.f3 rfl rfl rfl rfl rfl rfl rfl ⟨rfl, rfl, rfl, rfl, rfl⟩ rfl rfl rfl rfl rfl (by kernel_rfl) Tryd.func3 (by kernel_rfl)
    (of_decide_eq_true (by kernel_rfl)) (by unfold Func.isWrapper; first | (rw [if_pos (by decide +kernel)]; kernel_rfl) | (rw [if_neg (by decide +kernel)]; exact ⟨rfl, rfl⟩))
    (fun os started H enc _ => lifted os started H enc)

theorem proved : Rows.FnAddCostPassCardSaid :=
  tied_goes .later [.sentinel] true Rows.fnAddCostPassCard.stood.harness true
    over (by kernel_rfl) fnAddCostPass_row_tie rfl ⟨rfl, rfl⟩ (by kernel_rfl) rfl
    (fun f fn hf hfn => by
      obtain rfl : f = 3 := Option.some.inj ((show Tryd.prog.funcNamed "loop.example/chainfiles/laws.FnAddCostPass" = some 3 by kernel_rfl).symm.trans hf) |>.symm
      obtain rfl : fn = Tryd.f3 := (Option.some.inj (Tryd.func3.symm.trans hfn)).symm
      exact ⟨by kernel_rfl, fun j t ht => by
        rw [Tryd.params3] at ht
        rcases j with _ | j
        · obtain rfl : 22 = t := by simpa using ht
          exact (show Tryd.prog.wantsStandIn 22 = false by kernel_rfl)
        · simp at ht⟩)
    (by kernel_rfl)
#print axioms proved
end Go.Proofs.YtcomppiglhibkaaDoor.fnAddCostPass
