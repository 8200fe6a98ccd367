/- The walk of a law on dropping a node (laws.FnDropLogs): it returns true, and writes nothing that was there. -/
import Derived.Test.YtagejkfeceeifaaVar
import Derived.Test.YtagejkfeceeifaaDrawL
import Derived.Test.YtagejkfeceeifaaDropB
import Derived.Test.YtagejkfeceeifaaSameC
namespace Go.Proofs.Ytagejkfeceeifaa
open Go.RowKit Go.Sort

set_option maxRecDepth 100000 in
set_option maxHeartbeats 16000000 in
theorem dropLogs_walk (A : Option Addr) (n c : Nat) (l : List Int) (w : World) (h : Flat encU8 1 w 0 w.heap.size A n c l) (hl : ∀ x ∈ l, 0 ≤ x ∧ x ≤ 255) :
    Calls Try.prog 11 #[.slice A n c] w fun e w' => e = .returned (.bool true) ∧ Below w.heap.size w w' := by
  have H := Lib.hid h
  have HL := Lib.hid hl
  clear h hl
  by_cases hn : 1048576 < n
  · go_enter Try.func11, Try.ntmps11
    go_wp2
    go_ret
    exact ⟨rfl, Below.refl _ _⟩
  go_enter Try.func11, Try.ntmps11
  go_wp2_with fail
  refine (drawChainDrop_any _ _ _ l _ H.out HL.out).mono ?_
  rintro e w1 ⟨view, A1, n1, c1, r, id, rfl, h1, h2, h3, h4, h6, hb1⟩
  obtain ⟨hn1, hl1⟩ := nods_ok h1 h3 h4
  have HG := Lib.hid hl1
  have M1 := Lib.hid h1
  have Vc := Lib.hid (Var.row h6 view)
  have HB := Lib.hid (hb1.alloc hb1.size (.cells #[.int .i64 view, .slice A1 n1 c1] 29))
  clear h1 h4 h6 hb1 H HL hl1
  obtain ⟨o, ho⟩ : ∃ o, dropM view r id = o := ⟨_, rfl⟩
  rcases o with _ | ⟨u, r2⟩
  · have HO := Lib.hid ho
    clear ho
    go_wp2_with fail
    refine (chainDrop_any view _ _ _ r id _ Vc.out.nods hn1 HG.out).mono ?_
    rintro e w2 hq
    obtain ⟨A2, c2, rfl, hq2, hb⟩ := hq.not HO.out
    clear hq
    have Nc := Lib.hid (Vc.out.on hb)
    have NB := Lib.hid (HB.out.trans (hb.mono HB.out.size))
    clear hb HB Vc
    have Vc := Lib.hid Nc.out
    clear Nc
    have HB := Lib.hid NB.out
    clear NB
    have fc0 := Vc.out.c0
    have fc1 := Vc.out.c1
    have fcl := Vc.out.lt
    have Nc := Lib.hid (Vc.out.alloc (.cells #[.int .i64 0, .slice A2 0 c2] 29))
    have No := Lib.hid (Var.new hq2 0)
    have NB := Lib.hid (HB.out.alloc HB.out.size (.cells #[.int .i64 0, .slice A2 0 c2] 29))
    clear hq2
    clear HB Vc
    have Vc := Lib.hid Nc.out
    clear Nc
    have Vo := Lib.hid No.out
    clear No
    have HB := Lib.hid NB.out
    clear NB
    go_wp2_with fail
    refine (specChainDrop_any view _ _ _ r id _ Vc.out.nods hn1 HG.out).mono ?_
    rintro e w3 hq
    obtain ⟨A3, c3, rfl, hq2, hb⟩ := hq.not HO.out
    clear hq
    clear fc0 fc1 fcl
    have Nc := Lib.hid (Vc.out.on hb)
    have No := Lib.hid (Vo.out.on hb)
    have NB := Lib.hid (HB.out.trans (hb.mono HB.out.size))
    clear hb HB Vc Vo
    have Vc := Lib.hid Nc.out
    clear Nc
    have Vo := Lib.hid No.out
    clear No
    have HB := Lib.hid NB.out
    clear NB
    have fc0 := Vc.out.c0
    have fc1 := Vc.out.c1
    have fcl := Vc.out.lt
    have fo0 := Vo.out.c0
    have fo1 := Vo.out.c1
    have fol := Vo.out.lt
    have Nc := Lib.hid (Vc.out.alloc (.cells #[.int .i64 0, .slice A3 0 c3] 29))
    have No := Lib.hid (Vo.out.alloc (.cells #[.int .i64 0, .slice A3 0 c3] 29))
    have Nw := Lib.hid (Var.new hq2 0)
    have NB := Lib.hid (HB.out.alloc HB.out.size (.cells #[.int .i64 0, .slice A3 0 c3] 29))
    clear hq2
    clear HB Vc Vo
    have Vc := Lib.hid Nc.out
    clear Nc
    have Vo := Lib.hid No.out
    clear No
    have Vw := Lib.hid Nw.out
    clear Nw
    have HB := Lib.hid NB.out
    clear NB
    go_wp2_with fail
    refine (sameChain_same 0 _ _ 0 _ _ [] _ Vo.out.nods Vw.out.nods (by omega) (fun x h => by cases h)).mono ?_
    rintro e w4 ⟨rfl, hb⟩
    clear fc0 fc1 fcl fo0 fo1 fol
    have Nc := Lib.hid (Vc.out.on hb)
    have No := Lib.hid (Vo.out.on hb)
    have Nw := Lib.hid (Vw.out.on hb)
    have NB := Lib.hid (HB.out.trans (hb.mono HB.out.size))
    clear hb HB Vc Vo Vw
    have Vc := Lib.hid Nc.out
    clear Nc
    have Vo := Lib.hid No.out
    clear No
    have Vw := Lib.hid Nw.out
    clear Nw
    have HB := Lib.hid NB.out
    clear NB
    have fc0 := Vc.out.c0
    have fc1 := Vc.out.c1
    have fcl := Vc.out.lt
    have fo0 := Vo.out.c0
    have fo1 := Vo.out.c1
    have fol := Vo.out.lt
    have fw0 := Vw.out.c0
    have fw1 := Vw.out.c1
    have fwl := Vw.out.lt
    go_wp2_with fail
    refine (sameChain_same 0 _ _ 0 _ _ [] _ Vo.out.nods Vw.out.nods (by omega) (fun x h => by cases h)).mono ?_
    rintro e w5 ⟨rfl, hb⟩
    clear fc0 fc1 fcl fo0 fo1 fol fw0 fw1 fwl
    have Nc := Lib.hid (Vc.out.on hb)
    have No := Lib.hid (Vo.out.on hb)
    have Nw := Lib.hid (Vw.out.on hb)
    have NB := Lib.hid (HB.out.trans (hb.mono HB.out.size))
    clear hb HB Vc Vo Vw
    have Vc := Lib.hid Nc.out
    clear Nc
    have Vo := Lib.hid No.out
    clear No
    have Vw := Lib.hid Nw.out
    clear Nw
    have HB := Lib.hid NB.out
    clear NB
    have fc0 := Vc.out.c0
    have fc1 := Vc.out.c1
    have fcl := Vc.out.lt
    have fo0 := Vo.out.c0
    have fo1 := Vo.out.c1
    have fol := Vo.out.lt
    have fw0 := Vw.out.c0
    have fw1 := Vw.out.c1
    have fwl := Vw.out.lt
    go_wp2
    go_ret
    exact ⟨rfl, HB.out⟩
  have HO := Lib.hid ho
  clear ho
  go_wp2_with fail
  refine (chainDrop_any view _ _ _ r id _ Vc.out.nods hn1 HG.out).mono ?_
  rintro e w2 hq
  obtain ⟨A2, n2, c2, rfl, hq1, hq2, hb⟩ := hq.yes HO.out
  clear hq
  have Mo := Lib.hid hq1
  clear hq1
  have Nc := Lib.hid (Vc.out.on hb)
  have NB := Lib.hid (HB.out.trans (hb.mono HB.out.size))
  clear hb HB Vc
  have Vc := Lib.hid Nc.out
  clear Nc
  have HB := Lib.hid NB.out
  clear NB
  have fc0 := Vc.out.c0
  have fc1 := Vc.out.c1
  have fcl := Vc.out.lt
  have Nc := Lib.hid (Vc.out.alloc (.cells #[.int .i64 u, .slice A2 n2 c2] 29))
  have No := Lib.hid (Var.new hq2 u)
  have NB := Lib.hid (HB.out.alloc HB.out.size (.cells #[.int .i64 u, .slice A2 n2 c2] 29))
  clear hq2
  clear HB Vc
  have Vc := Lib.hid Nc.out
  clear Nc
  have Vo := Lib.hid No.out
  clear No
  have HB := Lib.hid NB.out
  clear NB
  go_wp2_with fail
  refine (specChainDrop_any view _ _ _ r id _ Vc.out.nods hn1 HG.out).mono ?_
  rintro e w3 hq
  obtain ⟨A3, n3, c3, rfl, hq1, hq2, hb⟩ := hq.yes HO.out
  clear hq
  have Mw := Lib.hid hq1
  clear hq1
  clear fc0 fc1 fcl
  have Nc := Lib.hid (Vc.out.on hb)
  have No := Lib.hid (Vo.out.on hb)
  have NB := Lib.hid (HB.out.trans (hb.mono HB.out.size))
  clear hb HB Vc Vo
  have Vc := Lib.hid Nc.out
  clear Nc
  have Vo := Lib.hid No.out
  clear No
  have HB := Lib.hid NB.out
  clear NB
  have fc0 := Vc.out.c0
  have fc1 := Vc.out.c1
  have fcl := Vc.out.lt
  have fo0 := Vo.out.c0
  have fo1 := Vo.out.c1
  have fol := Vo.out.lt
  have Nc := Lib.hid (Vc.out.alloc (.cells #[.int .i64 u, .slice A3 n3 c3] 29))
  have No := Lib.hid (Vo.out.alloc (.cells #[.int .i64 u, .slice A3 n3 c3] 29))
  have Nw := Lib.hid (Var.new hq2 u)
  have NB := Lib.hid (HB.out.alloc HB.out.size (.cells #[.int .i64 u, .slice A3 n3 c3] 29))
  clear hq2
  obtain rfl : n3 = n2 := by rw [← Mo.out, ← Mw.out]
  clear HB Vc Vo
  have Vc := Lib.hid Nc.out
  clear Nc
  have Vo := Lib.hid No.out
  clear No
  have Vw := Lib.hid Nw.out
  clear Nw
  have HB := Lib.hid NB.out
  clear NB
  go_wp2_with fail
  have hgood := dropM_some HO.out
  have hok5 := good_ok hgood.2.2.2.2.choose_spec.2.2.1
  have HG2 := Lib.hid (show ∀ x ∈ r2, x.log.length ≤ 1048576 from fun x hx => by have := hok5.2 x hx; omega)
  have hn5 : n3 ≤ 5 := by have := hok5.1; have := Mo.out; omega
  have hn3 : n3 ≤ 1048576 := by omega
  clear hgood hok5
  refine (sameChain_same u _ _ n3 _ _ r2 _ Vo.out.nods Vw.out.nods hn3 HG2.out).mono ?_
  rintro e w4 ⟨rfl, hb⟩
  clear fc0 fc1 fcl fo0 fo1 fol
  have Nc := Lib.hid (Vc.out.on hb)
  have No := Lib.hid (Vo.out.on hb)
  have Nw := Lib.hid (Vw.out.on hb)
  have NB := Lib.hid (HB.out.trans (hb.mono HB.out.size))
  clear hb HB Vc Vo Vw
  have Vc := Lib.hid Nc.out
  clear Nc
  have Vo := Lib.hid No.out
  clear No
  have Vw := Lib.hid Nw.out
  clear Nw
  have HB := Lib.hid NB.out
  clear NB
  have fc0 := Vc.out.c0
  have fc1 := Vc.out.c1
  have fcl := Vc.out.lt
  have fo0 := Vo.out.c0
  have fo1 := Vo.out.c1
  have fol := Vo.out.lt
  have fw0 := Vw.out.c0
  have fw1 := Vw.out.c1
  have fwl := Vw.out.lt
  clear Vw Mw fw0 fw1 fwl
  obtain ⟨p, hplace, hrd⟩ : ∃ p, placeOf r id = some p ∧ r2 = dropped r p := by
    obtain ⟨_, _, _, _, p, hp, e, _⟩ := dropM_some HO.out
    exact ⟨p, hp, e⟩
  have hlen3 := (dropM_some HO.out).2.2.2.2.choose_spec.2.2.2
  have hn31 : n3 + 1 = n1 := by have := M1.out; have := Mo.out; omega
  have hpn : p < n1 := by have := placeOf_lt hplace; have := M1.out; omega
  have GG := Lib.hid (dropM_some HO.out).1
  have PL := Lib.hid hplace
  have RD := Lib.hid hrd
  have HN := Lib.hid hn31
  have hn31' : n3 < n1 := by omega
  clear hplace hrd hlen3 hn31
  go_wp2_with fail
  clear fc0 fc1 fcl fo0 fo1 fol
  go_loopw [9, 10] (fun kk i wr => ∃ k q : Nat, i = .int .i64 k ∧ kk = .int .i64 q ∧ k ≤ n1 ∧ Hid (q = if k ≤ p then k else k - 1) ∧ Below w4.heap.size w4 wr) (fun _ i _ => n1 - (intOf i).toNat)
  case atStart => exact ⟨0, 0, rfl, rfl, Nat.zero_le _, (by simp : 0 = if 0 ≤ p then 0 else 0 - 1), Below.refl _ _⟩
  case round =>
    obtain ⟨k, q, rfl, rfl, hk, hq, hB⟩ := hrel
    have Wc := Lib.hid (Vc.out.on hB)
    have Wo := Lib.hid (Vo.out.on hB)
    have WB := Lib.hid (HB.out.trans (hB.mono HB.out.size))
    have HB4 := Lib.hid hB
    clear hB
    have fc1 := Wc.out.c1
    have fo1 := Wo.out.c1
    by_cases hlt : k < n1
    · obtain ⟨b, off, x, A5, m5, d5, hA, _, hbB, hx, c0, c1, c2, hf⟩ := Wc.out.nods.nod hlt
      subst hA
      by_cases hkp : k = p
      · have hxid : (x.id != id) = false := by
          obtain ⟨z, hz, hzid⟩ := place_get PL.out
          rw [← hkp, hx] at hz; injection hz with hz; subst hz; simp [hzid]
        have hq' := Lib.hid (show q = if k + 1 ≤ p then k + 1 else k + 1 - 1 by have := hq.out; rw [this, if_pos (by omega), if_neg (by omega)]; rfl)
        clear hx hkp hf c1 c2
        go_wp2
        go_roundw
        case rel => exact ⟨k + 1, q, by go_num, rfl, by omega, hq'.out, HB4.out⟩
        case measure => simp [intOf]; omega
      · have hxid : (x.id != id) = true := by
          obtain ⟨z, hz, hzid⟩ := place_get PL.out
          have := good_ids GG.out hx hz hkp
          rw [hzid] at this; simp [this]
        obtain ⟨y, hy, hyid, hylog, hydone⟩ := dropped_get hx hkp
        have hqe : q = if k < p then k else k - 1 := by
          have := hq.out
          by_cases h : k < p
          · rw [if_pos h]; rw [if_pos (by omega)] at this; exact this
          · rw [if_neg h]; rw [if_neg (by omega)] at this; exact this
        rw [← hqe, ← RD.out] at hy
        have hq3 : q < n3 := by have := (List.getElem?_eq_some_iff.1 hy).1; have := Mo.out; omega
        have hq' := Lib.hid (show q + 1 = if k + 1 ≤ p then k + 1 else k + 1 - 1 by
          rw [hqe]
          by_cases h : k < p
          · rw [if_pos h, if_pos (by omega)]
          · rw [if_neg h, if_neg (by omega)]; omega)
        obtain ⟨b2, off2, y', A6, m6, d6, hA6, _, hbB2, hy', g0, g1, g2, hg⟩ := Wo.out.nods.nod hq3
        subst hA6
        rw [hy] at hy'; injection hy' with hy'; subst hy'
        have hm5 := hf.len
        have hm6 := hg.len
        rw [hylog] at hg hm6
        obtain rfl : m6 = m5 := by omega
        have hmx : m6 ≤ 1048576 := by have := HG.out x (List.mem_of_getElem? hx); omega
        have hdone : decide (y.done < x.done) = false := by
          have := nodeOk_iff.1 (GG.out.2.2.2.2.1 x (List.mem_of_getElem? hx))
          simp; rcases hydone with e | e <;> omega
        rw [hyid] at g0
        have F1 := Lib.hid hf
        have F2 := Lib.hid hg
        have T3 := Lib.hid (show ∀ (p : Nat) (os : Array Obj), Calls Try.prog 30 #[.slice A6 m6 d6, .slice A5 m6 d5] (grow (redrawn wr p) os) fun e w' => e = .returned (.bool true) ∧ Below (grow (redrawn wr p) os).heap.size (grow (redrawn wr p) os) w' from fun p os => by
          have hb := below_regrown wr p os
          exact sameLog_same A6 A5 m6 d6 d5 x.log _ (F2.out.on hb) (F1.out.on hb) hmx)
        have i1 : (k : Int) < (n1 : Int) := by omega
        have i2 : (q : Int) < (n3 : Int) := by omega
        have i3 : (0 : Int) ≤ (k : Int) := by omega
        have i4 : (0 : Int) ≤ (q : Int) := by omega
        have d1 := cell_regrown fc1
        have d2 := cell_regrown fo1
        have d3 := cell_regrown c0
        have d4 := cell_regrown c1
        have d5' := cell_regrown c2
        have d6' := cell_regrown g0
        have d7 := cell_regrown g1
        have d8 := cell_regrown g2
        clear hx hkp hf hy hyid hylog hydone hqe hg hm5 hm6
        go_wp2_with fail
        refine wp_region_quiet_below (by kernel_rfl) (by kernel_rfl) ?_
        repeat (go_big_quiet_step ((go_at_call 30; with_reducible exact Calls.regrown_of (T3.out _ _))))
        refine wpQuiet_nil ?_
        intro w6 hw6
        have hb := Lib.hid (below_of_regrown hw6)
        clear hw6 d1 d2 d3 d4 d5' d6' d7 d8
        go_wp2
        go_roundw
        case rel => exact ⟨k + 1, q + 1, by go_num, by go_num, by omega, hq'.out, HB4.out.trans (hb.out.mono HB4.out.size)⟩
        case measure => simp [intOf]; omega
    · obtain rfl : n1 = k := by omega
      obtain rfl : n3 = q := by have h1 := hq.out; rw [if_neg (by omega)] at h1; have := HN.out; omega
      go_wp2
      go_ret
      exact ⟨by simp, WB.out⟩
end Go.Proofs.Ytagejkfeceeifaa
