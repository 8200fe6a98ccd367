/- The walk of a law on roles and drops (laws.FnRoleDrop): it returns true, and writes nothing that was there. -/
import Derived.Test.YtagejkfeceeifaaVar
import Derived.Test.YtagejkfeceeifaaDropA
import Derived.Test.YtagejkfeceeifaaDrawK
namespace Go.Proofs.Ytagejkfeceeifaa
open Go.RowKit Go.Sort

set_option maxRecDepth 100000 in
set_option maxHeartbeats 16000000 in
theorem roleDrop_walk (A : Option Addr) (n c : Nat) (l : List Int) (w : World) (h : Flat encU8 1 w 0 w.heap.size A n c l) (hl : ∀ x ∈ l, 0 ≤ x ∧ x ≤ 255) :
    Calls Try.prog 7 #[.slice A n c] w fun e w' => e = .returned (.bool true) ∧ Below w.heap.size w w' := by
  have H := Lib.hid h
  have HL := Lib.hid hl
  clear h hl
  by_cases hn : 1048576 < n
  · go_enter Try.func7, Try.ntmps7
    go_wp2
    go_ret
    exact ⟨rfl, Below.refl _ _⟩
  go_enter Try.func7, Try.ntmps7
  go_wp2_with fail
  refine (drawDropRole_any _ _ _ l _ H.out HL.out).mono ?_
  rintro e w1 ⟨view, A1, n1, c1, r, id, rfl, h1, h2, h3, h4, h6, hb1⟩
  obtain ⟨hn1, hl1⟩ := nods_ok h1 h3 h4
  have HG := Lib.hid hl1
  have M1 := Lib.hid h1
  have Vc := Lib.hid (Var.row h6 view)
  have HB := Lib.hid (hb1.alloc hb1.size (.cells #[.int .i64 view, .slice A1 n1 c1] 29))
  clear h1 h4 h6 hb1 H HL hl1
  obtain ⟨v1, hv1⟩ : ∃ v1, dropRole view r id = v1 := ⟨_, rfl⟩
  have HV := Lib.hid hv1
  have e1 : (v1 != v1) = false := by simp
  have e2 : (v1 == v1) = true := by simp
  have hr5 := roleOf_cases (placeI (placeOf r id)) r.length
  have H5 := Lib.hid (show v1 = 0 ∨ v1 = 1 ∨ v1 = 2 ∨ v1 = 3 ∨ v1 = 4 by
    rw [← hv1]; unfold dropRole; split
    · exact hr5
    · exact .inl rfl)
  obtain ⟨ok, hok⟩ : ∃ ok, chainOk view r = ok := ⟨_, rfl⟩
  have HOK := Lib.hid hok
  clear hv1 hr5 hok
  go_wp2_with fail
  refine (dropRole_any view _ _ _ r id _ Vc.out.nods hn1 HG.out).mono ?_
  rintro e w2 ⟨rfl, hb⟩
  rw [HV.out]
  have Nc := Lib.hid (Vc.out.on hb)
  have NB := Lib.hid (HB.out.trans (hb.mono HB.out.size))
  clear hb HB Vc
  have Vc := Lib.hid Nc.out
  clear Nc
  have HB := Lib.hid NB.out
  clear NB
  have fc0 := Vc.out.c0
  have fc1 := Vc.out.c1
  have fcl := Vc.out.lt
  go_wp2_with fail
  refine (specDropRole_any view _ _ _ r id _ Vc.out.nods hn1 HG.out).mono ?_
  rintro e w3 ⟨rfl, hb⟩
  rw [HV.out]
  clear fc0 fc1 fcl
  have Nc := Lib.hid (Vc.out.on hb)
  have NB := Lib.hid (HB.out.trans (hb.mono HB.out.size))
  clear hb HB Vc
  have Vc := Lib.hid Nc.out
  clear Nc
  have HB := Lib.hid NB.out
  clear NB
  have fc0 := Vc.out.c0
  have fc1 := Vc.out.c1
  have fcl := Vc.out.lt
  go_wp2_with fail
  refine (specChainValid_any view _ _ _ r _ Vc.out.nods hn1 HG.out).mono ?_
  rintro e w4 ⟨rfl, hb⟩
  rw [HOK.out]
  clear fc0 fc1 fcl
  have Nc := Lib.hid (Vc.out.on hb)
  have NB := Lib.hid (HB.out.trans (hb.mono HB.out.size))
  clear hb HB Vc
  have Vc := Lib.hid Nc.out
  clear Nc
  have HB := Lib.hid NB.out
  clear NB
  have fc0 := Vc.out.c0
  have fc1 := Vc.out.c1
  have fcl := Vc.out.lt
  cases ok
  · go_wp2
    go_ret
    exact ⟨rfl, HB.out⟩
  by_cases h9 : view = 999
  · have h9' : (view == 999) = true := by simp [h9]
    clear h9
    go_wp2
    go_ret
    exact ⟨rfl, HB.out⟩
  have h9' : (view == 999) = false := by simp [h9]
  have HD := Lib.hid (drop_role (good_iff.1 HOK.out) h9 HV.out)
  clear h9
  rcases H5.out with rfl | rfl | rfl | rfl | rfl
  · have ho : dropM view r id = none := by have := HD.out; cases h : dropM view r id with
      | none => rfl
      | some p => rw [h] at this; simp at this
    have HO := Lib.hid ho
    clear ho
    go_wp2_with fail
    refine (chainDrop_any view _ _ _ r id _ Vc.out.nods hn1 HG.out).mono ?_
    rintro e w5 hq
    obtain ⟨A5, c5, rfl, hq2, hb⟩ := hq.not HO.out
    clear hq
    clear fc0 fc1 fcl
    have Nc := Lib.hid (Vc.out.on hb)
    have NB := Lib.hid (HB.out.trans (hb.mono HB.out.size))
    clear hb HB Vc
    have Vc := Lib.hid Nc.out
    clear Nc
    have HB := Lib.hid NB.out
    clear NB
    have fc0 := Vc.out.c0
    have fc1 := Vc.out.c1
    have fcl := Vc.out.lt
    have Nc := Lib.hid (Vc.out.alloc (.cells #[.int .i64 0, .slice A5 0 c5] 29))
    have No := Lib.hid (Var.new hq2 0)
    have NB := Lib.hid (HB.out.alloc HB.out.size (.cells #[.int .i64 0, .slice A5 0 c5] 29))
    clear hq2
    clear HB Vc
    have Vc := Lib.hid Nc.out
    clear Nc
    have Vo := Lib.hid No.out
    clear No
    have HB := Lib.hid NB.out
    clear NB
    go_wp2
    go_ret
    exact ⟨rfl, HB.out⟩
  · obtain ⟨u, r2, ho⟩ : ∃ u r2, dropM view r id = some (u, r2) := by have := HD.out; cases h : dropM view r id with
      | none => rw [h] at this; simp at this
      | some p => exact ⟨p.1, p.2, rfl⟩
    have HO := Lib.hid ho
    clear ho
    go_wp2_with fail
    refine (chainDrop_any view _ _ _ r id _ Vc.out.nods hn1 HG.out).mono ?_
    rintro e w5 hq
    obtain ⟨A5, n5, c5, rfl, hq1, hq2, hb⟩ := hq.yes HO.out
    clear hq
    have Mo := Lib.hid hq1
    clear hq1
    clear fc0 fc1 fcl
    have Nc := Lib.hid (Vc.out.on hb)
    have NB := Lib.hid (HB.out.trans (hb.mono HB.out.size))
    clear hb HB Vc
    have Vc := Lib.hid Nc.out
    clear Nc
    have HB := Lib.hid NB.out
    clear NB
    have fc0 := Vc.out.c0
    have fc1 := Vc.out.c1
    have fcl := Vc.out.lt
    have Nc := Lib.hid (Vc.out.alloc (.cells #[.int .i64 u, .slice A5 n5 c5] 29))
    have No := Lib.hid (Var.new hq2 u)
    have NB := Lib.hid (HB.out.alloc HB.out.size (.cells #[.int .i64 u, .slice A5 n5 c5] 29))
    clear hq2
    clear HB Vc
    have Vc := Lib.hid Nc.out
    clear Nc
    have Vo := Lib.hid No.out
    clear No
    have HB := Lib.hid NB.out
    clear NB
    go_wp2
    go_ret
    exact ⟨rfl, HB.out⟩
  · obtain ⟨u, r2, ho⟩ : ∃ u r2, dropM view r id = some (u, r2) := by have := HD.out; cases h : dropM view r id with
      | none => rw [h] at this; simp at this
      | some p => exact ⟨p.1, p.2, rfl⟩
    have HO := Lib.hid ho
    clear ho
    go_wp2_with fail
    refine (chainDrop_any view _ _ _ r id _ Vc.out.nods hn1 HG.out).mono ?_
    rintro e w5 hq
    obtain ⟨A5, n5, c5, rfl, hq1, hq2, hb⟩ := hq.yes HO.out
    clear hq
    have Mo := Lib.hid hq1
    clear hq1
    clear fc0 fc1 fcl
    have Nc := Lib.hid (Vc.out.on hb)
    have NB := Lib.hid (HB.out.trans (hb.mono HB.out.size))
    clear hb HB Vc
    have Vc := Lib.hid Nc.out
    clear Nc
    have HB := Lib.hid NB.out
    clear NB
    have fc0 := Vc.out.c0
    have fc1 := Vc.out.c1
    have fcl := Vc.out.lt
    have Nc := Lib.hid (Vc.out.alloc (.cells #[.int .i64 u, .slice A5 n5 c5] 29))
    have No := Lib.hid (Var.new hq2 u)
    have NB := Lib.hid (HB.out.alloc HB.out.size (.cells #[.int .i64 u, .slice A5 n5 c5] 29))
    clear hq2
    clear HB Vc
    have Vc := Lib.hid Nc.out
    clear Nc
    have Vo := Lib.hid No.out
    clear No
    have HB := Lib.hid NB.out
    clear NB
    go_wp2
    go_ret
    exact ⟨rfl, HB.out⟩
  · obtain ⟨u, r2, ho⟩ : ∃ u r2, dropM view r id = some (u, r2) := by have := HD.out; cases h : dropM view r id with
      | none => rw [h] at this; simp at this
      | some p => exact ⟨p.1, p.2, rfl⟩
    have HO := Lib.hid ho
    clear ho
    go_wp2_with fail
    refine (chainDrop_any view _ _ _ r id _ Vc.out.nods hn1 HG.out).mono ?_
    rintro e w5 hq
    obtain ⟨A5, n5, c5, rfl, hq1, hq2, hb⟩ := hq.yes HO.out
    clear hq
    have Mo := Lib.hid hq1
    clear hq1
    clear fc0 fc1 fcl
    have Nc := Lib.hid (Vc.out.on hb)
    have NB := Lib.hid (HB.out.trans (hb.mono HB.out.size))
    clear hb HB Vc
    have Vc := Lib.hid Nc.out
    clear Nc
    have HB := Lib.hid NB.out
    clear NB
    have fc0 := Vc.out.c0
    have fc1 := Vc.out.c1
    have fcl := Vc.out.lt
    have Nc := Lib.hid (Vc.out.alloc (.cells #[.int .i64 u, .slice A5 n5 c5] 29))
    have No := Lib.hid (Var.new hq2 u)
    have NB := Lib.hid (HB.out.alloc HB.out.size (.cells #[.int .i64 u, .slice A5 n5 c5] 29))
    clear hq2
    clear HB Vc
    have Vc := Lib.hid Nc.out
    clear Nc
    have Vo := Lib.hid No.out
    clear No
    have HB := Lib.hid NB.out
    clear NB
    go_wp2
    go_ret
    exact ⟨rfl, HB.out⟩
  · have ho : dropM view r id = none := by have := HD.out; cases h : dropM view r id with
      | none => rfl
      | some p => rw [h] at this; simp at this
    have HO := Lib.hid ho
    clear ho
    go_wp2_with fail
    refine (chainDrop_any view _ _ _ r id _ Vc.out.nods hn1 HG.out).mono ?_
    rintro e w5 hq
    obtain ⟨A5, c5, rfl, hq2, hb⟩ := hq.not HO.out
    clear hq
    clear fc0 fc1 fcl
    have Nc := Lib.hid (Vc.out.on hb)
    have NB := Lib.hid (HB.out.trans (hb.mono HB.out.size))
    clear hb HB Vc
    have Vc := Lib.hid Nc.out
    clear Nc
    have HB := Lib.hid NB.out
    clear NB
    have fc0 := Vc.out.c0
    have fc1 := Vc.out.c1
    have fcl := Vc.out.lt
    have Nc := Lib.hid (Vc.out.alloc (.cells #[.int .i64 0, .slice A5 0 c5] 29))
    have No := Lib.hid (Var.new hq2 0)
    have NB := Lib.hid (HB.out.alloc HB.out.size (.cells #[.int .i64 0, .slice A5 0 c5] 29))
    clear hq2
    clear HB Vc
    have Vc := Lib.hid Nc.out
    clear Nc
    have Vo := Lib.hid No.out
    clear No
    have HB := Lib.hid NB.out
    clear NB
    go_wp2
    go_ret
    exact ⟨rfl, HB.out⟩
end Go.Proofs.Ytagejkfeceeifaa
