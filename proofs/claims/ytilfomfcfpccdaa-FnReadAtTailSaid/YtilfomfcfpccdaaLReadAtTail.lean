/- The walk of a law on what a node of a chain tells (laws.FnReadAtTail): it returns true, and writes nothing that was there. -/
import Derived.Test.YtilfomfcfpccdaaVar
import Derived.Test.YtilfomfcfpccdaaDrawRA
import Derived.Test.YtilfomfcfpccdaaReadAt
import Derived.Test.YtilfomfcfpccdaaSameC
namespace Go.Proofs.Ytilfomfcfpccdaa
open Go.RowKit Go.Sort

set_option maxRecDepth 100000 in
set_option maxHeartbeats 16000000 in
theorem readAtTail_walk (A : Option Addr) (n c : Nat) (l : List Int) (w : World) (h : Flat encU8 1 w 0 w.heap.size A n c l) (hl : ∀ x ∈ l, 0 ≤ x ∧ x ≤ 255) :
    Calls Try.prog 13 #[.slice A n c] w fun e w' => e = .returned (.bool true) ∧ Below w.heap.size w w' := by
  have H := Lib.hid h
  have HL := Lib.hid hl
  clear h hl
  by_cases hn : 1048576 < n
  · go_enter Try.func13, Try.ntmps13
    go_wp2
    go_ret
    exact ⟨rfl, Below.refl _ _⟩
  go_enter Try.func13, Try.ntmps13
  go_wp2_with fail
  refine (drawChainReadAt_any _ _ _ l _ H.out HL.out).mono ?_
  rintro e w1 ⟨view, A1, n1, c1, r, id, key, rfl, h1, h2, h3, h4, h6, hb1⟩
  obtain ⟨hn1, hl1⟩ := nods_ok h1 h3 h4
  have HG := Lib.hid hl1
  have M1 := Lib.hid h1
  have Vc := Lib.hid (Var.row h6 view)
  have HB := Lib.hid (hb1.alloc hb1.size (.cells #[.int .i64 view, .slice A1 n1 c1] 25))
  have p1 : 0 < n1 := by omega
  clear h1 h4 h6 hb1 H HL hl1
  obtain ⟨a1, ha1⟩ : ∃ a1, (chainReadAt view r id key).1 = a1 := ⟨_, rfl⟩
  obtain ⟨a2, ha2⟩ : ∃ a2, (chainReadAt view r id key).2 = a2 := ⟨_, rfl⟩
  have A1' := Lib.hid ha1
  have A2' := Lib.hid ha2
  have e1 : (a1 != a1) = false := by simp
  have e2 : (a2 != a2) = false := by simp
  have e3 : (a1 == a1) = true := by simp
  have e4 : (a2 == a2) = true := by simp
  clear ha1 ha2
  go_wp2_with fail
  refine (chainReadAt_any view _ _ _ r id key _ Vc.out.nods hn1 HG.out).mono ?_
  rintro e w2 ⟨rfl, hb⟩
  rw [A1'.out, A2'.out]
  have Nc := Lib.hid (Vc.out.on hb)
  have NB := Lib.hid (HB.out.trans (hb.mono HB.out.size))
  clear hb HB Vc
  have Vc := Lib.hid Nc.out
  clear Nc
  have HB := Lib.hid NB.out
  clear NB
  have fc0 := Vc.out.c0
  have fc1 := Vc.out.c1
  have fcl := Vc.out.lt
  go_wp2_with fail
  refine (specChainReadAt_any view _ _ _ r id key _ Vc.out.nods hn1 HG.out).mono ?_
  rintro e w3 ⟨rfl, hb⟩
  rw [A1'.out, A2'.out]
  clear fc0 fc1 fcl
  have Nc := Lib.hid (Vc.out.on hb)
  have NB := Lib.hid (HB.out.trans (hb.mono HB.out.size))
  clear hb HB Vc
  have Vc := Lib.hid Nc.out
  clear Nc
  have HB := Lib.hid NB.out
  clear NB
  have fc0 := Vc.out.c0
  have fc1 := Vc.out.c1
  have fcl := Vc.out.lt
  by_cases ha : a2 = 3
  · have hne : (a2 == 3) = true := by simp [ha]
    clear ha
    go_wp2
    go_ret
    exact ⟨rfl, HB.out⟩
  have hne : (a2 == 3) = false := by simp [ha]
  have hb3 : (chainOk view r && inB key 0 4) = true := by
    cases hb : (chainOk view r && inB key 0 4) with
    | true => rfl
    | false => have := readAt_bad (id := id) hb; have h2 := A2'.out; rw [this] at h2; exact absurd h2.symm ha
  have HB3 := Lib.hid hb3
  obtain ⟨v2, hv2⟩ : ∃ v2, (chainRead view r key).1 = v2 := ⟨_, rfl⟩
  obtain ⟨b2, hb2⟩ : ∃ b2, (chainRead view r key).2 = b2 := ⟨_, rfl⟩
  have HC1 := Lib.hid hv2
  have HC2 := Lib.hid hb2
  have nf := node_field0
  clear hv2 hb2 hb3 ha
  obtain ⟨x, A5, m5, c5, hx, hf, ht⟩ := tail_regrown (view := view) Vc.out.nods p1 hn1
  have hrt := readAt_tail HB3.out M1.out hx
  rw [HC1.out, HC2.out] at hrt
  obtain ⟨d2, hd2⟩ : ∃ d2 : Int, (if b2 = true then (0 : Int) else 2) = d2 := ⟨_, rfl⟩
  rw [hd2] at hrt
  have T1 := Lib.hid ht
  have T2 := Lib.hid (show ∀ (q : Nat) (os : Array Obj), Calls Try.prog 42 #[.agg #[.int .i64 view, .slice A1 n1 c1], .int .i64 x.id, .int .i64 key] (grow (redrawn w3 q) os) fun e w' => e = .returned (.tuple #[.int .i64 v2, .int .i64 d2]) ∧ Below (grow (redrawn w3 q) os).heap.size (grow (redrawn w3 q) os) w' from fun q os => by
    have hc := chainReadAt_any view A1 n1 c1 r x.id key (grow (redrawn w3 q) os) (Vc.out.nods.on (below_regrown w3 q os)) hn1 HG.out
    rw [hrt] at hc
    exact hc)
  have HD2 := Lib.hid hd2
  have d0 := cell_regrown fc0
  have d1 := cell_regrown fc1
  clear hx hf ht hrt hd2
  go_wp2_with fail
  refine wp_region_quiet_below (by kernel_rfl) (by kernel_rfl) ?_
  repeat (go_big_quiet_step ((first | (go_at_call 19; with_reducible exact Calls.regrown_of (T1.out _ _)) | (go_at_call 42; with_reducible exact Calls.regrown_of (T2.out _ _)))))
  refine wpQuiet_nil ?_
  intro w4 hw4
  have hb := below_of_regrown hw4
  clear hw4 d0 d1
  clear fc0 fc1 fcl
  have Nc := Lib.hid (Vc.out.on hb)
  have NB := Lib.hid (HB.out.trans (hb.mono HB.out.size))
  clear hb HB Vc
  have Vc := Lib.hid Nc.out
  clear Nc
  have HB := Lib.hid NB.out
  clear NB
  have fc0 := Vc.out.c0
  have fc1 := Vc.out.c1
  have fcl := Vc.out.lt
  go_wp2_with fail
  refine (chainRead_any view _ _ _ r key _ Vc.out.nods hn1 HG.out).mono ?_
  rintro e w5 ⟨rfl, hb⟩
  rw [HC1.out, HC2.out]
  clear fc0 fc1 fcl
  have Nc := Lib.hid (Vc.out.on hb)
  have NB := Lib.hid (HB.out.trans (hb.mono HB.out.size))
  clear hb HB Vc
  have Vc := Lib.hid Nc.out
  clear Nc
  have HB := Lib.hid NB.out
  clear NB
  have fc0 := Vc.out.c0
  have fc1 := Vc.out.c1
  have fcl := Vc.out.lt
  have hd2 := HD2.out
  cases b2
  all_goals
    simp at hd2
    subst hd2
    go_wp2
    go_ret
    exact ⟨rfl, HB.out⟩
end Go.Proofs.Ytilfomfcfpccdaa
