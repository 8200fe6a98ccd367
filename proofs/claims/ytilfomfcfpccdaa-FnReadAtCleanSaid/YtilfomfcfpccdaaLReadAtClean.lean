/- The walk of a law on what a node of a chain tells (laws.FnReadAtClean): it returns true, and writes nothing that was there. -/
import Derived.Test.YtilfomfcfpccdaaVar
import Derived.Test.YtilfomfcfpccdaaDrawRA
import Derived.Test.YtilfomfcfpccdaaReadAt
import Derived.Test.YtilfomfcfpccdaaSameC
namespace Go.Proofs.Ytilfomfcfpccdaa
open Go.RowKit Go.Sort

set_option maxRecDepth 100000 in
set_option maxHeartbeats 16000000 in
theorem readAtClean_walk (A : Option Addr) (n c : Nat) (l : List Int) (w : World) (h : Flat encU8 1 w 0 w.heap.size A n c l) (hl : ∀ x ∈ l, 0 ≤ x ∧ x ≤ 255) :
    Calls Try.prog 11 #[.slice A n c] w fun e w' => e = .returned (.bool true) ∧ Below w.heap.size w w' := by
  have H := Lib.hid h
  have HL := Lib.hid hl
  clear h hl
  by_cases hn : 1048576 < n
  · go_enter Try.func11, Try.ntmps11
    go_wp2
    go_ret
    exact ⟨rfl, Below.refl _ _⟩
  go_enter Try.func11, Try.ntmps11
  go_wp2_with fail
  refine (drawChainReadAt_any _ _ _ l _ H.out HL.out).mono ?_
  rintro e w1 ⟨view, A1, n1, c1, r, id, key, rfl, h1, h2, h3, h4, h6, hb1⟩
  obtain ⟨hn1, hl1⟩ := nods_ok h1 h3 h4
  have HG := Lib.hid hl1
  have M1 := Lib.hid h1
  have Vc := Lib.hid (Var.row h6 view)
  have HB := Lib.hid (hb1.alloc hb1.size (.cells #[.int .i64 view, .slice A1 n1 c1] 25))
  have p1 : 0 < n1 := by omega
  clear h1 h4 h6 hb1 H HL hl1
  obtain ⟨a1, ha1⟩ : ∃ a1, (chainReadAt view r id key).1 = a1 := ⟨_, rfl⟩
  obtain ⟨a2, ha2⟩ : ∃ a2, (chainReadAt view r id key).2 = a2 := ⟨_, rfl⟩
  have A1' := Lib.hid ha1
  have A2' := Lib.hid ha2
  have e1 : (a1 != a1) = false := by simp
  have e2 : (a2 != a2) = false := by simp
  have e3 : (a1 == a1) = true := by simp
  have e4 : (a2 == a2) = true := by simp
  clear ha1 ha2
  go_wp2_with fail
  refine (chainReadAt_any view _ _ _ r id key _ Vc.out.nods hn1 HG.out).mono ?_
  rintro e w2 ⟨rfl, hb⟩
  rw [A1'.out, A2'.out]
  have Nc := Lib.hid (Vc.out.on hb)
  have NB := Lib.hid (HB.out.trans (hb.mono HB.out.size))
  clear hb HB Vc
  have Vc := Lib.hid Nc.out
  clear Nc
  have HB := Lib.hid NB.out
  clear NB
  have fc0 := Vc.out.c0
  have fc1 := Vc.out.c1
  have fcl := Vc.out.lt
  go_wp2_with fail
  refine (specChainReadAt_any view _ _ _ r id key _ Vc.out.nods hn1 HG.out).mono ?_
  rintro e w3 ⟨rfl, hb⟩
  rw [A1'.out, A2'.out]
  clear fc0 fc1 fcl
  have Nc := Lib.hid (Vc.out.on hb)
  have NB := Lib.hid (HB.out.trans (hb.mono HB.out.size))
  clear hb HB Vc
  have Vc := Lib.hid Nc.out
  clear Nc
  have HB := Lib.hid NB.out
  clear NB
  have fc0 := Vc.out.c0
  have fc1 := Vc.out.c1
  have fcl := Vc.out.lt
  by_cases ha : a2 = 3
  · have hne : (a2 == 3) = true := by simp [ha]
    clear ha
    go_wp2
    go_ret
    exact ⟨rfl, HB.out⟩
  have hne : (a2 == 3) = false := by simp [ha]
  have hcr := readAt_any (v := view) (l := r) (id := id) (key := key) (by rw [A2'.out]; exact ha)
  rw [A1'.out, A2'.out] at hcr
  obtain ⟨b2, hb2⟩ : ∃ b2, (a2 == 2) = b2 := ⟨_, rfl⟩
  rw [hb2] at hcr
  have HC1 := Lib.hid (show (chainRead view r key).1 = a1 by rw [hcr])
  have HC2 := Lib.hid (show (chainRead view r key).2 = !b2 by rw [hcr])
  clear hcr ha
  go_wp2_with fail
  refine (chainRead_any view _ _ _ r key _ Vc.out.nods hn1 HG.out).mono ?_
  rintro e w4 ⟨rfl, hb⟩
  rw [HC1.out, HC2.out]
  clear fc0 fc1 fcl
  have Nc := Lib.hid (Vc.out.on hb)
  have NB := Lib.hid (HB.out.trans (hb.mono HB.out.size))
  clear hb HB Vc
  have Vc := Lib.hid Nc.out
  clear Nc
  have HB := Lib.hid NB.out
  clear NB
  have fc0 := Vc.out.c0
  have fc1 := Vc.out.c1
  have fcl := Vc.out.lt
  cases b2
  all_goals
    go_wp2
    go_ret
    exact ⟨rfl, HB.out⟩
end Go.Proofs.Ytilfomfcfpccdaa
