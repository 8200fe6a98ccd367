/- 'laws.FnStepsPart': the walk of the law: it returns true, and writes nothing that was there. (Its head printed by genlaws.py.) -/
import Derived.Test.YtfdhgahhcnipjaaStepsP
import Derived.Test.YtfdhgahhcnipjaaDrawS
import Derived.Deep.RegionHeld3
namespace Go.Proofs.Ytfdhgahhcnipjaa
open Go.RowKit

theorem own_put3 {W : World} {lo g n cap : Nat} {e : TypeId} {xs : List Stp} (h : W.ownsRow lo e 3 (.slice (some ⟨g, 0, none⟩) n cap) n (xs.flatMap Stp.enc)) {k : Nat} {s : Stp} (hs : xs[k]? = some s) (r : Bool) (kk v : Int) :
    (((W.setCell ⟨g, k * 3, none⟩ (.bool r)).setCell ⟨g, k * 3 + 1, none⟩ (.int .i64 kk)).setCell ⟨g, k * 3 + 2, none⟩ (.int .i64 v)).ownsRow lo e 3 (.slice (some ⟨g, 0, none⟩) n cap) n ((xs.set k ⟨r, kk, v⟩).flatMap Stp.enc) := by
  have hk := (List.getElem?_eq_some_iff.1 hs).1
  have h1 := (h.stored (k * 3) (.bool r)).1
  have e1 := flatMap_set Stp.len (x := s) (x' := ⟨r, s.key, s.value⟩) (j := 0) (u := .bool r) rfl (by omega) xs k hs
  rw [Nat.add_zero] at e1
  rw [e1] at h1
  have h2 := (h1.stored (k * 3 + 1) (.int .i64 kk)).1
  rw [flatMap_set Stp.len (x := ⟨r, s.key, s.value⟩) (x' := ⟨r, kk, s.value⟩) (j := 1) (u := .int .i64 kk) rfl (by omega) _ k (by rw [List.getElem?_set_self hk]), List.set_set] at h2
  have h3 := (h2.stored (k * 3 + 2) (.int .i64 v)).1
  rw [flatMap_set Stp.len (x := ⟨r, kk, s.value⟩) (x' := ⟨r, kk, v⟩) (j := 2) (u := .int .i64 v) rfl (by omega) _ k (by rw [List.getElem?_set_self hk]), List.set_set] at h3
  exact h3

set_option maxHeartbeats 2000000 in
theorem lStepsPart_walk (A : Option Addr) (n c : Nat) (l : List Int) (A2 : Option Addr) (n2 c2 : Nat) (l2 : List Int) (w : World)
    (h : Flat encU8 1 w 0 w.heap.size A n c l) (hl : ∀ x ∈ l, 0 ≤ x ∧ x ≤ 255) (h2 : Flat encU8 1 w 0 w.heap.size A2 n2 c2 l2) (_ : ∀ x ∈ l2, 0 ≤ x ∧ x ≤ 255) :
    Calls Try.prog 5 #[.slice A n c, .slice A2 n2 c2] w fun e w' => e = .returned (.bool true) ∧ Below w.heap.size w w' := by
  obtain ⟨i0, hi, hz0, hz1, hz2⟩ := info_parts infoStepD
  have H := Lib.hid h
  have HL := Lib.hid hl
  clear h hl h2
  by_cases hn : 1048576 < n
  · go_enter Try.func5, Try.ntmps5
    go_wp2
    go_ret
    exact ⟨rfl, Below.refl _ _⟩
  by_cases hn2 : 1048576 < n2
  · go_enter Try.func5, Try.ntmps5
    go_wp2
    go_ret
    exact ⟨rfl, Below.refl _ _⟩
  go_enter Try.func5, Try.ntmps5
  go_wp2_with fail
  refine (drawStepsValid_any _ _ _ l _ H.out HL.out).mono ?_
  rintro e w1 ⟨B, m, d, xs, rfl, hm21, hf1, hb1⟩
  have F1 := Lib.hid hf1
  have B1 := Lib.hid hb1
  have hmd := hf1.2.1
  have s01 := hb1.size
  have hlen := Lib.hid hf1.len
  clear hf1 hb1 H HL
  go_wp2_with fail
  refine (stepsValid_any _ _ _ xs _ (F1.out.mono (Nat.zero_le _) (Nat.le_refl _)) (by omega)).mono ?_
  rintro e w2 ⟨rfl, hb2⟩
  have F2 := Lib.hid (F1.out.below hb2 (Nat.le_refl _))
  have B2 := Lib.hid (B1.out.trans (hb2.mono B1.out.size))
  have s12 := hb2.size
  clear hb2 F1 B1
  go_wp2_with fail
  refine (specStepsValid_any _ _ _ xs _ (F2.out.mono (Nat.zero_le _) s12) (by omega)).mono ?_
  rintro e w3 ⟨rfl, hb3⟩
  have F3 := Lib.hid (F2.out.below hb3 s12)
  have B3 := Lib.hid (B2.out.trans (hb3.mono B2.out.size))
  have s13 : w1.heap.size ≤ w3.heap.size := Nat.le_trans s12 hb3.size
  clear hb3 F2 B2
  cases hok : stepsOk xs
  · go_wp2
    go_ret
    exact ⟨rfl, B3.out⟩
  by_cases hm0 : m = 0
  · have hz : ((m : Int) == 0) = true := by simp; omega
    go_wp2
    go_ret
    exact ⟨rfl, B3.out⟩
  have hz : ((m : Int) == 0) = false := by simp; omega
  have hq1 : n2 % m < m := Nat.mod_lt _ (by omega)
  have e3 : ((n2 : Int) % (m : Int)) = ((n2 % m : Nat) : Int) := by simp
  have e4 : (Int.tmod (n2 : Int) (m : Int)) = ((n2 % m : Nat) : Int) := rfl
  obtain ⟨k, hk⟩ : ∃ k, k = n2 % m := ⟨_, rfl⟩
  rw [← hk] at hq1 e3 e4
  clear hk
  have O1 := Lib.hid (World.ownsRow_made (base := w1.heap.size) (e := 36) (size := 3) w3 #[] 0 s13 (Nat.zero_le _) (by simp))
  have F4 := Lib.hid (F3.out.below ((Below.refl _ w3).alloc (Nat.le_refl _) (.cells #[] 36)) s13)
  have S4 := Lib.hid (flat_src Stp.len (by omega) F4.out)
  have HOK := Lib.hid hok
  clear hok
  go_wp2_with (at_builtin; refine wpList_append_src _ rfl (.tmp 44) (.tmp 45) 30 rfl w1.heap.size 36 i0 _ 3 24 Try.underlying30 hi hz0 hz1 hz2 rfl (by omega) (.slice (some ⟨w3.heap.size, 0, none⟩) 0 0) 0 [] rfl O1.out B m d _ rfl S4.out (one_enc Stp.one _) (by unfold maxLen; omega) (by omega) (by simp; omega) ?_; intro v5 w5 hown5 hg5; rw [Nat.zero_add, List.nil_append] at hown5; obtain ⟨g5, cap5, hv5, _, hc5⟩ := own_form hown5 (by omega); rw [hv5]; rw [hv5] at hown5; have O5 := Lib.hid hown5; have G5 := Lib.hid hg5; have g5lo := (hown5.lt g5 rfl).1; obtain ⟨u0, q0⟩ : ∃ u, w5.cell? ⟨g5, k * 3, none⟩ = some u := ⟨_, (hown5.cellAt (k * 3) (by omega)).trans (List.getElem?_eq_getElem (by rw [hown5.1]; omega))⟩; obtain ⟨u1, q1⟩ : ∃ u, w5.cell? ⟨g5, k * 3 + 1, none⟩ = some u := ⟨_, (hown5.cellAt (k * 3 + 1) (by omega)).trans (List.getElem?_eq_getElem (by rw [hown5.1]; omega))⟩; obtain ⟨u2, q2⟩ : ∃ u, w5.cell? ⟨g5, k * 3 + 2, none⟩ = some u := ⟨_, (hown5.cellAt (k * 3 + 2) (by omega)).trans (List.getElem?_eq_getElem (by rw [hown5.1]; omega))⟩; have f0 := hown5.frozenAt (k * 3); have f1 := hown5.frozenAt (k * 3 + 1); have f2 := hown5.frozenAt (k * 3 + 2); clear hown5 hg5 hv5)
  obtain ⟨s, hs⟩ : ∃ s, xs[k]? = some s := ⟨xs[k]'(by have := hlen.out; omega), List.getElem?_eq_getElem _⟩
  have P5 := own_put3 O5.out hs false 1 (-1)
  have hpl : (xs.set k ⟨false, 1, -1⟩).length = m := by rw [List.length_set]; exact hlen.out
  have F5 := F4.out.grown G5.out (by simp; omega) (fun g e => by cases e; exact .inr s13)
  have hb3 := B3.out.size
  have B5 := (B3.out.alloc hb3 (.cells #[] 36)).grown G5.out (by simp; omega) (fun g e => by cases e; exact hb3)
  have s35 : w3.heap.size ≤ w5.heap.size := by have := G5.out.size; simp at this; omega
  have F6 := Lib.hid (((F5.keep (fun i _ h2 => Below.heap_setCell w5 ⟨g5, k * 3, none⟩ (.bool false) i (by show i ≠ g5; omega))).keep (fun i _ h2 => Below.heap_setCell _ ⟨g5, k * 3 + 1, none⟩ (.int .i64 1) i (by show i ≠ g5; omega))).keep (fun i _ h2 => Below.heap_setCell _ ⟨g5, k * 3 + 2, none⟩ (.int .i64 (-1)) i (by show i ≠ g5; omega)))
  have B6 := Lib.hid (((B5.setCell (p := ⟨g5, k * 3, none⟩) (by show w.heap.size ≤ g5; omega) (.bool false)).setCell (p := ⟨g5, k * 3 + 1, none⟩) (by show w.heap.size ≤ g5; omega) (.int .i64 1)).setCell (p := ⟨g5, k * 3 + 2, none⟩) (by show w.heap.size ≤ g5; omega) (.int .i64 (-1)))
  refine (stepsValid_any _ _ _ (xs.set k ⟨false, 1, -1⟩) _ ((own_flat' Stp.len P5 hpl).mono (Nat.zero_le _) (Nat.le_refl _)) (by omega)).mono ?_
  rintro e w6 ⟨rfl, hb6⟩
  rw [ok_spoilt (show k < xs.length by have := hlen.out; omega)]
  have s6 := hb6.size
  simp only [World.setCell] at s6
  have F7 := Lib.hid ((F6.out.below hb6 (by simp [World.setCell]; omega)).take_ (show m - 1 ≤ m by omega))
  have B7 := Lib.hid (B6.out.trans (hb6.mono B6.out.size))
  have s7 : w5.heap.size ≤ w6.heap.size := by simpa using s6
  have HT := Lib.hid (stepsOk_take HOK.out (m - 1))
  clear hb6 s6 F6 B6 B5 F5 P5 hs hpl q0 q1 q2 f0 f1 f2 O5 G5 F4 S4 O1
  have c1 : (0 : Int) ≤ (m : Int) - 1 := by omega
  have c2 : (m : Int) - 1 ≤ (d : Int) := by omega
  have c3 : ((m : Int) - 1).toNat = m - 1 := by omega
  go_wp2_with fail
  refine (stepsValid_any _ _ _ _ _ (F7.out.mono (Nat.zero_le _) (by omega)) (by omega)).mono ?_
  rintro e w8 ⟨rfl, hb8⟩
  rw [HT.out]
  go_wp2
  go_ret
  exact ⟨rfl, B7.out.trans (hb8.mono B7.out.size)⟩
end Go.Proofs.Ytfdhgahhcnipjaa
