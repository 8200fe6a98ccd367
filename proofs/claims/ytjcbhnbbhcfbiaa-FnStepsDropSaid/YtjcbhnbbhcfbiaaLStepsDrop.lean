/- 'laws.FnStepsDrop': the walk of the law: it returns true, and writes nothing that was there.  -/
import Derived.Test.YtjcbhnbbhcfbiaaStepsP
import Derived.Test.YtjcbhnbbhcfbiaaDrawS
import Derived.Deep.RegionHeld3
namespace Go.Proofs.Ytjcbhnbbhcfbiaa
open Go.RowKit
set_option linter.unusedVariables false

theorem ite_of {c : Prop} [Decidable c] {A B : Prop} (hc : c) (h : A) : if c then A else B := by rw [if_pos hc]; exact h

set_option maxHeartbeats 2000000 in
theorem lStepsDrop_walk (A : Option Addr) (n c : Nat) (l : List Int) (A2 : Option Addr) (n2 c2 : Nat) (l2 : List Int) (w : World)
    (h : Flat encU8 1 w 0 w.heap.size A n c l) (hl : ∀ x ∈ l, 0 ≤ x ∧ x ≤ 255) (h2 : Flat encU8 1 w 0 w.heap.size A2 n2 c2 l2) (_ : ∀ x ∈ l2, 0 ≤ x ∧ x ≤ 255) :
    Calls Try.prog 3 #[.slice A n c, .slice A2 n2 c2] w fun e w' => e = .returned (.bool true) ∧ Below w.heap.size w w' := by
  obtain ⟨i0, hi, hz0, hz1, hz2⟩ := info_parts infoStepD
  have H := Lib.hid h
  have HL := Lib.hid hl
  clear h hl h2
  by_cases hn : 1048576 < n
  · go_enter Try.func3, Try.ntmps3
    go_wp2
    go_ret
    exact ⟨rfl, Below.refl _ _⟩
  by_cases hn2 : 1048576 < n2
  · go_enter Try.func3, Try.ntmps3
    go_wp2
    go_ret
    exact ⟨rfl, Below.refl _ _⟩
  go_enter Try.func3, Try.ntmps3
  go_wp2_with fail
  refine (drawStepsFit_any _ _ _ l _ H.out HL.out).mono ?_
  rintro e w1 ⟨B, m, d, xs, rfl, hm21, hf1, hb1⟩
  have F1 := Lib.hid hf1
  have B1 := Lib.hid hb1
  have hmd := hf1.2.1
  have s01 := hb1.size
  have hlen := Lib.hid hf1.len
  clear hf1 hb1 H HL
  go_wp2_with fail
  refine (stepsFit_any _ _ _ xs _ (F1.out.mono (Nat.zero_le _) (Nat.le_refl _)) (by omega)).mono ?_
  rintro e w2 ⟨rfl, hb2⟩
  have F2 := Lib.hid (F1.out.below hb2 (Nat.le_refl _))
  have B2 := Lib.hid (B1.out.trans (hb2.mono B1.out.size))
  have s12 := hb2.size
  clear hb2 F1 B1
  go_wp2_with fail
  refine (specStepsFit_any _ _ _ xs _ (F2.out.mono (Nat.zero_le _) s12) (by omega)).mono ?_
  rintro e w3 ⟨rfl, hb3⟩
  have F3 := Lib.hid (F2.out.below hb3 s12)
  have B3 := Lib.hid (B2.out.trans (hb3.mono B2.out.size))
  have s13 : w1.heap.size ≤ w3.heap.size := Nat.le_trans s12 hb3.size
  clear hb3 F2 B2
  cases hok : stepsFit xs
  · go_wp2
    go_ret
    exact ⟨rfl, B3.out⟩
  by_cases hm0 : m = 0
  · have hz : ((m : Int) == 0) = true := by simp; omega
    go_wp2
    go_ret
    exact ⟨rfl, B3.out⟩
  have hz : ((m : Int) == 0) = false := by simp; omega
  have hq1 : n2 % m < m := Nat.mod_lt _ (by omega)
  have e3 : ((n2 : Int) % (m : Int)) = ((n2 % m : Nat) : Int) := by simp
  have e4 : (Int.tmod (n2 : Int) (m : Int)) = ((n2 % m : Nat) : Int) := rfl
  obtain ⟨k, hk⟩ : ∃ k, k = n2 % m := ⟨_, rfl⟩
  rw [← hk] at hq1 e3 e4
  clear hk
  obtain ⟨b, off, s, hB, _, hb1, hs, c0, _, _⟩ := F3.out.stp hq1
  cases hr : s.reads
  · rw [hr] at c0
    subst hB
    clear hr hs hok
    go_wp2_with fail
    go_quiet (fail)
    go_wp2
    go_ret
    exact ⟨rfl, below_drewN B3.out _⟩
  rw [hr] at c0
  have HS := Lib.hid hs
  have HR := Lib.hid hr
  have HX := Lib.hid (fit_erase hok hs hr)
  clear hs hr hok
  have O1 := Lib.hid ((World.ownsRow_made (base := w1.heap.size) (e := 27) (size := 3) w3 #[] 0 s13 (Nat.zero_le _) (by simp)).drew)
  have F4 := Lib.hid (((F3.out.below ((Below.refl _ w3).alloc (Nat.le_refl _) (.cells #[] 27)) s13).below (Below.refl w3.heap.size _).drew s13))
  have S4 := Lib.hid (flat_src Stp.len (by omega) (F4.out.take_ (show k ≤ m by omega)))
  have b0 : (0 : Int) ≤ (k : Int) := by omega
  have b1 : (k : Int) ≤ (d : Int) := by omega
  have b2 : (k : Int) + 1 ≤ (m : Int) := by omega
  have b3 : (k : Int) + 1 ≤ (d : Int) := by omega
  have b4 : IntKind.i64.wrap ((k : Int) + 1) = (k : Int) + 1 := IntWalk.i64_in _ (by omega)
  have b5 : (0 : Int) ≤ (k : Int) + 1 := by omega
  have b7 : (k : Int) ≤ (m : Int) := by omega
  have b6 : ((k : Int) + 1).toNat = k + 1 := by omega
  subst hB
  go_wp2_with fail
  by_cases hdk : d = k + 1
  · have HDK := Lib.hid hdk
    have hdk' : (d = k + 1) = True := eq_true hdk
    clear hdk
    have hxl := Lib.hid (show (xs.take k ++ xs.drop (k + 1)).length = m - 1 by have := hlen.out; rw [List.length_append, List.length_take, List.length_drop]; omega)
    have cA : (w3.alloc (.cells #[] 27)).drew.cell? ⟨b, off + k * 3, none⟩ = some (.bool true) := (World.cell?_alloc_past _ _ _ (show b < w3.heap.size by omega)).trans c0
    go_region_held3 (fun W => W.cell? ⟨b, off + k * 3, none⟩ = some (.bool true)) (first | exact c0 | exact cA | exact c4 | exact c5 | exact c6)
      ((first
        | (refine ite_of (by rfl) ?_; refine wp_append_src _ (.tmp 50) (.tmp 53) 23 (by rfl) w1.heap.size 27 i0 _ 3 24 Try.underlying23 hi hz0 hz1 hz2 rfl (by omega) (.slice (some ⟨w3.heap.size, 0, none⟩) 0 0) 0 [] (by rfl) O1.out (some ⟨b, off, none⟩) k d _ (by rfl) S4.out (one_enc Stp.one _) (by unfold maxLen; omega) (by omega) (by simp; omega) ?_; intro v4 w4 hown4 hg4; have F5 := Lib.hid (F4.out.grown hg4 (by simp; omega) (fun g e => by cases e; exact .inr s13)); have D5 := F5.out.drop_ (show k + 1 ≤ m by omega); rw [if_pos HDK.out] at D5; have S5 := Lib.hid (flat_src Stp.len (by omega) D5); have c4 : w4.cell? ⟨b, off + k * 3, none⟩ = some (.bool true) := (World.cell?_of_block (hg4.block b (by simp; omega) (fun e => by simp [Value.ownBlock] at e; omega))).trans cA)
        | (refine ite_of (by rfl) ?_; refine wp_append_src _ (.tmp 54) (.tmp 58) 23 (by rfl) w1.heap.size 27 i0 _ 3 24 Try.underlying23 hi hz0 hz1 hz2 rfl (by omega) v4 (0 + k) _ (by rfl) hown4 _ (m - (k + 1)) (d - (k + 1)) _ (by rfl) S5.out (one_enc Stp.one _) (by unfold maxLen; omega) (by omega) (by have := hg4.size; simp at this; omega) ?_; intro v5 w5 hown5 hg5; have c5 : w5.cell? ⟨b, off + k * 3, none⟩ = some (.bool true) := (World.cell?_of_block (hg5.block b (by have := hg4.size; simp at this; omega) (fun e => by have := (hown4.lt b e.symm).1; omega))).trans c4; have e5 : 0 + k + (m - (k + 1)) = m - 1 := (by omega); rw [e5] at hown5; have hown6 : w5.ownsRow w1.heap.size 27 3 v5 (m - 1) ((xs.take k ++ xs.drop (k + 1)).flatMap Stp.enc) := (by rw [List.flatMap_append]; simpa using hown5); obtain ⟨X, cx, hv5, fx⟩ := own_flat Stp.len hown6 hxl.out; have FX := Lib.hid fx; have G4 := Lib.hid hg4; have G5 := Lib.hid hg5; have H4 := Lib.hid (show ∀ g, v4.ownBlock = some g → w1.heap.size ≤ g from fun g e => (hown4.lt g e).1); clear hown5 hown6 fx e5; subst hv5)
        | (go_at_call 7; refine (stepsFit_any _ _ _ (xs.take k ++ xs.drop (k + 1)) _ (FX.out.mono (Nat.zero_le _) (Nat.le_refl _)) (by omega)).mono ?_; rintro e w6 ⟨rfl, hb6⟩; rw [HX.out]; have c6 : w6.cell? ⟨b, off + k * 3, none⟩ = some (.bool true) := (hb6.cell (p := ⟨b, off + k * 3, none⟩) (by have := G4.out.size; have := G5.out.size; simp at *; omega)).trans c5)))
    have hb3 := B3.out.size
    have B4 := Lib.hid (((B3.out.alloc hb3 (.cells #[] 27)).drew.grown G4.out (by simp; omega) (fun g e => by cases e; exact hb3)))
    have B5 := Lib.hid (B4.out.grown G5.out B4.out.size (fun g e => by have := H4.out g e; omega))
    go_wp2
    go_ret
    exact ⟨rfl, B5.out.trans (hb6.mono B5.out.size)⟩
  · skip
    have hxl := Lib.hid (show (xs.take k ++ xs.drop (k + 1)).length = m - 1 by have := hlen.out; rw [List.length_append, List.length_take, List.length_drop]; omega)
    have cA : (w3.alloc (.cells #[] 27)).drew.cell? ⟨b, off + k * 3, none⟩ = some (.bool true) := (World.cell?_alloc_past _ _ _ (show b < w3.heap.size by omega)).trans c0
    go_region_held3 (fun W => W.cell? ⟨b, off + k * 3, none⟩ = some (.bool true)) (first | exact c0 | exact cA | exact c4 | exact c5 | exact c6)
      ((first
        | (refine ite_of (by rfl) ?_; refine wp_append_src _ (.tmp 50) (.tmp 53) 23 (by rfl) w1.heap.size 27 i0 _ 3 24 Try.underlying23 hi hz0 hz1 hz2 rfl (by omega) (.slice (some ⟨w3.heap.size, 0, none⟩) 0 0) 0 [] (by rfl) O1.out (some ⟨b, off, none⟩) k d _ (by rfl) S4.out (one_enc Stp.one _) (by unfold maxLen; omega) (by omega) (by simp; omega) ?_; intro v4 w4 hown4 hg4; have F5 := Lib.hid (F4.out.grown hg4 (by simp; omega) (fun g e => by cases e; exact .inr s13)); have D5 := F5.out.drop_ (show k + 1 ≤ m by omega); rw [if_neg hdk] at D5; have S5 := Lib.hid (flat_src Stp.len (by omega) D5); have c4 : w4.cell? ⟨b, off + k * 3, none⟩ = some (.bool true) := (World.cell?_of_block (hg4.block b (by simp; omega) (fun e => by simp [Value.ownBlock] at e; omega))).trans cA)
        | (refine ite_of (by rfl) ?_; refine wp_append_src _ (.tmp 54) (.tmp 58) 23 (by rfl) w1.heap.size 27 i0 _ 3 24 Try.underlying23 hi hz0 hz1 hz2 rfl (by omega) v4 (0 + k) _ (by rfl) hown4 _ (m - (k + 1)) (d - (k + 1)) _ (by rfl) S5.out (one_enc Stp.one _) (by unfold maxLen; omega) (by omega) (by have := hg4.size; simp at this; omega) ?_; intro v5 w5 hown5 hg5; have c5 : w5.cell? ⟨b, off + k * 3, none⟩ = some (.bool true) := (World.cell?_of_block (hg5.block b (by have := hg4.size; simp at this; omega) (fun e => by have := (hown4.lt b e.symm).1; omega))).trans c4; have e5 : 0 + k + (m - (k + 1)) = m - 1 := (by omega); rw [e5] at hown5; have hown6 : w5.ownsRow w1.heap.size 27 3 v5 (m - 1) ((xs.take k ++ xs.drop (k + 1)).flatMap Stp.enc) := (by rw [List.flatMap_append]; simpa using hown5); obtain ⟨X, cx, hv5, fx⟩ := own_flat Stp.len hown6 hxl.out; have FX := Lib.hid fx; have G4 := Lib.hid hg4; have G5 := Lib.hid hg5; have H4 := Lib.hid (show ∀ g, v4.ownBlock = some g → w1.heap.size ≤ g from fun g e => (hown4.lt g e).1); clear hown5 hown6 fx e5; subst hv5)
        | (go_at_call 7; refine (stepsFit_any _ _ _ (xs.take k ++ xs.drop (k + 1)) _ (FX.out.mono (Nat.zero_le _) (Nat.le_refl _)) (by omega)).mono ?_; rintro e w6 ⟨rfl, hb6⟩; rw [HX.out]; have c6 : w6.cell? ⟨b, off + k * 3, none⟩ = some (.bool true) := (hb6.cell (p := ⟨b, off + k * 3, none⟩) (by have := G4.out.size; have := G5.out.size; simp at *; omega)).trans c5)))
    have hb3 := B3.out.size
    have B4 := Lib.hid (((B3.out.alloc hb3 (.cells #[] 27)).drew.grown G4.out (by simp; omega) (fun g e => by cases e; exact hb3)))
    have B5 := Lib.hid (B4.out.grown G5.out B4.out.size (fun g e => by have := H4.out g e; omega))
    go_wp2
    go_ret
    exact ⟨rfl, B5.out.trans (hb6.mono B5.out.size)⟩
end Go.Proofs.Ytjcbhnbbhcfbiaa
