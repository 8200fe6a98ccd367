/- 'laws.FnCallsPart': the walk of the law: it returns true, and writes nothing that was there. -/
import Derived.Test.YtfdhgahhcnipjaaCallsB
import Derived.Test.YtfdhgahhcnipjaaCallsP
import Derived.Test.YtfdhgahhcnipjaaDrawC
import Derived.Deep.RegionHeld3
namespace Go.Proofs.Ytfdhgahhcnipjaa
open Go.RowKit

set_option maxHeartbeats 2000000 in
theorem callsPart_walk (A : Option Addr) (n c : Nat) (l : List Int) (A2 : Option Addr) (n2 c2 : Nat) (l2 : List Int) (w : World)
    (h : Flat encU8 1 w 0 w.heap.size A n c l) (hl : ∀ x ∈ l, 0 ≤ x ∧ x ≤ 255) (h2 : Flat encU8 1 w 0 w.heap.size A2 n2 c2 l2) (_ : ∀ x ∈ l2, 0 ≤ x ∧ x ≤ 255) :
    Calls Try.prog 3 #[.slice A n c, .slice A2 n2 c2] w fun e w' => e = .returned (.bool true) ∧ Below w.heap.size w w' := by
  obtain ⟨i0, hi, hz0, hz1, hz2⟩ := info_parts infoCallD
  have H := Lib.hid h
  have HL := Lib.hid hl
  clear h hl h2
  by_cases hn : 1048576 < n
  · go_enter Try.func3, Try.ntmps3
    go_wp2
    go_ret
    exact ⟨rfl, Below.refl _ _⟩
  by_cases hn2 : 1048576 < n2
  · go_enter Try.func3, Try.ntmps3
    go_wp2
    go_ret
    exact ⟨rfl, Below.refl _ _⟩
  go_enter Try.func3, Try.ntmps3
  go_wp2_with fail
  refine (drawCallsValid_any _ _ _ l _ H.out HL.out).mono ?_
  rintro e w1 ⟨B, m, d, xs, rfl, hm6, hf1, hb1⟩
  have F1 := Lib.hid hf1
  have B1 := Lib.hid hb1
  have hmd := hf1.2.1
  have s01 := hb1.size
  have hlen := Lib.hid hf1.len
  clear hf1 hb1 H HL
  go_wp2_with fail
  refine (callsValid_any _ _ _ xs _ (F1.out.mono (Nat.zero_le _) (Nat.le_refl _)) (by omega)).mono ?_
  rintro e w2 ⟨rfl, hb2⟩
  have F2 := Lib.hid (F1.out.below hb2 (Nat.le_refl _))
  have B2 := Lib.hid (B1.out.trans (hb2.mono B1.out.size))
  have s12 := hb2.size
  clear hb2 F1 B1
  go_wp2_with fail
  refine (specCallsValid_any _ _ _ xs _ (F2.out.mono (Nat.zero_le _) s12) (by omega)).mono ?_
  rintro e w3 ⟨rfl, hb3⟩
  have F3 := Lib.hid (F2.out.below hb3 s12)
  have B3 := Lib.hid (B2.out.trans (hb3.mono B2.out.size))
  have s13 : w1.heap.size ≤ w3.heap.size := Nat.le_trans s12 hb3.size
  clear hb3 F2 B2
  cases hok : callsOk xs
  · go_wp2
    go_ret
    exact ⟨rfl, B3.out⟩
  by_cases hm0 : m = 0
  · have hz : ((m : Int) == 0) = true := by simp; omega
    go_wp2
    go_ret
    exact ⟨rfl, B3.out⟩
  have hz : ((m : Int) == 0) = false := by simp; omega
  have hq1 : n2 % m < m := Nat.mod_lt _ (by omega)
  have e3 : ((n2 : Int) % (m : Int)) = ((n2 % m : Nat) : Int) := by simp
  have e4 : (Int.tmod (n2 : Int) (m : Int)) = ((n2 % m : Nat) : Int) := rfl
  obtain ⟨k, hk⟩ : ∃ k, k = n2 % m := ⟨_, rfl⟩
  rw [← hk] at hq1 e3 e4
  clear hk
  go_wp2_with fail
  have O1 := Lib.hid ((World.ownsRow_made (base := w1.heap.size) (e := 48) (size := 4) w3 #[] 0 s13 (Nat.zero_le _) (by simp)).drew)
  have F4 := Lib.hid (((F3.out.below ((Below.refl _ w3).alloc (Nat.le_refl _) (.cells #[] 48)) s13).below (Below.refl w3.heap.size _).drew s13))
  have S4 := Lib.hid (flat_src Cll.len (by omega) (F4.out.take_ (show k ≤ m by omega)))
  have b0 : (0 : Int) ≤ (k : Int) := by omega
  have b1 : (k : Int) ≤ (d : Int) := by omega
  have b2 : (k : Int) + 1 ≤ (m : Int) := by omega
  have b3 : (k : Int) + 1 ≤ (d : Int) := by omega
  have b4 : IntKind.i64.wrap ((k : Int) + 1) = (k : Int) + 1 := IntWalk.i64_in _ (by omega)
  have b5 : (0 : Int) ≤ (k : Int) + 1 := by omega
  have b7 : (k : Int) ≤ (m : Int) := by omega
  have b6 : ((k : Int) + 1).toNat = k + 1 := by omega
  go_region_held3 (fun _ => True) (trivial)
    ((first
      | (refine step_append_src _ (by rfl) (.tmp 45) (.tmp 48) 23 (by rfl) w1.heap.size 48 i0 _ 4 32 Try.underlying23 hi hz0 hz1 hz2 rfl (by omega) (.slice (some ⟨w3.heap.size, 0, none⟩) 0 0) 0 [] (by rfl) O1.out B k d _ (by rfl) S4.out (one_enc Cll.one _) (by unfold maxLen; omega) (by omega) (by simp; omega) ?_; intro v4 w4 hown4 hg4; have F5 := Lib.hid (F4.out.grown hg4 (by simp; omega) (fun g e => by cases e; exact .inr s13)); have S5 := Lib.hid (flat_src Cll.len (by omega) (F5.out.drop_ (show k + 1 ≤ m by omega))))
      | (refine step_append_src _ (by rfl) (.tmp 49) (.tmp 53) 23 (by rfl) w1.heap.size 48 i0 _ 4 32 Try.underlying23 hi hz0 hz1 hz2 rfl (by omega) v4 (0 + k) _ (by rfl) hown4 _ (m - (k + 1)) (d - (k + 1)) _ (by rfl) S5.out (one_enc Cll.one _) (by unfold maxLen; omega) (by omega) (by have := hg4.size; simp at this; omega) ?_; intro v5 w5 hown5 hg5)))
  -- x: all calls but number k
  have hb3 := B3.out.size
  have B4 := Lib.hid (((B3.out.alloc hb3 (.cells #[] 48)).drew.grown hg4 (by simp; omega) (fun g e => by cases e; exact hb3)))
  have s34 : w3.heap.size < w4.heap.size := by have := hg4.size; simp at this; omega
  have B5 := Lib.hid (B4.out.grown hg5 B4.out.size (fun g e => by have := (hown4.lt g e).1; omega))
  have F6 := Lib.hid (F5.out.grown hg5 (by omega) (fun g e => .inr (hown4.lt g e).1))
  have s45 := hg5.size
  have e5 : 0 + k + (m - (k + 1)) = m - 1 := by omega
  have X5 : w5.ownsRow w1.heap.size 48 4 v5 (m - 1) ((xs.take k ++ xs.drop (k + 1)).flatMap Cll.enc) := by
    rw [← e5, List.flatMap_append]; simpa using hown5
  have hxl : (xs.take k ++ xs.drop (k + 1)).length = m - 1 := by have := hlen.out; rw [List.length_append, List.length_take, List.length_drop]; omega
  obtain ⟨X, cx, hv5, fx⟩ := own_flat Cll.len X5 hxl
  rw [hv5]
  have FX := Lib.hid fx
  have HX := Lib.hid (callsOk_erase hok k)
  clear fx X5 hown5 hg5 hown4 hg4 F5 S5 F4 S4 O1 F3 B3 B4 hv5 e5
  obtain ⟨Z, hZ⟩ : ∃ Z, (if d = k + 1 then B else Option.map (fun x => x.add ((k + 1) * 4)) B) = Z := ⟨_, rfl⟩
  rw [hZ]
  clear hZ
  go_wp2_with fail
  -- y: number k twice
  have O1 := Lib.hid ((World.ownsRow_made (base := w5.heap.size) (e := 48) (size := 4) w5 #[] 0 (Nat.le_refl _) (Nat.zero_le _) (by simp)).drew)
  have W7 := (Below.refl w5.heap.size w5).alloc (Nat.le_refl _) (.cells #[] 48) |>.drew
  have s15 : w1.heap.size ≤ w5.heap.size := by omega
  have F7 := Lib.hid (F6.out.below W7 s15)
  have S7 := Lib.hid (flat_src Cll.len (by omega) (F7.out.take_ (show k + 1 ≤ m by omega)))
  have G7 := Lib.hid (FX.out.below W7 (Nat.le_refl _))
  have B7 := Lib.hid (B5.out.trans (W7.mono B5.out.size))
  clear W7
  go_region_held3 (fun _ => True) (trivial)
    ((first
      | (refine step_append_src _ (by rfl) (.tmp 55) (.tmp 59) 23 (by rfl) w5.heap.size 48 i0 _ 4 32 Try.underlying23 hi hz0 hz1 hz2 rfl (by omega) (.slice (some ⟨w5.heap.size, 0, none⟩) 0 0) 0 [] (by rfl) O1.out B (k + 1) d _ (by rfl) S7.out (one_enc Cll.one _) (by unfold maxLen; omega) (by omega) (by simp) ?_; intro v8 w8 hown8 hg8; have F8 := Lib.hid (F7.out.grown hg8 (by simp; omega) (fun g e => by cases e; exact .inr s15)); have S8 := Lib.hid (flat_src Cll.len (by omega) (F8.out.drop_ (show k ≤ m by omega))))
      | (refine step_append_src _ (by rfl) (.tmp 60) (.tmp 63) 23 (by rfl) w5.heap.size 48 i0 _ 4 32 Try.underlying23 hi hz0 hz1 hz2 rfl (by omega) v8 (0 + (k + 1)) _ (by rfl) hown8 _ (m - k) (d - k) _ (by rfl) S8.out (one_enc Cll.one _) (by unfold maxLen; omega) (by omega) (by have := hg8.size; simp at this; omega) ?_; intro v9 w9 hown9 hg9)))
  have s78 := hg8.size
  simp only [World.size_drew, World.size_alloc] at s78
  have s89 := hg9.size
  have G8 := Lib.hid (G7.out.grown hg8 (by simp) (fun g e => by cases e; exact .inr (Nat.le_refl _)))
  have G9 := Lib.hid (G8.out.grown hg9 (by omega) (fun g e => .inr (hown8.lt g e).1))
  have B8 := Lib.hid (B7.out.grown hg8 (by simp; omega) (fun g e => by cases e; show w.heap.size ≤ w5.heap.size; omega))
  have B9 := Lib.hid (B8.out.grown hg9 B8.out.size (fun g e => by have := (hown8.lt g e).1; omega))
  have e5 : 0 + (k + 1) + (m - k) = m + 1 := by omega
  have X9 : w9.ownsRow w5.heap.size 48 4 v9 (m + 1) ((xs.take (k + 1) ++ xs.drop k).flatMap Cll.enc) := by
    rw [← e5, List.flatMap_append]; simpa using hown9
  have hyl : (xs.take (k + 1) ++ xs.drop k).length = m + 1 := by have := hlen.out; rw [List.length_append, List.length_take, List.length_drop]; omega
  obtain ⟨Y, cy, hv9, fy⟩ := own_flat Cll.len X9 hyl
  rw [hv9]
  have FY := Lib.hid fy
  have HY := Lib.hid (callsOk_twice (show k < xs.length by have := hlen.out; omega))
  clear fy X9 hown9 hg9 hown8 hg8 F8 S8 F7 S7 O1 hv9 e5 G8 G7 B8 B7 F6 FX
  obtain ⟨Z2, hZ2⟩ : ∃ Z, (if d = k then B else Option.map (fun x => x.add (k * 4)) B) = Z := ⟨_, rfl⟩
  rw [hZ2]
  clear hZ2
  go_wp2_with fail
  refine (callsValid_any _ _ _ _ _ (G9.out.mono (Nat.zero_le _) (by omega)) (by omega)).mono ?_
  rintro e w10 ⟨rfl, hb10⟩
  have F10 := Lib.hid (FY.out.below hb10 (Nat.le_refl _))
  have B10 := Lib.hid (B9.out.trans (hb10.mono B9.out.size))
  have s910 := hb10.size
  clear hb10
  rw [HX.out]
  go_wp2_with fail
  refine (callsValid_any _ _ _ _ _ (F10.out.mono (Nat.zero_le _) s910) (by omega)).mono ?_
  rintro e w11 ⟨rfl, hb11⟩
  rw [HY.out]
  go_wp2
  go_ret
  exact ⟨rfl, B10.out.trans (hb11.mono B10.out.size)⟩
end Go.Proofs.Ytfdhgahhcnipjaa
