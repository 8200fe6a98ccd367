/- Logs: valid, copied, compared: the program's and the reference's walks. -/
import Derived.Test.YtnbakpdphfdacaaNod
import Derived.Test.YtnbakpdphfdacaaCopy
namespace Go.Proofs.Ytnbakpdphfdacaa
open Go.RowKit

theorem infoUpd : (Try.prog.info? 72).map (fun i => (i.zero, i.size, i.bytes)) = some (some (.agg #[.int .i64 0, .int .i64 0]), 2, 16) := by kernel_rfl
theorem sizeUpd : (Try.prog.info? 72).map (·.size) = some 2 := by kernel_rfl

theorem all_upd_succ {l : List Upd} {k : Nat} {u : Upd} (h : (l.take k).all (fun u => updOk u.key u.value) = true) (hu : l[k]? = some u) (ho : updOk u.key u.value = true) : (l.take (k + 1)).all (fun u => updOk u.key u.value) = true := by
  have hk := (List.getElem?_eq_some_iff.1 hu).1
  have e : l[k] = u := by rw [List.getElem?_eq_getElem hk] at hu; injection hu
  rw [List.take_succ_eq_append_getElem hk, List.all_append, h, e]; simp [ho]
theorem all_upd_false {l : List Upd} {k : Nat} {u : Upd} (hu : l[k]? = some u) (ho : updOk u.key u.value = false) : logOk l = false := by
  have : (l.all fun u => updOk u.key u.value) = false := by rw [List.all_eq_false]; exact ⟨u, List.mem_of_getElem? hu, by simp [ho]⟩
  unfold logOk; rw [this]; simp
theorem all_upd_end {l : List Upd} {n : Nat} (hl : l.length = n) (h : (l.take n).all (fun u => updOk u.key u.value) = true) : logOk l = decide (n ≤ 12) := by
  rw [List.take_of_length_le (by omega)] at h
  unfold logOk; rw [h, hl]; simp

/-- what a copied log leaves -/
def LogCopied (w : World) (n : Nat) (l : List Upd) (e : Ending) (w' : World) : Prop :=
  e = .returned (.slice (some ⟨w.heap.size, 0, none⟩) n n) ∧ w'.ownsRow w.heap.size 72 2 (.slice (some ⟨w.heap.size, 0, none⟩) n n) n (l.flatMap Upd.enc) ∧ Below w.heap.size w w'

set_option maxHeartbeats 1000000 in
theorem copyLog_any (A : Option Addr) (n c : Nat) (l : List Upd) (w : World) (h : Flat Upd.enc 2 w 0 w.heap.size A n c l) (hn : n ≤ 1048576) :
    Calls Try.prog 57 #[.slice A n c] w (LogCopied w n l) := by
  have hlen := h.len
  obtain ⟨i0, hi, hz0, hz1, hz2⟩ := info_parts infoUpd
  have hmk := fun W => make_rows (P := Try.prog) 40 72 i0 _ Try.underlying40 hi hz0 n (by rw [hz2]; omega) (by omega) W
  rw [hz1] at hmk
  have H := Lib.hid h
  have HL := Lib.hid hlen
  clear h hlen hi hz0 hz1 hz2
  obtain ⟨Z, hZ⟩ : ∃ Z, Z = madeCells (Value.agg #[.int .i64 0, .int .i64 0]).cells (n * 2) := ⟨_, rfl⟩
  rw [← hZ] at hmk
  have hZs : Z.size = n * 2 := by rw [hZ]; exact size_madeCells _ _
  have HZ := Lib.hid hZs
  clear hZs hZ
  have hb0 : Below w.heap.size w (w.alloc (.cells Z 72)) := (Below.refl _ _).alloc (Nat.le_refl _) _
  have S := Lib.hid (flat_src Upd.len (by omega) (H.out.below hb0 (Nat.le_refl _)))
  have HB0 := Lib.hid hb0
  clear hb0
  go_enter Try.func57, Try.ntmps57
  go_wp2_with (with_reducible refine wpList_copy_rows rfl _ _ 40 40 rfl 72 Try.underlying40 2 sizeUpd w.heap.size n n c A rfl rfl Z (heap_alloc_new _ _) HZ.out _ S.out (one_enc Upd.one _) (by unfold maxLen; omega) w.heap.size w.heap.size w HB0.out (Nat.le_refl _) (Nat.le_refl _) ?_; intro w2 hown2 hb2; have B2 := Lib.hid hb2; clear hb2)
  go_ret
  exact ⟨rfl, hown2.out, B2.out⟩

set_option maxHeartbeats 1000000 in
theorem logValid_any (A : Option Addr) (n c : Nat) (l : List Upd) (w : World) (h : Flat Upd.enc 2 w 0 w.heap.size A n c l) (hn : n ≤ 1048576) :
    Calls Try.prog 109 #[.slice A n c] w fun e w' => e = .returned (.bool (logOk l)) ∧ Below w.heap.size w w' := by
  have HL := Lib.hid h.len
  have H := Lib.hid h
  clear h
  by_cases h12 : n ≤ 12
  case neg =>
    go_enter Try.func109, Try.ntmps109
    go_wp2
    go_ret
    exact ⟨ret_bool (by unfold logOk; rw [HL.out]; simp [h12]), Below.refl _ _⟩
  case pos =>
  go_enter Try.func109, Try.ntmps109
  go_wp2
  go_loopw [10] (fun i wr => ∃ k : Nat, k ≤ n ∧ i = .int .i64 k ∧ Hid ((l.take k).all (fun u => updOk u.key u.value) = true) ∧ Below w.heap.size w wr)
    (fun i _ => n - (intOf i).toNat)
  case atStart => exact ⟨0, Nat.zero_le _, rfl, rfl, Below.refl _ _⟩
  case round =>
    obtain ⟨k, hk, rfl, hall, hB⟩ := hrel
    have HW := Lib.hid (H.out.below hB (Nat.le_refl _))
    have HB := Lib.hid hB
    have hsz := hB.size
    clear hB H
    by_cases hlt : k < n
    · obtain ⟨b, off, u, rfl, _, hbB, hu, c0, c1⟩ := HW.out.upd hlt
      have Hu := Lib.hid hu
      clear hu
      cases hok : updOk u.key u.value
      all_goals
        go_wp2_with (go_at_call 119; refine (updValid_any _ _ _).mono ?_; rintro e w1 ⟨rfl, hb1⟩; have B1 := Lib.hid hb1; clear hb1)
      · go_ret
        exact ⟨ret_bool (all_upd_false Hu.out hok).symm, (HB.out.alloc hsz _).trans (B1.out.mono (by simp; omega))⟩
      · go_roundw
        case rel => exact ⟨k + 1, by omega, by go_num, all_upd_succ hall.out Hu.out hok, (HB.out.alloc hsz _).trans (B1.out.mono (by simp; omega))⟩
        case measure => simp [intOf]; omega
    · obtain rfl : n = k := by omega
      go_wp2
      go_ret
      exact ⟨ret_bool (by rw [all_upd_end HL.out hall.out]; simp [h12]), HB.out⟩

set_option maxHeartbeats 1000000 in
theorem specLogValid_any (A : Option Addr) (n c : Nat) (l : List Upd) (w : World) (h : Flat Upd.enc 2 w 0 w.heap.size A n c l) (hn : n ≤ 1048576) :
    Calls Try.prog 99 #[.slice A n c] w fun e w' => e = .returned (.bool (logOk l)) ∧ Below w.heap.size w w' := by
  have HL := Lib.hid h.len
  have H := Lib.hid h
  clear h
  go_enter Try.func99, Try.ntmps99
  go_wp2
  go_loopw [3] (fun i wr => ∃ k : Nat, k ≤ n ∧ i = .int .i64 k ∧ Hid ((l.take k).all (fun u => updOk u.key u.value) = true) ∧ Below w.heap.size w wr)
    (fun i _ => n - (intOf i).toNat)
  case atStart => exact ⟨0, Nat.zero_le _, rfl, rfl, Below.refl _ _⟩
  case round =>
    obtain ⟨k, hk, rfl, hall, hB⟩ := hrel
    have HW := Lib.hid (H.out.below hB (Nat.le_refl _))
    have HB := Lib.hid hB
    have hsz := hB.size
    clear hB H
    by_cases hlt : k < n
    · obtain ⟨b, off, u, rfl, _, hbB, hu, c0, c1⟩ := HW.out.upd hlt
      have Hu := Lib.hid hu
      clear hu
      cases hok : updOk u.key u.value
      all_goals
        go_wp2_with (go_at_call 114; refine (specUpdateValid_any _ _ _).mono ?_; rintro e w1 ⟨rfl, hb1⟩; have B1 := Lib.hid hb1; clear hb1)
      · go_ret
        exact ⟨ret_bool (all_upd_false Hu.out hok).symm, HB.out.trans (B1.out.mono hsz)⟩
      · go_roundw
        case rel => exact ⟨k + 1, by omega, by go_num, all_upd_succ hall.out Hu.out hok, HB.out.trans (B1.out.mono hsz)⟩
        case measure => simp [intOf]; omega
    · obtain rfl : n = k := by omega
      go_wp2
      go_ret
      exact ⟨ret_bool (by rw [all_upd_end HL.out hall.out, Bool.eq_iff_iff]; simp; omega), HB.out⟩
end Go.Proofs.Ytnbakpdphfdacaa
