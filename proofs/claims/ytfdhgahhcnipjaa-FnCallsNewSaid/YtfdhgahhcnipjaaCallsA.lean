/- Calls are valid: the program's and the reference's walk. -/
import Derived.Test.YtfdhgahhcnipjaaLeaf
namespace Go.Proofs.Ytfdhgahhcnipjaa
open Go.RowKit

def Cll.ok (x : Cll) : Bool := cllOk x.client x.number x.what.key x.what.value
/-- call number i is valid, and stands behind the one ahead of it -/
def cllAt (l : List Cll) (i : Nat) : Bool :=
  match l[i]? with
  | some x => x.ok && (match i with
    | 0 => true
    | j + 1 => match l[j]? with
      | some y => decide (y.client < x.client)
      | none => true)
  | none => true
def callsOk (l : List Cll) : Bool := decide (l.length ≤ 6) && (List.range l.length).all (cllAt l)

theorem range_all_succ {p : Nat → Bool} {k : Nat} (h : (List.range k).all p = true) (hk : p k = true) : (List.range (k + 1)).all p = true := by
  rw [List.range_succ, List.all_append, h]; simp [hk]
theorem range_all_false {p : Nat → Bool} {k n : Nat} (hk : p k = false) (h : k < n) : (List.range n).all p = false := by
  rw [List.all_eq_false]
  exact ⟨k, by simpa using h, by simp [hk]⟩
theorem callsOk_false {l : List Cll} {k : Nat} (hk : cllAt l k = false) (h : k < l.length) : callsOk l = false := by
  unfold callsOk; rw [range_all_false hk h]; simp
theorem cllAt_zero {l : List Cll} {x : Cll} (h : l[0]? = some x) : cllAt l 0 = x.ok := by simp [cllAt, h]
theorem cllAt_succ {l : List Cll} {j : Nat} {x y : Cll} (h : l[j + 1]? = some x) (hy : l[j]? = some y) : cllAt l (j + 1) = (x.ok && decide (y.client < x.client)) := by simp [cllAt, h, hy]

set_option maxHeartbeats 1000000 in
theorem callsValid_any (A : Option Addr) (n c : Nat) (l : List Cll) (w : World) (h : Flat Cll.enc 4 w 0 w.heap.size A n c l) (hn : n ≤ 1048576) :
    Calls Try.prog 17 #[.slice A n c] w fun e w' => e = .returned (.bool (callsOk l)) ∧ Below w.heap.size w w' := by
  have hlen := h.len
  have H := Lib.hid h
  have HL := Lib.hid hlen
  clear h hlen
  by_cases h6 : n ≤ 6
  case neg =>
    go_enter Try.func17, Try.ntmps17
    go_wp2
    go_ret
    exact ⟨ret_bool (by unfold callsOk; rw [HL.out]; simp [h6]), Below.refl _ _⟩
  case pos =>
  go_enter Try.func17, Try.ntmps17
  go_wp2
  go_loopw [10] (fun i wr => ∃ k : Nat, k ≤ n ∧ i = .int .i64 k ∧ Hid ((List.range k).all (cllAt l) = true) ∧ Below w.heap.size w wr)
    (fun i _ => n - (intOf i).toNat)
  case atStart => exact ⟨0, Nat.zero_le _, rfl, rfl, Below.refl _ _⟩
  case round =>
    obtain ⟨k, hk, rfl, hall, hB⟩ := hrel
    have HW := Lib.hid (H.out.below hB (Nat.le_refl _))
    have HB := Lib.hid hB
    have hsz := hB.size
    clear hB H
    by_cases hlt : k < n
    · obtain ⟨b, off, x, rfl, _, hbB, hx, c0, c1, c2, c3⟩ := HW.out.cll hlt
      have Hx := Lib.hid hx
      clear hx
      have hbr : b < wr.heap.size := by omega
      -- the box, and what the region that draws will read, in every world of its class
      obtain ⟨W, hW⟩ : ∃ W, W = wr.alloc (.cells #[.int .i64 x.client, .int .i64 x.number, .int .i64 x.what.key, .int .i64 x.what.value] 48) := ⟨_, rfl⟩
      have b0 : W.cell? ⟨wr.heap.size, 0, none⟩ = some (.int .i64 x.client) := by rw [hW]; exact World.cell?_alloc_at _ _ _ _ rfl
      have b1 : W.cell? ⟨wr.heap.size, 1, none⟩ = some (.int .i64 x.number) := by rw [hW]; exact World.cell?_alloc_at _ _ _ _ rfl
      have b2 : W.cell? ⟨wr.heap.size, 2, none⟩ = some (.int .i64 x.what.key) := by rw [hW]; exact World.cell?_alloc_at _ _ _ _ rfl
      have b3 : W.cell? ⟨wr.heap.size, 3, none⟩ = some (.int .i64 x.what.value) := by rw [hW]; exact World.cell?_alloc_at _ _ _ _ rfl
      have hWr : Below wr.heap.size wr W := by rw [hW]; exact (Below.refl _ _).alloc (Nat.le_refl _) _
      have HWr := Lib.hid hWr
      have HWe := Lib.hid hW
      clear hWr hW
      have d0 := cell_regrown b0
      have d1 := cell_regrown b1
      have d2 := cell_regrown b2
      have d3 := cell_regrown b3
      cases hok : cllOk x.client x.number x.what.key x.what.value
      · -- the call is not valid: false
        go_wp2_with fail
        rw [← HWe.out]
        refine wp_region_quiet_below (by kernel_rfl) (by kernel_rfl) ?_
        repeat (go_big_quiet_step ((go_at_call 39; exact Calls.regrown_of (callValid_any _ _ _ _ _))))
        refine wpQuiet_nil ?_
        intro w2 hw2
        have hb2 := Lib.hid (below_of_regrown hw2)
        clear hw2 d0 d1 d2 d3 b0 b1 b2 b3
        go_wp2
        go_ret
        refine ⟨ret_bool (callsOk_false (k := k) ?_ (by have := HL.out; omega)).symm, HB.out.trans ((HWr.out.mono hsz).trans (hb2.out.mono (Nat.le_trans hsz HWr.out.size)))⟩
        simp [cllAt, Hx.out, Cll.ok, hok]
      · by_cases hpos : 0 < k
        · obtain ⟨b', off', y, e', _, _, hy, y0, _⟩ := HW.out.cll (show k - 1 < n by omega)
          obtain ⟨rfl, rfl⟩ : b = b' ∧ off = off' := by injection e' with e'; injection e' with e1 e2; exact ⟨e1, e2⟩
          have Hy := Lib.hid hy
          have hyW : W.cell? ⟨b, off + (k - 1) * 4, none⟩ = some (.int .i64 y.client) := (HWr.out.cell (p := ⟨b, off + (k - 1) * 4, none⟩) hbr).trans y0
          have d4 := cell_regrown hyW
          clear hy y0 e' hyW
          by_cases hord : y.client < x.client
          · go_wp2_with fail
            rw [← HWe.out]
            refine wp_region_quiet_below (by kernel_rfl) (by kernel_rfl) ?_
            repeat (go_big_quiet_step ((go_at_call 39; exact Calls.regrown_of (callValid_any _ _ _ _ _))))
            refine wpQuiet_nil ?_
            intro w2 hw2
            have hb2 := Lib.hid (below_of_regrown hw2)
            clear hw2 d0 d1 d2 d3 d4 b0 b1 b2 b3
            go_wp2
            go_roundw
            case rel =>
              refine ⟨k + 1, by omega, by go_num, range_all_succ hall.out ?_, HB.out.trans ((HWr.out.mono hsz).trans (hb2.out.mono (Nat.le_trans hsz HWr.out.size)))⟩
              obtain ⟨j, rfl⟩ : ∃ j, k = j + 1 := ⟨k - 1, by omega⟩
              rw [cllAt_succ Hx.out Hy.out]; simp [Cll.ok, hok, hord]
            case measure => simp [intOf]; omega
          · go_wp2_with fail
            rw [← HWe.out]
            refine wp_region_quiet_below (by kernel_rfl) (by kernel_rfl) ?_
            repeat (go_big_quiet_step ((go_at_call 39; exact Calls.regrown_of (callValid_any _ _ _ _ _))))
            refine wpQuiet_nil ?_
            intro w2 hw2
            have hb2 := Lib.hid (below_of_regrown hw2)
            clear hw2 d0 d1 d2 d3 d4 b0 b1 b2 b3
            go_wp2
            go_ret
            refine ⟨ret_bool (callsOk_false (k := k) ?_ (by have := HL.out; omega)).symm, HB.out.trans ((HWr.out.mono hsz).trans (hb2.out.mono (Nat.le_trans hsz HWr.out.size)))⟩
            obtain ⟨j, rfl⟩ : ∃ j, k = j + 1 := ⟨k - 1, by omega⟩
            rw [cllAt_succ Hx.out Hy.out]; simp [hord]
        · have hd : decide ((0 : Int) < (k : Int)) = false := by simp; omega
          go_wp2_with fail
          rw [← HWe.out]
          refine wp_region_quiet_below (by kernel_rfl) (by kernel_rfl) ?_
          repeat (go_big_quiet_step ((go_at_call 39; exact Calls.regrown_of (callValid_any _ _ _ _ _))))
          refine wpQuiet_nil ?_
          intro w2 hw2
          have hb2 := Lib.hid (below_of_regrown hw2)
          clear hw2 d0 d1 d2 d3 b0 b1 b2 b3
          go_wp2
          go_roundw
          case rel =>
            refine ⟨k + 1, by omega, by go_num, range_all_succ hall.out ?_, HB.out.trans ((HWr.out.mono hsz).trans (hb2.out.mono (Nat.le_trans hsz HWr.out.size)))⟩
            obtain rfl : k = 0 := by omega
            rw [cllAt_zero Hx.out]; exact hok
          case measure => simp [intOf]; omega
    · obtain rfl : n = k := by omega
      go_wp2
      go_ret
      refine ⟨ret_bool ?_, HB.out⟩
      unfold callsOk
      rw [HL.out, hall.out]; simp [h6]
end Go.Proofs.Ytfdhgahhcnipjaa
