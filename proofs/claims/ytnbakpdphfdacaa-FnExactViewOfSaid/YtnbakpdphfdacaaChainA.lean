/- Chains: the place of an id, what two logs have in common, the tail: the program's and the reference's walks. -/
import Derived.Test.YtnbakpdphfdacaaNodeA
import Derived.Test.YtnbakpdphfdacaaBlk
namespace Go.Proofs.Ytnbakpdphfdacaa
open Go.RowKit

theorem Nods.box {w : World} {n c : Nat} {A : Option Addr} {l : List Nod} (h : Nods w 0 w.heap.size A n c l) (o : Obj) : Nods (w.alloc o) 0 (w.alloc o).heap.size A n c l :=
  (h.below ((Below.refl _ _).alloc (Nat.le_refl _) _) (Nat.le_refl _)).mono (Nat.zero_le _) (by simp)
theorem Nods.on {w w' : World} {n c : Nat} {A : Option Addr} {l : List Nod} (h : Nods w 0 w.heap.size A n c l) (hb : Below w.heap.size w w') : Nods w' 0 w'.heap.size A n c l :=
  (h.below hb (Nat.le_refl _)).mono (Nat.zero_le _) hb.size

/-- no node ahead of place k has the id -/
def noneHas (l : List Nod) (k : Nat) (id : Int) : Prop := ∀ (i : Nat) (y : Nod), i < k → l[i]? = some y → y.id ≠ id
theorem noneHas_succ {l : List Nod} {k : Nat} {x : Nod} {id : Int} (h : noneHas l k id) (hx : l[k]? = some x) (hne : x.id ≠ id) : noneHas l (k + 1) id := by
  intro i y hi hy
  by_cases e : i = k
  · subst e; rw [hx] at hy; injection hy with hy; subst hy; exact hne
  · exact h i y (by omega) hy
theorem noneHas_end {l : List Nod} {n : Nat} {id : Int} (hl : l.length = n) (h : noneHas l n id) : placeOf l id = none :=
  placeOf_none fun i x hx => h i x (by have := (List.getElem?_eq_some_iff.1 hx).1; omega) hx

set_option maxHeartbeats 1000000 in
theorem chainPlace_any (view : Int) (A : Option Addr) (n c : Nat) (l : List Nod) (id : Int) (w : World) (h : Nods w 0 w.heap.size A n c l) (hn : n ≤ 1048576) :
    Calls Try.prog 60 #[.agg #[.int .i64 view, .slice A n c], .int .i64 id] w fun e w' => e = .returned (.int .i64 (placeI (placeOf l id))) ∧ Below w.heap.size w w' := by
  have HL := Lib.hid h.len
  have H := Lib.hid h
  clear h
  go_enter Try.func60, Try.ntmps60
  go_wp2_with fail
  go_loopw [10] (fun i wr => ∃ k : Nat, k ≤ n ∧ i = .int .i64 k ∧ Hid (noneHas l k id) ∧ Below w.heap.size w wr)
    (fun i _ => n - (intOf i).toNat)
  case atStart => exact ⟨0, Nat.zero_le _, rfl, fun _ _ h => absurd h (by omega), (Below.refl _ _).alloc (Nat.le_refl _) _⟩
  case round =>
    obtain ⟨k, hk, rfl, hall, hB⟩ := hrel
    have HW := Lib.hid (H.out.below hB (Nat.le_refl _))
    have HB := Lib.hid hB
    have hsz := hB.size
    clear hB H
    by_cases hlt : k < n
    · obtain ⟨b, off, x, A', m, d, rfl, _, hbB, hx, c0, c1, c2, hf⟩ := HW.out.nod hlt
      have Hx := Lib.hid hx
      clear hx hf
      by_cases hid : x.id = id
      · have HK := Lib.hid hid
        rw [hid] at c0
        clear hid
        go_wp2
        go_ret
        exact ⟨ret_int (by rw [placeOf_at Hx.out HK.out hall.out]; rfl), HB.out.alloc hsz _⟩
      · have hne : (x.id == id) = false := by simp [hid]
        have HK := Lib.hid hid
        clear hid
        go_wp2
        go_roundw
        case rel => exact ⟨k + 1, by omega, by go_num, noneHas_succ hall.out Hx.out HK.out, HB.out.alloc hsz _⟩
        case measure => simp [intOf]; omega
    · obtain rfl : n = k := by omega
      go_wp2
      go_ret
      exact ⟨ret_int (by rw [noneHas_end HL.out hall.out]; rfl), HB.out⟩

set_option maxHeartbeats 1000000 in
theorem l11At_any (view : Int) (A : Option Addr) (n c : Nat) (l : List Nod) (id : Int) (w : World) (h : Nods w 0 w.heap.size A n c l) (hn : n ≤ 1048576) :
    Calls Try.prog 55 #[.agg #[.int .i64 view, .slice A n c], .int .i64 id] w fun e w' => e = .returned (.int .i64 (placeI (placeOf l id))) ∧ Below w.heap.size w w' := by
  have HL := Lib.hid h.len
  have B0 : Below w.heap.size w (w.alloc (.cells #[.int .i64 view, .slice A n c] 33)) := (Below.refl _ _).alloc (Nat.le_refl _) _
  have H := Lib.hid (h.below B0 (Nat.le_refl _))
  have HB := Lib.hid B0
  clear h B0
  go_enter Try.func55, Try.ntmps55
  go_wp2_with fail
  go_loop [5] (fun i => ∃ k : Nat, k ≤ n ∧ i = .int .i64 k ∧ Hid (noneHas l k id)) (fun i => n - (intOf i).toNat)
  case atStart => exact ⟨0, Nat.zero_le _, rfl, fun _ _ h => absurd h (by omega)⟩
  case round =>
    obtain ⟨k, hk, rfl, hall⟩ := hrel
    by_cases hlt : k < n
    · obtain ⟨b, off, x, A', m, d, rfl, _, hbB, hx, c0, c1, c2, hf⟩ := H.out.nod hlt
      have Hx := Lib.hid hx
      have hne' : b ≠ w.heap.size := by omega
      clear hx hf
      by_cases hid : x.id = id
      · have HK := Lib.hid hid
        rw [hid] at c0
        clear hid
        go_wp2
        go_ret
        exact ⟨ret_int (by rw [placeOf_at Hx.out HK.out hall.out]; rfl), HB.out⟩
      · have hne : (x.id == id) = false := by simp [hid]
        have HK := Lib.hid hid
        clear hid
        go_wp2
        go_round
        case rel => exact ⟨k + 1, by omega, by go_num, noneHas_succ hall.out Hx.out HK.out⟩
        case measure => simp [intOf]; omega
    · obtain rfl : n = k := by omega
      go_wp2
      go_ret
      exact ⟨ret_int (by rw [noneHas_end HL.out hall.out]; rfl), HB.out⟩

set_option maxHeartbeats 1000000 in
theorem l4Has_any (A : Option Addr) (n c : Nat) (l : List Nod) (id : Int) (w : World) (h : Nods w 0 w.heap.size A n c l) (hn : n ≤ 1048576) :
    Calls Try.prog 83 #[.slice A n c, .int .i64 id] w fun e w' => e = .returned (.bool (placeOf l id).isSome) ∧ w = w' := by
  have HL := Lib.hid h.len
  have H := Lib.hid h
  clear h
  go_enter Try.func83, Try.ntmps83
  go_wp2_with fail
  go_loop [5] (fun i => ∃ k : Nat, k ≤ n ∧ i = .int .i64 k ∧ Hid (noneHas l k id)) (fun i => n - (intOf i).toNat)
  case atStart => exact ⟨0, Nat.zero_le _, rfl, fun _ _ h => absurd h (by omega)⟩
  case round =>
    obtain ⟨k, hk, rfl, hall⟩ := hrel
    by_cases hlt : k < n
    · obtain ⟨b, off, x, A', m, d, rfl, _, hbB, hx, c0, c1, c2, hf⟩ := H.out.nod hlt
      have Hx := Lib.hid hx
      clear hx hf
      by_cases hid : x.id = id
      · have HK := Lib.hid hid
        rw [hid] at c0
        clear hid
        go_wp2
        go_ret
        exact ⟨ret_bool (by rw [placeOf_at Hx.out HK.out hall.out]; rfl), rfl⟩
      · have hne : (x.id == id) = false := by simp [hid]
        have HK := Lib.hid hid
        clear hid
        go_wp2
        go_round
        case rel => exact ⟨k + 1, by omega, by go_num, noneHas_succ hall.out Hx.out HK.out⟩
        case measure => simp [intOf]; omega
    · obtain rfl : n = k := by omega
      go_wp2
      go_ret
      exact ⟨ret_bool (by rw [noneHas_end HL.out hall.out]; rfl), rfl⟩

set_option maxHeartbeats 2000000 in
theorem l1Common_any (A B : Option Addr) (n c m d : Nat) (a b : List Upd) (w : World) (h : Flat Upd.enc 2 w 0 w.heap.size A n c a) (h' : Flat Upd.enc 2 w 0 w.heap.size B m d b) (hn : n ≤ 1048576) (_ : m ≤ 1048576) :
    Calls Try.prog 84 #[.slice A n c, .slice B m d] w fun e w' => e = .returned (.int .i64 (common a b : Nat)) ∧ Below w.heap.size w w' := by
  have HL := Lib.hid h.len
  have HL' := Lib.hid h'.len
  have H := Lib.hid h
  have H' := Lib.hid h'
  clear h h'
  go_enter Try.func84, Try.ntmps84
  go_wp2_with fail
  go_loopw [5] (fun i wr => ∃ k : Nat, k ≤ n ∧ k ≤ m ∧ i = .int .i64 k ∧ Hid (common a b = k + common (a.drop k) (b.drop k)) ∧ Below w.heap.size w wr) (fun i _ => n - (intOf i).toNat)
  case atStart => exact ⟨0, Nat.zero_le _, Nat.zero_le _, rfl, by simp [Hid], Below.refl _ _⟩
  case round =>
    obtain ⟨k, hk, hk', rfl, hall, hB⟩ := hrel
    have W1 := Lib.hid (H.out.below hB (Nat.le_refl _))
    have W2 := Lib.hid (H'.out.below hB (Nat.le_refl _))
    have HB := Lib.hid hB
    clear hB
    have k0 : (0 : Int) ≤ (k : Int) := by omega
    by_cases hlt : k < n
    · have kn : (k : Int) < (n : Int) := by omega
      by_cases hlt' : k < m
      · have km : (k : Int) < (m : Int) := by omega
        obtain ⟨b1, off1, x, rfl, _, _, hx, c0, c1⟩ := W1.out.upd hlt
        obtain ⟨b2, off2, y, rfl, _, _, hy, d0, d1⟩ := W2.out.upd hlt'
        have Hx := Lib.hid hx
        have Hy := Lib.hid hy
        clear hx hy
        cases hs : x.same y
        · have HS := Lib.hid hs
          have hpart : (x.key == y.key) = false ∨ ((x.key == y.key) = true ∧ (x.value == y.value) = false) := by
            by_cases e1 : x.key = y.key
            · by_cases e2 : x.value = y.value
              · simp [Upd.same, e1, e2] at hs
              · exact .inr ⟨by simp [e1], by simp [e2]⟩
            · exact .inl (by simp [e1])
          clear hs
          rcases hpart with p1 | ⟨p1, p2⟩
          all_goals
            go_wp2_with fail
            go_quiet (fail)
            go_wp2
            go_ret
            exact ⟨ret_int (by rw [hall.out, common_part Hx.out Hy.out HS.out]; rfl), below_drewN HB.out _⟩
        · have HS := Lib.hid hs
          obtain rfl := Upd.same_iff.1 hs
          clear hs
          go_wp2_with fail
          go_quiet (fail)
          go_wp2
          go_roundw
          case rel => exact ⟨k + 1, by omega, by omega, by go_num, by rw [hall.out, common_step Hx.out Hy.out HS.out]; show _ = _; omega, below_drewN HB.out _⟩
          case measure => simp [intOf]; omega
      · have km : decide ((k : Int) < (m : Int)) = false := by simp; omega
        have kz : common (a.drop k) (b.drop k) = 0 := common_end (.inr (by rw [HL'.out]; omega))
        have KZ := Lib.hid kz
        clear kz
        go_wp2_with fail
        go_quiet (fail)
        go_wp2
        go_ret
        exact ⟨ret_int (by rw [hall.out, KZ.out]; rfl), below_drewN HB.out _⟩
    · have kn : decide ((k : Int) < (n : Int)) = false := by simp; omega
      have kz : common (a.drop k) (b.drop k) = 0 := common_end (.inl (by rw [HL.out]; omega))
      have KZ := Lib.hid kz
      clear kz
      go_wp2_with fail
      go_quiet (fail)
      go_wp2
      go_ret
      exact ⟨ret_int (by rw [hall.out, KZ.out]; rfl), below_drewN HB.out _⟩
end Go.Proofs.Ytnbakpdphfdacaa
