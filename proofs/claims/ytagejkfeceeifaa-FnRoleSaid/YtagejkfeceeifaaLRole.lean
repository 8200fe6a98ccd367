/- The walk of the law on the role that a drop finds: it returns true, and writes nothing that was there. -/
import Derived.Test.YtagejkfeceeifaaDrawK
import Derived.Test.YtagejkfeceeifaaDropRole
namespace Go.Proofs.Ytagejkfeceeifaa
open Go.RowKit

theorem placeI_take {l : List Nod} {k : Nat} {x : Nod} {id : Int} (hx : l[k]? = some x) :
    placeI (placeOf (l.take (k + 1)) id) = if placeI (placeOf (l.take k) id) < 0 ∧ x.id = id then (k : Int) else placeI (placeOf (l.take k) id) := by
  have hk := (List.getElem?_eq_some_iff.1 hx).1
  have ht : l.take (k + 1) = l.take k ++ [x] := by rw [List.take_add_one, hx]; rfl
  have hl : (l.take k).length = k := by rw [List.length_take]; omega
  rw [ht]
  unfold placeOf
  rw [List.findIdx?_append]
  cases h : (l.take k).findIdx? fun y => decide (y.id = id) with
  | some j => have hj : ¬ ((j : Int) < 0) := by omega
              simp [placeI, hj]
  | none =>
    by_cases e : x.id = id
    · simp [placeI, e, List.findIdx?_cons, hl]
    · simp [placeI, e, List.findIdx?_cons]
theorem dropRole_cases {v : Int} {l : List Nod} {id pl : Int} (hp : placeI (placeOf l id) = pl) :
    (dropRole v l id = 0 ∧ (pl < 0 ∨ (0 ≤ pl ∧ chainOk v l = false))) ∨ (dropRole v l id = 4 ∧ pl = 0 ∧ l.length = 1) ∨ (dropRole v l id = 1 ∧ pl = 0 ∧ 1 < l.length) ∨ (dropRole v l id = 3 ∧ pl = (l.length : Int) - 1 ∧ 0 < pl) ∨ (dropRole v l id = 2 ∧ 0 < pl ∧ pl < (l.length : Int) - 1) := by
  have h1 := placeI_lt (l := l) (id := id)
  rw [hp] at h1
  cases hok : chainOk v l
  · have e0 : dropRole v l id = 0 := by simp [dropRole, hok]
    rw [e0]; left; exact ⟨rfl, by by_cases h : pl < 0; exact .inl h; exact .inr ⟨by omega, rfl⟩⟩
  · have hl := chainOk_len hok
    have e1 : dropRole v l id = roleOf pl l.length := by rw [dropRole_ok hok rfl, hp]
    rw [e1]
    by_cases h0 : pl < 0
    · left; exact ⟨by unfold roleOf; rw [if_pos (.inl h0)], .inl h0⟩
    have h2 : pl < (l.length : Int) := by omega
    by_cases h3 : (l.length : Int) = 1
    · right; left; exact ⟨roleOf4 h0 h2 h3, by omega, by omega⟩
    by_cases h4 : pl = 0
    · right; right; left; exact ⟨roleOf1 h0 h2 h3 h4, h4, by omega⟩
    by_cases h5 : pl + 1 = (l.length : Int)
    · right; right; right; left; exact ⟨roleOf3 h0 h2 h3 h4 h5, by omega, by omega⟩
    · right; right; right; right; exact ⟨roleOf2 h0 h2 h3 h4 h5, by omega, by omega⟩

set_option maxHeartbeats 8000000 in
theorem role_walk (A : Option Addr) (n c : Nat) (l : List Int) (w : World) (h : Flat encU8 1 w 0 w.heap.size A n c l) (hl : ∀ x ∈ l, 0 ≤ x ∧ x ≤ 255) :
    Calls Try.prog 5 #[.slice A n c] w fun e w' => e = .returned (.bool true) ∧ Below w.heap.size w w' := by
  have H := Lib.hid h
  have HL := Lib.hid hl
  clear h hl
  by_cases hn : 1048576 < n
  · go_enter Try.func5, Try.ntmps5
    go_wp2
    go_ret
    exact ⟨rfl, Below.refl _ _⟩
  go_enter Try.func5, Try.ntmps5
  go_wp2_with fail
  refine (drawDropRole_any _ _ _ l _ H.out HL.out).mono ?_
  rintro e w1 ⟨view, A', m, c', r, id, rfl, h1, h2, h3, h4, h6, hb1⟩
  obtain ⟨hm, hN⟩ := h6.nods'
  have F1 := Lib.hid (hN.mono (Nat.zero_le _) (Nat.le_refl _))
  have G1 := Lib.hid (F1.out.box (.cells #[.int .i64 view, .slice A' m c'] 29))
  have K1 := Lib.hid (Blk.new w1 #[.int .i64 view, .slice A' m c'] 29)
  have HM := Lib.hid h1
  have HG := Lib.hid (show ∀ x ∈ r, x.log.length ≤ 1048576 from fun x hx => by have := h4 x hx; omega)
  have B1 := Lib.hid hb1
  have hm20 : m ≤ 1048576 := by omega
  clear hb1 H HL h6 hN hm h1 h4
  obtain ⟨v1, hv1⟩ : ∃ v1, dropRole view r id = v1 := ⟨_, rfl⟩
  have HV1 := Lib.hid hv1
  clear hv1
  have e1 : (v1 != v1) = false := by simp
  go_wp2_with fail
  refine (dropRole_any view _ _ _ r id _ G1.out hm20 HG.out).mono ?_
  rintro e w2 ⟨rfl, hb2⟩
  rw [HV1.out]
  have B2 := Lib.hid (B1.out.trans ((below_box hb2).mono B1.out.size))
  have K2 := Lib.hid (K1.out.below hb2)
  have F2 := Lib.hid (F1.out.on (below_box hb2))
  clear hb2 G1 K1 F1 B1
  have q0 := K2.out.cell (i := 0) (v := .int .i64 view) rfl
  have q1 := K2.out.cell (i := 1) (v := .slice A' m c') rfl
  go_wp2_with fail
  refine (specDropRole_any view _ _ _ r id _ F2.out hm20 HG.out).mono ?_
  rintro e w3 ⟨rfl, hb3⟩
  rw [HV1.out]
  have B3 := Lib.hid (B2.out.trans (hb3.mono B2.out.size))
  have K3 := Lib.hid (K2.out.below hb3)
  have F3 := Lib.hid (F2.out.on hb3)
  clear hb3 q0 q1 K2 F2 B2
  have q0 := K3.out.cell (i := 0) (v := .int .i64 view) rfl
  have q1 := K3.out.cell (i := 1) (v := .slice A' m c') rfl
  go_wp2_with fail
  go_loopw [7, 8] (fun pl i wr => ∃ (k : Nat) (p : Int), i = .int .i64 k ∧ pl = .int .i64 p ∧ k ≤ m ∧ Hid (placeI (placeOf (r.take k) id) = p) ∧ wr = w3)
    (fun _ i _ => m - (intOf i).toNat)
  case atStart => exact ⟨0, -1, rfl, rfl, Nat.zero_le _, rfl, rfl⟩
  case round =>
    obtain ⟨k, p, rfl, rfl, hk, hp, rfl⟩ := hrel
    by_cases hlt : k < m
    · obtain ⟨b, off, x, A2, m2, d, rfl, _, hbB, hx, c0, c1, c2, hf⟩ := F3.out.nod hlt
      have Hx := Lib.hid hx
      clear hx hf c1 c2
      have hstep := placeI_take (id := id) Hx.out
      rw [hp.out] at hstep
      have HS := Lib.hid hstep
      clear hstep
      by_cases hid : x.id = id
      · have hid' : (x.id == id) = true := by simp [hid]
        by_cases hp0 : p < 0
        · have HP := Lib.hid (HS.out.trans (if_pos ⟨hp0, hid⟩))
          clear hid
          go_wp2
          go_roundw
          case rel => exact ⟨k + 1, k, by go_num, rfl, by omega, HP.out, trivial⟩
          case measure => simp [intOf]; omega
        · have HP := Lib.hid (HS.out.trans (if_neg (fun e => hp0 e.1)))
          clear hid
          go_wp2
          go_roundw
          case rel => exact ⟨k + 1, p, by go_num, rfl, by omega, HP.out, trivial⟩
          case measure => simp [intOf]; omega
      · have hid' : (x.id == id) = false := by simp [hid]
        have HP := Lib.hid (HS.out.trans (if_neg (fun e => hid e.2)))
        clear hid
        go_wp2
        go_roundw
        case rel => exact ⟨k + 1, p, by go_num, rfl, by omega, HP.out, trivial⟩
        case measure => simp [intOf]; omega
    · obtain rfl : k = m := by omega
      have hp' := hp.out
      rw [← HM.out, List.take_length] at hp'
      have hc := dropRole_cases (v := view) hp'
      rw [HV1.out, HM.out] at hc
      clear hp' hp
      rcases hc with ⟨rfl, h | ⟨h, hok⟩⟩ | ⟨rfl, rfl, rfl⟩ | ⟨rfl, rfl, h⟩ | ⟨rfl, rfl, h⟩ | ⟨rfl, h, h'⟩
      · go_wp2
        go_ret
        exact ⟨rfl, B3.out⟩
      · have hlt0 : ¬ p < 0 := by omega
        have HO := Lib.hid hok
        clear hok
        go_wp2_with fail
        refine (chainValid_any view _ _ _ r _ F3.out hm20 HG.out).mono ?_
        rintro e w4 ⟨rfl, hb4⟩
        rw [HO.out]
        have B4 := Lib.hid (B3.out.trans (hb4.mono B3.out.size))
        clear hb4
        go_wp2
        go_ret
        exact ⟨rfl, B4.out⟩
      · go_wp2
        go_ret
        exact ⟨by first | rfl | (simp; omega), B3.out⟩
      · go_wp2
        go_ret
        exact ⟨by first | rfl | (simp; omega), B3.out⟩
      · go_wp2
        go_ret
        exact ⟨by first | rfl | (simp; omega), B3.out⟩
      · go_wp2
        go_ret
        exact ⟨by first | rfl | (simp; omega), B3.out⟩
end Go.Proofs.Ytagejkfeceeifaa
