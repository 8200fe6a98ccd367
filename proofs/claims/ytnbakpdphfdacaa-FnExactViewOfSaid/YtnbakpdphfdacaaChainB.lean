/- Chains: what two logs have in common, the beginning of a log, the tail: the program's walks. -/
import Derived.Test.YtnbakpdphfdacaaChainA
namespace Go.Proofs.Ytnbakpdphfdacaa
open Go.RowKit

set_option maxHeartbeats 2000000 in
theorem logCommon_any (A B : Option Addr) (n c m d : Nat) (a b : List Upd) (w : World) (h : Flat Upd.enc 2 w 0 w.heap.size A n c a) (h' : Flat Upd.enc 2 w 0 w.heap.size B m d b) (hn : n ≤ 1048576) (hm : m ≤ 1048576) :
    Calls Try.prog 110 #[.slice A n c, .slice B m d] w fun e w' => e = .returned (.int .i64 (logCommon a b)) ∧ Below w.heap.size w w' := by
  have HL := Lib.hid h.len
  have HL' := Lib.hid h'.len
  have H := Lib.hid h
  have H' := Lib.hid h'
  clear h h'
  cases hoa : logOk a
  · have e0 : logCommon a b = -1 := by simp [logCommon, hoa]
    rw [e0]; clear e0
    go_enter Try.func110, Try.ntmps110
    go_wp2_with (go_at_call 109; refine (logValid_any _ _ _ a _ H.out hn).mono ?_; rintro e w1 ⟨rfl, hb1⟩; rw [hoa]; have B1 := Lib.hid hb1; clear hb1)
    go_ret
    exact ⟨rfl, B1.out⟩
  have HA := Lib.hid hoa
  clear hoa
  cases hob : logOk b
  · have e0 : logCommon a b = -1 := by simp [logCommon, hob]
    rw [e0]; clear e0
    go_enter Try.func110, Try.ntmps110
    go_wp2_with fail
    refine (logValid_any _ _ _ a _ H.out hn).mono ?_
    rintro e w1 ⟨rfl, hb1⟩
    rw [HA.out]
    have B1 := Lib.hid hb1
    have F1 := Lib.hid (H'.out.on hb1)
    clear hb1
    go_wp2_with (go_at_call 109; refine (logValid_any _ _ _ b _ F1.out hm).mono ?_; rintro e w2 ⟨rfl, hb2⟩; rw [hob]; have B2 := Lib.hid (B1.out.trans (hb2.mono B1.out.size)); clear hb2)
    go_ret
    exact ⟨rfl, B2.out⟩
  have HO := Lib.hid hob
  have e0 : logCommon a b = (common a b : Nat) := by simp [logCommon, HA.out, hob]
  rw [e0]
  clear e0 hob
  go_enter Try.func110, Try.ntmps110
  go_wp2_with fail
  refine (logValid_any _ _ _ a _ H.out hn).mono ?_
  rintro e w1 ⟨rfl, hb1⟩
  rw [HA.out]
  have B1 := Lib.hid hb1
  have F1 := Lib.hid (H'.out.on hb1)
  clear hb1
  go_wp2_with fail
  refine (logValid_any _ _ _ b _ F1.out hm).mono ?_
  rintro e w2 ⟨rfl, hb2⟩
  rw [HO.out]
  have B2 := Lib.hid (B1.out.trans (hb2.mono B1.out.size))
  clear hb2
  go_wp2_with fail
  go_loopw [5] (fun i wr => ∃ k : Nat, k ≤ n ∧ k ≤ m ∧ i = .int .i64 k ∧ Hid (common a b = k + common (a.drop k) (b.drop k)) ∧ Below w.heap.size w wr) (fun i _ => n - (intOf i).toNat)
  case atStart => exact ⟨0, Nat.zero_le _, Nat.zero_le _, rfl, by simp [Hid], B2.out⟩
  case round =>
    obtain ⟨k, hk, hk', rfl, hall, hB⟩ := hrel
    have W1 := Lib.hid (H.out.below hB (Nat.le_refl _))
    have W2 := Lib.hid (H'.out.below hB (Nat.le_refl _))
    have HB := Lib.hid hB
    clear hB
    have k0 : (0 : Int) ≤ (k : Int) := by omega
    by_cases hlt : k < n
    · have kn : (k : Int) < (n : Int) := by omega
      by_cases hlt' : k < m
      · have km : (k : Int) < (m : Int) := by omega
        obtain ⟨b1, off1, x, rfl, _, _, hx, c0, c1⟩ := W1.out.upd hlt
        obtain ⟨b2, off2, y, rfl, _, _, hy, d0, d1⟩ := W2.out.upd hlt'
        have Hx := Lib.hid hx
        have Hy := Lib.hid hy
        clear hx hy
        cases hs : x.same y
        · have HS := Lib.hid hs
          have hpart : (x.key == y.key) = false ∨ ((x.key == y.key) = true ∧ (x.value == y.value) = false) := by
            by_cases e1 : x.key = y.key
            · by_cases e2 : x.value = y.value
              · simp [Upd.same, e1, e2] at hs
              · exact .inr ⟨by simp [e1], by simp [e2]⟩
            · exact .inl (by simp [e1])
          clear hs
          rcases hpart with p1 | ⟨p1, p2⟩
          all_goals
            go_wp2_with fail
            go_quiet (fail)
            go_wp2
            go_ret
            exact ⟨ret_int (by rw [hall.out, common_part Hx.out Hy.out HS.out]; rfl), below_drewN HB.out _⟩
        · have HS := Lib.hid hs
          obtain rfl := Upd.same_iff.1 hs
          clear hs
          go_wp2_with fail
          go_quiet (fail)
          go_wp2
          go_roundw
          case rel => exact ⟨k + 1, by omega, by omega, by go_num, by rw [hall.out, common_step Hx.out Hy.out HS.out]; show _ = _; omega, below_drewN HB.out _⟩
          case measure => simp [intOf]; omega
      · have km : decide ((k : Int) < (m : Int)) = false := by simp; omega
        have kz : common (a.drop k) (b.drop k) = 0 := common_end (.inr (by rw [HL'.out]; omega))
        have KZ := Lib.hid kz
        clear kz
        go_wp2_with fail
        go_quiet (fail)
        go_wp2
        go_ret
        exact ⟨ret_int (by rw [hall.out, KZ.out]; rfl), below_drewN HB.out _⟩
    · have kn : decide ((k : Int) < (n : Int)) = false := by simp; omega
      have kz : common (a.drop k) (b.drop k) = 0 := common_end (.inl (by rw [HL.out]; omega))
      have KZ := Lib.hid kz
      clear kz
      go_wp2_with fail
      go_quiet (fail)
      go_wp2
      go_ret
      exact ⟨ret_int (by rw [hall.out, KZ.out]; rfl), below_drewN HB.out _⟩

set_option maxHeartbeats 1000000 in
theorem logBegins_any (A B : Option Addr) (n c m d : Nat) (a b : List Upd) (w : World) (h : Flat Upd.enc 2 w 0 w.heap.size A n c a) (h' : Flat Upd.enc 2 w 0 w.heap.size B m d b) (hn : n ≤ 1048576) (hm : m ≤ 1048576) :
    Calls Try.prog 87 #[.slice A n c, .slice B m d] w fun e w' => e = .returned (.bool (logBegins a b)) ∧ Below w.heap.size w w' := by
  have HL := Lib.hid h.len
  have H := Lib.hid h
  have H' := Lib.hid h'
  clear h h'
  cases hoa : logOk a
  · have e0 : logBegins a b = false := by simp [logBegins, hoa]
    rw [e0]; clear e0
    go_enter Try.func87, Try.ntmps87
    go_wp2_with (go_at_call 109; refine (logValid_any _ _ _ a _ H.out hn).mono ?_; rintro e w1 ⟨rfl, hb1⟩; rw [hoa]; have B1 := Lib.hid hb1; clear hb1)
    go_ret
    exact ⟨rfl, B1.out⟩
  have HA := Lib.hid hoa
  clear hoa
  obtain ⟨v, hv⟩ : ∃ v, logCommon a b = v := ⟨_, rfl⟩
  have e0 : logBegins a b = (v == (n : Int)) := by
    have hl := HL.out
    have hle := (common_le a b).1
    rw [← hv]
    unfold logBegins logCommon
    rw [HA.out]
    cases logOk b
    · simp; try omega
    · rw [Bool.eq_iff_iff]; simp; try omega
  rw [e0]
  have HV := Lib.hid hv
  clear hv e0
  go_enter Try.func87, Try.ntmps87
  go_wp2_with fail
  refine (logValid_any _ _ _ a _ H.out hn).mono ?_
  rintro e w1 ⟨rfl, hb1⟩
  rw [HA.out]
  have B1 := Lib.hid hb1
  have F1 := Lib.hid (H.out.on hb1)
  have G1 := Lib.hid (H'.out.on hb1)
  clear hb1
  go_wp2_with (go_at_call 110; refine (logCommon_any _ _ _ _ _ _ a b _ F1.out G1.out hn hm).mono ?_; rintro e w2 ⟨rfl, hb2⟩; rw [HV.out]; have B2 := Lib.hid (B1.out.trans (hb2.mono B1.out.size)); clear hb2)
  go_ret
  exact ⟨rfl, B2.out⟩

theorem node_field0 (i j : Int) (A : Option Addr) (m d : Nat) (W : World) : (Instr.field 57 (.agg #[.int .i64 i, .slice A m d, .int .i64 j]) 0).run Try.prog W = .ok (.int .i64 i) W := by kernel_rfl
theorem node_field1 (i j : Int) (A : Option Addr) (m d : Nat) (W : World) : (Instr.field 57 (.agg #[.int .i64 i, .slice A m d, .int .i64 j]) 1).run Try.prog W = .ok (.slice A m d) W := by kernel_rfl

/-- what handing out the tail leaves: the last node, its log as it lay -/
def TailLeft (w : World) (l : List Nod) (n : Nat) (e : Ending) (w' : World) : Prop :=
  ∃ (x : Nod) (A' : Option Addr) (m d : Nat), l[n - 1]? = some x ∧ e = .returned (.agg #[.int .i64 x.id, .slice A' m d, .int .i64 x.done]) ∧ Flat Upd.enc 2 w 0 w.heap.size A' m d x.log ∧ Below w.heap.size w w'

set_option maxHeartbeats 1000000 in
theorem tailOf_any (view : Int) (A : Option Addr) (n c : Nat) (l : List Nod) (w : World) (h : Nods w 0 w.heap.size A n c l) (hn : n ≤ 1048576) (hpos : 0 < n) :
    Calls Try.prog 88 #[.agg #[.int .i64 view, .slice A n c]] w (TailLeft w l n) := by
  obtain ⟨b, off, x, A', m, d, rfl, _, hbB, hx, c0, c1, c2, hf⟩ := h.nod (show n - 1 < n by omega)
  have Hx := Lib.hid hx
  have HF := Lib.hid hf
  clear hx hf h
  have hne : b ≠ w.heap.size := by omega
  have hne' : b ≠ w.heap.size + 1 := by omega
  have h1 : (1 : Int) ≤ (n : Int) := by omega
  go_enter Try.func88, Try.ntmps88
  go_wp2_with fail
  exact bodyPost_ret (v := .agg #[.int .i64 x.id, .slice A' m d, .int .i64 x.done]) (by simp [results, Try.results88, go_sem]) rfl ⟨x, A', m, d, Hx.out, rfl, HF.out, ((Below.refl _ _).alloc (Nat.le_refl _) _).alloc (by simp) _⟩

set_option maxHeartbeats 1000000 in
theorem lawsTailOf_any (view : Int) (A : Option Addr) (n c : Nat) (l : List Nod) (w : World) (h : Nods w 0 w.heap.size A n c l) (hn : n ≤ 1048576) (hpos : 0 < n) :
    Calls Try.prog 45 #[.agg #[.int .i64 view, .slice A n c]] w (TailLeft w l n) := by
  obtain ⟨b, off, x, A', m, d, rfl, _, hbB, hx, c0, c1, c2, hf⟩ := h.nod (show n - 1 < n by omega)
  have Hx := Lib.hid hx
  have HF := Lib.hid hf
  clear hx hf h
  have hne : b ≠ w.heap.size := by omega
  have hne' : b ≠ w.heap.size + 1 := by omega
  have h1 : (1 : Int) ≤ (n : Int) := by omega
  go_enter Try.func45, Try.ntmps45
  go_wp2_with fail
  exact bodyPost_ret (v := .agg #[.int .i64 x.id, .slice A' m d, .int .i64 x.done]) (by simp [results, Try.results45, go_sem]) rfl ⟨x, A', m, d, Hx.out, rfl, HF.out, ((Below.refl _ _).alloc (Nat.le_refl _) _).alloc (by simp) _⟩
end Go.Proofs.Ytnbakpdphfdacaa
