/- The walks of the laws on what a node answers: each returns true, and writes nothing that was there. -/
import Derived.Test.YtplhhjmmkohljaaNodeG
import Derived.Test.YtplhhjmmkohljaaDrawM
namespace Go.Proofs.Ytplhhjmmkohljaa
open Go.RowKit

set_option maxHeartbeats 4000000 in
theorem nodeAsk_walk (A : Option Addr) (n c : Nat) (l : List Int) (w : World) (h : Flat encU8 1 w 0 w.heap.size A n c l) (hl : ∀ x ∈ l, 0 ≤ x ∧ x ≤ 255) :
    Calls Try.prog 7 #[.slice A n c] w fun e w' => e = .returned (.bool true) ∧ Below w.heap.size w w' := by
  have H := Lib.hid h
  have HL := Lib.hid hl
  clear h hl
  by_cases hn : 1048576 < n
  · go_enter Try.func7, Try.ntmps7
    go_wp2
    go_ret
    exact ⟨rfl, Below.refl _ _⟩
  go_enter Try.func7, Try.ntmps7
  go_wp2_with fail
  refine (drawNodeRead_any _ _ _ l _ H.out HL.out).mono ?_
  rintro e w1 ⟨x, A', m, c', key, rfl, h13, hf1, hb1⟩
  have F1 := Lib.hid (hf1.mono (Nat.zero_le _) (Nat.le_refl _))
  have G1 := Lib.hid (F1.out.box (.cells #[.int .i64 x.id, .slice A' m c', .int .i64 x.done] 25))
  have K1 := Lib.hid (Blk.new w1 #[.int .i64 x.id, .slice A' m c', .int .i64 x.done] 25)
  have HM := Lib.hid hf1.len
  have hmc : m ≤ c' := hf1.2.1
  have B1 := Lib.hid hb1
  have hm20 : m ≤ 1048576 := by omega
  clear hf1 hb1 H HL
  obtain ⟨v1, hv1⟩ : ∃ v1, (nodeRead x key).1 = v1 := ⟨_, rfl⟩
  obtain ⟨v2, hv2⟩ : ∃ v2, (nodeRead x key).2 = v2 := ⟨_, rfl⟩
  have HV1 := Lib.hid hv1
  have HV2 := Lib.hid hv2
  clear hv1 hv2
  have e1 : (v1 != v1) = false := by simp
  have e2 : (v2 != v2) = false := by simp
  go_wp2_with fail
  refine (nodeRead_any x key _ _ _ _ G1.out hm20).mono ?_
  rintro e w2 ⟨rfl, hb2⟩
  rw [HV1.out, HV2.out]
  have B2 := Lib.hid (B1.out.trans ((below_box hb2).mono B1.out.size))
  have K2 := Lib.hid (K1.out.below hb2)
  have F2 := Lib.hid (F1.out.on (below_box hb2))
  clear hb2 G1 K1 F1 B1
  have q0 := K2.out.cell (i := 0) (v := .int .i64 x.id) rfl
  have q1 := K2.out.cell (i := 1) (v := .slice A' m c') rfl
  have q2 := K2.out.cell (i := 2) (v := .int .i64 x.done) rfl
  go_wp2_with fail
  refine (specNodeRead_any x key _ _ _ _ F2.out hm20).mono ?_
  rintro e w3 ⟨rfl, hb3⟩
  rw [HV1.out, HV2.out]
  have B3 := Lib.hid (B2.out.trans (hb3.mono B2.out.size))
  have K3 := Lib.hid (K2.out.below hb3)
  have F3 := Lib.hid (F2.out.on hb3)
  clear hb3 q0 q1 q2 K2 F2 B2
  have q0 := K3.out.cell (i := 0) (v := .int .i64 x.id) rfl
  have q1 := K3.out.cell (i := 1) (v := .slice A' m c') rfl
  have q2 := K3.out.cell (i := 2) (v := .int .i64 x.done) rfl
  by_cases hstop : v2 = 3
  · have hs : (v2 == 3) = true := by simp [hstop]
    clear hstop
    go_wp2
    go_ret
    exact ⟨ret_bool (by simp), B3.out⟩
  have hs : (v2 == 3) = false := by simp [hstop]
  have hok := nodeRead_ok (x := x) (key := key) (by rw [HV2.out]; exact hstop)
  have hwt := nodeRead_waits (x := x) (key := key) (by rw [HV2.out]; exact hstop)
  rw [HV2.out, waits_pending hok.1] at hwt
  have HWT := Lib.hid hwt
  clear hok hwt hstop
  go_wp2_with fail
  refine (nodePending_any x _ _ _ _ F3.out hm20).mono ?_
  rintro e w4 ⟨P, k2, cp, rfl, hpl, hown4, hb4⟩
  have FP := Lib.hid ((own_flat' Upd.len hown4 hpl).mono (Nat.zero_le _) (Nat.le_refl _))
  have HP := Lib.hid hpl
  have B4 := Lib.hid (B3.out.trans (hb4.mono B3.out.size))
  have hk9 : k2 ≤ 9223372036854775807 := by have := FP.out.2.1; have := FP.out.2.2.1; unfold maxLen at *; omega
  clear hown4 hb4 hpl q0 q1 q2 K3 F3 B3
  go_wp2_with fail
  obtain ⟨lp, hlp⟩ : ∃ lp, pending x = lp := ⟨_, rfl⟩
  rw [hlp] at FP HP HWT
  clear hlp
  go_loop [10, 11] (fun s i => ∃ k : Nat, k ≤ k2 ∧ i = .int .i64 k ∧ s = .bool (keyIn (lp.take k) key)) (fun _ i => k2 - (intOf i).toNat)
  case atStart => exact ⟨0, Nat.zero_le _, rfl, rfl⟩
  case round =>
    obtain ⟨k, hk, rfl, rfl⟩ := hrel
    by_cases hlt : k < k2
    · obtain ⟨b, off, u, rfl, _, _, hu, c0, c1⟩ := FP.out.upd hlt
      have Hu := Lib.hid hu
      clear hu
      cases hin : keyIn (lp.take k) key
      · by_cases hkey : u.key = key
        · have HK := Lib.hid hkey
          rw [hkey] at c0
          clear hkey
          go_wp2
          go_round
          case rel => exact ⟨k + 1, by omega, by go_num, by rw [keyIn_true (k := k) (u := u) (by rw [List.getElem?_take, if_pos (by omega)]; exact Hu.out) HK.out]⟩
          case measure => simp [intOf]; omega
        · have hne : (u.key == key) = false := by simp [hkey]
          have HK := Lib.hid hkey
          have HI := Lib.hid hin
          clear hkey
          go_wp2
          go_round
          case rel => exact ⟨k + 1, by omega, by go_num, by rw [keyIn_false_succ HI.out Hu.out HK.out]⟩
          case measure => simp [intOf]; omega
      · have HI := Lib.hid hin
        go_wp2
        go_round
        case rel =>
          refine ⟨k + 1, by omega, by go_num, ?_⟩
          have : keyIn (lp.take (k + 1)) key = true := by
            have hh := HI.out
            unfold keyIn at hh ⊢
            rw [List.any_eq_true] at hh ⊢
            obtain ⟨y, hy, hz⟩ := hh
            exact ⟨y, (List.take_prefix_take_left (by omega)).subset hy, hz⟩
          rw [this]
        case measure => simp [intOf]; omega
    · obtain rfl : k2 = k := by omega
      have et : lp.take k2 = lp := List.take_of_length_le (by rw [HP.out]; exact Nat.le_refl _)
      rw [et]
      clear et
      have hww := HWT.out
      go_wp2
      go_ret
      exact ⟨ret_bool (by first | rfl | (rw [hww]; simp)), B4.out⟩

set_option maxHeartbeats 4000000 in
theorem nodeNone_walk (A : Option Addr) (n c : Nat) (l : List Int) (w : World) (h : Flat encU8 1 w 0 w.heap.size A n c l) (hl : ∀ x ∈ l, 0 ≤ x ∧ x ≤ 255) :
    Calls Try.prog 8 #[.slice A n c] w fun e w' => e = .returned (.bool true) ∧ Below w.heap.size w w' := by
  have H := Lib.hid h
  have HL := Lib.hid hl
  clear h hl
  by_cases hn : 1048576 < n
  · go_enter Try.func8, Try.ntmps8
    go_wp2
    go_ret
    exact ⟨rfl, Below.refl _ _⟩
  go_enter Try.func8, Try.ntmps8
  go_wp2_with fail
  refine (drawNodeRead_any _ _ _ l _ H.out HL.out).mono ?_
  rintro e w1 ⟨x, A', m, c', key, rfl, h13, hf1, hb1⟩
  have F1 := Lib.hid (hf1.mono (Nat.zero_le _) (Nat.le_refl _))
  have G1 := Lib.hid (F1.out.box (.cells #[.int .i64 x.id, .slice A' m c', .int .i64 x.done] 25))
  have K1 := Lib.hid (Blk.new w1 #[.int .i64 x.id, .slice A' m c', .int .i64 x.done] 25)
  have HM := Lib.hid hf1.len
  have hmc : m ≤ c' := hf1.2.1
  have B1 := Lib.hid hb1
  have hm20 : m ≤ 1048576 := by omega
  clear hf1 hb1 H HL
  obtain ⟨v1, hv1⟩ : ∃ v1, (nodeRead x key).1 = v1 := ⟨_, rfl⟩
  obtain ⟨v2, hv2⟩ : ∃ v2, (nodeRead x key).2 = v2 := ⟨_, rfl⟩
  have HV1 := Lib.hid hv1
  have HV2 := Lib.hid hv2
  clear hv1 hv2
  have e1 : (v1 != v1) = false := by simp
  have e2 : (v2 != v2) = false := by simp
  go_wp2_with fail
  refine (nodeRead_any x key _ _ _ _ G1.out hm20).mono ?_
  rintro e w2 ⟨rfl, hb2⟩
  rw [HV1.out, HV2.out]
  have B2 := Lib.hid (B1.out.trans ((below_box hb2).mono B1.out.size))
  have K2 := Lib.hid (K1.out.below hb2)
  have F2 := Lib.hid (F1.out.on (below_box hb2))
  clear hb2 G1 K1 F1 B1
  have q0 := K2.out.cell (i := 0) (v := .int .i64 x.id) rfl
  have q1 := K2.out.cell (i := 1) (v := .slice A' m c') rfl
  have q2 := K2.out.cell (i := 2) (v := .int .i64 x.done) rfl
  go_wp2_with fail
  refine (specNodeRead_any x key _ _ _ _ F2.out hm20).mono ?_
  rintro e w3 ⟨rfl, hb3⟩
  rw [HV1.out, HV2.out]
  have B3 := Lib.hid (B2.out.trans (hb3.mono B2.out.size))
  have K3 := Lib.hid (K2.out.below hb3)
  have F3 := Lib.hid (F2.out.on hb3)
  clear hb3 q0 q1 q2 K2 F2 B2
  have q0 := K3.out.cell (i := 0) (v := .int .i64 x.id) rfl
  have q1 := K3.out.cell (i := 1) (v := .slice A' m c') rfl
  have q2 := K3.out.cell (i := 2) (v := .int .i64 x.done) rfl
  by_cases hstop : ¬ v2 = 2
  · have hs : (v2 != 2) = true := by simp [hstop]
    clear hstop
    go_wp2
    go_ret
    exact ⟨ret_bool (by simp), B3.out⟩
  have hstop : v2 = 2 := by omega
  have hi2 := nodeRead_is2 (x := x) (key := key) (by rw [HV2.out]; exact hstop)
  have hok := nodeRead_ok (x := x) (key := key) (by rw [HV2.out, hstop]; decide)
  obtain ⟨kk, rfl⟩ : ∃ kk : Nat, key = (kk : Int) := ⟨key.toNat, by have := hok.2; simp [inB] at this; omega⟩
  have hkk5 : kk < 5 := by have := hok.2; simp [inB] at this; omega
  obtain ⟨k, hdone, hkn, hlog⟩ := nodeOk_done hok.1
  have hz1 : v1 = 0 := by rw [← HV1.out]; exact hi2.2.1
  have hin : keyIn x.log kk = false := by
    refine keyIn_split (k := k) ((valOf_some hlog hkk5 k hkn).1 ?_) ?_
    · have := hi2.2.2; rw [hdone] at this; exact this
    · have := hi2.1; unfold keyWaits at this; rw [hdone] at this; exact this
  have HIN := Lib.hid hin
  have HLOG := Lib.hid hlog
  subst hz1
  subst hstop
  clear hi2 hok hdone hin hlog
  go_wp2_with fail
  refine (logKey_any _ _ _ x.log kk _ F3.out hm20).mono ?_
  rintro e w4 ⟨P, k2, cp, rfl, hiff, hk12, hb4⟩
  have hk0 : k2 = 0 := (hiff HLOG.out).2 HIN.out
  subst hk0
  have B4 := Lib.hid (B3.out.trans (hb4.mono B3.out.size))
  clear hb4 hiff
  go_wp2
  go_ret
  exact ⟨rfl, B4.out⟩

set_option maxHeartbeats 4000000 in
theorem nodeRead_walk (A : Option Addr) (n c : Nat) (l : List Int) (w : World) (h : Flat encU8 1 w 0 w.heap.size A n c l) (hl : ∀ x ∈ l, 0 ≤ x ∧ x ≤ 255) :
    Calls Try.prog 9 #[.slice A n c] w fun e w' => e = .returned (.bool true) ∧ Below w.heap.size w w' := by
  have H := Lib.hid h
  have HL := Lib.hid hl
  clear h hl
  by_cases hn : 1048576 < n
  · go_enter Try.func9, Try.ntmps9
    go_wp2
    go_ret
    exact ⟨rfl, Below.refl _ _⟩
  go_enter Try.func9, Try.ntmps9
  go_wp2_with fail
  refine (drawNodeRead_any _ _ _ l _ H.out HL.out).mono ?_
  rintro e w1 ⟨x, A', m, c', key, rfl, h13, hf1, hb1⟩
  have F1 := Lib.hid (hf1.mono (Nat.zero_le _) (Nat.le_refl _))
  have G1 := Lib.hid (F1.out.box (.cells #[.int .i64 x.id, .slice A' m c', .int .i64 x.done] 25))
  have K1 := Lib.hid (Blk.new w1 #[.int .i64 x.id, .slice A' m c', .int .i64 x.done] 25)
  have HM := Lib.hid hf1.len
  have hmc : m ≤ c' := hf1.2.1
  have B1 := Lib.hid hb1
  have hm20 : m ≤ 1048576 := by omega
  clear hf1 hb1 H HL
  obtain ⟨v1, hv1⟩ : ∃ v1, (nodeRead x key).1 = v1 := ⟨_, rfl⟩
  obtain ⟨v2, hv2⟩ : ∃ v2, (nodeRead x key).2 = v2 := ⟨_, rfl⟩
  have HV1 := Lib.hid hv1
  have HV2 := Lib.hid hv2
  clear hv1 hv2
  have e1 : (v1 != v1) = false := by simp
  have e2 : (v2 != v2) = false := by simp
  go_wp2_with fail
  refine (nodeRead_any x key _ _ _ _ G1.out hm20).mono ?_
  rintro e w2 ⟨rfl, hb2⟩
  rw [HV1.out, HV2.out]
  have B2 := Lib.hid (B1.out.trans ((below_box hb2).mono B1.out.size))
  have K2 := Lib.hid (K1.out.below hb2)
  have F2 := Lib.hid (F1.out.on (below_box hb2))
  clear hb2 G1 K1 F1 B1
  have q0 := K2.out.cell (i := 0) (v := .int .i64 x.id) rfl
  have q1 := K2.out.cell (i := 1) (v := .slice A' m c') rfl
  have q2 := K2.out.cell (i := 2) (v := .int .i64 x.done) rfl
  go_wp2_with fail
  refine (specNodeRead_any x key _ _ _ _ F2.out hm20).mono ?_
  rintro e w3 ⟨rfl, hb3⟩
  rw [HV1.out, HV2.out]
  have B3 := Lib.hid (B2.out.trans (hb3.mono B2.out.size))
  have K3 := Lib.hid (K2.out.below hb3)
  have F3 := Lib.hid (F2.out.on hb3)
  clear hb3 q0 q1 q2 K2 F2 B2
  have q0 := K3.out.cell (i := 0) (v := .int .i64 x.id) rfl
  have q1 := K3.out.cell (i := 1) (v := .slice A' m c') rfl
  have q2 := K3.out.cell (i := 2) (v := .int .i64 x.done) rfl
  by_cases hstop : ¬ v2 = 0
  · have hs : (v2 != 0) = true := by simp [hstop]
    clear hstop
    go_wp2
    go_ret
    exact ⟨ret_bool (by simp), B3.out⟩
  have hstop : v2 = 0 := by omega
  have hi0 := nodeRead_is0 (x := x) (key := key) (by rw [HV2.out]; exact hstop)
  have hok := nodeRead_ok (x := x) (key := key) (by rw [HV2.out, hstop]; decide)
  obtain ⟨kk, rfl⟩ : ∃ kk : Nat, key = (kk : Int) := ⟨key.toNat, by have := hok.2; simp [inB] at this; omega⟩
  have hkk5 : kk < 5 := by have := hok.2; simp [inB] at this; omega
  obtain ⟨k, hdone, hkn, hlog⟩ := nodeOk_done hok.1
  have hpn : keyIn (pending x) kk = false := by rw [← waits_pending hok.1]; exact hi0.1
  have hdn : keyIn (x.log.drop k) kk = false := by rw [← pending_ok hok.1 hdone]; exact hpn
  have hval : valOf x.log kk m = v1 := by
    have h1 := valOf_end hlog hkk5 hkn hdn
    rw [HM.out] at h1
    rw [h1, ← HV1.out, hi0.2.1, hdone]; rfl
  have hst : stateOf x.log m = stAt x.log m := by have := HM.out; simp [stateOf, hlog, inB]; omega
  have HPN := Lib.hid hpn
  have HVAL := Lib.hid hval
  have HST := Lib.hid hst
  subst hstop
  clear hi0 hok hdone hpn hdn hlog hval hst
  have b0 : (0 : Int) ≤ (kk : Int) := by omega
  have b5 : (kk : Int) < 5 := by omega
  go_wp2_with fail
  refine (nodePending_any x _ _ _ _ F3.out hm20).mono ?_
  rintro e w4 ⟨P, k2, cp, rfl, hpl, hown4, hb4⟩
  have FP := Lib.hid ((own_flat' Upd.len hown4 hpl).mono (Nat.zero_le _) (Nat.le_refl _))
  have B4 := Lib.hid (B3.out.trans (hb4.mono B3.out.size))
  have K4 := Lib.hid (K3.out.below hb4)
  have F4 := Lib.hid (F3.out.on hb4)
  have hk9 : k2 ≤ 9223372036854775807 := by have := FP.out.2.1; have := FP.out.2.2.1; unfold maxLen at *; omega
  clear hown4 hb4 hpl q0 q1 q2 K3 F3 B3
  have q1 := K4.out.cell (i := 1) (v := .slice A' m c') rfl
  go_wp2_with fail
  obtain ⟨lp, hlp⟩ : ∃ lp, pending x = lp := ⟨_, rfl⟩
  rw [hlp] at FP HPN
  clear hlp
  go_loop [10] (fun i => ∃ k : Nat, k ≤ k2 ∧ i = .int .i64 k) (fun i => k2 - (intOf i).toNat)
  case atStart => exact ⟨0, Nat.zero_le _, rfl⟩
  case round =>
    obtain ⟨k, hk, rfl⟩ := hrel
    by_cases hlt : k < k2
    · obtain ⟨b, off, u, rfl, _, _, hu, c0, c1⟩ := FP.out.upd hlt
      have hne : (u.key == (kk : Int)) = false := by
        by_cases e : u.key = (kk : Int)
        · have := keyIn_true hu e; rw [HPN.out] at this; cases this
        · simp [e]
      clear hu
      go_wp2
      go_round
      case rel => exact ⟨k + 1, by omega, by go_num⟩
      case measure => simp [intOf]; omega
    · obtain rfl : k2 = k := by omega
      go_wp2_with fail
      refine (stateOf_any _ _ _ x.log _ F4.out hm20).mono ?_
      rintro e w5 ⟨g, cc, rfl, hl1, hl2, hl3, hs5, hb5⟩
      rw [HST.out] at hs5 hl1 ⊢
      rw [stAt_len] at hl1 ⊢
      obtain ⟨y, hy, hcy⟩ := hs5.at_ (show kk < (stAt x.log m).length by rw [stAt_len]; exact hkk5)
      rw [stAt_at hkk5, HVAL.out] at hy
      injection hy with hy
      subst hy
      have B5 := Lib.hid (B4.out.trans (hb5.mono B4.out.size))
      clear hs5 hb5
      go_wp2
      go_ret
      exact ⟨ret_bool (by simp), B5.out⟩

set_option maxHeartbeats 4000000 in
theorem nodeAck_walk (A : Option Addr) (n c : Nat) (l : List Int) (w : World) (h : Flat encU8 1 w 0 w.heap.size A n c l) (hl : ∀ x ∈ l, 0 ≤ x ∧ x ≤ 255) :
    Calls Try.prog 10 #[.slice A n c] w fun e w' => e = .returned (.bool true) ∧ Below w.heap.size w w' := by
  have H := Lib.hid h
  have HL := Lib.hid hl
  clear h hl
  by_cases hn : 1048576 < n
  · go_enter Try.func10, Try.ntmps10
    go_wp2
    go_ret
    exact ⟨rfl, Below.refl _ _⟩
  go_enter Try.func10, Try.ntmps10
  go_wp2_with fail
  refine (drawNodeRead_any _ _ _ l _ H.out HL.out).mono ?_
  rintro e w1 ⟨x, A', m, c', key, rfl, h13, hf1, hb1⟩
  have F1 := Lib.hid (hf1.mono (Nat.zero_le _) (Nat.le_refl _))
  have G1 := Lib.hid (F1.out.box (.cells #[.int .i64 x.id, .slice A' m c', .int .i64 x.done] 25))
  have K1 := Lib.hid (Blk.new w1 #[.int .i64 x.id, .slice A' m c', .int .i64 x.done] 25)
  have HM := Lib.hid hf1.len
  have hmc : m ≤ c' := hf1.2.1
  have B1 := Lib.hid hb1
  have hm20 : m ≤ 1048576 := by omega
  clear hf1 hb1 H HL
  obtain ⟨v1, hv1⟩ : ∃ v1, (nodeRead x key).1 = v1 := ⟨_, rfl⟩
  obtain ⟨v2, hv2⟩ : ∃ v2, (nodeRead x key).2 = v2 := ⟨_, rfl⟩
  have HV1 := Lib.hid hv1
  have HV2 := Lib.hid hv2
  clear hv1 hv2
  have e1 : (v1 != v1) = false := by simp
  have e2 : (v2 != v2) = false := by simp
  go_wp2_with fail
  refine (nodeRead_any x key _ _ _ _ G1.out hm20).mono ?_
  rintro e w2 ⟨rfl, hb2⟩
  rw [HV1.out, HV2.out]
  have B2 := Lib.hid (B1.out.trans ((below_box hb2).mono B1.out.size))
  have K2 := Lib.hid (K1.out.below hb2)
  have F2 := Lib.hid (F1.out.on (below_box hb2))
  clear hb2 G1 K1 F1 B1
  have q0 := K2.out.cell (i := 0) (v := .int .i64 x.id) rfl
  have q1 := K2.out.cell (i := 1) (v := .slice A' m c') rfl
  have q2 := K2.out.cell (i := 2) (v := .int .i64 x.done) rfl
  go_wp2_with fail
  refine (specNodeRead_any x key _ _ _ _ F2.out hm20).mono ?_
  rintro e w3 ⟨rfl, hb3⟩
  rw [HV1.out, HV2.out]
  have B3 := Lib.hid (B2.out.trans (hb3.mono B2.out.size))
  have K3 := Lib.hid (K2.out.below hb3)
  have F3 := Lib.hid (F2.out.on hb3)
  clear hb3 q0 q1 q2 K2 F2 B2
  have q0 := K3.out.cell (i := 0) (v := .int .i64 x.id) rfl
  have q1 := K3.out.cell (i := 1) (v := .slice A' m c') rfl
  have q2 := K3.out.cell (i := 2) (v := .int .i64 x.done) rfl
  by_cases hstop : v2 = 3
  · have hs : (v2 == 3) = true := by simp [hstop]
    clear hstop
    go_wp2
    go_ret
    exact ⟨ret_bool (by simp), B3.out⟩
  have hs : (v2 == 3) = false := by simp [hstop]
  have hok := nodeRead_ok (x := x) (key := key) (by rw [HV2.out]; exact hstop)
  obtain ⟨k, hdone, hkn, hlog⟩ := nodeOk_done hok.1
  have htold := nodeRead_told HM.out hok.1 hok.2
  have HOK := Lib.hid hok.1
  have HT := Lib.hid htold
  have hdm : x.done ≤ (m : Int) := by have := HM.out; omega
  clear hok hdone hkn hlog htold hstop
  go_wp2_with fail
  refine (nodeAck_any x _ _ _ m _ F3.out hm20 HOK.out hdm (Nat.le_refl _)).mono ?_
  rintro e w4 ⟨P, k2, cp, rfl, hpl, hown4, hb4⟩
  have e0 : k2 = m := by rw [← hpl]; exact HM.out
  subst e0
  have FP := Lib.hid (((own_flat' Upd.len hown4 hpl).mono (Nat.zero_le _) (Nat.le_refl _)).box (.cells #[.int .i64 x.id, .slice P k2 cp, .int .i64 k2] 25))
  have B4 := Lib.hid (B3.out.trans (hb4.mono B3.out.size))
  obtain ⟨a1, ha1⟩ : ∃ a1, (nodeRead ⟨x.id, x.log, k2⟩ key).1 = a1 := ⟨_, rfl⟩
  obtain ⟨a2, ha2⟩ : ∃ a2, (nodeRead ⟨x.id, x.log, k2⟩ key).2 = a2 := ⟨_, rfl⟩
  have hc := nodeRead_any ⟨x.id, x.log, k2⟩ key P k2 cp _ FP.out hm20
  rw [ha1, ha2] at hc
  have HC := Lib.hid hc
  have n1 : (a2 != 1) = true := by have := HT.out.1; rw [ha2] at this; simp [this]
  have n3 : (a2 != 3) = true := by have := HT.out.2; rw [ha2] at this; simp [this]
  clear hown4 hb4 hpl q0 q1 q2 K3 F3 B3 ha1 ha2 hc
  go_wp2_with fail
  refine HC.out.mono ?_
  rintro e w5 ⟨rfl, hb5⟩
  have B5 := Lib.hid (B4.out.trans ((below_box hb5).mono B4.out.size))
  clear hb5
  go_wp2
  go_ret
  exact ⟨rfl, B5.out⟩

set_option maxHeartbeats 4000000 in
theorem valueClean_walk (A : Option Addr) (n c : Nat) (l : List Int) (w : World) (h : Flat encU8 1 w 0 w.heap.size A n c l) (hl : ∀ x ∈ l, 0 ≤ x ∧ x ≤ 255) :
    Calls Try.prog 5 #[.slice A n c] w fun e w' => e = .returned (.bool true) ∧ Below w.heap.size w w' := by
  have H := Lib.hid h
  have HL := Lib.hid hl
  clear h hl
  by_cases hn : 1048576 < n
  · go_enter Try.func5, Try.ntmps5
    go_wp2
    go_ret
    exact ⟨rfl, Below.refl _ _⟩
  go_enter Try.func5, Try.ntmps5
  go_wp2_with fail
  refine (drawNodeRead_any _ _ _ l _ H.out HL.out).mono ?_
  rintro e w1 ⟨x, A', m, c', key, rfl, h13, hf1, hb1⟩
  have F1 := Lib.hid (hf1.mono (Nat.zero_le _) (Nat.le_refl _))
  have G1 := Lib.hid (F1.out.box (.cells #[.int .i64 x.id, .slice A' m c', .int .i64 x.done] 25))
  have K1 := Lib.hid (Blk.new w1 #[.int .i64 x.id, .slice A' m c', .int .i64 x.done] 25)
  have HM := Lib.hid hf1.len
  have hmc : m ≤ c' := hf1.2.1
  have B1 := Lib.hid hb1
  have hm20 : m ≤ 1048576 := by omega
  clear hf1 hb1 H HL
  obtain ⟨v1, hv1⟩ : ∃ v1, (nodeRead x key).1 = v1 := ⟨_, rfl⟩
  obtain ⟨v2, hv2⟩ : ∃ v2, (nodeRead x key).2 = v2 := ⟨_, rfl⟩
  have HV1 := Lib.hid hv1
  have HV2 := Lib.hid hv2
  clear hv1 hv2
  have e1 : (v1 != v1) = false := by simp
  have e2 : (v2 != v2) = false := by simp
  go_wp2_with fail
  refine (nodeRead_any x key _ _ _ _ G1.out hm20).mono ?_
  rintro e w2 ⟨rfl, hb2⟩
  rw [HV1.out, HV2.out]
  have B2 := Lib.hid (B1.out.trans ((below_box hb2).mono B1.out.size))
  have K2 := Lib.hid (K1.out.below hb2)
  have F2 := Lib.hid (F1.out.on (below_box hb2))
  clear hb2 G1 K1 F1 B1
  have q0 := K2.out.cell (i := 0) (v := .int .i64 x.id) rfl
  have q1 := K2.out.cell (i := 1) (v := .slice A' m c') rfl
  have q2 := K2.out.cell (i := 2) (v := .int .i64 x.done) rfl
  go_wp2_with fail
  refine (specNodeRead_any x key _ _ _ _ F2.out hm20).mono ?_
  rintro e w3 ⟨rfl, hb3⟩
  rw [HV1.out, HV2.out]
  have B3 := Lib.hid (B2.out.trans (hb3.mono B2.out.size))
  have K3 := Lib.hid (K2.out.below hb3)
  have F3 := Lib.hid (F2.out.on hb3)
  clear hb3 q0 q1 q2 K2 F2 B2
  have q0 := K3.out.cell (i := 0) (v := .int .i64 x.id) rfl
  have q1 := K3.out.cell (i := 1) (v := .slice A' m c') rfl
  have q2 := K3.out.cell (i := 2) (v := .int .i64 x.done) rfl
  by_cases hstop : ¬ v2 = 0
  · have hs : (v2 != 0) = true := by simp [hstop]
    clear hstop
    go_wp2
    go_ret
    exact ⟨ret_bool (by simp), B3.out⟩
  have hstop : v2 = 0 := by omega
  have hi0 := nodeRead_is0 (x := x) (key := key) (by rw [HV2.out]; exact hstop)
  have hok := nodeRead_ok (x := x) (key := key) (by rw [HV2.out, hstop]; decide)
  obtain ⟨kk, rfl⟩ : ∃ kk : Nat, key = (kk : Int) := ⟨key.toNat, by have := hok.2; simp [inB] at this; omega⟩
  have hkk5 : kk < 5 := by have := hok.2; simp [inB] at this; omega
  obtain ⟨k, hdone, hkn, hlog⟩ := nodeOk_done hok.1
  have hdn : keyIn (x.log.drop k) kk = false := by rw [← pending_ok hok.1 hdone, ← waits_pending hok.1]; exact hi0.1
  have hv1' : valOf x.log kk k = v1 := by rw [← HV1.out, hi0.2.1, hdone]; rfl
  have hpos : ¬ v1 < 0 := by rw [← hv1']; have := hi0.2.2; rw [hdone] at this; exact this
  have ha : nodeValueAt x kk x.done = (v1, true) := by
    rw [hdone, nodeValueAt_ok hok.1 hkk5 hkn, hv1', if_neg hpos, if_neg hpos]
  have hb : nodeValueAt x kk m = (v1, true) := by
    have h1 := valOf_end hlog hkk5 hkn hdn
    rw [HM.out, hv1'] at h1
    rw [nodeValueAt_ok hok.1 hkk5 (by rw [HM.out]; exact Nat.le_refl _), h1, if_neg hpos, if_neg hpos]
  have ca := fun W hF => nodeValueAt_any x kk x.done A' m c' W hF hm20
  have cb := fun W hF => nodeValueAt_any x kk m A' m c' W hF hm20
  rw [ha] at ca
  rw [hb] at cb
  have CA := Lib.hid ca
  have CB := Lib.hid cb
  subst hstop
  clear hi0 hok hdone hdn hlog hv1' hpos ha hb ca cb
  go_wp2_with fail
  refine (CA.out _ F3.out).mono ?_
  rintro e w4 ⟨rfl, hb4⟩
  have B4 := Lib.hid (B3.out.trans (hb4.mono B3.out.size))
  have K4 := Lib.hid (K3.out.below hb4)
  have F4 := Lib.hid (F3.out.on hb4)
  clear hb4 q0 q1 q2 K3 F3 B3
  have q0 := K4.out.cell (i := 0) (v := .int .i64 x.id) rfl
  have q1 := K4.out.cell (i := 1) (v := .slice A' m c') rfl
  have q2 := K4.out.cell (i := 2) (v := .int .i64 x.done) rfl
  go_wp2_with fail
  refine (CB.out _ F4.out).mono ?_
  rintro e w5 ⟨rfl, hb5⟩
  have B5 := Lib.hid (B4.out.trans (hb5.mono B4.out.size))
  clear hb5
  go_wp2
  go_ret
  exact ⟨ret_bool (by simp), B5.out⟩

set_option maxHeartbeats 4000000 in
theorem valueAt_walk (A : Option Addr) (n c : Nat) (l : List Int) (w : World) (h : Flat encU8 1 w 0 w.heap.size A n c l) (hl : ∀ x ∈ l, 0 ≤ x ∧ x ≤ 255) :
    Calls Try.prog 3 #[.slice A n c] w fun e w' => e = .returned (.bool true) ∧ Below w.heap.size w w' := by
  have H := Lib.hid h
  have HL := Lib.hid hl
  clear h hl
  by_cases hn : 1048576 < n
  · go_enter Try.func3, Try.ntmps3
    go_wp2
    go_ret
    exact ⟨rfl, Below.refl _ _⟩
  go_enter Try.func3, Try.ntmps3
  go_wp2_with fail
  refine (drawNodeValueAt_any _ _ _ l _ H.out HL.out).mono ?_
  rintro e w1 ⟨x, A', m, c', key, many, rfl, h13, hf1, hb1⟩
  have F1 := Lib.hid (hf1.mono (Nat.zero_le _) (Nat.le_refl _))
  have G1 := Lib.hid (F1.out.box (.cells #[.int .i64 x.id, .slice A' m c', .int .i64 x.done] 25))
  have K1 := Lib.hid (Blk.new w1 #[.int .i64 x.id, .slice A' m c', .int .i64 x.done] 25)
  have HM := Lib.hid hf1.len
  have B1 := Lib.hid hb1
  have hm20 : m ≤ 1048576 := by omega
  clear hf1 hb1 H HL
  obtain ⟨v1, hv1⟩ : ∃ v1, (nodeValueAt x key many).1 = v1 := ⟨_, rfl⟩
  obtain ⟨v2, hv2⟩ : ∃ v2, (nodeValueAt x key many).2 = v2 := ⟨_, rfl⟩
  have HV1 := Lib.hid hv1
  have HV2 := Lib.hid hv2
  clear hv1 hv2
  have e1 : (v1 != v1) = false := by simp
  go_wp2_with fail
  refine (nodeValueAt_any x key many _ _ _ _ G1.out hm20).mono ?_
  rintro e w2 ⟨rfl, hb2⟩
  rw [HV1.out, HV2.out]
  have B2 := Lib.hid (B1.out.trans ((below_box hb2).mono B1.out.size))
  have K2 := Lib.hid (K1.out.below hb2)
  have F2 := Lib.hid (F1.out.on (below_box hb2))
  clear hb2 G1 K1 F1 B1
  have q0 := K2.out.cell (i := 0) (v := .int .i64 x.id) rfl
  have q1 := K2.out.cell (i := 1) (v := .slice A' m c') rfl
  have q2 := K2.out.cell (i := 2) (v := .int .i64 x.done) rfl
  go_wp2_with fail
  refine (specNodeValueAt_any x key many _ _ _ _ F2.out hm20).mono ?_
  rintro e w3 ⟨rfl, hb3⟩
  rw [HV1.out, HV2.out]
  have B3 := Lib.hid (B2.out.trans (hb3.mono B2.out.size))
  have K3 := Lib.hid (K2.out.below hb3)
  have F3 := Lib.hid (F2.out.on hb3)
  clear hb3 q0 q1 q2 K2 F2 B2
  have q1 := K3.out.cell (i := 1) (v := .slice A' m c') rfl
  cases v2
  · go_wp2
    go_ret
    exact ⟨ret_bool (by simp), B3.out⟩
  have hall : (nodeOk x && inB key 0 4 && inB many 0 x.log.length) = true := by
    cases hb : (nodeOk x && inB key 0 4 && inB many 0 x.log.length)
    · have := HV2.out; unfold nodeValueAt at this; rw [hb] at this; simp at this
    · rfl
  simp only [Bool.and_eq_true] at hall
  obtain ⟨⟨h1, h2⟩, h3⟩ := hall
  obtain ⟨kk, rfl⟩ : ∃ kk : Nat, key = (kk : Int) := ⟨key.toNat, by simp [inB] at h2; omega⟩
  have hkk5 : kk < 5 := by simp [inB] at h2; omega
  obtain ⟨k, rfl⟩ : ∃ k : Nat, many = (k : Int) := ⟨many.toNat, by simp [inB] at h3; omega⟩
  have hkn : k ≤ x.log.length := by simp [inB] at h3; omega
  have hlog := nodeOk_log h1
  have hv := nodeValueAt_ok h1 hkk5 hkn
  have hneg : ¬ valOf x.log kk k < 0 := by
    intro e
    have := HV2.out; rw [hv, if_pos e, if_pos e] at this; cases this
  have hval : valOf x.log kk k = v1 := by have := HV1.out; rw [hv, if_neg hneg, if_neg hneg] at this; exact this
  have hst : stateOf x.log k = stAt x.log k := by simp [stateOf, hlog, inB]; omega
  have HVAL := Lib.hid hval
  have HST := Lib.hid hst
  have b0 : (0 : Int) ≤ (kk : Int) := by omega
  have b5 : (kk : Int) < 5 := by omega
  clear h1 h2 h3 hlog hv hneg hval hst hkn
  go_wp2_with fail
  refine (stateAt_any _ _ _ x.log _ _ F3.out hm20).mono ?_
  rintro e w5 ⟨g, cc, rfl, hl1, hl2, hl3, hs5, hb5⟩
  rw [HST.out] at hs5 hl1 ⊢
  rw [stAt_len] at hl1 ⊢
  obtain ⟨y, hy, hcy⟩ := hs5.at_ (show kk < (stAt x.log k).length by rw [stAt_len]; exact hkk5)
  rw [stAt_at hkk5, HVAL.out] at hy
  injection hy with hy
  subst hy
  have B5 := Lib.hid (B3.out.trans (hb5.mono B3.out.size))
  clear hs5 hb5
  go_wp2
  go_ret
  exact ⟨ret_bool (by simp), B5.out⟩
end Go.Proofs.Ytplhhjmmkohljaa
