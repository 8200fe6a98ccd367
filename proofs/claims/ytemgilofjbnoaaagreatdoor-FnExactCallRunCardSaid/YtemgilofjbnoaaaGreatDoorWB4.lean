/- Texts of this claim, joined: SPass STell Lag QueueW SettleI SStep SSettle Reads ReadsN ReadsU. -/
import Derived.Test.YtemgilofjbnoaaaGreatDoorRows
import Derived.ProofKit
import Derived.OpenShut
import Derived.ChangeOld
import Derived.Below
import Derived.Deep.Slices
import Derived.Test.YtemgilofjbnoaaaGreatDoorWB3
import Derived.Test.YtemgilofjbnoaaaGreatDoorWB2
import Derived.Test.YtemgilofjbnoaaaGreatDoorWB1
set_option linter.unusedSimpArgs false
set_option linter.unusedVariables false
namespace Go.Proofs.YtemgilofjbnoaaaGreatDoor
open Go.RowKit Go.Sort
theorem linkOk_inB {v : Int} {l : List Nod} {n : Nat} (i : Int) (h : chainOk v l = true) (hl : l.length = n) : linkOk v l i = inB i 0 ((n : Int) - 2) := by
  unfold linkOk inB
  rw [h, hl, Bool.true_and]
  congr 1
  exact decide_eq_decide.2 (by omega)
theorem updOk_at {l : List Upd} {k : Nat} {u : Upd} (h : logOk l = true) (hu : l[k]? = some u) : updOk u.key u.value = true := by
  unfold logOk at h
  simp only [Bool.and_eq_true, List.all_eq_true] at h
  exact h.2 u (List.mem_of_getElem? hu)
theorem takeAt_pass {v : Int} {l : List Nod} {k m1 m2 : Nat} {x y : Nod} {u : Upd} (h : Good v l) (hx : l[k]? = some x) (hy : l[k + 1]? = some y) (h1 : x.log.length = m1) (h2 : y.log.length = m2) (hlt : m2 < m1) (hu : x.log[m2]? = some u) :
    takeAtM v l (k + 1) y u = some (v, l.set (k + 1) (passed l x y k)) := by
  have hl := (List.getElem?_eq_some_iff.1 hy).1
  have hx12 := (log_hd h hx).length_le
  have := hd_len h
  have hpre := (good_at h hx hy (by omega)).2.1
  have hpl : y.log ++ [u] = x.log.take (m2 + 1) := by
    have := take_more hpre (u := u) (by rw [h2]; exact hu)
    rw [this, h2]
  have hpn : (y.log ++ [u]).length = m2 + 1 := by simp [h2]
  unfold takeAtM
  rw [takeM_some (goodl_ok h hy) (updOk_at (nodeOk_iff.1 (goodl_ok h hx)).2.2.1 hu) (by omega)]
  show some (v, l.set (k + 1) (if k + 1 + 1 = l.length then ⟨y.id, y.log ++ [u], ((y.log ++ [u]).length : Nat)⟩ else ⟨y.id, y.log ++ [u], y.done⟩)) = _
  congr 3
  unfold passed
  rw [hpn, hpl, h2]
  split <;> rfl
set_option maxRecDepth 100000 in
set_option maxHeartbeats 8000000 in
theorem specChainPass_any (view : Int) (A : Option Addr) (n c : Nat) (l : List Nod) (i : Int) (w : World) (h : Nods w 0 w.heap.size A n c l) (hn : n ≤ 1048576) (hlog : ∀ x ∈ l, x.log.length ≤ 1048576) :
    Calls Mo.prog 115 #[.agg #[.int .i64 view, .slice A n c], .int .i64 i] w (ChainRes w (passM view l i)) := by
  have HL := Lib.hid h.len
  have HG := Lib.hid hlog
  have H := Lib.hid h
  have H0 := Lib.hid ((h.box (.cells #[.int .i64 view, .slice A n c] 25)).box (.cells #[.int .i64 0, .slice none 0 0] 25))
  clear h hlog
  cases hok : chainOk view l
  · have HT := Lib.hid (show passM view l i = none by simp [passM, linkOk, hok])
    have HO := Lib.hid hok
    clear hok
    go_enter Mo.func115, Tryz.ntmps115
    go_wp2_with fail
    refine (specChainValid_any _ _ _ _ l _ H0.out hn HG.out).mono ?_
    rintro e w1 ⟨rfl, hb1⟩
    rw [HO.out]
    obtain ⟨_, k1, b1⟩ := box_res hb1
    have FF := Lib.hid (res_two (a := .int .i64 0) (b := .slice none 0 0) k1 (by omega) b1)
    obtain ⟨z0, z1, y0, y1⟩ := FF.out.1
    clear hb1 k1 b1
    go_wp2
    exact bodyPost_ret (v := .tuple #[.agg #[.int .i64 0, .slice none 0 0], .bool false]) (by simp [results, Tryz.results115, go_sem, FF.out.2.1.1, FF.out.2.1.2]) rfl (by rw [HT.out]; exact ChainRes.none_ FF.out.2.2)
  · have HO := Lib.hid hok
    have hn5 : n ≤ 5 := by have := len5 hok; have := HL.out; omega
    have HI := Lib.hid (linkOk_inB i hok HL.out)
    have hw2 : IntKind.i64.wrap ((n : Int) - 2) = (n : Int) - 2 := IntWalk.i64_in _ (by omega)
    cases hin : linkOk view l i
    · have HT := Lib.hid (show passM view l i = none by simp [passM, hin])
      have HIN := Lib.hid (HI.out.symm.trans hin)
      clear hok hin
      go_enter Mo.func115, Tryz.ntmps115
      go_wp2_with fail
      refine (specChainValid_any _ _ _ _ l _ H0.out hn HG.out).mono ?_
      rintro e w1 ⟨rfl, hb1⟩
      rw [HO.out]
      obtain ⟨k0, k1, b1⟩ := box_res hb1
      have q1 := k0.cell (i := 1) (v := .slice A n c) rfl
      have FF := Lib.hid (res_two (a := .int .i64 0) (b := .slice none 0 0) k1 (by omega) b1)
      obtain ⟨z0, z1, y0, y1⟩ := FF.out.1
      clear hb1 k1 b1 k0
      go_wp2_with fail
      refine (l6In_any _ _ _ _).mono ?_
      rintro e w2 ⟨rfl, rfl⟩
      rw [HIN.out]
      clear hw2
      go_wp2
      exact bodyPost_ret (v := .tuple #[.agg #[.int .i64 0, .slice none 0 0], .bool false]) (by simp [results, Tryz.results115, go_sem, FF.out.2.1.1, FF.out.2.1.2]) rfl (by rw [HT.out]; exact ChainRes.none_ FF.out.2.2)
    · have HIN := Lib.hid (HI.out.symm.trans hin)
      obtain ⟨k, rfl, hk, hco⟩ := linkOk_at hin
      rw [HL.out] at hk
      obtain ⟨b, off, x, A1, m1, q1, rfl, _, hb, hx, c0, c1, c2, hf1⟩ := H.out.nod (k := k) (by omega)
      obtain ⟨b', off', y, A2, m2, q2, e, _, _, hy, c0', c1', c2', hf2⟩ := H.out.nod (k := k + 1) hk
      injection e with e; injection e with e1 e2
      subst e1; subst e2
      have HP := Lib.hid (passM_ok hin)
      have Hx := Lib.hid hx
      have Hy := Lib.hid hy
      have i0 : (0 : Int) ≤ (k : Int) := by omega
      have i1 : (k : Int) < (n : Int) := by omega
      have i2 : (0 : Int) ≤ ((k + 1 : Nat) : Int) := by omega
      have i3 : ((k + 1 : Nat) : Int) < (n : Int) := by omega
      have i4 : (0 : Int) ≤ (k : Int) + 1 := by omega
      have i5 : (k : Int) + 1 < (n : Int) := by omega
      have hw1 : IntKind.i64.wrap ((k : Int) + 1) = ((k + 1 : Nat) : Int) := IntWalk.i64_in _ (by omega)
      have hahead := good_at (good_iff.1 hco) hx hy (by omega)
      have hle := hahead.2.1.length_le
      rw [hf1.len, hf2.len] at hle
      have L1 := Lib.hid hf1.len
      have L2 := Lib.hid hf2.len
      have C := Lib.hid (And.intro c1 c1')
      have GG := Lib.hid (good_iff.1 hok)
      have FL1 := Lib.hid hf1
      clear hok hin hx hy hf1 hf2 c0 c1 c2 c0' c1' c2' hco hahead
      by_cases he : m1 = m2
      · have hq : ((m2 : Int) == (m1 : Int)) = true := by simp [he]
        have HT := Lib.hid (show passM view l k = none by rw [HP.out, passAt_eq Hx.out Hy.out (by rw [L1.out, L2.out, he])]; rfl)
        clear he
        go_enter Mo.func115, Tryz.ntmps115
        go_wp2_with fail
        refine (specChainValid_any _ _ _ _ l _ H0.out hn HG.out).mono ?_
        rintro e w1 ⟨rfl, hb1⟩
        rw [HO.out]
        obtain ⟨k0, k1, b1⟩ := box_res hb1
        have r1 := k0.cell (i := 1) (v := .slice (some ⟨b, off, none⟩) n c) rfl
        have v1 := (b1.cell (p := ⟨b, _, none⟩) hb).trans C.out.1
        have v2 := (b1.cell (p := ⟨b, _, none⟩) hb).trans C.out.2
        have FF := Lib.hid (res_two (a := .int .i64 0) (b := .slice none 0 0) k1 (by omega) b1)
        obtain ⟨z0, z1, y0, y1⟩ := FF.out.1
        clear hb1 k1 b1 k0
        go_wp2_with fail
        refine (l6In_any _ _ _ _).mono ?_
        rintro e w2 ⟨rfl, rfl⟩
        rw [HIN.out]
        go_wp2
        exact bodyPost_ret (v := .tuple #[.agg #[.int .i64 0, .slice none 0 0], .bool false]) (by simp [results, Tryz.results115, go_sem, FF.out.2.1.1, FF.out.2.1.2]) rfl (by rw [HT.out]; exact ChainRes.none_ FF.out.2.2)
      · have hq : ((m2 : Int) == (m1 : Int)) = false := by simp; omega
        have hm2 : m2 < m1 := by omega
        obtain ⟨bu, ou, u, rfl, _, hbu, hu, hcu0, hcu1⟩ := FL1.out.upd hm2
        have HTT := Lib.hid (takeAt_pass GG.out Hx.out Hy.out L1.out L2.out hm2 hu)
        have HT := Lib.hid (show passM view l k = takeAtM view l (k + 1) y u by rw [HP.out, passAt_ne Hx.out Hy.out (by rw [L1.out, L2.out]; exact fun e => he e.symm), HTT.out]; rfl)
        have j0 : (0 : Int) ≤ (m2 : Int) := by omega
        have j1 : (m2 : Int) < (m1 : Int) := by omega
        have CU := Lib.hid (And.intro hcu0 hcu1)
        clear he hu hcu0 hcu1 hle
        go_enter Mo.func115, Tryz.ntmps115
        go_wp2_with fail
        refine (specChainValid_any _ _ _ _ l _ H0.out hn HG.out).mono ?_
        rintro e w1 ⟨rfl, hb1⟩
        rw [HO.out]
        obtain ⟨k0, k1, b1⟩ := box_res hb1
        have r0 := k0.cell (i := 0) (v := .int .i64 view) rfl
        have r1 := k0.cell (i := 1) (v := .slice (some ⟨b, off, none⟩) n c) rfl
        have v1 := (b1.cell (p := ⟨b, _, none⟩) hb).trans C.out.1
        have v2 := (b1.cell (p := ⟨b, _, none⟩) hb).trans C.out.2
        have v3 := (b1.cell (p := ⟨bu, _, none⟩) hbu).trans CU.out.1
        have v4 := (b1.cell (p := ⟨bu, _, none⟩) hbu).trans CU.out.2
        have K0 := Lib.hid k0
        have K1 := Lib.hid k1
        have B1 := Lib.hid b1
        have s1 := b1.size
        have FD := Lib.hid (show Nods w1.drew 0 w1.drew.heap.size (some ⟨b, off, none⟩) n c l from (H.out.on b1).below (Below.refl w1.heap.size w1).drew (Nat.le_refl _))
        have TT := Lib.hid (show Calls Mo.prog 97 #[.agg #[.int .i64 view, .slice (some ⟨b, off, none⟩) n c], .int .i64 ((k : Int) + 1), .agg #[.int .i64 u.key, .int .i64 u.value]] w1.drew (ChainRes w1.drew (takeAtM view l (k + 1) y u)) from l4Take_any view _ n c (k + 1) l y u w1.drew FD.out hn HG.out Hy.out)
        have e1 : b ≠ w.heap.size + 1 := by omega
        have e2 : bu ≠ w.heap.size + 1 := by omega
        have e3 : w.heap.size + 1 ≠ b := by omega
        have e4 : w.heap.size + 1 ≠ bu := by omega
        clear hb1 k1 b1 k0
        go_wp2_with fail
        refine (l6In_any _ _ _ _).mono ?_
        rintro e w2 ⟨rfl, rfl⟩
        rw [HIN.out]
        go_wp2_with fail
        go_region_held3 (fun V => V.cell? ⟨w.heap.size, 0, none⟩ = some (.int .i64 view) ∧ V.cell? ⟨w.heap.size, 1, none⟩ = some (.slice (some ⟨b, off, none⟩) n c) ∧ V.cell? ⟨b, off + k * 3 + 1, none⟩ = some (.slice (some ⟨bu, ou, none⟩) m1 q1) ∧ V.cell? ⟨bu, ou + m2 * 2, none⟩ = some (.int .i64 u.key) ∧ V.cell? ⟨bu, ou + m2 * 2 + 1, none⟩ = some (.int .i64 u.value)) (go_keep)
          ((go_at_call 97; (with_reducible refine TT.out.mono ?_); rintro e w5 ⟨v5, A5, n5, c5, l5, hv5, rfl, hl5, hr5, hb5⟩; have hb5' := below_undrew hb5; have k5 := K1.out.below hb5'; have kk5 := K0.out.below hb5'; have b5 := B1.out.trans (hb5'.mono s1); have FF := Lib.hid (res_two (a := .int .i64 v5) (b := .slice A5 n5 c5) k5 (show w.heap.size ≤ w.heap.size + 1 by omega) b5); have NN := Lib.hid (res_row (u := .int .i64 v5) (v := .slice A5 n5 c5) (hr5.lower (show w.heap.size ≤ w1.drew.heap.size from s1)) k5); have g0 := kk5.cell (i := 0) (v := .int .i64 view) rfl; have g1 := kk5.cell (i := 1) (v := .slice (some ⟨b, off, none⟩) n c) rfl; have g2 := (hb5'.cell (p := ⟨b, off + k * 3 + 1, none⟩) (block_lt_of_cell v1)).trans v1; have g3 := (hb5'.cell (p := ⟨bu, ou + m2 * 2, none⟩) (block_lt_of_cell v3)).trans v3; have g4 := (hb5'.cell (p := ⟨bu, ou + m2 * 2 + 1, none⟩) (block_lt_of_cell v4)).trans v4; obtain ⟨z0, z1, y0, y1⟩ := FF.out.1; have HV := Lib.hid hv5; have HL5 := Lib.hid hl5; clear hb5 hb5' k5 kk5 b5 hr5 hv5 hl5))
        all_goals
          go_wp2
          exact bodyPost_ret (v := .tuple #[.agg #[.int .i64 v5, .slice A5 n5 c5], .bool (takeAtM view l (k + 1) y u).isSome]) (by simp [results, Tryz.results115, go_sem, FF.out.2.1.1, FF.out.2.1.2]) rfl (by rw [HT.out]; exact ⟨v5, A5, n5, c5, l5, HV.out, rfl, HL5.out, NN.out, FF.out.2.2⟩)
end Go.Proofs.YtemgilofjbnoaaaGreatDoor
namespace Go.Proofs.YtemgilofjbnoaaaGreatDoor
open Go.RowKit Go.Sort
theorem l6In_below (n lo hi : Int) (w : World) : Calls Mo.prog 72 #[.int .i64 n, .int .i64 lo, .int .i64 hi] w fun e w' => e = .returned (.bool (inB n lo hi)) ∧ Below w.heap.size w w' :=
  (l6In_any n lo hi w).mono fun e w' ⟨h1, h2⟩ => ⟨h1, by subst h2; exact Below.refl _ _⟩
set_option maxRecDepth 100000 in
set_option maxHeartbeats 8000000 in
theorem specChainTell_any (view : Int) (A : Option Addr) (n c : Nat) (l : List Nod) (i : Int) (w : World) (h : Nods w 0 w.heap.size A n c l) (hn : n ≤ 1048576) (hlog : ∀ x ∈ l, x.log.length ≤ 1048576) :
    Calls Mo.prog 116 #[.agg #[.int .i64 view, .slice A n c], .int .i64 i] w (ChainRes w (tellM view l i)) := by
  have HL := Lib.hid h.len
  have HG := Lib.hid hlog
  have H := Lib.hid h
  clear h hlog
  have X0 := Lib.hid ((Blk.new w #[.int .i64 view, .slice A n c] 25).alloc (.cells #[.int .i64 0, .slice none 0 0] 25))
  have F0 := Lib.hid ((H.out.box (.cells #[.int .i64 view, .slice A n c] 25)).box (.cells #[.int .i64 0, .slice none 0 0] 25))
  have T := Lib.hid (fun d os => specChainValid_any view A n c l (Sort.grow (redrawn ((w.alloc (.cells #[.int .i64 view, .slice A n c] 25)).alloc (.cells #[.int .i64 0, .slice none 0 0] 25)) d) os) (F0.out.on (below_regrown _ _ _)) hn HG.out)
  have d0 := cell_regrown (X0.out.cell (i := 0) (v := .int .i64 view) rfl)
  have d1 := cell_regrown (X0.out.cell (i := 1) (v := .slice A n c) rfl)
  cases hok : chainOk view l
  · have HT := Lib.hid (show tellM view l i = none by simp [tellM, linkOk, hok])
    rw [hok] at T
    clear hok
    go_enter Mo.func116, Tryz.ntmps116
    go_wp2_with fail
    refine wp_region_quiet_below (by kernel_rfl) (by kernel_rfl) ?_
    repeat (go_big_quiet_step ((first | (go_at_call 39; with_reducible exact Calls.regrown_of (T.out _ _)) | (go_at_call 72; with_reducible exact Calls.regrown_of (l6In_below _ _ _ _)))))
    refine wpQuiet_nil ?_
    intro w2 hw2
    obtain ⟨_, k1, b1⟩ := box_res (below_of_regrown hw2)
    have FF := Lib.hid (res_two (a := .int .i64 0) (b := .slice none 0 0) k1 (by omega) b1)
    obtain ⟨z0, z1, y0, y1⟩ := FF.out.1
    clear hw2 d0 d1 k1 b1
    go_wp2
    exact bodyPost_ret (v := .tuple #[.agg #[.int .i64 0, .slice none 0 0], .bool false]) (by simp [results, Tryz.results116, go_sem, FF.out.2.1.1, FF.out.2.1.2]) rfl (by rw [HT.out]; exact ChainRes.none_ FF.out.2.2)
  · have hn5 : n ≤ 5 := by have := len5 hok; have := HL.out; omega
    have HI := Lib.hid (linkOk_inB i hok HL.out)
    have hw2 : IntKind.i64.wrap ((n : Int) - 2) = (n : Int) - 2 := IntWalk.i64_in _ (by omega)
    rw [hok] at T
    cases hin : linkOk view l i
    · have HT := Lib.hid (show tellM view l i = none by simp [tellM, hin])
      have T6 := Lib.hid (fun w => (show Calls Mo.prog 72 #[.int .i64 i, .int .i64 0, .int .i64 ((n : Int) - 2)] w fun e w' => e = .returned (.bool false) ∧ Below w.heap.size w w' by rw [← HI.out.symm.trans hin]; exact l6In_below _ _ _ _))
      clear hok hin
      go_enter Mo.func116, Tryz.ntmps116
      go_wp2_with fail
      refine wp_region_quiet_below (by kernel_rfl) (by kernel_rfl) ?_
      repeat (go_big_quiet_step ((first | (go_at_call 39; with_reducible exact Calls.regrown_of (T.out _ _)) | (go_at_call 72; with_reducible exact Calls.regrown_of (T6.out _)))))
      refine wpQuiet_nil ?_
      intro w2 hw2
      obtain ⟨_, k1, b1⟩ := box_res (below_of_regrown hw2)
      have FF := Lib.hid (res_two (a := .int .i64 0) (b := .slice none 0 0) k1 (by omega) b1)
      obtain ⟨z0, z1, y0, y1⟩ := FF.out.1
      clear hw2 d0 d1 k1 b1
      go_wp2
      exact bodyPost_ret (v := .tuple #[.agg #[.int .i64 0, .slice none 0 0], .bool false]) (by simp [results, Tryz.results116, go_sem, FF.out.2.1.1, FF.out.2.1.2]) rfl (by rw [HT.out]; exact ChainRes.none_ FF.out.2.2)
    · obtain ⟨k, rfl, hk, hco⟩ := linkOk_at hin
      rw [HL.out] at hk
      have T6 := Lib.hid (fun w => (show Calls Mo.prog 72 #[.int .i64 (k : Int), .int .i64 0, .int .i64 ((n : Int) - 2)] w fun e w' => e = .returned (.bool true) ∧ Below w.heap.size w w' by rw [← HI.out.symm.trans hin]; exact l6In_below _ _ _ _))
      obtain ⟨b, off, x, A1, m1, q1, rfl, _, hb, hx, c0, c1, c2, hf1⟩ := H.out.nod (k := k) (by omega)
      obtain ⟨b', off', y, A2, m2, q2, e, _, _, hy, c0', c1', c2', hf2⟩ := H.out.nod (k := k + 1) hk
      injection e with e; injection e with e1 e2
      subst e1; subst e2
      have HO := Lib.hid hin
      have hcell : ∀ {o : Nat} {v : Value}, w.cell? ⟨b, o, none⟩ = some v → ((w.alloc (.cells #[.int .i64 view, .slice (some ⟨b, off, none⟩) n c] 25)).alloc (.cells #[.int .i64 0, .slice none 0 0] 25)).cell? ⟨b, o, none⟩ = some v := fun hc =>
        ((((Below.refl w.heap.size w).alloc (Nat.le_refl _) _).alloc (by simp) _).cell (p := ⟨b, _, none⟩) hb).trans hc
      have d2 := cell_regrown (hcell c2)
      have d3 := cell_regrown (hcell c2')
      have C := Lib.hid c2'
      have Hx := Lib.hid hx
      have Hy := Lib.hid hy
      have i0 : (0 : Int) ≤ (k : Int) := by omega
      have i1 : (k : Int) < (n : Int) := by omega
      have i2 : (0 : Int) ≤ ((k + 1 : Nat) : Int) := by omega
      have i3 : ((k + 1 : Nat) : Int) < (n : Int) := by omega
      have i4 : (0 : Int) ≤ (k : Int) + 1 := by omega
      have i5 : (k : Int) + 1 < (n : Int) := by omega
      have hw1 : IntKind.i64.wrap ((k : Int) + 1) = ((k + 1 : Nat) : Int) := IntWalk.i64_in _ (by omega)
      clear hok hin hx hy hf1 hf2 c0 c1 c2 c0' c1' c2' hcell hco
      by_cases he : x.done = y.done
      · have hq : (x.done == y.done) = true := by simp [he]
        have HT := Lib.hid (show tellM view l k = none by simp [tellM, tellAt, Hx.out, Hy.out, he])
        clear he
        go_enter Mo.func116, Tryz.ntmps116
        go_wp2_with fail
        refine wp_region_quiet_below (by kernel_rfl) (by kernel_rfl) ?_
        repeat (go_big_quiet_step ((first | (go_at_call 39; with_reducible exact Calls.regrown_of (T.out _ _)) | (go_at_call 72; with_reducible exact Calls.regrown_of (T6.out _)))))
        refine wpQuiet_nil ?_
        intro w2 hw2
        obtain ⟨_, k1, b1⟩ := box_res (below_of_regrown hw2)
        have FF := Lib.hid (res_two (a := .int .i64 0) (b := .slice none 0 0) k1 (by omega) b1)
        obtain ⟨z0, z1, y0, y1⟩ := FF.out.1
        clear hw2 d0 d1 d2 d3 k1 b1
        go_wp2
        exact bodyPost_ret (v := .tuple #[.agg #[.int .i64 0, .slice none 0 0], .bool false]) (by simp [results, Tryz.results116, go_sem, FF.out.2.1.1, FF.out.2.1.2]) rfl (by rw [HT.out]; exact ChainRes.none_ FF.out.2.2)
      · have hq : (x.done == y.done) = false := by simp [he]
        have HT := Lib.hid (show tellM view l k = some (view, l.set k ⟨x.id, x.log, y.done⟩) by simp [tellM, tellAt, Hx.out, Hy.out, he, HO.out])
        clear he
        go_enter Mo.func116, Tryz.ntmps116
        go_wp2_with fail
        refine wp_region_quiet_below (by kernel_rfl) (by kernel_rfl) ?_
        repeat (go_big_quiet_step ((first | (go_at_call 39; with_reducible exact Calls.regrown_of (T.out _ _)) | (go_at_call 72; with_reducible exact Calls.regrown_of (T6.out _)))))
        refine wpQuiet_nil ?_
        intro w2 hw2'
        obtain ⟨k0, k1, b1⟩ := box_res (below_of_regrown hw2')
        have K0 := Lib.hid k0
        have K1 := Lib.hid k1
        have B1 := Lib.hid b1
        have F1 := Lib.hid (H.out.on b1)
        have q0 := k0.cell (i := 0) (v := .int .i64 view) rfl
        have q1 := k0.cell (i := 1) (v := .slice (some ⟨b, off, none⟩) n c) rfl
        have s2 := b1.size
        clear hw2' d0 d1 d2 d3 k0 k1 b1
        go_wp2_with fail
        refine (l4Copy_any view _ n c l _ F1.out hn HG.out).mono ?_
        rintro e w3 ⟨A3, n3, c3, rfl, hl3, hrow3, hb3⟩
        have hn3 : n3 = n := by rw [← hl3]; exact HL.out
        subst hn3
        have hB3 := B1.out.trans (hb3.mono B1.out.size)
        obtain ⟨g, c4, e4, hg1, hg2, _⟩ := hrow3.form (by omega)
        injection e4 with e4 e6 e5
        subst e4; subst e5; clear e6
        have hK1 := K1.out.lt
        have cb := CB.made (view := view) hB3 (hrow3.lower B1.out.size) (Oth.cons (Oth.nil _ _) (K1.out.below hb3) (by have := hb3.size; omega) (by decide))
        have K0' := (K0.out.below hb3).alloc (.cells #[.int .i64 view, .slice (some ⟨g, 0, none⟩) n3 c3] 25)
        obtain ⟨w4, hw4⟩ : ∃ w4 : World, w3.alloc (.cells #[.int .i64 view, .slice (some ⟨g, 0, none⟩) n3 c3] 25) = w4 := ⟨_, rfl⟩
        rw [hw4] at cb K0'
        obtain ⟨x', A5, m5, d5, hx', _, _, _, _, _, fr5⟩ := cb.row.at_ (k := k) (by have := HL.out; omega)
        have s1 := cb.chn.cell (i := 1) (v := .slice (some ⟨g, 0, none⟩) n3 c3) rfl
        have v1 := K0'.cell (i := 1) (v := .slice (some ⟨b, off, none⟩) n3 c) rfl
        have v2 := (cb.bel.cell (p := ⟨b, _, none⟩) hb).trans C.out
        have D5 := Lib.hid (cb.setDone Hx.out y.done)
        have hbg : b ≠ g := by omega
        have hgb : g ≠ b := by omega
        have hwg : w.heap.size ≠ g := by omega
        have hgw : g ≠ w.heap.size := by omega
        have fr := fr5 (k * 3 + 2)
        have r0 := D5.out.chn.cell (i := 0) (v := .int .i64 view) rfl
        have r1 := D5.out.chn.cell (i := 1) (v := .slice (some ⟨g, 0, none⟩) n3 c3) rfl
        have FF := Lib.hid (res_two (a := .int .i64 view) (b := .slice (some ⟨g, 0, none⟩) n3 c3) (D5.out.blk (List.mem_singleton.2 rfl)) (show w.heap.size ≤ w.heap.size + 1 by omega) D5.out.bel)
        have NN := Lib.hid (D5.out.out (u := .int .i64 view) (v := .slice (some ⟨g, 0, none⟩) n3 c3) (D5.out.blk (List.mem_singleton.2 rfl)) (show w.heap.size ≤ w.heap.size + 1 by omega))
        obtain ⟨z0, z1, y0, y1⟩ := FF.out.1
        clear hrow3 hb3 hB3 cb fr5 hx' q0 q1 K0'
        go_wp2_with fail
        clear hw4
        go_region_held3 (fun V => V.cell? ⟨w3.heap.size, 1, none⟩ = some (.slice (some ⟨g, 0, none⟩) n3 c3) ∧ V.cell? ⟨w.heap.size, 1, none⟩ = some (.slice (some ⟨b, off, none⟩) n3 c) ∧ V.cell? ⟨b, off + (k + 1) * 3 + 2, none⟩ = some (.int .i64 y.done)) (go_keep) (fail)
        all_goals
          go_wp2
          exact bodyPost_ret (v := .tuple #[.agg #[.int .i64 view, .slice (some ⟨g, 0, none⟩) n3 c3], .bool true]) (by simp [results, Tryz.results116, go_sem, FF.out.2.1.1, FF.out.2.1.2]) rfl (by rw [HT.out]; exact ChainRes.drew (ChainRes.has (by rw [List.length_set]; exact hl3) NN.out.1 NN.out.2))
end Go.Proofs.YtemgilofjbnoaaaGreatDoor
namespace Go.Proofs.YtemgilofjbnoaaaGreatDoor
open Go.RowKit Go.Sort
def lagsI (l : List Nod) (k : Nat) : List Int := (List.range k).map fun i => ((lagA l i : Nat) : Int)
theorem lagsI_step (l : List Nod) (k : Nat) : lagsI l (k + 1) = lagsI l k ++ [((lagA l k : Nat) : Int)] := by unfold lagsI; rw [List.range_succ, List.map_append]; rfl
theorem lagsI_len (l : List Nod) (k : Nat) : (lagsI l k).length = k := by simp [lagsI]
theorem lagsI_at {l : List Nod} {k n : Nat} (h : k < n) : (lagsI l n)[k]? = some ((lagA l k : Nat) : Int) := by simp [lagsI, h]
set_option maxRecDepth 100000 in
set_option maxHeartbeats 4000000 in
theorem chainLag_any (view : Int) (A : Option Addr) (n c : Nat) (l : List Nod) (w : World) (h : Nods w 0 w.heap.size A n c l) (hg : Good view l) :
    Calls Mo.prog 108 #[.agg #[.int .i64 view, .slice A n c]] w fun e w' => ∃ B k, e = .returned (.slice B n k) ∧ w'.ownsRow w.heap.size 3 1 (.slice B n k) n ((lagsI l n).flatMap encInt) ∧ Below w.heap.size w w' := by
  obtain ⟨i0, hi, hz0, hz1, hz2⟩ := info_parts intInfo
  have hlen := h.len
  have hn5 : n ≤ 5 := by have := hg.2.2.2.1; omega
  have hn1 : 1 ≤ n := by have := hg.2.2.1; omega
  have hlog : ∀ x ∈ l, x.log.length ≤ 1048576 := fun x hx => by
    obtain ⟨i, hi⟩ := List.getElem?_of_mem hx
    have := (log_hd hg hi).length_le; have := hd_len hg; omega
  have HL := Lib.hid hlen
  have HG := Lib.hid hlog
  have GG := Lib.hid hg
  have H := Lib.hid h
  have H0 := Lib.hid (h.box (.cells #[.int .i64 view, .slice A n c] 25))
  have HO := Lib.hid (good_iff.2 hg)
  obtain ⟨b, off, x0, A0, m0, q0, rfl, _, hbB, hx0, _, c01, _, hf0⟩ := h.nod (k := 0) (by omega)
  have HD := Lib.hid (show (hd l).length = m0 by rw [hd_at hx0, hf0.len])
  have hm0 : m0 ≤ 12 := by have := hd_len hg; rw [hd_at hx0, hf0.len] at this; exact this
  have hz0' : (0 : Int) < (n : Int) := by omega
  have hz1' : 0 < n := by omega
  simp only [Nat.zero_mul, Nat.add_zero] at c01
  clear h hlen hlog hg hf0 hx0
  go_enter Mo.func108, Tryz.ntmps108
  go_wp2_with fail
  refine (chainValid_any _ _ _ _ l _ H0.out (by omega) HG.out).mono ?_
  rintro e w1 ⟨rfl, hb1⟩
  rw [HO.out]
  have B1 := below_box hb1
  have k0 := (Blk.new w #[.int .i64 view, .slice (some ⟨b, off, none⟩) n c] 25).below hb1
  have a1 := k0.cell (i := 1) (v := .slice (some ⟨b, off, none⟩) n c) rfl
  have OW := Lib.hid (made0 w1 w1.heap.size w.heap.size 3 1 rfl B1.size)
  have K1 := Lib.hid (k0.alloc (.cells #[] 3))
  have B1' := Lib.hid (B1.alloc B1.size (.cells #[] 3))
  have hs1 : w.heap.size < w1.heap.size := k0.lt
  clear hb1 k0 B1
  go_wp2_with fail
  clear a1
  go_loopw [3, 14] (fun v i wr => ∃ (k : Nat) (ik : List Int) (v' : Value), k ≤ n ∧ v = v' ∧ i = .int .i64 k ∧ Hid (ik = lagsI l k) ∧ Hid (wr.ownsRow w.heap.size 3 1 v ik.length (ik.flatMap encInt)) ∧ Blk wr w.heap.size #[.int .i64 view, .slice (some ⟨b, off, none⟩) n c] 25 ∧ Below w.heap.size w wr) (fun _ i _ => n - (intOf i).toNat)
  case atStart => exact ⟨0, [], _, Nat.zero_le _, rfl, rfl, rfl, OW.out, K1.out, B1'.out⟩
  case round =>
    obtain ⟨k, ik, _, hk, rfl, rfl, HK, HO0, hkr, hBr⟩ := hrel
    have hsz := hBr.size
    have hik : ik.length = k := by rw [HK.out, lagsI_len]
    have hwr : w.heap.size < wr.heap.size := hkr.lt
    have BR := Lib.hid hBr
    have KR := Lib.hid hkr
    by_cases hlt : k < n
    · obtain ⟨b', off', x, A', m, d, e, _, _, hx, x0, x1, x2, hf⟩ := (H.out.below hBr (Nat.le_refl _)).nod hlt
      injection e with e; injection e with e1 e2
      subst e1; subst e2
      have hxl := (log_hd GG.out hx).length_le
      rw [hf.len, HD.out] at hxl
      have HX := Lib.hid (show ((lagA l k : Nat) : Int) = (m0 : Int) - (m : Int) by rw [lagA_at hx, hf.len, HD.out]; omega)
      have hsub : IntKind.i64.wrap ((m0 : Int) - (m : Int)) = (m0 : Int) - (m : Int) := IntWalk.i64_in _ (by omega)
      have y1 := (hBr.cell (p := ⟨b, off + 1, none⟩) hbB).trans c01
      have hbw : b < wr.heap.size := by omega
      have b1' := hkr.cell (i := 1) (v := .slice (some ⟨b, off, none⟩) n c) rfl
      have hk0 : (0 : Int) ≤ (k : Int) := by omega
      have hkn : (k : Int) < (n : Int) := by omega
      have XB := Blk.new wr #[.int .i64 x.id, .slice A' m d, .int .i64 x.done] 78
      have z1 := XB.cell (i := 1) (v := .slice A' m d) rfl
      have p1 : (wr.alloc (.cells #[.int .i64 x.id, .slice A' m d, .int .i64 x.done] 78)).cell? ⟨w.heap.size, 1, none⟩ = some (.slice (some ⟨b, off, none⟩) n c) := (hkr.alloc _).cell rfl
      have p2 : (wr.alloc (.cells #[.int .i64 x.id, .slice A' m d, .int .i64 x.done] 78)).cell? ⟨b, off + 1, none⟩ = some (.slice A0 m0 q0) := (((Below.refl wr.heap.size wr).alloc (Nat.le_refl _) _).cell (p := ⟨b, off + 1, none⟩) hbw).trans y1
      clear hx hf hBr hkr XB B1' K1 OW
      go_wp2_with fail
      go_region_held3 (fun V => V.cell? ⟨w.heap.size, 1, none⟩ = some (.slice (some ⟨b, off, none⟩) n c) ∧ V.cell? ⟨b, off + 1, none⟩ = some (.slice A0 m0 q0) ∧ V.cell? ⟨wr.heap.size, 1, none⟩ = some (.slice A' m d)) (go_keep) ((refine step_append_src _ (by rfl) (.tmp 18) (.tmp 29) 74 (by rfl) w.heap.size 3 i0 _ 1 8 Mo.underlying74 hi hz0 hz1 hz2 rfl (by omega) u3 ik.length (ik.flatMap encInt) (by rfl) ((HO0.out.alloc _).alloc _) (some ⟨wr.heap.size + 1, 0, none⟩) 1 1 _ (by rfl) (src_row _ #[.int .i64 ((m0 : Int) - (m : Int))] 3 1 _ (by simp) rfl) (encInt_one ((m0 : Int) - (m : Int))) (by unfold maxLen; omega) (by omega) (by simp; omega) ?_; intro v7 w7 hown7 hg7; have B7 := (((BR.out.alloc hsz _).alloc (by simp; omega) _).drew).grown hg7 (by simp; omega) (fun k e => (HO0.out.lt k e).1); have K7 := (((KR.out.alloc _).alloc _).drew).grown hg7 (fun e => by obtain ⟨ds, hd⟩ := own_blk HO0.out e.symm; exact absurd (blk_type KR.out hd) (by decide)); have X7 := (((Blk.new wr #[.int .i64 x.id, .slice A' m d, .int .i64 x.done] 78).alloc _).drew).grown hg7 (fun e => by have := (HO0.out.lt _ e.symm).2; omega); have s1 := K7.cell (i := 1) (v := .slice (some ⟨b, off, none⟩) n c) rfl; have s2 := (B7.cell (p := ⟨b, off + 1, none⟩) hbB).trans c01; have s3 := X7.cell (i := 1) (v := .slice A' m d) rfl; have OW7 := Lib.hid hown7; have B7' := Lib.hid B7; have K7' := Lib.hid K7; clear hown7 hg7 B7 K7 X7))
      all_goals
        clear s1 s2 s3 p1 p2 z1 y1 b1'
        go_wp2_with fail
        go_roundw
        case rel => exact ⟨k + 1, ik ++ [(m0 : Int) - (m : Int)], _, by omega, rfl, by go_num, by rw [lagsI_step, HK.out, HX.out]; rfl, by simpa [encInt] using OW7, K7'.out, B7'.out⟩
        case measure => simp [intOf]; omega
    · obtain rfl : n = k := by omega
      have own := HO0.out
      rw [show ik = lagsI l n from HK.out, lagsI_len] at own
      obtain ⟨A7, c7, rfl, _⟩ := own_flat encInt_len own (lagsI_len _ _)
      have OW := Lib.hid own
      clear own
      go_wp2
      go_ret
      exact ⟨A7, c7, rfl, OW.out, BR.out⟩
end Go.Proofs.YtemgilofjbnoaaaGreatDoor
namespace Go.Proofs.YtemgilofjbnoaaaGreatDoor
open Go.RowKit Go.Sort
theorem infoSS : (Mo.prog.info? 118).map (fun i => (i.zero, i.size, i.bytes)) = some (some (.agg #[.bool false, .int .i64 0]), 2, 16) := by kernel_rfl
theorem SS.one (x : SS) : ∀ u ∈ x.enc, u.oneCell' = true := by intro u hu; simp [SS.enc] at hu; rcases hu with rfl | rfl <;> rfl
structure QB (w0 w : World) (bx : Array Value) (B : Option Addr) (n k : Nat) (lags : List Int) (v : Value) (q : List SS) : Prop where
  bel : Below w0.heap.size w0 w
  box : Blk w w0.heap.size bx 25
  lag : w.ownsRow w0.heap.size 3 1 (.slice B n k) n (lags.flatMap encInt)
  own : w.ownsRow w0.heap.size 118 2 v q.length (q.flatMap SS.enc)
theorem QB.step {w0 w W w7 : World} {bx : Array Value} {B : Option Addr} {n k : Nat} {lags : List Int} {v v7 : Value} {q : List SS} {s : SS} (h : QB w0 w bx B n k lags v q) (hW : Below w.heap.size w W) (hg : W.grownBy w7 v.ownBlock)
    (ho : w7.ownsRow w0.heap.size 118 2 v7 (q.length + 1) (q.flatMap SS.enc ++ s.enc)) : QB w0 w7 bx B n k lags v7 (q ++ [s]) := by
  refine ⟨(h.bel.trans (hW.mono h.bel.size)).grown hg (Nat.le_trans h.bel.size hW.size) (fun k e => (h.own.lt k e).1), (h.box.below hW).grown hg (fun e => ?_), own_keep h.lag (fun g e => ?_), ?_⟩
  · obtain ⟨ds, hd⟩ := own_blk h.own e.symm
    exact absurd (blk_type h.box hd) (by decide)
  · have hlt := (h.lag.lt g e).2
    exact (hg.block g (Nat.lt_of_lt_of_le hlt hW.size) (fun e' => own_part h.lag h.own (by decide) e e'.symm)).trans (hW.block g hlt)
  · rw [List.length_append, List.flatMap_append]
    simpa using ho
theorem QB.below {w0 w W : World} {bx : Array Value} {B : Option Addr} {n k : Nat} {lags : List Int} {v : Value} {q : List SS} (h : QB w0 w bx B n k lags v q) (hW : Below w.heap.size w W) : QB w0 W bx B n k lags v q :=
  ⟨h.bel.trans (hW.mono h.bel.size), h.box.below hW, own_keep h.lag (fun g e => hW.block g (h.lag.lt g e).2), own_keep h.own (fun g e => hW.block g (h.own.lt g e).2)⟩
theorem passQ_succ (l : List Nod) (i : Nat) : passQ l (i + 1) = passQ l i ++ List.replicate (lagA l i) ⟨false, (i : Int) - 1⟩ := by
  unfold passQ; rw [List.range_succ, List.flatMap_append]; simp
theorem rep_succ {α : Type} (k : Nat) (a : α) : List.replicate (k + 1) a = List.replicate k a ++ [a] := List.replicate_succ'
theorem tellQ_len (m : Nat) : (tellQ m).length = m := by simp [tellQ]
theorem tellQ_take (m j : Nat) (hj : j + 1 ≤ m) : (tellQ m).take (m - (j + 1)) ++ [⟨true, (j : Int)⟩] = (tellQ m).take (m - j) := by
  have e : m - j = m - (j + 1) + 1 := by omega
  have hg : (tellQ m)[m - (j + 1)]? = some ⟨true, (j : Int)⟩ := by
    unfold tellQ
    have hr : (List.range m).reverse[m - (j + 1)]? = some j := by
      rw [List.getElem?_reverse (by simp; omega), List.length_range, List.getElem?_range (by omega)]
      congr 1; omega
    rw [List.getElem?_map, hr]; rfl
  rw [e, List.take_add_one, hg]; rfl
theorem passQ_len {v : Int} {l : List Nod} (h : Good v l) (i : Nat) : (passQ l i).length ≤ i * 12 := by
  induction i with
  | zero => simp [passQ]
  | succ i ih =>
    rw [passQ_succ, List.length_append, List.length_replicate]
    have : lagA l i ≤ 12 := by
      unfold lagA; have := hd_len h; split <;> omega
    omega
set_option maxRecDepth 100000 in
set_option maxHeartbeats 4000000 in
theorem settleQueue_any (view : Int) (A : Option Addr) (n c : Nat) (l : List Nod) (w : World) (h : Nods w 0 w.heap.size A n c l) (hg : Good view l) :
    Calls Mo.prog 87 #[.agg #[.int .i64 view, .slice A n c]] w fun e w' => ∃ B m k, e = .returned (.slice B m k) ∧ (queueM l).length = m ∧ w'.ownsRow w.heap.size 118 2 (.slice B m k) m ((queueM l).flatMap SS.enc) ∧ Below w.heap.size w w' := by
  obtain ⟨i0, hi, hz0, hz1, hz2⟩ := info_parts infoSS
  have hlen := h.len
  have hn5 : n ≤ 5 := by have := hg.2.2.2.1; omega
  have hn1 : 1 ≤ n := by have := hg.2.2.1; omega
  have HL := Lib.hid hlen
  have GG := Lib.hid hg
  have K0 := Lib.hid ((Blk.new w #[.int .i64 view, .slice A n c] 25).alloc (.cells #[] 118))
  have H0 := Lib.hid ((h.box (.cells #[.int .i64 view, .slice A n c] 25)).box (.cells #[] 118))
  have O0 := Lib.hid (made0 (w.alloc (.cells #[.int .i64 view, .slice A n c] 25)) (w.heap.size + 1) w.heap.size 118 2 (by simp) (by omega))
  have B0 := Lib.hid (((Below.refl w.heap.size w).alloc (Nat.le_refl _) (.cells #[.int .i64 view, .slice A n c] 25)).alloc (by simp) (.cells #[] 118))
  clear h hlen hg
  go_enter Mo.func87, Tryz.ntmps87
  go_wp2_with fail
  refine (chainLag_any view A n c l _ H0.out GG.out).mono ?_
  rintro e w1 ⟨B, kk, rfl, hlag, hb1⟩
  have Q0 := Lib.hid (show QB w w1 #[.int .i64 view, .slice A n c] B n kk (lagsI l n) (.slice (some ⟨w.heap.size + 1, 0, none⟩) 0 0) [] from
    ⟨B0.out.trans (hb1.mono B0.out.size), K0.out.below hb1, hlag.mono B0.out.size, own_keep O0.out (fun g e => hb1.block g (O0.out.lt g e).2)⟩)
  have hs1 := Q0.out.box.lt
  clear hlag hb1 K0 O0 B0
  go_wp2_with fail
  go_loopw [3, 11] (fun v i wr => ∃ (k : Nat) (q : List SS) (v' : Value), k ≤ n ∧ v = v' ∧ i = .int .i64 k ∧ Hid (q = passQ l k) ∧ QB w wr #[.int .i64 view, .slice A n c] B n kk (lagsI l n) v' q) (fun _ i _ => n - (intOf i).toNat)
  case atStart => exact ⟨0, [], _, Nat.zero_le _, rfl, rfl, rfl, Q0.out⟩
  case round =>
    obtain ⟨k, q, _, hk, rfl, rfl, HQ, hqb⟩ := hrel
    have QR := Lib.hid hqb
    have hsz := hqb.bel.size
    have hbx := hqb.box.lt
    clear hqb Q0
    by_cases hlt : k < n
    · have hfl := own_flat' encInt_len QR.out.lag (lagsI_len _ _)
      obtain ⟨b, off, x, rfl, _, _, hx, c0⟩ := hfl.int_ hlt
      rw [lagsI_at hlt] at hx
      injection hx with hx
      subst hx
      obtain ⟨lg, hlg⟩ : ∃ lg, lagA l k = lg := ⟨_, rfl⟩
      have HLG := Lib.hid hlg
      rw [hlg] at c0
      have hlg12 : lg ≤ 12 := by
        rw [← hlg]; unfold lagA; have := hd_len GG.out; split <;> omega
      have hql : q.length ≤ 60 := by rw [HQ.out]; have := passQ_len GG.out k; omega
      have hk0 : (0 : Int) ≤ (k : Int) := by omega
      have hkn : (k : Int) < (n : Int) := by omega
      have hw1 : IntKind.i64.wrap ((k : Int) - 1) = (k : Int) - 1 := IntWalk.i64_in _ (by omega)
      clear hlg hfl
      go_wp2_with fail
      clear c0
      go_loopw [3, 17] (fun v j wx => ∃ (m : Nat) (q' : List SS) (v' : Value), m ≤ lg ∧ v = v' ∧ j = .int .i64 m ∧ Hid (q' = passQ l k ++ List.replicate m ⟨false, (k : Int) - 1⟩) ∧ QB w wx #[.int .i64 view, .slice A n c] (some ⟨b, off, none⟩) n kk (lagsI l n) v' q') (fun _ j _ => lg - (intOf j).toNat)
      case atStart => exact ⟨0, q, _, Nat.zero_le _, rfl, rfl, by rw [HQ.out]; exact (List.append_nil _).symm, QR.out⟩
      case round =>
        obtain ⟨m, q', _, hm, rfl, rfl, HQ', hqb'⟩ := hrel
        have QX := Lib.hid hqb'
        have hszx := hqb'.bel.size
        clear hqb'
        by_cases hlm : m < lg
        · have hql' : q'.length ≤ 72 := by rw [HQ'.out, List.length_append, List.length_replicate]; have := HQ.out ▸ hql; omega
          go_wp2_with (at_builtin; go_loud (refine wpList_append_src _ rfl (.tmp 19) (.tmp 23) 115 rfl w.heap.size 118 i0 _ 2 16 Mo.underlying115 hi hz0 hz1 hz2 rfl (by omega) u3 q'.length (q'.flatMap SS.enc) rfl (QX.out.own |> fun o => own_keep o (fun g e => Below.heap_alloc _ _ _ (o.lt g e).2)) (some ⟨_, 0, none⟩) 1 1 (SS.enc ⟨false, (k : Int) - 1⟩) rfl (src_row _ #[.bool false, .int .i64 ((k : Int) - 1)] 118 2 _ (by simp) rfl) (SS.one _) (by unfold maxLen; omega) (by omega) (by simp; omega) ?_; intro v6 w6 hown6 hg6))
          refine ⟨⟨m + 1, q' ++ [⟨false, (k : Int) - 1⟩], _, by omega, rfl, by go_num, by rw [HQ'.out, rep_succ, List.append_assoc]; rfl, QX.out.step ((Below.refl _ _).alloc (Nat.le_refl _) _) hg6 hown6⟩, ?_⟩
          simp [intOf]; omega
        · obtain rfl : lg = m := by omega
          go_wp2
          refine ⟨⟨k + 1, q', _, by omega, rfl, by go_num, by rw [HQ'.out, passQ_succ, HLG.out]; rfl, QX.out⟩, ?_⟩
          simp [intOf]; omega
    · obtain rfl : n = k := by omega
      have b1 := QR.out.box.cell (i := 1) (v := .slice A n c) rfl
      have hw2 : IntKind.i64.wrap ((n : Int) - 2) = (n : Int) - 2 := IntWalk.i64_in _ (by omega)
      have hql : q.length ≤ 60 := by rw [HQ.out]; have := passQ_len GG.out n; omega
      go_wp2_with fail
      clear b1
      go_loopw [3, 6] (fun v i wx => ∃ (j : Nat) (q' : List SS) (v' : Value), j ≤ n - 1 ∧ v = v' ∧ i = .int .i64 ((j : Int) - 1) ∧ Hid (q' = passQ l n ++ (tellQ (n - 1)).take (n - 1 - j)) ∧ QB w wx #[.int .i64 view, .slice A n c] B n kk (lagsI l n) v' q') (fun _ i _ => (intOf i + 1).toNat)
      case atStart => exact ⟨n - 1, q, _, Nat.le_refl _, rfl, by congr 1; omega, by rw [HQ.out, Nat.sub_self]; exact (List.append_nil _).symm, QR.out⟩
      case round =>
        obtain ⟨j, q', _, hj, rfl, rfl, HQ', hqb'⟩ := hrel
        have QX := Lib.hid hqb'
        have hszx := hqb'.bel.size
        clear hqb'
        by_cases hj0 : 0 < j
        · obtain ⟨j', rfl⟩ : ∃ j', j = j' + 1 := ⟨j - 1, by omega⟩
          have ej : (((j' + 1 : Nat) : Int) - 1) = (j' : Int) := by omega
          rw [ej]
          have hql' : q'.length ≤ 72 := by
            rw [HQ'.out, List.length_append, List.length_take, tellQ_len]
            have := HQ.out ▸ hql
            omega
          have hj1 : (0 : Int) ≤ (j' : Int) := by omega
          have hw3 : IntKind.i64.wrap ((j' : Int) - 1) = (j' : Int) - 1 := IntWalk.i64_in _ (by omega)
          go_wp2_with (at_builtin; go_loud (refine wpList_append_src _ rfl (.tmp 35) (.tmp 38) 115 rfl w.heap.size 118 i0 _ 2 16 Mo.underlying115 hi hz0 hz1 hz2 rfl (by omega) u3 q'.length (q'.flatMap SS.enc) rfl (QX.out.own |> fun o => own_keep o (fun g e => Below.heap_alloc _ _ _ (o.lt g e).2)) (some ⟨_, 0, none⟩) 1 1 (SS.enc ⟨true, (j' : Int)⟩) rfl (src_row _ #[.bool true, .int .i64 (j' : Int)] 118 2 _ (by simp) rfl) (SS.one _) (by unfold maxLen; omega) (by omega) (by simp; omega) ?_; intro v6 w6 hown6 hg6))
          refine ⟨⟨j', q' ++ [⟨true, (j' : Int)⟩], _, by omega, rfl, rfl, by rw [HQ'.out, List.append_assoc, tellQ_take _ _ (by omega)]; rfl, QX.out.step ((Below.refl _ _).alloc (Nat.le_refl _) _) hg6 hown6⟩, ?_⟩
          simp [intOf]
        · obtain rfl : j = 0 := by omega
          have e0 : (((0 : Nat) : Int) - 1) = -1 := rfl
          rw [e0]
          have hq : q' = queueM l := by
            rw [HQ'.out, Nat.sub_zero, List.take_of_length_le (by rw [tellQ_len]; exact Nat.le_refl _)]
            unfold queueM
            rw [HL.out]
          subst hq
          have own := QX.out.own
          obtain ⟨A7, c7, rfl, _⟩ := own_flat SS.len own rfl
          have BX := Lib.hid QX.out.bel
          have OW := Lib.hid own
          clear own
          go_wp2
          go_ret
          exact ⟨A7, _, c7, rfl, rfl, OW.out, BX.out⟩
end Go.Proofs.YtemgilofjbnoaaaGreatDoor
namespace Go.Proofs.YtemgilofjbnoaaaGreatDoor
open Go.RowKit Go.Sort
def settleM (v : Int) (l : List Nod) : (Int × List Nod) × Int := if chainOk v l then ((v, settledM l), (pot l : Int)) else ((0, []), -1)
def SetRes (w : World) (r : (Int × List Nod) × Int) (e : Ending) (w' : World) : Prop :=
  ∃ (view : Int) (A : Option Addr) (n c : Nat) (l : List Nod), (view, l) = r.1 ∧ e = .returned (.tuple #[.agg #[.int .i64 view, .slice A n c], .int .i64 r.2]) ∧ l.length = n ∧ NodRow w' w.heap.size w'.heap.size (.slice A n c) l ∧ Below w.heap.size w w'
theorem CB.restored {w0 w : World} {s : Nat} {view v1 : Int} {nv nv1 : Value} {l l1 : List Nod} {hi lo1 : Nat} {L : List (Nat × Array Value × TypeId)} (h : CB w0 w s view nv l hi L) (hrow : NodRow w lo1 w.heap.size nv1 l1) (h01 : w0.heap.size ≤ lo1) :
    CB w0 ((w.setCell ⟨s, 0, none⟩ (.int .i64 v1)).setCell ⟨s, 1, none⟩ nv1) s v1 nv1 l1 w.heap.size L := by
  have hc : w.heap[s]? = some (.cells #[.int .i64 view, nv] 25 (0, 0)) := h.chn
  have off : ∀ k, k ≠ s → ((w.setCell ⟨s, 0, none⟩ (.int .i64 v1)).setCell ⟨s, 1, none⟩ nv1).heap[k]? = w.heap[k]? := fun k hk => by rw [Below.heap_setCell _ _ _ _ hk, Below.heap_setCell _ _ _ _ hk]
  exact ⟨(h.bel.setCell (p := ⟨s, 0, none⟩) h.s0 _).setCell (p := ⟨s, 1, none⟩) h.s0 _, (h.chn.set 0 _).set 1 _, h.s0, h.size, by simp [World.setCell], (hrow.lower h01).keepT (fun k cs t hk ht => off k (by
      rintro rfl
      have := blk_type hk hc
      rcases ht with rfl | rfl <;> exact absurd this (by decide))), h.oth.keep (fun k _ _ _ hlt _ _ => off k (by omega))⟩
theorem stepQ_none {v : Int} {c : List Nod} {k : Nat} {s : SS} (h : doM v c s = none) : stepQ v (c, k) s = (c, k) := by simp [stepQ, h]
theorem stepQ_some {v : Int} {c : List Nod} {k : Nat} {s : SS} {r : Int × List Nod} (h : doM v c s = some r) : stepQ v (c, k) s = (r.2, k + 1) := by simp [stepQ, h]
theorem fold_step {v : Int} {q : List SS} {k : Nat} {s : SS} {p : List Nod × Nat} (hs : q[k]? = some s) : (q.take (k + 1)).foldl (stepQ v) p = stepQ v ((q.take k).foldl (stepQ v) p) s := by
  rw [List.take_add_one, hs, List.foldl_append]; rfl
theorem queue_len {v : Int} {l : List Nod} (h : Good v l) : (queueM l).length ≤ 70 := by
  unfold queueM
  rw [List.length_append, tellQ_len]
  have := passQ_len h l.length
  have := h.2.2.2.1
  omega
theorem good_logs {v : Int} {l : List Nod} (h : Good v l) : ∀ x ∈ l, x.log.length ≤ 1048576 := fun x hx => by
  obtain ⟨i, hi⟩ := List.getElem?_of_mem hx
  have := (log_hd h hi).length_le; have := hd_len h; omega
def lenOf (v : Value) : Nat := match v with | .slice _ n _ => n | _ => 0
set_option maxRecDepth 100000 in
set_option maxHeartbeats 8000000 in
theorem chainSettle_any (view : Int) (A : Option Addr) (n c : Nat) (l : List Nod) (w : World) (h : Nods w 0 w.heap.size A n c l) (hn : n ≤ 1048576) (hlog : ∀ x ∈ l, x.log.length ≤ 1048576) :
    Calls Mo.prog 59 #[.agg #[.int .i64 view, .slice A n c]] w (SetRes w (settleM view l)) := by
  have HL := Lib.hid h.len
  have HG := Lib.hid hlog
  have H := Lib.hid h
  have H0 := Lib.hid ((h.box (.cells #[.int .i64 view, .slice A n c] 25)).box (.cells #[.int .i64 0, .slice none 0 0] 25))
  clear h hlog
  cases hok : chainOk view l
  · have HS := Lib.hid (show settleM view l = ((0, []), -1) by simp [settleM, hok])
    have HO := Lib.hid hok
    clear hok
    go_enter Mo.func59, Tryz.ntmps59
    go_wp2_with fail
    refine (chainValid_any _ _ _ _ l _ H0.out hn HG.out).mono ?_
    rintro e w1 ⟨rfl, hb1⟩
    rw [HO.out]
    obtain ⟨_, k1, b1⟩ := box_res hb1
    have FF := Lib.hid (res_two (a := .int .i64 0) (b := .slice none 0 0) k1 (by omega) b1)
    obtain ⟨z0, z1, y0, y1⟩ := FF.out.1
    clear hb1 k1 b1
    go_wp2
    exact bodyPost_ret (v := .tuple #[.agg #[.int .i64 0, .slice none 0 0], .int .i64 (-1)]) (by simp [results, Tryz.results59, go_sem, FF.out.2.1.1, FF.out.2.1.2]) rfl ⟨0, none, 0, 0, [], by rw [HS.out], by rw [HS.out], rfl, NodRow.nil_ _ _ _, FF.out.2.2⟩
  · have hg := good_iff.1 hok
    have GG := Lib.hid hg
    have HS := Lib.hid (show settleM view l = ((view, settledM l), (pot l : Int)) by simp [settleM, hok])
    have HO := Lib.hid hok
    have hn5 : n ≤ 5 := by have := hg.2.2.2.1; have := HL.out; omega
    have hn1 : 1 ≤ n := by have := hg.2.2.1; have := HL.out; omega
    clear hok hg
    go_enter Mo.func59, Tryz.ntmps59
    go_wp2_with fail
    refine (chainValid_any _ _ _ _ l _ H0.out hn HG.out).mono ?_
    rintro e w1 ⟨rfl, hb1⟩
    rw [HO.out]
    obtain ⟨k0, k1, b1⟩ := box_res hb1
    have K0 := Lib.hid k0
    have K1 := Lib.hid k1
    have B1 := Lib.hid b1
    have F1 := Lib.hid (H.out.on b1)
    have q0 := k0.cell (i := 0) (v := .int .i64 view) rfl
    have q1 := k0.cell (i := 1) (v := .slice A n c) rfl
    have s1 := b1.size
    clear hb1 k0 k1 b1
    go_wp2_with fail
    refine (copyChain_any view _ n c l _ F1.out hn HG.out).mono ?_
    rintro e w3 ⟨A3, n3, c3, rfl, hl3, hrow3, hb3⟩
    have hn3 : n3 = n := by rw [← hl3]; exact HL.out
    subst hn3
    obtain ⟨g, c4, e4, hg1, hg2, _⟩ := hrow3.form (by omega)
    injection e4 with e4 e6 e5
    subst e4; subst e5; clear e6
    have K0' := Lib.hid (K0.out.below hb3)
    have hK1 := K1.out.lt
    have cb := CB.made (view := view) (B1.out.trans (hb3.mono B1.out.size)) (hrow3.lower B1.out.size) (Oth.cons (Oth.cons (Oth.nil _ _) (K0.out.below hb3) (by have := hb3.size; omega) (by decide)) (K1.out.below hb3) (by have := hb3.size; omega) (by decide))
    obtain ⟨w4, hw4⟩ : ∃ w4 : World, w3.alloc (.cells #[.int .i64 view, .slice (some ⟨g, 0, none⟩) n3 c3] 25) = w4 := ⟨_, rfl⟩
    have hs4 : w4.heap.size = w3.heap.size + 1 := by rw [← hw4]; simp
    rw [hw4, ← hs4] at cb
    have r0 := (cb.blk (b := w.heap.size) (List.mem_cons_of_mem _ (List.mem_singleton.2 rfl))).cell (i := 0) (v := .int .i64 view) rfl
    have r1 := (cb.blk (b := w.heap.size) (List.mem_cons_of_mem _ (List.mem_singleton.2 rfl))).cell (i := 1) (v := .slice A n3 c) rfl
    have F4 := Lib.hid (H.out.on cb.bel)
    have CB4 := Lib.hid cb
    clear hrow3 hb3 cb q0 q1
    go_wp2_with fail
    refine (settleQueue_any view A n3 c l _ F4.out GG.out).mono ?_
    rintro e w5 ⟨B5, m5, k5, rfl, hl5, hown5, hb5⟩
    have CB5 := Lib.hid (CB4.out.below hb5)
    have Q5 := Lib.hid (own_flat' SS.len hown5 hl5)
    clear hb5 hown5 r0 r1 hw4
    go_wp2_with fail
    have hs43 : w3.heap.size < w4.heap.size := by omega
    have hs5 : w4.heap.size ≤ w5.heap.size := by have := CB5.out.his; omega
    clear K0' hs4 F4 CB4 F1 K0 K1 B1 H0
    go_loopw [5, 6] (fun st qv wr => ∃ (k steps : Nat) (cl : List Nod) (nv : Value) (hi : Nat) (A6 : Option Addr) (m6 c6 : Nat), k ≤ m5 ∧ st = .int .i64 (steps : Int) ∧ qv = .slice A6 m6 c6 ∧ steps ≤ k ∧ m6 = m5 - k ∧ Hid (((queueM l).take k).foldl (stepQ view) (l, 0) = (cl, steps)) ∧ Hid (Good view cl) ∧
      Hid (Flat SS.enc 2 wr w4.heap.size w5.heap.size A6 m6 c6 ((queueM l).drop k)) ∧ Hid (w5.heap.size ≤ wr.heap.size) ∧ CB w wr w3.heap.size view nv cl hi [(w.heap.size + 1, #[.int .i64 0, .slice none 0 0], 25), (w.heap.size, #[.int .i64 view, .slice A n3 c], 25)]) (fun _ q _ => lenOf q)
    case atStart => exact ⟨0, 0, l, _, _, B5, m5, k5, Nat.zero_le _, rfl, rfl, Nat.le_refl _, (Nat.sub_zero _).symm, rfl, GG.out, Q5.out, Nat.le_refl _, CB5.out⟩
    case round =>
      obtain ⟨k, steps, cl, nv, hi, A6, m6, c6, hk, rfl, rfl, hst, rfl, HF, HGC, HFL, HSZ, hcb⟩ := hrel
      have CBR := Lib.hid hcb
      have hm70 : m5 ≤ 70 := by have := queue_len GG.out; omega
      have hss : w3.heap.size < wr.heap.size := hcb.size
      have hcl1 : 1 ≤ cl.length := HGC.out.2.2.1
      have hcl5 : cl.length ≤ 5 := HGC.out.2.2.2.1
      obtain ⟨gc, cc, rfl, _, _, _⟩ := hcb.row.form (by omega)
      have r0 := hcb.chn.cell (i := 0) (v := .int .i64 view) rfl
      have r1 := hcb.chn.cell (i := 1) (v := .slice (some ⟨gc, 0, none⟩) cl.length cc) rfl
      clear hcb Q5 CB5
      by_cases hlt : 0 < m5 - k
      · obtain ⟨b6, o6, s, rfl, hb6, hb6', hs, hc6⟩ := HFL.out.at_ hlt
        have c0 : wr.cell? ⟨b6, o6, none⟩ = some (.bool s.tells) := by simpa using hc6 0 _ rfl
        have c1 : wr.cell? ⟨b6, o6 + 1, none⟩ = some (.int .i64 s.at_) := by simpa using hc6 1 _ rfl
        have hmc := HFL.out.2.1
        have hmx := HFL.out.2.2.1
        unfold maxLen at hmx
        have hlt' : (0 : Int) < ((m5 - k : Nat) : Int) := by omega
        have h1c : (1 : Int) ≤ ((m5 - k : Nat) : Int) := by omega
        have h1d : (1 : Int) ≤ (c6 : Int) := by omega
        have h1m : 1 ≤ m5 - k := by omega
        have h1e : 1 ≤ c6 := by omega
        rw [List.getElem?_drop, Nat.add_zero] at hs
        have HSK := Lib.hid hs
        have hw1 : IntKind.i64.wrap ((steps : Int) + 1) = (steps : Int) + 1 := IntWalk.i64_in _ (by omega)
        have D1 := HFL.out.drop_ (k := 1) h1m
        rw [List.drop_drop] at D1
        have QD1 := Lib.hid (show c6 = 1 → Flat SS.enc 2 wr w4.heap.size w5.heap.size (some ⟨b6, o6, none⟩) (m5 - k - 1) 0 ((queueM l).drop (k + 1)) from fun e => by subst e; simpa using D1)
        have QD2 := Lib.hid (show c6 ≠ 1 → Flat SS.enc 2 wr w4.heap.size w5.heap.size (some ⟨b6, o6 + 2, none⟩) (m5 - k - 1) (c6 - 1) ((queueM l).drop (k + 1)) from fun e => by rw [if_neg e] at D1; exact D1)
        have NW := Lib.hid (CBR.out.nods.2.box (.cells #[.bool s.tells, .int .i64 s.at_] 118))
        clear hs hc6 D1
        cases hdo : doM view cl s with
        | none =>
          have HDO := Lib.hid hdo
          clear hdo
          go_wp2_with fail
          all_goals
            have D := do_any s view _ cl.length cc cl _ NW.out (by omega) (good_logs HGC.out)
            rw [HDO.out] at D
            refine D.mono ?_
            rintro e w6 ⟨v1, A1, n1, c1, l1, hv1, rfl, hl1, hr1, hb6⟩
            clear D
            have BB := Lib.hid (show Below wr.heap.size wr (w6.alloc (.cells #[.int .i64 v1, .slice A1 n1 c1] 25)) from (below_box hb6).alloc (below_box hb6).size _)
            clear hr1 hv1 hb6
            go_wp2
            refine ⟨⟨k + 1, steps, cl, _, _, _, _, _, by omega, rfl, rfl, by omega, by omega, by rw [fold_step HSK.out, HF.out]; exact stepQ_none HDO.out, HGC.out, ?_, Nat.le_trans HSZ.out BB.out.size, CBR.out.below BB.out⟩, ?_⟩
            · first
                | exact (QD1.out (by assumption)).keep (fun q _ hq => BB.out.block q (Nat.lt_of_lt_of_le hq HSZ.out))
                | exact (QD2.out (by assumption)).keep (fun q _ hq => BB.out.block q (Nat.lt_of_lt_of_le hq HSZ.out))
            · simp only [lenOf]; omega
        | some r =>
          obtain ⟨hrv, hrg, _, _⟩ := doM_good hdo
          have HRG := Lib.hid hrg
          have HRV := Lib.hid hrv
          have HDO := Lib.hid hdo
          clear hdo hrv hrg
          go_wp2_with fail
          all_goals
            have D := do_any s view _ cl.length cc cl _ NW.out (by omega) (good_logs HGC.out)
            rw [HDO.out] at D
            refine D.mono ?_
            rintro e w6 ⟨v1, A1, n1, c1, l1, hv1, rfl, hl1, hr1, hb6⟩
            clear D
            have e1 : v1 = view ∧ l1 = r.2 := by
              have : (v1, l1) = r := hv1
              rw [← this] at HRV ⊢
              exact ⟨HRV.out, rfl⟩
            obtain ⟨rfl, rfl⟩ := e1
            have BB := Lib.hid (show Below wr.heap.size wr (w6.alloc (.cells #[.int .i64 v1, .slice A1 n1 c1] 25)) from (below_box hb6).alloc (below_box hb6).size _)
            have hw6s := (below_box hb6).size
            have nb := Blk.new w6 #[.int .i64 v1, .slice A1 n1 c1] 25
            have hr7 := (hr1.keep (w' := w6.alloc (.cells #[.int .i64 v1, .slice A1 n1 c1] 25)) (fun _ _ h => Below.heap_alloc _ _ _ h)).mono (show w6.heap.size ≤ (w6.alloc (.cells #[.int .i64 v1, .slice A1 n1 c1] 25)).heap.size by simp)
            obtain ⟨w7, hw7⟩ : ∃ w7 : World, w6.alloc (.cells #[.int .i64 v1, .slice A1 n1 c1] 25) = w7 := ⟨_, rfl⟩
            rw [hw7] at BB nb hr7
            have cb7 := CBR.out.below BB.out
            have cb8 := cb7.restored (v1 := v1) hr7 (by have := CBR.out.bel.size; simp; omega)
            have t0 := nb.cell (i := 0) (v := .int .i64 v1) rfl
            have t1 := nb.cell (i := 1) (v := .slice A1 n1 c1) rfl
            have u0 := cb7.chn.cell (i := 0) (v := .int .i64 v1) rfl
            have u1 := cb7.chn.cell (i := 1) (v := .slice (some ⟨gc, 0, none⟩) cl.length cc) rfl
            have f0 := cb7.chn.free 0
            have f1 := cb7.chn.free 1
            have CB8 := Lib.hid cb8
            have KP := Lib.hid (show ∀ q, w4.heap.size ≤ q → q < w5.heap.size → ((w7.setCell ⟨w3.heap.size, 0, none⟩ (.int .i64 v1)).setCell ⟨w3.heap.size, 1, none⟩ (.slice A1 n1 c1)).heap[q]? = wr.heap[q]? from fun q h1 h2 => by
              rw [Below.heap_setCell _ _ _ _ (show q ≠ w3.heap.size by omega), Below.heap_setCell _ _ _ _ (show q ≠ w3.heap.size by omega)]
              exact BB.out.block q (Nat.lt_of_lt_of_le h2 HSZ.out))
            have SZ := Lib.hid (show w5.heap.size ≤ ((w7.setCell ⟨w3.heap.size, 0, none⟩ (.int .i64 v1)).setCell ⟨w3.heap.size, 1, none⟩ (.slice A1 n1 c1)).heap.size by have := BB.out.size; have := HSZ.out; simp [World.setCell]; omega)
            clear hr1 hb6 nb hr7 cb7 cb8
            go_wp2
            refine ⟨⟨k + 1, steps + 1, r.2, _, _, _, _, _, by omega, by go_num, rfl, by omega, by omega, by rw [fold_step HSK.out, HF.out]; exact stepQ_some HDO.out, HRG.out, ?_, SZ.out, CB8.out⟩, ?_⟩
            · first
                | exact (QD1.out (by assumption)).keep KP.out
                | exact (QD2.out (by assumption)).keep KP.out
            · simp only [lenOf]; omega
      · obtain rfl : m5 = k := by omega
        have hm0 : m5 - m5 = 0 := Nat.sub_self _
        have hfin : (cl, steps) = (settledM l, pot l) := by
          have := HF.out
          rw [← hl5, List.take_length, queue_fold GG.out] at this
          exact this.symm
        injection hfin with e1 e2
        subst e1; subst e2
        have FF := Lib.hid (res_two (a := .int .i64 view) (b := .slice (some ⟨gc, 0, none⟩) (settledM l).length cc) (CBR.out.blk (List.mem_cons_self)) (show w.heap.size ≤ w.heap.size + 1 by omega) CBR.out.bel)
        have NN := Lib.hid (CBR.out.out (u := .int .i64 view) (v := .slice (some ⟨gc, 0, none⟩) (settledM l).length cc) (CBR.out.blk (List.mem_cons_self)) (show w.heap.size ≤ w.heap.size + 1 by omega))
        obtain ⟨z0, z1, y0, y1⟩ := FF.out.1
        go_wp2
        exact bodyPost_ret (v := .tuple #[.agg #[.int .i64 view, .slice (some ⟨gc, 0, none⟩) (settledM l).length cc], .int .i64 (pot l)]) (by simp [results, Tryz.results59, go_sem, FF.out.2.1.1, FF.out.2.1.2]) rfl ⟨view, _, _, cc, settledM l, by rw [HS.out], by rw [HS.out], rfl, NN.out.1, NN.out.2⟩
end Go.Proofs.YtemgilofjbnoaaaGreatDoor
namespace Go.Proofs.YtemgilofjbnoaaaGreatDoor
open Go.RowKit Go.Sort
theorem passM_nat {v : Int} {l : List Nod} {k : Nat} (h : Good v l) (hk : k + 1 < l.length) : passM v l (k : Int) = (passAt l k).map fun r => (v, r) := passM_ok (linkOk_good h hk)
theorem tellM_nat {v : Int} {l : List Nod} {k : Nat} (h : Good v l) (hk : k + 1 < l.length) : tellM v l (k : Int) = (tellAt l k).map fun r => (v, r) := by
  unfold tellM; rw [if_pos (linkOk_good h hk)]; rfl
theorem ret_chain {w w0 w5 : World} {A5 : Option Addr} {n5 c5 s lo : Nat} {v5 : Int} {l5 : List Nod} (hr : NodRow w5 lo w5.heap.size (.slice A5 n5 c5) l5) (hlo : w.heap.size ≤ lo) (hk : Blk w5 s #[.int .i64 0, .slice none 0 0] 25) (hs : w.heap.size ≤ s) (hb : Below w.heap.size w w5) (hw : w0 = w5.alloc (.cells #[.int .i64 v5, .slice A5 n5 c5] 25)) :
    (w0.cell? ⟨w5.heap.size, 0, none⟩ = some (.int .i64 v5) ∧ w0.cell? ⟨w5.heap.size, 1, none⟩ = some (.slice A5 n5 c5)) ∧
    ((w0.cell? ⟨s, 0, none⟩ = some (.int .i64 0) ∧ w0.cell? ⟨s, 1, none⟩ = some (.slice none 0 0) ∧ w0.frozen? ⟨s, 0, none⟩ = false ∧ w0.frozen? ⟨s, 1, none⟩ = false) ∧
    (((w0.setCell ⟨s, 0, none⟩ (.int .i64 v5)).setCell ⟨s, 1, none⟩ (.slice A5 n5 c5)).cell? ⟨s, 0, none⟩ = some (.int .i64 v5) ∧ ((w0.setCell ⟨s, 0, none⟩ (.int .i64 v5)).setCell ⟨s, 1, none⟩ (.slice A5 n5 c5)).cell? ⟨s, 1, none⟩ = some (.slice A5 n5 c5)) ∧
    Below w.heap.size w ((w0.setCell ⟨s, 0, none⟩ (.int .i64 v5)).setCell ⟨s, 1, none⟩ (.slice A5 n5 c5))) ∧
    NodRow ((w0.setCell ⟨s, 0, none⟩ (.int .i64 v5)).setCell ⟨s, 1, none⟩ (.slice A5 n5 c5)) w.heap.size ((w0.setCell ⟨s, 0, none⟩ (.int .i64 v5)).setCell ⟨s, 1, none⟩ (.slice A5 n5 c5)).heap.size (.slice A5 n5 c5) l5 := by
  subst hw
  have nb := Blk.new w5 #[.int .i64 v5, .slice A5 n5 c5] 25
  have hk' := hk.alloc (.cells #[.int .i64 v5, .slice A5 n5 c5] 25)
  have hb' := hb.alloc hb.size (.cells #[.int .i64 v5, .slice A5 n5 c5] 25)
  have hr' := ((hr.lower hlo).keep (w' := w5.alloc (.cells #[.int .i64 v5, .slice A5 n5 c5] 25)) (fun _ _ h => Below.heap_alloc _ _ _ h)).mono (show w5.heap.size ≤ (w5.alloc (.cells #[.int .i64 v5, .slice A5 n5 c5] 25)).heap.size by simp)
  exact ⟨⟨nb.cell (i := 0) rfl, nb.cell (i := 1) rfl⟩, res_two hk' hs hb', res_row hr' hk'⟩
set_option maxRecDepth 100000 in
set_option maxHeartbeats 8000000 in
theorem l5Step_any (view : Int) (A : Option Addr) (n c : Nat) (l : List Nod) (w : World) (h : Nods w 0 w.heap.size A n c l) (hg : Good view l) :
    Calls Mo.prog 98 #[.agg #[.int .i64 view, .slice A n c]] w (ChainRes w ((stepL l).map fun r => (view, r))) := by
  have hlen := h.len
  have hn5 : n ≤ 5 := by have := hg.2.2.2.1; omega
  have hn1 : 1 ≤ n := by have := hg.2.2.1; omega
  have HL := Lib.hid hlen
  have GG := Lib.hid hg
  have H := Lib.hid h
  have HGL := Lib.hid (good_logs hg)
  have K0 := Lib.hid ((Blk.new w #[.int .i64 view, .slice A n c] 25).alloc (.cells #[.int .i64 0, .slice none 0 0] 25))
  have K1 : Hid (Blk ((w.alloc (.cells #[.int .i64 view, .slice A n c] 25)).alloc (.cells #[.int .i64 0, .slice none 0 0] 25)) (w.heap.size + 1) #[.int .i64 0, .slice none 0 0] 25) := Lib.hid (by
    have := Blk.new (w.alloc (.cells #[.int .i64 view, .slice A n c] 25)) #[.int .i64 0, .slice none 0 0] 25
    simpa only [World.size_alloc] using this)
  have B0 := Lib.hid (((Below.refl w.heap.size w).alloc (Nat.le_refl _) (.cells #[.int .i64 view, .slice A n c] 25)).alloc (by simp) (.cells #[.int .i64 0, .slice none 0 0] 25))
  clear h hlen hg
  go_enter Mo.func98, Tryz.ntmps98
  go_wp2_with fail
  go_loopw [4] (fun i wr => ∃ k : Nat, k + 1 ≤ n ∧ i = .int .i64 k ∧ Hid (∀ j, j < k → passAt l j = none) ∧ Blk wr w.heap.size #[.int .i64 view, .slice A n c] 25 ∧ Blk wr (w.heap.size + 1) #[.int .i64 0, .slice none 0 0] 25 ∧ Below w.heap.size w wr) (fun i _ => n - (intOf i).toNat)
  case atStart => exact ⟨0, hn1, rfl, fun j hj => by omega, K0.out, K1.out, B0.out⟩
  case round =>
    obtain ⟨k, hk, rfl, HN, k0, k1, hB⟩ := hrel
    have KK0 := Lib.hid k0
    have KK1 := Lib.hid k1
    have BR := Lib.hid hB
    have FR := Lib.hid (H.out.on hB)
    have hsz := hB.size
    have q0 := k0.cell (i := 0) (v := .int .i64 view) rfl
    have q1 := k0.cell (i := 1) (v := .slice A n c) rfl
    have hw1 : IntKind.i64.wrap ((k : Int) + 1) = (k : Int) + 1 := IntWalk.i64_in _ (by omega)
    clear k0 k1 hB K0 K1 B0
    by_cases hlt : k + 1 < n
    · have HP := Lib.hid (passM_nat GG.out (k := k) (by rw [HL.out]; exact hlt))
      cases hpa : passAt l k with
      | none =>
        rw [hpa] at HP
        have HPA := Lib.hid hpa
        clear hpa
        go_wp2_with fail
        have D := specChainPass_any view A n c l (k : Int) _ FR.out (by omega) HGL.out
        rw [HP.out] at D
        refine D.mono ?_
        rintro e w5 ⟨v5, A5, n5, c5, l5, hv5, rfl, hl5, hr5, hb5⟩
        have hb5' := Lib.hid (hb5.alloc hb5.size (.cells #[.int .i64 v5, .slice A5 n5 c5] 25))
        clear D hv5 hl5 hr5 hb5 q0 q1
        go_wp2
        refine ⟨⟨k + 1, by omega, by go_num, fun j hj => ?_, KK0.out.below hb5'.out, KK1.out.below hb5'.out, BR.out.trans (hb5'.out.mono hsz)⟩, ?_⟩
        · by_cases e : j = k
          · subst e; exact HPA.out
          · exact HN.out j (by omega)
        · simp [intOf]; omega
      | some r =>
        rw [hpa] at HP
        have HS := Lib.hid (show (stepL l).map (fun r => (view, r)) = some (view, r) by rw [stepL_pass (by rw [HL.out]; exact hlt) hpa HN.out]; rfl)
        clear hpa
        go_wp2_with fail
        have D := specChainPass_any view A n c l (k : Int) _ FR.out (by omega) HGL.out
        rw [HP.out] at D
        refine D.mono ?_
        rintro e w5 ⟨v5, A5, n5, c5, l5, hv5, rfl, hl5, hr5, hb5⟩
        obtain ⟨w6, hw6⟩ : ∃ w6 : World, w5.alloc (.cells #[.int .i64 v5, .slice A5 n5 c5] 25) = w6 := ⟨_, rfl⟩
        obtain ⟨⟨t0, t1⟩, FF, NN⟩ := ret_chain (w := w) (v5 := v5) hr5 hsz (KK1.out.below hb5) (show w.heap.size ≤ w.heap.size + 1 by omega) (BR.out.trans (hb5.mono hsz)) hw6.symm
        have HF := Lib.hid FF
        have HNN := Lib.hid NN
        obtain ⟨z0, z1, y0, y1⟩ := FF.1
        have HV := Lib.hid hv5
        have HL5 := Lib.hid hl5
        clear D hv5 hl5 hr5 hb5 q0 q1 FF NN
        go_wp2
        exact bodyPost_ret (v := .tuple #[.agg #[.int .i64 v5, .slice A5 n5 c5], .bool true]) (by simp [results, Tryz.results98, go_sem, HF.out.2.1.1, HF.out.2.1.2]) rfl (by rw [HS.out]; exact ⟨v5, A5, n5, c5, l5, HV.out, rfl, HL5.out, HNN.out, HF.out.2.2⟩)
    · have hk1 : k + 1 = n := by omega
      have HPN := Lib.hid (show ∀ j, j + 1 < l.length → passAt l j = none from fun j hj => HN.out j (by have := HL.out; omega))
      have hw2 : IntKind.i64.wrap ((n : Int) - 2) = (n : Int) - 2 := IntWalk.i64_in _ (by omega)
      go_wp2_with fail
      clear q0 q1
      go_loopw [7] (fun i wx => ∃ j : Nat, j ≤ n - 1 ∧ i = .int .i64 ((j : Int) - 1) ∧ Hid (∀ i, j ≤ i → i + 1 < l.length → tellAt l i = none) ∧ Blk wx w.heap.size #[.int .i64 view, .slice A n c] 25 ∧ Blk wx (w.heap.size + 1) #[.int .i64 0, .slice none 0 0] 25 ∧ Below w.heap.size w wx) (fun i _ => (intOf i + 1).toNat)
      case atStart => exact ⟨n - 1, Nat.le_refl _, by congr 1; omega, fun i h1 h2 => by have := HL.out; omega, KK0.out, KK1.out, BR.out⟩
      case round =>
        obtain ⟨j, hj, rfl, HT, k0, k1, hB⟩ := hrel
        have KX0 := Lib.hid k0
        have KX1 := Lib.hid k1
        have BX := Lib.hid hB
        have FX := Lib.hid (H.out.on hB)
        have hszx := hB.size
        by_cases hj0 : 0 < j
        · obtain ⟨j', rfl⟩ : ∃ j', j = j' + 1 := ⟨j - 1, by omega⟩
          have ej : (((j' + 1 : Nat) : Int) - 1) = (j' : Int) := by omega
          rw [ej]
          have q0 := k0.cell (i := 0) (v := .int .i64 view) rfl
          have q1 := k0.cell (i := 1) (v := .slice A n c) rfl
          have hj1 : (0 : Int) ≤ (j' : Int) := by omega
          have hw3 : IntKind.i64.wrap ((j' : Int) - 1) = (j' : Int) - 1 := IntWalk.i64_in _ (by omega)
          have HP := Lib.hid (tellM_nat GG.out (k := j') (by have := HL.out; omega))
          clear k0 k1 hB KK0 KK1 BR FR
          cases hpa : tellAt l j' with
          | none =>
            rw [hpa] at HP
            have HPA := Lib.hid hpa
            clear hpa
            go_wp2_with fail
            have D := specChainTell_any view A n c l (j' : Int) _ FX.out (by omega) HGL.out
            rw [HP.out] at D
            refine D.mono ?_
            rintro e w5 ⟨v5, A5, n5, c5, l5, hv5, rfl, hl5, hr5, hb5⟩
            have hb5' := Lib.hid (hb5.alloc hb5.size (.cells #[.int .i64 v5, .slice A5 n5 c5] 25))
            clear D hv5 hl5 hr5 hb5 q0 q1
            go_wp2
            refine ⟨⟨j', by omega, rfl, fun i h1 h2 => ?_, KX0.out.below hb5'.out, KX1.out.below hb5'.out, BX.out.trans (hb5'.out.mono hszx)⟩, ?_⟩
            · by_cases e : i = j'
              · subst e; exact HPA.out
              · exact HT.out i (by omega) h2
            · simp [intOf]
          | some r =>
            rw [hpa] at HP
            have HS := Lib.hid (show (stepL l).map (fun r => (view, r)) = some (view, r) by rw [stepL_tell HPN.out (by have := HL.out; omega) hpa (fun i h1 h2 => HT.out i (by omega) h2)]; rfl)
            clear hpa
            go_wp2_with fail
            have D := specChainTell_any view A n c l (j' : Int) _ FX.out (by omega) HGL.out
            rw [HP.out] at D
            refine D.mono ?_
            rintro e w5 ⟨v5, A5, n5, c5, l5, hv5, rfl, hl5, hr5, hb5⟩
            obtain ⟨w6, hw6⟩ : ∃ w6 : World, w5.alloc (.cells #[.int .i64 v5, .slice A5 n5 c5] 25) = w6 := ⟨_, rfl⟩
            obtain ⟨⟨t0, t1⟩, FF, NN⟩ := ret_chain (w := w) (v5 := v5) hr5 hszx (KX1.out.below hb5) (show w.heap.size ≤ w.heap.size + 1 by omega) (BX.out.trans (hb5.mono hszx)) hw6.symm
            have HF := Lib.hid FF
            have HNN := Lib.hid NN
            obtain ⟨z0, z1, y0, y1⟩ := FF.1
            have HV := Lib.hid hv5
            have HL5 := Lib.hid hl5
            clear D hv5 hl5 hr5 hb5 q0 q1 FF NN
            go_wp2
            exact bodyPost_ret (v := .tuple #[.agg #[.int .i64 v5, .slice A5 n5 c5], .bool true]) (by simp [results, Tryz.results98, go_sem, HF.out.2.1.1, HF.out.2.1.2]) rfl (by rw [HS.out]; exact ⟨v5, A5, n5, c5, l5, HV.out, rfl, HL5.out, HNN.out, HF.out.2.2⟩)
        · obtain rfl : j = 0 := by omega
          have e0 : (((0 : Nat) : Int) - 1) = -1 := rfl
          rw [e0]
          have HS := Lib.hid (show (stepL l).map (fun r => (view, r)) = none by rw [stepL_none HPN.out (fun j hj => HT.out j (Nat.zero_le _) hj)]; rfl)
          have FF := Lib.hid (res_two (a := .int .i64 0) (b := .slice none 0 0) k1 (by omega) hB)
          obtain ⟨z0, z1, y0, y1⟩ := FF.out.1
          clear k0 k1 hB
          go_wp2
          exact bodyPost_ret (v := .tuple #[.agg #[.int .i64 0, .slice none 0 0], .bool false]) (by simp [results, Tryz.results98, go_sem, FF.out.2.1.1, FF.out.2.1.2]) rfl (by rw [HS.out]; exact ChainRes.none_ FF.out.2.2)
end Go.Proofs.YtemgilofjbnoaaaGreatDoor
namespace Go.Proofs.YtemgilofjbnoaaaGreatDoor
open Go.RowKit Go.Sort
theorem way_some {v : Int} {l c r : List Nod} {k : Nat} (h : Way v l c k) (hs : stepL c = some r) : Way v l r (k + 1) := by
  obtain ⟨h1, h2, h3, h4, h5⟩ := h
  obtain ⟨a, b, d, e, f⟩ := stepL_some h1 hs
  exact ⟨a, f.trans h2, e.trans h3, d.trans h4, by omega⟩
theorem way_none {v : Int} {l c : List Nod} {k : Nat} (h : Way v l c k) (hs : stepL c = none) : c = settledM l ∧ k = pot l := by
  obtain ⟨h1, h2, h3, h4, h5⟩ := h
  obtain ⟨a, b⟩ := stepL_end h1 hs
  exact ⟨by rw [← h4, a], by omega⟩
set_option maxRecDepth 100000 in
set_option maxHeartbeats 8000000 in
theorem specChainSettle_any (view : Int) (A : Option Addr) (n c : Nat) (l : List Nod) (w : World) (h : Nods w 0 w.heap.size A n c l) (hn : n ≤ 1048576) (hlog : ∀ x ∈ l, x.log.length ≤ 1048576) :
    Calls Mo.prog 77 #[.agg #[.int .i64 view, .slice A n c]] w (SetRes w (settleM view l)) := by
  have HL := Lib.hid h.len
  have HG := Lib.hid hlog
  have H := Lib.hid h
  have H0 := Lib.hid ((h.box (.cells #[.int .i64 view, .slice A n c] 25)).box (.cells #[.int .i64 0, .slice none 0 0] 25))
  clear h hlog
  cases hok : chainOk view l
  · have HS := Lib.hid (show settleM view l = ((0, []), -1) by simp [settleM, hok])
    have HO := Lib.hid hok
    clear hok
    go_enter Mo.func77, Tryz.ntmps77
    go_wp2_with fail
    refine (specChainValid_any _ _ _ _ l _ H0.out hn HG.out).mono ?_
    rintro e w1 ⟨rfl, hb1⟩
    rw [HO.out]
    obtain ⟨_, k1, b1⟩ := box_res hb1
    have FF := Lib.hid (res_two (a := .int .i64 0) (b := .slice none 0 0) k1 (by omega) b1)
    obtain ⟨z0, z1, y0, y1⟩ := FF.out.1
    clear hb1 k1 b1
    go_wp2
    exact bodyPost_ret (v := .tuple #[.agg #[.int .i64 0, .slice none 0 0], .int .i64 (-1)]) (by simp [results, Tryz.results77, go_sem, FF.out.2.1.1, FF.out.2.1.2]) rfl ⟨0, none, 0, 0, [], by rw [HS.out], by rw [HS.out], rfl, NodRow.nil_ _ _ _, FF.out.2.2⟩
  · have hg := good_iff.1 hok
    have GG := Lib.hid hg
    have HS := Lib.hid (show settleM view l = ((view, settledM l), (pot l : Int)) by simp [settleM, hok])
    have HO := Lib.hid hok
    have hn5 : n ≤ 5 := by have := hg.2.2.2.1; have := HL.out; omega
    have hn1 : 1 ≤ n := by have := hg.2.2.1; have := HL.out; omega
    have hpot := pot_le hg
    clear hok hg
    go_enter Mo.func77, Tryz.ntmps77
    go_wp2_with fail
    refine (specChainValid_any _ _ _ _ l _ H0.out hn HG.out).mono ?_
    rintro e w1 ⟨rfl, hb1⟩
    rw [HO.out]
    obtain ⟨k0, k1, b1⟩ := box_res hb1
    have K0 := Lib.hid k0
    have K1 := Lib.hid k1
    have B1 := Lib.hid b1
    have F1 := Lib.hid (H.out.on b1)
    have q0 := k0.cell (i := 0) (v := .int .i64 view) rfl
    have q1 := k0.cell (i := 1) (v := .slice A n c) rfl
    have s1 := b1.size
    clear hb1 k0 k1 b1
    go_wp2_with fail
    refine (l4Copy_any view _ n c l _ F1.out hn HG.out).mono ?_
    rintro e w3 ⟨A3, n3, c3, rfl, hl3, hrow3, hb3⟩
    have hn3 : n3 = n := by rw [← hl3]; exact HL.out
    subst hn3
    have hK1 := K1.out.lt
    have cb := CB.made (view := view) (B1.out.trans (hb3.mono B1.out.size)) (hrow3.lower B1.out.size) (Oth.cons (Oth.nil _ _) (K1.out.below hb3) (by have := hb3.size; omega) (by decide))
    have CB4 := Lib.hid cb
    clear hrow3 hb3 cb q0 q1
    go_wp2_with fail
    go_loopw [5] (fun st wr => ∃ (k : Nat) (cl : List Nod) (nv : Value) (hi : Nat), st = .int .i64 (k : Int) ∧ Hid (Way view l cl k) ∧ CB w wr w3.heap.size view nv cl hi [(w.heap.size + 1, #[.int .i64 0, .slice none 0 0], 25)]) (fun st _ => 101 - (intOf st).toNat)
    case atStart => exact ⟨0, l, _, _, rfl, ⟨GG.out, rfl, rfl, rfl, by omega⟩, CB4.out⟩
    case round =>
      obtain ⟨k, cl, nv, hi, rfl, HW, hcb⟩ := hrel
      have CBR := Lib.hid hcb
      have hk65 : k ≤ 65 := by have := HW.out.2.2.2.2; omega
      have hk100 : (k : Int) ≤ 100 := by omega
      have hss : w3.heap.size < wr.heap.size := hcb.size
      have hgc := HW.out.1
      have hcl1 : 1 ≤ cl.length := hgc.2.2.1
      obtain ⟨gc, cc, rfl, _, _, _⟩ := hcb.row.form (by omega)
      have r0 := hcb.chn.cell (i := 0) (v := .int .i64 view) rfl
      have r1 := hcb.chn.cell (i := 1) (v := .slice (some ⟨gc, 0, none⟩) cl.length cc) rfl
      have NW := Lib.hid hcb.nods.2
      have HGC := Lib.hid hgc
      have hw1 : IntKind.i64.wrap ((k : Int) + 1) = (k : Int) + 1 := IntWalk.i64_in _ (by omega)
      clear hcb hgc CB4
      cases hst : stepL cl with
      | none =>
        have HST := Lib.hid hst
        clear hst
        go_wp2_with fail
        have D := l5Step_any view _ cl.length cc cl _ NW.out HGC.out
        rw [HST.out] at D
        refine D.mono ?_
        rintro e w6 ⟨v1, A1, n1, c1, l1, hv1, rfl, hl1, hr1, hb6⟩
        clear D
        have cb7 := CBR.out.below (hb6.alloc hb6.size (.cells #[.int .i64 v1, .slice A1 n1 c1] 25))
        obtain ⟨w7, hw7⟩ : ∃ w7 : World, w6.alloc (.cells #[.int .i64 v1, .slice A1 n1 c1] 25) = w7 := ⟨_, rfl⟩
        rw [hw7] at cb7
        obtain ⟨e1, e2⟩ := way_none HW.out HST.out
        subst e1; subst e2
        have t0 := cb7.chn.cell (i := 0) (v := .int .i64 view) rfl
        have t1 := cb7.chn.cell (i := 1) (v := .slice (some ⟨gc, 0, none⟩) (settledM l).length cc) rfl
        have FF := Lib.hid (res_two (a := .int .i64 view) (b := .slice (some ⟨gc, 0, none⟩) (settledM l).length cc) (cb7.blk (List.mem_singleton.2 rfl)) (show w.heap.size ≤ w.heap.size + 1 by omega) cb7.bel)
        have NN := Lib.hid (cb7.out (u := .int .i64 view) (v := .slice (some ⟨gc, 0, none⟩) (settledM l).length cc) (cb7.blk (List.mem_singleton.2 rfl)) (show w.heap.size ≤ w.heap.size + 1 by omega))
        obtain ⟨z0, z1, y0, y1⟩ := FF.out.1
        clear cb7 hr1 hb6 hv1 hl1 r0 r1
        go_wp2
        exact bodyPost_ret (v := .tuple #[.agg #[.int .i64 view, .slice (some ⟨gc, 0, none⟩) (settledM l).length cc], .int .i64 (pot l)]) (by simp [results, Tryz.results77, go_sem, FF.out.2.1.1, FF.out.2.1.2]) rfl ⟨view, _, _, cc, settledM l, by rw [HS.out], by rw [HS.out], rfl, NN.out.1, NN.out.2⟩
      | some r =>
        have HST := Lib.hid hst
        clear hst
        go_wp2_with fail
        have D := l5Step_any view _ cl.length cc cl _ NW.out HGC.out
        rw [HST.out] at D
        refine D.mono ?_
        rintro e w6 ⟨v1, A1, n1, c1, l1, hv1, rfl, hl1, hr1, hb6⟩
        clear D
        have e1 : v1 = view ∧ l1 = r := by
          have : (v1, l1) = (view, r) := hv1
          injection this with a b
          exact ⟨a, b⟩
        obtain ⟨rfl, rfl⟩ := e1
        have nb := Blk.new w6 #[.int .i64 v1, .slice A1 n1 c1] 25
        have hr7 := (hr1.keep (w' := w6.alloc (.cells #[.int .i64 v1, .slice A1 n1 c1] 25)) (fun _ _ h => Below.heap_alloc _ _ _ h)).mono (show w6.heap.size ≤ (w6.alloc (.cells #[.int .i64 v1, .slice A1 n1 c1] 25)).heap.size by simp)
        have cb7 := CBR.out.below (hb6.alloc hb6.size (.cells #[.int .i64 v1, .slice A1 n1 c1] 25))
        obtain ⟨w7, hw7⟩ : ∃ w7 : World, w6.alloc (.cells #[.int .i64 v1, .slice A1 n1 c1] 25) = w7 := ⟨_, rfl⟩
        rw [hw7] at nb hr7 cb7
        have cb8 := cb7.restored (v1 := v1) hr7 CBR.out.bel.size
        have t0 := nb.cell (i := 0) (v := .int .i64 v1) rfl
        have t1 := nb.cell (i := 1) (v := .slice A1 n1 c1) rfl
        have u0 := cb7.chn.cell (i := 0) (v := .int .i64 v1) rfl
        have u1 := cb7.chn.cell (i := 1) (v := .slice (some ⟨gc, 0, none⟩) cl.length cc) rfl
        have f0 := cb7.chn.free 0
        have f1 := cb7.chn.free 1
        have CB8 := Lib.hid cb8
        clear hr1 hb6 nb hr7 cb7 cb8 r0 r1 hl1 hv1
        go_wp2
        refine ⟨⟨k + 1, l1, _, _, by go_num, way_some HW.out HST.out, CB8.out⟩, ?_⟩
        simp [intOf]; omega
end Go.Proofs.YtemgilofjbnoaaaGreatDoor
namespace Go.Proofs.YtemgilofjbnoaaaGreatDoor
open Go.ChangeShapes Go.WideShapes Go.ChangeAt Go.RowKit Go.Deep
theorem ownK : ownKnob Tryz.prog.godebug = none := by kernel_rfl
theorem laidOut : laidOutB Tryz.prog = true := by kernel_rfl
section
variable {H : Type} {enc : TypeId × Value → H} {P : Program} {W : World}
theorem plain_addr {w : World} {a : Addr} {v : Value} (h : w.cell? a = some v) : a = ⟨a.block, a.off, none⟩ ∧ a.block < w.heap.size := by
  refine ⟨?_, block_lt_of_cell h⟩
  have := World.cell?_spot h
  cases a; simp_all
set_option maxRecDepth 100000 in
theorem reads_slice {α : Type} {encE : α → List Value} {sz : Nat} (hsz : 0 < sz) (hs : ∀ x, (encE x).length = sz) {Q : α → Prop} {t e : TypeId} (ht : P.underlying t = some (.slice e)) (hE : P.cellsOf e = sz)
    (hel : ∀ n cs y, DataW.trod enc P W 0 (fun _ => true) true n e cs = some y → ∃ x, cs = encE x ∧ Q x)
    {v : Value} {d : DataW H} {p : List MemPlace} (hv : Value.okWide P W .any 0 t v) (h : DataW.Trod enc P W 0 (fun _ => true) true t v d p) :
    ∃ A n c l, v = .slice A n c ∧ Flat encE sz W 0 W.heap.size A n c l ∧ ∀ x ∈ l, Q x := by
  obtain ⟨A, n, c, rfl⟩ := okWide_slice ht hv
  obtain ⟨fuel, hf⟩ := h
  rcases open_slice ht hf with ⟨hcs, _⟩ | ⟨a, len, cap, m, k, D, Pl, hcs, _, hl, hm, hmm, _, hi⟩
  · simp [Value.cells] at hcs
    obtain ⟨rfl, rfl, rfl⟩ := hcs
    exact ⟨none, 0, 0, [], rfl, Flat.nil_ _ _ _ _ _, fun _ h => by cases h⟩
  · simp [Value.cells] at hcs
    obtain ⟨rfl, rfl, rfl⟩ := hcs
    have hm' : n ≤ m := by rw [hmm]; split <;> omega
    have each : ∀ i : Fin n, ∃ x, Q x ∧ ∀ j u, (encE x)[j]? = some u → W.cell? (a.add (i.1 * sz + j)) = some u := by
      intro i
      obtain ⟨cs', hc, ht'⟩ := hi i.1 (by omega)
      obtain ⟨x, rfl, hq⟩ := hel _ _ _ ht'
      rw [hE] at hc
      obtain ⟨_, _, hat⟩ := World.cells?_some hc
      refine ⟨x, hq, fun j u hu => ?_⟩
      have hj : j < sz := by
        have := (List.getElem?_eq_some_iff.1 hu).1
        rw [hs] at this; exact this
      rw [← Go.Deep.add_add, hat j hj, hu]
    obtain ⟨f, hfs⟩ := Classical.skolem.1 each
    refine ⟨some a, n, c, List.ofFn f, rfl, ⟨by simp, hl, hm, fun hn => ?_⟩, fun x hx => ?_⟩
    · have hc0 : ∃ u, (encE (f ⟨0, hn⟩))[0]? = some u := by
        have : 0 < (encE (f ⟨0, hn⟩)).length := by rw [hs]; exact hsz
        exact ⟨_, List.getElem?_eq_getElem this⟩
      obtain ⟨u, hu⟩ := hc0
      have h0 := (hfs ⟨0, hn⟩).2 0 u hu
      simp only [Nat.zero_mul, Nat.add_zero, Addr.add, if_true] at h0
      obtain ⟨e1, e2⟩ := plain_addr h0
      refine ⟨a.block, a.off, by rw [← e1], Nat.zero_le _, e2, fun i x hx j u hu => ?_⟩
      have hin : i < n := by have := (List.getElem?_eq_some_iff.1 hx).1; simpa using this
      have hfx : f ⟨i, hin⟩ = x := by
        rw [List.getElem?_ofFn] at hx
        simpa [hin] using hx
      have := (hfs ⟨i, hin⟩).2 j u (by rw [hfx]; exact hu)
      rw [e1] at this
      simp only [Addr.add] at this
      split at this
      · rename_i hz
        have e : a.off + i * sz + j = a.off := by omega
        rw [e]; exact this
      · rw [show a.off + i * sz + j = a.off + (i * sz + j) from by omega]; exact this
    · obtain ⟨i, rfl⟩ := List.mem_ofFn.1 hx
      exact (hfs i).1
end
section
variable {H : Type} {enc : TypeId × Value → H} {W : World}
set_option maxRecDepth 100000 in
theorem trod_upd {n : Nat} {cs : List Value} {y : DataW H × List MemPlace} (hy : DataW.trod enc Tryz.prog W 0 (fun _ => true) true n 46 cs = some y) : ∃ x : Upd, cs = x.enc := by
  have hC : Tryz.prog.cellsOf 46 = 2 := by kernel_rfl
  have hI : Tryz.prog.cellsOf 3 = 1 := by kernel_rfl
  obtain ⟨xs, m, _, _, hlen, hxs, hf⟩ := DataW.trod_struct Tryz.underlying46 hy
  rw [hC] at hlen
  match cs, hlen with
  | [c0, c1], _ =>
    have f0 : DataW.trod enc Tryz.prog W 0 (fun _ => true) true m 3 (List.take (Tryz.prog.cellsOf 3) (List.drop 0 [c0, c1])) = xs[0]? := hf 0 _ rfl
    have f1 : DataW.trod enc Tryz.prog W 0 (fun _ => true) true m 3 (List.take (Tryz.prog.cellsOf 3) (List.drop 1 [c0, c1])) = xs[1]? := hf 1 _ rfl
    simp only [hI, List.drop_zero, List.drop_succ_cons, List.take_succ_cons, List.take_zero] at f0 f1
    obtain ⟨y0, e0⟩ : ∃ y, xs[0]? = some y := ⟨xs[0]'(by rw [hxs]; decide), List.getElem?_eq_getElem _⟩
    obtain ⟨y1, e1⟩ : ∃ y, xs[1]? = some y := ⟨xs[1]'(by rw [hxs]; decide), List.getElem?_eq_getElem _⟩
    obtain ⟨a, ha, _⟩ := DataW.trod_int Tryz.underlying3 (f0.trans e0)
    obtain ⟨b, hb, _⟩ := DataW.trod_int Tryz.underlying3 (f1.trans e1)
    injection ha with ha _; injection hb with hb _
    exact ⟨⟨a, b⟩, by rw [ha, hb]; rfl⟩
set_option maxRecDepth 100000 in
theorem trod_cll {n : Nat} {cs : List Value} {y : DataW H × List MemPlace} (hy : DataW.trod enc Tryz.prog W 0 (fun _ => true) true n 48 cs = some y) : ∃ x : Cll, cs = x.enc := by
  have hC : Tryz.prog.cellsOf 48 = 4 := by kernel_rfl
  have hI : Tryz.prog.cellsOf 3 = 1 := by kernel_rfl
  have hU : Tryz.prog.cellsOf 46 = 2 := by kernel_rfl
  obtain ⟨xs, m, _, _, hlen, hxs, hf⟩ := DataW.trod_struct Tryz.underlying48 hy
  rw [hC] at hlen
  match cs, hlen with
  | [c0, c1, c2, c3], _ =>
    have f0 : DataW.trod enc Tryz.prog W 0 (fun _ => true) true m 3 (List.take (Tryz.prog.cellsOf 3) (List.drop 0 [c0, c1, c2, c3])) = xs[0]? := hf 0 _ rfl
    have f1 : DataW.trod enc Tryz.prog W 0 (fun _ => true) true m 3 (List.take (Tryz.prog.cellsOf 3) (List.drop 1 [c0, c1, c2, c3])) = xs[1]? := hf 1 _ rfl
    have f2 : DataW.trod enc Tryz.prog W 0 (fun _ => true) true m 46 (List.take (Tryz.prog.cellsOf 46) (List.drop 2 [c0, c1, c2, c3])) = xs[2]? := hf 2 _ rfl
    simp only [hI, hU, List.drop_zero, List.drop_succ_cons, List.take_succ_cons, List.take_zero] at f0 f1 f2
    obtain ⟨y0, e0⟩ : ∃ y, xs[0]? = some y := ⟨xs[0]'(by rw [hxs]; decide), List.getElem?_eq_getElem _⟩
    obtain ⟨y1, e1⟩ : ∃ y, xs[1]? = some y := ⟨xs[1]'(by rw [hxs]; decide), List.getElem?_eq_getElem _⟩
    obtain ⟨y2, e2⟩ : ∃ y, xs[2]? = some y := ⟨xs[2]'(by rw [hxs]; decide), List.getElem?_eq_getElem _⟩
    obtain ⟨a, ha, _⟩ := DataW.trod_int Tryz.underlying3 (f0.trans e0)
    obtain ⟨b, hb, _⟩ := DataW.trod_int Tryz.underlying3 (f1.trans e1)
    obtain ⟨u, hu⟩ := trod_upd (f2.trans e2)
    injection ha with ha _; injection hb with hb _
    unfold Upd.enc at hu
    injection hu with hu1 hu2
    injection hu2 with hu2 _
    exact ⟨⟨a, b, u⟩, by rw [ha, hb, hu1, hu2]; rfl⟩
set_option maxRecDepth 100000 in
theorem reads_calls {v : Value} {d : DataW H} {p : List MemPlace} (hv : Value.okWide Tryz.prog W .any 0 45 v) (h : DataW.Trod enc Tryz.prog W 0 (fun _ => true) true 45 v d p) :
    ∃ A n c l, v = .slice A n c ∧ Flat Cll.enc 4 W 0 W.heap.size A n c l := by
  obtain ⟨A, n, c, l, e, hf, _⟩ := reads_slice (Q := fun _ => True) (by omega) Cll.len Tryz.underlying45 (by kernel_rfl) (fun n cs y hy => by
    obtain ⟨x, hx⟩ := trod_cll hy
    exact ⟨x, hx, trivial⟩) hv h
  exact ⟨A, n, c, l, e, hf⟩
end
end Go.Proofs.YtemgilofjbnoaaaGreatDoor
namespace Go.Proofs.YtemgilofjbnoaaaGreatDoor
open Go.ChangeShapes Go.WideShapes Go.ChangeAt Go.RowKit Go.Deep
section
variable {H : Type} {enc : TypeId × Value → H} {P : Program} {W : World}
theorem trod_slice_flat {α : Type} {encE : α → List Value} {sz : Nat} (hsz : 0 < sz) (hs : ∀ x, (encE x).length = sz) {Q : α → Prop} {t e : TypeId} (ht : P.underlying t = some (.slice e)) (hE : P.cellsOf e = sz)
    (hel : ∀ n cs y, DataW.trod enc P W 0 (fun _ => true) true n e cs = some y → ∃ x, cs = encE x ∧ Q x)
    {fuel : Nat} {cs : List Value} {y : DataW H × List MemPlace} (hf : DataW.trod enc P W 0 (fun _ => true) true fuel t cs = some y) :
    ∃ A n c l, cs = [.slice A n c] ∧ Flat encE sz W 0 W.heap.size A n c l ∧ ∀ x ∈ l, Q x := by
  rcases open_slice ht hf with ⟨hcs, _⟩ | ⟨a, len, cap, m, k, D, Pl, hcs, _, hl, hm, hmm, _, hi⟩
  · exact ⟨none, 0, 0, [], hcs, Flat.nil_ _ _ _ _ _, fun _ h => by cases h⟩
  · have hm' : len ≤ m := by rw [hmm]; split <;> omega
    have each : ∀ i : Fin len, ∃ x, Q x ∧ ∀ j u, (encE x)[j]? = some u → W.cell? (a.add (i.1 * sz + j)) = some u := by
      intro i
      obtain ⟨cs', hc, ht'⟩ := hi i.1 (by omega)
      obtain ⟨x, rfl, hq⟩ := hel _ _ _ ht'
      rw [hE] at hc
      obtain ⟨_, _, hat⟩ := World.cells?_some hc
      refine ⟨x, hq, fun j u hu => ?_⟩
      have hj : j < sz := by
        have := (List.getElem?_eq_some_iff.1 hu).1
        rw [hs] at this; exact this
      rw [← Go.Deep.add_add, hat j hj, hu]
    obtain ⟨f, hfs⟩ := Classical.skolem.1 each
    refine ⟨some a, len, cap, List.ofFn f, hcs, ⟨by simp, hl, hm, fun hn => ?_⟩, fun x hx => ?_⟩
    · have hc0 : ∃ u, (encE (f ⟨0, hn⟩))[0]? = some u := by
        have : 0 < (encE (f ⟨0, hn⟩)).length := by rw [hs]; exact hsz
        exact ⟨_, List.getElem?_eq_getElem this⟩
      obtain ⟨u, hu⟩ := hc0
      have h0 := (hfs ⟨0, hn⟩).2 0 u hu
      simp only [Nat.zero_mul, Nat.add_zero, Addr.add, if_true] at h0
      obtain ⟨e1, e2⟩ := plain_addr h0
      refine ⟨a.block, a.off, by rw [← e1], Nat.zero_le _, e2, fun i x hx j u hu => ?_⟩
      have hin : i < len := by have := (List.getElem?_eq_some_iff.1 hx).1; simpa using this
      have hfx : f ⟨i, hin⟩ = x := by
        rw [List.getElem?_ofFn] at hx
        simpa [hin] using hx
      have := (hfs ⟨i, hin⟩).2 j u (by rw [hfx]; exact hu)
      rw [e1] at this
      simp only [Addr.add] at this
      split at this
      · rename_i hz
        have e : a.off + i * sz + j = a.off := by omega
        rw [e]; exact this
      · rw [show a.off + i * sz + j = a.off + (i * sz + j) from by omega]; exact this
    · obtain ⟨i, rfl⟩ := List.mem_ofFn.1 hx
      exact (hfs i).1
end
section
variable {H : Type} {enc : TypeId × Value → H} {W : World}
set_option maxRecDepth 100000 in
theorem trod_nod {n : Nat} {cs : List Value} {y : DataW H × List MemPlace} (hy : DataW.trod enc Tryz.prog W 0 (fun _ => true) true n 109 cs = some y) :
    ∃ r : RN, cs = r.enc ∧ ∃ l, Flat Upd.enc 2 W 0 W.heap.size r.A r.n r.c l := by
  have hC : Tryz.prog.cellsOf 109 = 3 := by kernel_rfl
  have hI : Tryz.prog.cellsOf 3 = 1 := by kernel_rfl
  have hU : Tryz.prog.cellsOf 107 = 1 := by kernel_rfl
  obtain ⟨xs, m, _, _, hlen, hxs, hf⟩ := DataW.trod_struct Tryz.underlying109 hy
  rw [hC] at hlen
  match cs, hlen with
  | [c0, c1, c2], _ =>
    have f0 : DataW.trod enc Tryz.prog W 0 (fun _ => true) true m 3 (List.take (Tryz.prog.cellsOf 3) (List.drop 0 [c0, c1, c2])) = xs[0]? := hf 0 _ rfl
    have f1 : DataW.trod enc Tryz.prog W 0 (fun _ => true) true m 107 (List.take (Tryz.prog.cellsOf 107) (List.drop 1 [c0, c1, c2])) = xs[1]? := hf 1 _ rfl
    have f2 : DataW.trod enc Tryz.prog W 0 (fun _ => true) true m 3 (List.take (Tryz.prog.cellsOf 3) (List.drop 2 [c0, c1, c2])) = xs[2]? := hf 2 _ rfl
    simp only [hI, hU, List.drop_zero, List.drop_succ_cons, List.take_succ_cons, List.take_zero] at f0 f1 f2
    obtain ⟨y0, e0⟩ : ∃ y, xs[0]? = some y := ⟨xs[0]'(by rw [hxs]; decide), List.getElem?_eq_getElem _⟩
    obtain ⟨y1, e1⟩ : ∃ y, xs[1]? = some y := ⟨xs[1]'(by rw [hxs]; decide), List.getElem?_eq_getElem _⟩
    obtain ⟨y2, e2⟩ : ∃ y, xs[2]? = some y := ⟨xs[2]'(by rw [hxs]; decide), List.getElem?_eq_getElem _⟩
    obtain ⟨a, ha, _⟩ := DataW.trod_int Tryz.underlying3 (f0.trans e0)
    obtain ⟨A, k, c, l, hl, hfl, _⟩ := trod_slice_flat (Q := fun _ => True) (by omega) Upd.len Tryz.underlying107 (by kernel_rfl) (fun n cs y hy => by
      obtain ⟨x, hx⟩ := trod_upd hy
      exact ⟨x, hx, trivial⟩) (f1.trans e1)
    obtain ⟨b, hb, _⟩ := DataW.trod_int Tryz.underlying3 (f2.trans e2)
    injection ha with ha _; injection hb with hb _; injection hl with hl _
    exact ⟨⟨a, A, k, c, b⟩, by rw [ha, hb, hl]; rfl, l, hfl⟩
set_option maxRecDepth 100000 in
theorem reads_chain {v : Value} {d : DataW H} {p : List MemPlace} (hv : Value.okWide Tryz.prog W .any 0 44 v) (h : DataW.Trod enc Tryz.prog W 0 (fun _ => true) true 44 v d p) :
    ∃ view A n c l, v = .agg #[.int .i64 view, .slice A n c] ∧ Nods W 0 W.heap.size A n c l := by
  obtain ⟨cs, rfl, hcs⟩ := okWide_struct Tryz.underlying44 hv
  obtain ⟨m, hm⟩ := h
  have hC : Tryz.prog.cellsOf 44 = 2 := by kernel_rfl
  have hI : Tryz.prog.cellsOf 3 = 1 := by kernel_rfl
  have hU : Tryz.prog.cellsOf 42 = 1 := by kernel_rfl
  have hm' : DataW.trod enc Tryz.prog W 0 (fun _ => true) true m 44 cs.toList = some (d, p) := hm
  obtain ⟨xs, m', _, _, hlen, hxs, hf⟩ := DataW.trod_struct Tryz.underlying44 hm'
  rw [hC] at hlen
  obtain ⟨L, hL⟩ : ∃ L, L = cs.toList := ⟨_, rfl⟩
  have hcs' : cs = L.toArray := by rw [hL]
  rw [← hL] at hlen hf
  subst hcs'
  match L, hlen with
  | [c0, c1], _ =>
    have f0 : DataW.trod enc Tryz.prog W 0 (fun _ => true) true m' 3 (List.take (Tryz.prog.cellsOf 3) (List.drop 0 [c0, c1])) = xs[0]? := hf 0 _ rfl
    have f1 : DataW.trod enc Tryz.prog W 0 (fun _ => true) true m' 42 (List.take (Tryz.prog.cellsOf 42) (List.drop 1 [c0, c1])) = xs[1]? := hf 1 _ rfl
    simp only [hI, hU, List.drop_zero, List.drop_succ_cons, List.take_succ_cons, List.take_zero] at f0 f1
    obtain ⟨y0, e0⟩ : ∃ y, xs[0]? = some y := ⟨xs[0]'(by rw [hxs]; decide), List.getElem?_eq_getElem _⟩
    obtain ⟨y1, e1⟩ : ∃ y, xs[1]? = some y := ⟨xs[1]'(by rw [hxs]; decide), List.getElem?_eq_getElem _⟩
    obtain ⟨a, ha, _⟩ := DataW.trod_int Tryz.underlying3 (f0.trans e0)
    obtain ⟨A, k, c, rs, hl, hfl, hq⟩ := trod_slice_flat (Q := fun r : RN => ∃ l, Flat Upd.enc 2 W 0 W.heap.size r.A r.n r.c l) (by omega) RN.len Tryz.underlying42 (by kernel_rfl) (fun n cs y hy => trod_nod hy) (f1.trans e1)
    injection ha with ha _; injection hl with hl _
    have each : ∀ i : Fin rs.length, ∃ l, Flat Upd.enc 2 W 0 W.heap.size rs[i].A rs[i].n rs[i].c l := fun i => hq _ (List.getElem_mem _)
    obtain ⟨g, hg⟩ := Classical.skolem.1 each
    refine ⟨a, A, k, c, List.ofFn fun i : Fin rs.length => (⟨rs[i].id, g i, rs[i].done⟩ : Nod), by rw [ha, hl], rs, hfl, by simp, fun i r x hr hx => ?_⟩
    have hi := (List.getElem?_eq_some_iff.1 hr).1
    have hri : rs[i] = r := by rw [List.getElem?_eq_getElem hi] at hr; injection hr
    rw [List.getElem?_ofFn] at hx
    simp only [hi, dif_pos] at hx
    injection hx with hx
    subst hx
    subst hri
    exact ⟨rfl, rfl, hg ⟨i, hi⟩⟩
end
end Go.Proofs.YtemgilofjbnoaaaGreatDoor
namespace Go.Proofs.YtemgilofjbnoaaaGreatDoor
open Go.ChangeShapes Go.WideShapes Go.ChangeAt Go.RowKit Go.Deep
section
variable {H : Type} {enc : TypeId × Value → H} {W : World}
set_option maxRecDepth 100000 in
theorem reads_call {v : Value} {d : DataW H} {p : List MemPlace} (hv : Value.okWide Tryz.prog W .any 0 48 v) (h : DataW.Trod enc Tryz.prog W 0 (fun _ => true) true 48 v d p) :
    ∃ x : Cll, v = .agg #[.int .i64 x.client, .int .i64 x.number, .int .i64 x.what.key, .int .i64 x.what.value] := by
  obtain ⟨cs, rfl, hcs⟩ := okWide_struct Tryz.underlying48 hv
  obtain ⟨m, hm⟩ := h
  obtain ⟨x, hx⟩ := trod_cll hm
  refine ⟨x, ?_⟩
  have e : cs.toList = x.enc := hx
  have : cs = x.enc.toArray := by rw [← e]
  rw [this]; rfl
end
end Go.Proofs.YtemgilofjbnoaaaGreatDoor
