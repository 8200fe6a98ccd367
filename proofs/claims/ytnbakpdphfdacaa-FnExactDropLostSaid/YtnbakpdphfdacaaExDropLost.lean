/- 'laws.FnExactDropLost': the walk of the law: it returns true, and writes nothing that was there. -/
import Derived.Test.YtnbakpdphfdacaaDropLost
import Derived.Test.YtnbakpdphfdacaaDropLostS
import Derived.Test.YtnbakpdphfdacaaEx
import Derived.Deep.RegionHeld3
namespace Go.Proofs.Ytnbakpdphfdacaa
open Go.RowKit
set_option linter.unusedVariables false
set_option linter.unusedSimpArgs false

/-- a log of the call's own, in a block below hi -/
structure LI (W : World) (lo hi : Nat) (A : Option Addr) (n c : Nat) (l : List Upd) : Prop where
  own : W.ownsRow lo 72 2 (.slice A n c) n (l.flatMap Upd.enc)
  len : l.length = n
  top : ∀ g, (Value.slice A n c).ownBlock = some g → g < hi
  his : hi ≤ W.heap.size
section
variable {W W' : World} {lo hi : Nat} {A : Option Addr} {n c : Nat} {l : List Upd}
theorem LI.new (h : W.ownsRow lo 72 2 (.slice A n c) n (l.flatMap Upd.enc)) (hl : l.length = n) : LI W lo W.heap.size A n c l := ⟨h, hl, fun g e => (h.lt g e).2, Nat.le_refl _⟩
theorem LI.below (h : LI W lo hi A n c l) (hb : Below W.heap.size W W') : LI W' lo hi A n c l :=
  ⟨own_keep h.own (fun g e => hb.block g (by have := h.top g e; have := h.his; omega)), h.len, h.top, Nat.le_trans h.his hb.size⟩
theorem LI.alloc (h : LI W lo hi A n c l) (o : Obj) : LI (W.alloc o) lo hi A n c l := h.below ((Below.refl _ _).alloc (Nat.le_refl _) _)
theorem LI.drew (h : LI W lo hi A n c l) : LI W.drew lo hi A n c l := h.below (Below.refl _ _).drew
theorem LI.kept {lo' hi' : Nat} (h : LI W lo hi A n c l) (hk : Kept lo' hi' W W') (hd : hi ≤ lo' ∨ hi' ≤ lo) : LI W' lo hi A n c l :=
  ⟨own_keep h.own (fun g e => hk.2.2.2.2 g (by have := h.top g e; have := h.his; omega) (by have := h.top g e; have := (h.own.lt g e).1; omega)), h.len, h.top, Nat.le_trans h.his hk.1⟩
theorem LI.flat (h : LI W lo hi A n c l) : Flat Upd.enc 2 W 0 W.heap.size A n c l := (own_flat' Upd.len h.own h.len).mono (Nat.zero_le _) (Nat.le_refl _)
theorem LI.keptBy {row : Option Nat} (h : LI W lo hi A n c l) (hg : W.grownBy W' (Value.slice A n c).ownBlock) : Kept lo hi W W' :=
  (Kept.refl lo hi W).grown hg (fun g e => ⟨(h.own.lt g e).1, h.top g e⟩)
theorem LI.mark {s : Int} (h : LI W lo hi A n c l) (ho : W'.ownsRow lo 72 2 (.slice A n c) n ((marks s n).flatMap Upd.enc)) (hg : W.grownBy W' (Value.slice A n c).ownBlock) : LI W' lo hi A n c (marks s n) :=
  ⟨ho, marks_length _ _, h.top, Nat.le_trans h.his hg.size⟩
end
theorem lost_small (v : Int) (l : List Nod) (id : Int) : (lost v l id).length ≤ 13 := by
  by_cases h : dropRole v l id = 1
  · obtain ⟨hok, _, h2⟩ := head_of h
    have hx : l[0]? = some l[0] := List.getElem?_eq_getElem (by omega)
    have hy : l[1]? = some l[1] := List.getElem?_eq_getElem h2
    rw [lost_head h hx hy, List.length_drop]
    have := (good_ok (good_iff.1 hok)).2 _ (List.mem_of_getElem? hx)
    omega
  · rw [lost_not h]; simp

set_option maxHeartbeats 4000000 in
theorem exDropLost_walk (view : Int) (A : Option Addr) (n c : Nat) (l : List Nod) (id : Int) (w : World) (h : Nods w 0 w.heap.size A n c l) (_ : (Lit.int .i64 id).wf = true) :
    Calls Try.prog 4 #[.agg #[.int .i64 view, .slice A n c], .int .i64 id] w fun e w' => e = .returned (.bool true) ∧ Below w.heap.size w w' := by
  have hl13 := lost_small view l id
  have sp : ∀ (W : World) (A : Option Addr) (n c : Nat), Nods W 0 W.heap.size A n c l → n ≤ 1048576 → (∀ x ∈ l, x.log.length ≤ 1048576) → Calls Try.prog 23 #[.agg #[.int .i64 view, .slice A n c], .int .i64 id] W (LogLeft W (lost view l id)) := fun W A n c h hn hg => specDropLost_any view A n c l id W h hn hg
  have im : ∀ (W : World) (A : Option Addr) (n c : Nat), Nods W 0 W.heap.size A n c l → n ≤ 1048576 → (∀ x ∈ l, x.log.length ≤ 1048576) → Calls Try.prog 24 #[.agg #[.int .i64 view, .slice A n c], .int .i64 id] W (LogLeft W (lost view l id)) := fun W A n c h hn hg => dropLost_any view A n c l id W h hn hg
  obtain ⟨l1, hl1⟩ : ∃ v, lost view l id = v := ⟨_, rfl⟩
  rw [hl1] at hl13 sp im
  have SP := Lib.hid sp
  have IM := Lib.hid im
  have HL := Lib.hid h.len
  have H := Lib.hid h
  have H0 := Lib.hid (h.box (.cells #[.int .i64 view, .slice A n c] 24))
  have CA0 := Lib.hid (CI.mk (Blk.new w #[.int .i64 view, .slice A n c] 24) (h.keep (w' := w.alloc (.cells #[.int .i64 view, .slice A n c] 24)) (fun _ _ hk => Below.heap_alloc _ _ _ hk)) (Nat.le_refl _))
  clear h hl1 sp im
  go_enter Try.func4, Try.ntmps4
  go_wp2_with fail
  refine (szChain_any _ _ _ _ l _ _ H0.out (by omega) (by omega)).mono ?_
  rintro e w1 ⟨z, rfl, hz, hb1⟩
  have B1 := Lib.hid (below_box hb1)
  have CA1 := Lib.hid (CA0.out.below hb1)
  clear hb1 H0 CA0
  by_cases hz0 : z < 0
  · clear hz
    go_wp2
    go_ret
    exact ⟨rfl, B1.out⟩
  have hz' := hz.resolve_left hz0
  have hn : n ≤ 1048576 := by omega
  have HG := Lib.hid (show ∀ x ∈ l, x.log.length ≤ 1048576 from fun x hx => by have := hz'.2.2.2 x hx; have := hz'.2.1; omega)
  have MB := Lib.hid (fun k => mk_bd (s := 1) HG.out k)
  clear hz hz'
  have q0 := CA1.out.c0
  have q1 := CA1.out.c1
  go_wp2_with fail
  refine (toChain_any _ _ _ _ l _ CA1.out.wide hn HG.out).mono ?_
  rintro e w2 ⟨A2, n2, c2, rfl, hl2, hrow2, hb2⟩
  obtain rfl : n2 = n := by rw [← hl2]; exact HL.out
  have F2 := Lib.hid (hrow2.nods'.2.mono (Nat.zero_le _) (Nat.le_refl _))
  have CA2 := Lib.hid (CA1.out.below hb2)
  have B2 := Lib.hid (B1.out.trans (hb2.mono B1.out.size))
  clear hrow2 hb2 hl2 q0 q1 CA1
  go_wp2_with fail
  refine (SP.out _ _ _ _ F2.out hn HG.out).mono ?_
  rintro e w3 ⟨A3, n3, c3, rfl, hl3, hrow3, hb3⟩
  have hn3 : n3 ≤ 13 := by omega
  have HL3 := Lib.hid hl3
  have LW3 := Lib.hid (LI.new hrow3 hl3)
  have CA3 := Lib.hid (CA2.out.below hb3)
  have B3 := Lib.hid ((B2.out.trans (hb3.mono B2.out.size)))
  have a3 := CA3.out.lt
  have s3 := hb3.size
  clear hrow3 hb3 hl3 F2 CA2
  have q0 := CA3.out.c0
  have q1 := CA3.out.c1
  go_wp2_with fail
  refine (toChain_any _ _ _ _ l _ CA3.out.wide hn HG.out).mono ?_
  rintro e w4 ⟨A4, n4, c4, rfl, hl4, hrow4, hb4⟩
  obtain rfl : n4 = n2 := by rw [← hl4]; exact HL.out
  have CX4 := Lib.hid (CR.new hrow4 view)
  have CA4 := Lib.hid ((CA3.out.below hb4).alloc (.cells #[.int .i64 view, .slice A4 n4 c4] 33))
  have LW4 := Lib.hid ((LW3.out.below hb4).alloc (.cells #[.int .i64 view, .slice A4 n4 c4] 33))
  have s4 := hb4.size
  have B4 := Lib.hid (B3.out.trans (hb4.mono B3.out.size))
  clear hrow4 hb4 hl4 q0 q1 CA3 LW3
  have q0 := CX4.out.ci.c0
  have q1 := CX4.out.ci.c1
  go_wp2_with fail
  refine (IM.out _ _ _ _ CX4.out.ci.wide hn HG.out).mono ?_
  rintro e w5 ⟨A5, n5, c5, rfl, hl5, hrow5, hb5⟩
  obtain rfl : n5 = n3 := by rw [← hl5]; exact HL3.out
  have LG5 := Lib.hid (LI.new hrow5 hl5)
  have CX5 := Lib.hid (CX4.out.below hb5)
  have CA5 := Lib.hid (CA4.out.below hb5)
  have LW5 := Lib.hid (LW4.out.below hb5)
  have s5 := hb5.size
  simp only [World.size_alloc] at s5
  have B5 := Lib.hid ((B4.out.alloc B4.out.size (.cells #[.int .i64 view, .slice A4 n4 c4] 33)).trans (hb5.mono (by simp; have := B4.out.size; omega)))
  clear hrow5 hb5 hl5 q0 q1 CA4 LW4 CX4
  have hn5 : n5 ≤ 1048576 := by omega
  go_wp2_with fail
  refine (eqUpdateS_same _ _ _ _ _ l1 _ LG5.out.flat LW5.out.flat hn5).mono ?_
  rintro e w6 ⟨rfl, hb6⟩
  have LG6 := Lib.hid (LG5.out.below hb6).drew
  have CX6 := Lib.hid (CX5.out.below hb6).drew
  have CA6 := Lib.hid (CA5.out.below hb6).drew
  have LW6 := Lib.hid (LW5.out.below hb6).drew
  have s6 := hb6.size
  have B6 := Lib.hid (B5.out.trans (hb6.mono B5.out.size)).drew
  clear hb6 LG5 CX5 CA5 LW5
  have q0 : w6.cell? ⟨w.heap.size, 0, none⟩ = _ := CA6.out.c0
  have q1 : w6.cell? ⟨w.heap.size, 1, none⟩ = _ := CA6.out.c1
  have r0 : w6.cell? ⟨w4.heap.size, 0, none⟩ = _ := CX6.out.ci.c0
  have r1 : w6.cell? ⟨w4.heap.size, 1, none⟩ = _ := CX6.out.ci.c1
  go_wp2_with fail
  go_region_held3 (fun V => V.cell? ⟨w4.heap.size, 0, none⟩ = some (.int .i64 view) ∧ V.cell? ⟨w4.heap.size, 1, none⟩ = some (.slice A4 n4 c4) ∧ V.cell? ⟨w.heap.size, 0, none⟩ = some (.int .i64 view) ∧ V.cell? ⟨w.heap.size, 1, none⟩ = some (.slice A n4 c)) (go_keep)
    ((first
      | (go_at_call 16; (with_reducible refine (toChain_any _ _ _ _ l _ CA6.out.wide hn HG.out).mono ?_); rintro e w7 ⟨A7, n7, c7, rfl, hl7, hrow7, hb7⟩; obtain rfl : n7 = n4 := by rw [← hl7]; exact HL.out
         have F7 := Lib.hid (hrow7.nods'.2.mono (Nat.zero_le _) (Nat.le_refl _)); have LG7 := Lib.hid (LG6.out.below hb7); have LW7 := Lib.hid (LW6.out.below hb7); have B7 := Lib.hid (B6.out.trans (hb7.mono B6.out.size)); have ca := CA6.out.below hb7; have cx := CX6.out.below hb7; have t0 := ca.c0; have u0 := ca.c1; have t2 := cx.ci.c0; have u2 := cx.ci.c1; have CA7 := Lib.hid ca; have CX7 := Lib.hid cx; have s7 := hb7.size; clear hrow7 hb7 hl7 ca cx)
      | (go_at_call 19; (with_reducible refine (eqChain_same _ _ _ _ _ _ l _ CX7.out.ci.wide F7.out hn HG.out).mono ?_); rintro e w8 ⟨rfl, hb8⟩; have LG8 := Lib.hid (LG7.out.below hb8); have LW8 := Lib.hid (LW7.out.below hb8); have B8 := Lib.hid (B7.out.trans (hb8.mono B7.out.size)); have ca := CA7.out.below hb8; have cx := CX7.out.below hb8; have t0 := ca.c0; have u0 := ca.c1; have t2 := cx.ci.c0; have u2 := cx.ci.c1; have CA8 := Lib.hid ca; have CX8 := Lib.hid cx; have s8 := hb8.size; clear hb8 ca cx)))
  clear CA7 CX7 LG7 LW7 CA6 CX6 LG6 LW6 F7
  have q0 := CX8.out.ci.c0
  have q1 := CX8.out.ci.c1
  obtain ⟨kv, hkv⟩ : ∃ v, mk 1 l n7 = v := ⟨_, rfl⟩
  have KV := Lib.hid hkv
  have kv1 : 1 ≤ kv := by rw [← hkv]; exact (MB.out n7).1
  have kv0 : ¬ kv < 0 := by omega
  clear hkv
  go_wp2_with fail
  refine (markChain_any _ _ view _ _ _ l 1 _ CX8.out.row CX8.out.his' hn HG.out (by omega) (by omega)).mono ?_
  rintro e w9 ⟨rfl, hr9, hk9⟩
  rw [KV.out]
  have LG9 := Lib.hid (LG8.out.kept hk9 (.inr (by simp)))
  have LW9 := Lib.hid (LW8.out.kept hk9 (.inl (Nat.le_refl _)))
  have CA9 := Lib.hid (CA8.out.kept hk9 (.inl a3))
  have B9 := Lib.hid (B8.out.trans (hk9.below B3.out.size B8.out.size))
  clear hr9 hk9 q0 q1 CX8 LG8 LW8 CA8
  go_wp2_with fail
  refine (eqUpdateS_same _ _ _ _ _ l1 _ LG9.out.flat LW9.out.flat hn5).mono ?_
  rintro e w10 ⟨rfl, hb10⟩
  have LG10 := Lib.hid (LG9.out.below hb10)
  have CA10 := Lib.hid (CA9.out.below hb10)
  have LW10 := Lib.hid (LW9.out.below hb10)
  have B10 := Lib.hid (B9.out.trans (hb10.mono B9.out.size))
  clear hb10 LG9 CA9 LW9
  have e1 : ((1 + 2 * (n5 : Int) : Int) != 1 + 2 * (n5 : Int)) = false := by simp
  have e2 : ¬ (1 + 2 * (n5 : Int) < 0) := by omega
  go_wp2_with fail
  refine (markUpdateS_own _ _ n5 _ _ 1 _ LG10.out.own hn5 (by omega) (by omega)).mono ?_
  rintro e w11 ⟨rfl, ho11, hg11⟩
  have hk11 := LG10.out.keptBy (row := none) hg11
  have LG11 := Lib.hid (LG10.out.mark ho11 hg11)
  have LW11 := Lib.hid (LW10.out.kept hk11 (.inl (by simp; omega)))
  have CA11 := Lib.hid (CA10.out.kept hk11 (.inl (by have := B4.out.size; simp; omega)))
  have B11 := Lib.hid (B10.out.trans (hk11.below (by have := B4.out.size; simp; omega) B10.out.size))
  clear ho11 hg11 hk11 LG10 LW10 CA10
  go_wp2_with fail
  refine (heldUpdateS_marks _ n5 _ 1 _ LG11.out.flat hn5 (by omega) (by omega)).mono ?_
  rintro e w12 ⟨rfl, hb12⟩
  have LG12 := Lib.hid (LG11.out.below hb12)
  have CA12 := Lib.hid (CA11.out.below hb12)
  have LW12 := Lib.hid (LW11.out.below hb12)
  have B12 := Lib.hid (B11.out.trans (hb12.mono B11.out.size))
  clear hb12 LG11 CA11 LW11
  have q0 := CA12.out.c0
  have q1 := CA12.out.c1
  go_wp2_with fail
  refine (toChain_any _ _ _ _ l _ CA12.out.wide hn HG.out).mono ?_
  rintro e w13 ⟨A13, n13, c13, rfl, hl13, hrow13, hb13⟩
  obtain rfl : n13 = n7 := by rw [← hl13]; exact HL.out
  have F13 := Lib.hid (hrow13.nods'.2.mono (Nat.zero_le _) (Nat.le_refl _))
  have LG13 := Lib.hid (LG12.out.below hb13)
  have LW13 := Lib.hid (LW12.out.below hb13)
  have B13 := Lib.hid (B12.out.trans (hb13.mono B12.out.size))
  clear hrow13 hb13 hl13 q0 q1 LG12 CA12 LW12
  go_wp2_with fail
  refine (IM.out _ _ _ _ F13.out hn HG.out).mono ?_
  rintro e w14 ⟨A14, n14, c14, rfl, hl14, hrow14, hb14⟩
  obtain rfl : n14 = n5 := by rw [← hl14]; exact HL3.out
  have LH14 := Lib.hid (LI.new hrow14 hl14)
  have LG14 := Lib.hid (LG13.out.below hb14)
  have LW14 := Lib.hid (LW13.out.below hb14)
  have B14 := Lib.hid (B13.out.trans (hb14.mono B13.out.size))
  clear hrow14 hb14 hl14 LG13 LW13 F13
  go_wp2_with fail
  refine (eqUpdateS_same _ _ _ _ _ l1 _ LH14.out.flat LW14.out.flat hn5).mono ?_
  rintro e w15 ⟨rfl, hb15⟩
  have LG15 := Lib.hid (LG14.out.below hb15)
  have B15 := Lib.hid (B14.out.trans (hb15.mono B14.out.size))
  clear hb15 LG14 LW14 LH14
  go_wp2_with fail
  refine (heldUpdateS_marks _ n14 _ 1 _ LG15.out.flat hn5 (by omega) (by omega)).mono ?_
  rintro e w16 ⟨rfl, hb16⟩
  have B16 := Lib.hid (B15.out.trans (hb16.mono B15.out.size))
  clear hb16
  go_wp2_with fail
  go_ret
  exact ⟨rfl, B16.out⟩
end Go.Proofs.Ytnbakpdphfdacaa
