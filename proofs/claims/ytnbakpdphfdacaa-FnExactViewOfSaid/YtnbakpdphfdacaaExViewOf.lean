/- 'laws.FnExactViewOf': the walk of the law: it returns true, and writes nothing that was there. -/
import Derived.Test.YtnbakpdphfdacaaMarkI
import Derived.Test.YtnbakpdphfdacaaEx
import Derived.Deep.RegionHeld3
namespace Go.Proofs.Ytnbakpdphfdacaa
open Go.RowKit
set_option linter.unusedVariables false
set_option linter.unusedSimpArgs false

/-- a view in a block, its ids in a block of the call's own below hi -/
structure VI (W : World) (lo hi box : Nat) (num : Int) (A : Option Addr) (n c : Nat) (l : List Int) : Prop where
  blk : Blk W box #[.int .i64 num, .slice A n c] 28
  own : W.ownsRow lo 3 1 (.slice A n c) n (l.flatMap encInt)
  len : l.length = n
  top : ∀ g, (Value.slice A n c).ownBlock = some g → g < hi
  his : hi ≤ box
section
variable {W W' : World} {lo hi box : Nat} {num : Int} {A : Option Addr} {n c : Nat} {l : List Int}
theorem VI.new (h : W.ownsRow lo 3 1 (.slice A n c) n (l.flatMap encInt)) (hl : l.length = n) (num : Int) : VI (W.alloc (.cells #[.int .i64 num, .slice A n c] 28)) lo W.heap.size W.heap.size num A n c l :=
  ⟨Blk.new W _ _, h.alloc _, hl, fun g e => (h.lt g e).2, Nat.le_refl _⟩
theorem VI.lt (h : VI W lo hi box num A n c l) : box < W.heap.size := h.blk.lt
theorem VI.below (h : VI W lo hi box num A n c l) (hb : Below W.heap.size W W') : VI W' lo hi box num A n c l :=
  ⟨h.blk.below hb, own_keep h.own (fun g e => hb.block g (by have := h.top g e; have := h.his; have := h.lt; omega)), h.len, h.top, h.his⟩
theorem VI.alloc (h : VI W lo hi box num A n c l) (o : Obj) : VI (W.alloc o) lo hi box num A n c l := h.below ((Below.refl _ _).alloc (Nat.le_refl _) _)
theorem VI.drew (h : VI W lo hi box num A n c l) : VI W.drew lo hi box num A n c l := h.below (Below.refl _ _).drew
theorem VI.kept {lo' hi' : Nat} (h : VI W lo hi box num A n c l) (hk : Kept lo' hi' W W') (hd : box < lo' ∨ hi' ≤ lo ∧ hi' ≤ box) : VI W' lo hi box num A n c l :=
  ⟨(hk.2.2.2.2 box h.lt (by omega)).trans h.blk, own_keep h.own (fun g e => hk.2.2.2.2 g (by have := h.top g e; have := h.his; have := h.lt; omega) (by have := h.top g e; have := h.his; have := (h.own.lt g e).1; omega)), h.len, h.top, h.his⟩
theorem VI.flat (h : VI W lo hi box num A n c l) : Flat encInt 1 W 0 W.heap.size A n c l := (own_flat' encInt_len h.own h.len).mono (Nat.zero_le _) (Nat.le_refl _)
theorem VI.keptBy (h : VI W lo hi box num A n c l) (hg : W.grownBy W' (Value.slice A n c).ownBlock) : Kept lo hi W W' :=
  (Kept.refl lo hi W).grown hg (fun g e => ⟨(h.own.lt g e).1, h.top g e⟩)
theorem VI.mark {s : Int} (h : VI W lo hi box num A n c l) (ho : W'.ownsRow lo 3 1 (.slice A n c) n ((marksI s n).flatMap encInt)) (hg : W.grownBy W' (Value.slice A n c).ownBlock) : VI W' lo hi box num A n c (marksI s n) :=
  ⟨((VI.keptBy h hg).2.2.2.2 box h.lt (by have := h.his; omega)).trans h.blk, ho, marksI_length _ _, h.top, h.his⟩
theorem VI.c0 (h : VI W lo hi box num A n c l) : W.cell? ⟨box, 0, none⟩ = some (.int .i64 num) := h.blk.cell rfl
theorem VI.c1 (h : VI W lo hi box num A n c l) : W.cell? ⟨box, 1, none⟩ = some (.slice A n c) := h.blk.cell rfl
end
theorem ids_small (v : Int) (l : List Nod) : (if chainOk v l then idsOf l else []).length ≤ 5 := by
  by_cases h : chainOk v l = true
  · rw [if_pos h]; have := (good_iff.1 h).2.2.2.1; simp [idsOf]; omega
  · rw [if_neg h]; simp

set_option maxHeartbeats 4000000 in
theorem exViewOf_walk (view : Int) (A : Option Addr) (n c : Nat) (l : List Nod) (w : World) (h : Nods w 0 w.heap.size A n c l) :
    Calls Try.prog 3 #[.agg #[.int .i64 view, .slice A n c]] w fun e w' => e = .returned (.bool true) ∧ Below w.heap.size w w' := by
  have hl5 := ids_small view l
  have sp : ∀ (W : World) (A : Option Addr) (n c : Nat), Nods W 0 W.heap.size A n c l → n ≤ 1048576 → (∀ x ∈ l, x.log.length ≤ 1048576) → Calls Try.prog 15 #[.agg #[.int .i64 view, .slice A n c]] W (ViewRes W (if chainOk view l then view else 0) (if chainOk view l then idsOf l else []) (chainOk view l)) := fun W A n c h hn hg => specViewOf_any view A n c l W h hn hg
  have im : ∀ (W : World) (A : Option Addr) (n c : Nat), Nods W 0 W.heap.size A n c l → n ≤ 1048576 → (∀ x ∈ l, x.log.length ≤ 1048576) → Calls Try.prog 17 #[.agg #[.int .i64 view, .slice A n c]] W (ViewRes W (if chainOk view l then view else 0) (if chainOk view l then idsOf l else []) (chainOk view l)) := fun W A n c h hn hg => viewOf_any view A n c l W h hn hg
  obtain ⟨l1, hl1⟩ : ∃ v, (if chainOk view l then idsOf l else []) = v := ⟨_, rfl⟩
  obtain ⟨v1, hv1⟩ : ∃ v, (if chainOk view l then view else 0) = v := ⟨_, rfl⟩
  obtain ⟨t1, ht1⟩ : ∃ v, chainOk view l = v := ⟨_, rfl⟩
  rw [hl1] at hl5
  rw [hl1, hv1, ht1] at sp im
  have SP := Lib.hid sp
  have IM := Lib.hid im
  have tt : (t1 != t1) = false := by simp
  have HL := Lib.hid h.len
  have H0 := Lib.hid (h.box (.cells #[.int .i64 view, .slice A n c] 24))
  have CA0 := Lib.hid (CI.mk (Blk.new w #[.int .i64 view, .slice A n c] 24) (h.keep (w' := w.alloc (.cells #[.int .i64 view, .slice A n c] 24)) (fun _ _ hk => Below.heap_alloc _ _ _ hk)) (Nat.le_refl _))
  clear h hl1 hv1 ht1 sp im
  go_enter Try.func3, Try.ntmps3
  go_wp2_with fail
  refine (szChain_any _ _ _ _ l _ _ H0.out (by omega) (by omega)).mono ?_
  rintro e w1 ⟨z, rfl, hz, hb1⟩
  have B1 := Lib.hid (below_box hb1)
  have CA1 := Lib.hid (CA0.out.below hb1)
  clear hb1 H0 CA0
  by_cases hz0 : z < 0
  · clear hz
    go_wp2
    go_ret
    exact ⟨rfl, B1.out⟩
  have hz' := hz.resolve_left hz0
  have hn : n ≤ 1048576 := by omega
  have HG := Lib.hid (show ∀ x ∈ l, x.log.length ≤ 1048576 from fun x hx => by have := hz'.2.2.2 x hx; have := hz'.2.1; omega)
  have MB := Lib.hid (fun k => mk_bd (s := 1) HG.out k)
  clear hz hz'
  have q0 := CA1.out.c0
  have q1 := CA1.out.c1
  go_wp2_with fail
  refine (toChain_any _ _ _ _ l _ CA1.out.wide hn HG.out).mono ?_
  rintro e w2 ⟨A2, n2, c2, rfl, hl2, hrow2, hb2⟩
  obtain rfl : n2 = n := by rw [← hl2]; exact HL.out
  have F2 := Lib.hid (hrow2.nods'.2.mono (Nat.zero_le _) (Nat.le_refl _))
  have CA2 := Lib.hid (CA1.out.below hb2)
  have B2 := Lib.hid (B1.out.trans (hb2.mono B1.out.size))
  clear hrow2 hb2 hl2 q0 q1 CA1
  go_wp2_with fail
  refine (SP.out _ _ _ _ F2.out hn HG.out).mono ?_
  rintro e w3 ⟨A3, n3, c3, rfl, hl3, hrow3, hb3⟩
  have hn3 : n3 ≤ 5 := by omega
  have HL3 := Lib.hid hl3
  have VW3 := Lib.hid (VI.new hrow3 hl3 v1)
  have CA3 := Lib.hid ((CA2.out.below hb3).alloc (.cells #[.int .i64 v1, .slice A3 n3 c3] 28))
  have B3 := Lib.hid ((B2.out.trans (hb3.mono B2.out.size)))
  have s3 := hb3.size
  clear hrow3 hb3 hl3 F2 CA2
  have q0 := CA3.out.c0
  have q1 := CA3.out.c1
  go_wp2_with fail
  refine (toChain_any _ _ _ _ l _ CA3.out.wide hn HG.out).mono ?_
  rintro e w4 ⟨A4, n4, c4, rfl, hl4, hrow4, hb4⟩
  obtain rfl : n4 = n2 := by rw [← hl4]; exact HL.out
  have CX4 := Lib.hid (CR.new hrow4 view)
  have CA4 := Lib.hid ((CA3.out.below hb4).alloc (.cells #[.int .i64 view, .slice A4 n4 c4] 33))
  have VW4 := Lib.hid ((VW3.out.below hb4).alloc (.cells #[.int .i64 view, .slice A4 n4 c4] 33))
  have s4 := hb4.size
  simp only [World.size_alloc] at s4
  have B4 := Lib.hid (((B3.out.alloc B3.out.size (.cells #[.int .i64 v1, .slice A3 n3 c3] 28)).trans (hb4.mono (by simp; have := B3.out.size; omega))))
  clear hrow4 hb4 hl4 q0 q1 CA3 VW3
  have q0 := CX4.out.ci.c0
  have q1 := CX4.out.ci.c1
  go_wp2_with fail
  refine (IM.out _ _ _ _ CX4.out.ci.wide hn HG.out).mono ?_
  rintro e w5 ⟨A5, n5, c5, rfl, hl5, hrow5, hb5⟩
  obtain rfl : n5 = n3 := by rw [← hl5]; exact HL3.out
  have VG5 := Lib.hid (VI.new hrow5 hl5 v1)
  have CX5 := Lib.hid ((CX4.out.below hb5).alloc (.cells #[.int .i64 v1, .slice A5 n5 c5] 28))
  have CA5 := Lib.hid ((CA4.out.below hb5).alloc (.cells #[.int .i64 v1, .slice A5 n5 c5] 28))
  have VW5 := Lib.hid ((VW4.out.below hb5).alloc (.cells #[.int .i64 v1, .slice A5 n5 c5] 28))
  have s5 := hb5.size
  simp only [World.size_alloc] at s5
  have B5 := Lib.hid (((B4.out.alloc B4.out.size (.cells #[.int .i64 view, .slice A4 n4 c4] 33)).trans (hb5.mono (by simp; have := B4.out.size; omega))).alloc (by have := B4.out.size; omega) (.cells #[.int .i64 v1, .slice A5 n5 c5] 28))
  clear hrow5 hb5 hl5 q0 q1 CA4 VW4 CX4
  have q0 := VG5.out.c0
  have q1 := VG5.out.c1
  have r0 := VW5.out.c0
  have r1 := VW5.out.c1
  have hn5 : n5 ≤ 1048576 := by omega
  go_wp2_with fail
  refine (eqView_same v1 _ _ _ _ _ l1 _ VG5.out.flat VW5.out.flat hn5).mono ?_
  rintro e w6 ⟨rfl, hb6⟩
  have VG6 := Lib.hid (VG5.out.below hb6).drew
  have CX6 := Lib.hid (CX5.out.below hb6).drew
  have CA6 := Lib.hid (CA5.out.below hb6).drew
  have VW6 := Lib.hid (VW5.out.below hb6).drew
  have s6 := hb6.size
  simp only [World.size_alloc] at s6
  have B6 := Lib.hid (B5.out.trans (hb6.mono (by have := B5.out.size; omega))).drew
  clear hb6 q0 q1 r0 r1 VG5 CX5 CA5 VW5
  have q0 : w6.cell? ⟨w.heap.size, 0, none⟩ = _ := CA6.out.c0
  have q1 : w6.cell? ⟨w.heap.size, 1, none⟩ = _ := CA6.out.c1
  have r0 : w6.cell? ⟨w4.heap.size, 0, none⟩ = _ := CX6.out.ci.c0
  have r1 : w6.cell? ⟨w4.heap.size, 1, none⟩ = _ := CX6.out.ci.c1
  go_wp2_with fail
  go_region_held3 (fun V => V.cell? ⟨w4.heap.size, 0, none⟩ = some (.int .i64 view) ∧ V.cell? ⟨w4.heap.size, 1, none⟩ = some (.slice A4 n4 c4) ∧ V.cell? ⟨w.heap.size, 0, none⟩ = some (.int .i64 view) ∧ V.cell? ⟨w.heap.size, 1, none⟩ = some (.slice A n4 c)) (go_keep)
    ((first
      | (go_at_call 16; (with_reducible refine (toChain_any _ _ _ _ l _ CA6.out.wide hn HG.out).mono ?_); rintro e w7 ⟨A7, n7, c7, rfl, hl7, hrow7, hb7⟩; obtain rfl : n7 = n4 := by rw [← hl7]; exact HL.out
         have F7 := Lib.hid (hrow7.nods'.2.mono (Nat.zero_le _) (Nat.le_refl _)); have VG7 := Lib.hid (VG6.out.below hb7); have VW7 := Lib.hid (VW6.out.below hb7); have B7 := Lib.hid (B6.out.trans (hb7.mono B6.out.size)); have ca := CA6.out.below hb7; have cx := CX6.out.below hb7; have t0 := ca.c0; have u0 := ca.c1; have t2 := cx.ci.c0; have u2 := cx.ci.c1; have CA7 := Lib.hid ca; have CX7 := Lib.hid cx; have s7 := hb7.size; clear hrow7 hb7 hl7 ca cx)
      | (go_at_call 19; (with_reducible refine (eqChain_same _ _ _ _ _ _ l _ CX7.out.ci.wide F7.out hn HG.out).mono ?_); rintro e w8 ⟨rfl, hb8⟩; have VG8 := Lib.hid (VG7.out.below hb8); have VW8 := Lib.hid (VW7.out.below hb8); have B8 := Lib.hid (B7.out.trans (hb8.mono B7.out.size)); have ca := CA7.out.below hb8; have cx := CX7.out.below hb8; have t0 := ca.c0; have u0 := ca.c1; have t2 := cx.ci.c0; have u2 := cx.ci.c1; have CA8 := Lib.hid ca; have CX8 := Lib.hid cx; have s8 := hb8.size; clear hb8 ca cx)))
  clear CA7 CX7 VG7 VW7 CA6 CX6 VG6 VW6 F7
  have q0 := CX8.out.ci.c0
  have q1 := CX8.out.ci.c1
  obtain ⟨kv, hkv⟩ : ∃ v, mk 1 l n7 = v := ⟨_, rfl⟩
  have KV := Lib.hid hkv
  have kv1 : 1 ≤ kv := by rw [← hkv]; exact (MB.out n7).1
  have kv0 : ¬ kv < 0 := by omega
  clear hkv
  go_wp2_with fail
  refine (markChain_any _ _ view _ _ _ l 1 _ CX8.out.row CX8.out.his' hn HG.out (by omega) (by omega)).mono ?_
  rintro e w9 ⟨rfl, hr9, hk9⟩
  rw [KV.out]
  have VG9 := Lib.hid (VG8.out.kept hk9 (.inr ⟨by simp, by omega⟩))
  have VW9 := Lib.hid (VW8.out.kept hk9 (.inl (by simp)))
  have CA9 := Lib.hid (CA8.out.kept hk9 (.inl (by have := B3.out.size; simp; omega)))
  have B9 := Lib.hid (B8.out.trans (hk9.below (by have := B3.out.size; simp; omega) B8.out.size))
  clear hr9 hk9 q0 q1 CX8 VG8 VW8 CA8
  have q0 := VG9.out.c0
  have q1 := VG9.out.c1
  have r0 := VW9.out.c0
  have r1 := VW9.out.c1
  go_wp2_with fail
  refine (eqView_same v1 _ _ _ _ _ l1 _ VG9.out.flat VW9.out.flat hn5).mono ?_
  rintro e w10 ⟨rfl, hb10⟩
  have VG10 := Lib.hid (VG9.out.below hb10)
  have CA10 := Lib.hid (CA9.out.below hb10)
  have VW10 := Lib.hid (VW9.out.below hb10)
  have B10 := Lib.hid (B9.out.trans (hb10.mono B9.out.size))
  clear hb10 q0 q1 r0 r1 VG9 CA9 VW9
  have q0 := VG10.out.c0
  have q1 := VG10.out.c1
  have mv0 : ¬ (1 + (n5 : Int)) < 0 := by omega
  have mvv : ((1 + (n5 : Int) : Int) != 1 + (n5 : Int)) = false := by simp
  go_wp2_with fail
  refine (markView_own v1 _ _ n5 _ _ 1 _ VG10.out.own hn5 (by omega) (by omega)).mono ?_
  rintro e w11 ⟨rfl, ho11, hg11⟩
  have hk11 := VG10.out.keptBy hg11
  have VG11 := Lib.hid (VG10.out.mark ho11 hg11)
  have VW11 := Lib.hid (VW10.out.kept hk11 (.inl (by simp; omega)))
  have CA11 := Lib.hid (CA10.out.kept hk11 (.inl (by have := B4.out.size; simp; omega)))
  have B11 := Lib.hid (B10.out.trans (hk11.below (by have := B4.out.size; simp; omega) B10.out.size))
  clear ho11 hg11 hk11 q0 q1 VG10 VW10 CA10
  have q0 := VG11.out.c0
  have q1 := VG11.out.c1
  go_wp2_with fail
  refine (heldView_marks v1 _ n5 _ 1 _ VG11.out.flat hn5 (by omega) (by omega)).mono ?_
  rintro e w12 ⟨rfl, hb12⟩
  have VG12 := Lib.hid (VG11.out.below hb12)
  have CA12 := Lib.hid (CA11.out.below hb12)
  have VW12 := Lib.hid (VW11.out.below hb12)
  have B12 := Lib.hid (B11.out.trans (hb12.mono B11.out.size))
  clear hb12 q0 q1 VG11 CA11 VW11
  have q0 := CA12.out.c0
  have q1 := CA12.out.c1
  go_wp2_with fail
  refine (toChain_any _ _ _ _ l _ CA12.out.wide hn HG.out).mono ?_
  rintro e w13 ⟨A13, n13, c13, rfl, hl13, hrow13, hb13⟩
  obtain rfl : n13 = n7 := by rw [← hl13]; exact HL.out
  have F13 := Lib.hid (hrow13.nods'.2.mono (Nat.zero_le _) (Nat.le_refl _))
  have VG13 := Lib.hid (VG12.out.below hb13)
  have VW13 := Lib.hid (VW12.out.below hb13)
  have B13 := Lib.hid (B12.out.trans (hb13.mono B12.out.size))
  clear hrow13 hb13 hl13 q0 q1 VG12 CA12 VW12
  go_wp2_with fail
  refine (IM.out _ _ _ _ F13.out hn HG.out).mono ?_
  rintro e w14 ⟨A14, n14, c14, rfl, hl14, hrow14, hb14⟩
  obtain rfl : n14 = n5 := by rw [← hl14]; exact HL3.out
  have VH14 := Lib.hid (VI.new hrow14 hl14 v1)
  have VG14 := Lib.hid ((VG13.out.below hb14).alloc (.cells #[.int .i64 v1, .slice A14 n14 c14] 28))
  have VW14 := Lib.hid ((VW13.out.below hb14).alloc (.cells #[.int .i64 v1, .slice A14 n14 c14] 28))
  have B14 := Lib.hid ((B13.out.trans (hb14.mono B13.out.size)).alloc (by have := B13.out.size; have := hb14.size; omega) (.cells #[.int .i64 v1, .slice A14 n14 c14] 28))
  clear hrow14 hb14 hl14 VG13 VW13 F13
  have q0 := VH14.out.c0
  have q1 := VH14.out.c1
  have r0 := VW14.out.c0
  have r1 := VW14.out.c1
  go_wp2_with fail
  refine (eqView_same v1 _ _ _ _ _ l1 _ VH14.out.flat VW14.out.flat hn5).mono ?_
  rintro e w15 ⟨rfl, hb15⟩
  have VG15 := Lib.hid (VG14.out.below hb15)
  have B15 := Lib.hid (B14.out.trans (hb15.mono B14.out.size))
  clear hb15 q0 q1 r0 r1 VG14 VW14 VH14
  have q0 := VG15.out.c0
  have q1 := VG15.out.c1
  go_wp2_with fail
  refine (heldView_marks v1 _ n14 _ 1 _ VG15.out.flat hn5 (by omega) (by omega)).mono ?_
  rintro e w16 ⟨rfl, hb16⟩
  have B16 := Lib.hid (B15.out.trans (hb16.mono B15.out.size))
  clear hb16
  go_wp2_with fail
  go_ret
  exact ⟨rfl, B16.out⟩
end Go.Proofs.Ytnbakpdphfdacaa
