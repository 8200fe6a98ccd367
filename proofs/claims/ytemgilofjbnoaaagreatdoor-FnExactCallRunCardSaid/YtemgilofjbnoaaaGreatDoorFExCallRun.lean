/- The tied card 'Rows.FnExactCallRunCardSaid', out of the row's statement 'Rows.FnExactCallRunSaid': the law returns true for every input, on every tape, free of races, and each argument reads behind the call as it read before; the variable errTake laid. The walk is exCallRun_walkK; here it is carried from the model over to the true program and lifted into the given row. -/
import Derived.Deep.RegionHeld3
import Derived.Test.YtemgilofjbnoaaaGreatDoorWQ1
import Derived.Test.YtemgilofjbnoaaaGreatDoorWQ2
import Derived.Test.YtemgilofjbnoaaaGreatDoorWE1
import Derived.Test.YtemgilofjbnoaaaGreatDoorWB1
import Derived.Test.YtemgilofjbnoaaaGreatDoorWL1
import Derived.Test.YtemgilofjbnoaaaGreatDoorWB4
set_option linter.unusedSimpArgs false
set_option linter.unusedVariables false
namespace Go.Proofs.YtemgilofjbnoaaaGreatDoor
open Go Go.RowKit
set_option linter.unusedVariables false
set_option linter.unusedSimpArgs false
theorem optCall_ok {view v1 : Int} {l l1 : List Nod} {ks r1 : List Cll} {x : Cll} {o : Option ((Int × List Nod) × List Cll)} (ho : callM view l ks x = o) (h1 : o.getD ((0, []), []) = ((v1, l1), r1)) : (l1.length ≤ 5 ∧ ∀ x ∈ l1, x.log.length ≤ 13) ∧ r1.length ≤ 6 := by
  cases o with
  | none => injection h1 with e1 e3; injection e1 with e1 e2; subst e2; subst e3; exact ⟨⟨by simp, fun x hx => by cases hx⟩, by simp⟩
  | some p =>
    obtain ⟨⟨v', l'⟩, r'⟩ := p
    injection h1 with e1 e3; injection e1 with e1 e2; subst e1; subst e2; subst e3
    exact ⟨good_ok (call_good ho), ((callsOk_iff _).1 (call_calls ho)).1⟩
set_option maxRecDepth 100000 in
set_option maxHeartbeats 16000000 in
theorem exCallRun_walk (a : Addr) (view : Int) (A : Option Addr) (n c : Nat) (l : List Nod) (B : Option Addr) (m d : Nat) (ks : List Cll) (x : Cll) (w : World) (he : ErrAt a w) (h : Nods w 0 w.heap.size A n c l) (hf : Flat Cll.enc 4 w 0 w.heap.size B m d ks) :
    Calls Mo.prog 5 #[.agg #[.int .i64 view, .slice A n c], .slice B m d, .agg #[.int .i64 x.client, .int .i64 x.number, .int .i64 x.what.key, .int .i64 x.what.value]] w fun e w' => e = .returned (.bool true) ∧ Below w.heap.size w w' := by
  obtain ⟨o, ho⟩ : ∃ o, callM view l ks x = o := ⟨_, rfl⟩
  obtain ⟨v1, hv1⟩ : ∃ v, (o.getD ((0, []), [])).1.1 = v := ⟨_, rfl⟩
  obtain ⟨l1, hl1⟩ : ∃ v, (o.getD ((0, []), [])).1.2 = v := ⟨_, rfl⟩
  obtain ⟨r1, hr1⟩ : ∃ v, (o.getD ((0, []), [])).2 = v := ⟨_, rfl⟩
  obtain ⟨t1, ht1⟩ : ∃ v, o.isSome = v := ⟨_, rfl⟩
  have hp : o.getD ((0, []), []) = ((v1, l1), r1) := by rw [← hv1, ← hl1, ← hr1]
  obtain ⟨gg, hr6⟩ := optCall_ok ho hp
  have HG1 := Lib.hid (show ∀ x ∈ l1, x.log.length ≤ 1048576 from fun x hx => by have := gg.2 x hx; omega)
  have hl5 := gg.1
  have sp : ∀ (W : World) (A : Option Addr) (n c : Nat) (B : Option Addr) (m d : Nat), Nods W 0 W.heap.size A n c l → Flat Cll.enc 4 W 0 W.heap.size B m d ks → n ≤ 1048576 → (∀ x ∈ l, x.log.length ≤ 1048576) → m ≤ 1048576 → Calls Mo.prog 11 #[.agg #[.int .i64 view, .slice A n c], .slice B m d, .agg #[.int .i64 x.client, .int .i64 x.number, .int .i64 x.what.key, .int .i64 x.what.value]] W (ResC W v1 l1 r1 t1) := fun W A n c B m d h hf hn hg hm =>
    (specCallRun_any view A n c l B m d ks x W h hf hn hg hm).mono (fun e w' hq => CallRes.at1 (by rw [ho] at hq; exact hq) hp ht1)
  have im2 : ∀ (W : World) (_ : ErrAt a W) (A : Option Addr) (n c : Nat) (B : Option Addr) (m d : Nat), Nods W 0 W.heap.size A n c l → Flat Cll.enc 4 W 0 W.heap.size B m d ks → n ≤ 1048576 → (∀ x ∈ l, x.log.length ≤ 1048576) → m ≤ 1048576 → Calls Mo.prog 10 #[.agg #[.int .i64 view, .slice A n c], .slice B m d, .agg #[.int .i64 x.client, .int .i64 x.number, .int .i64 x.what.key, .int .i64 x.what.value]] W (ResC2 W v1 l1 r1 t1) := fun W he A n c B m d h hf hn hg hm =>
    (callRun_at a view A n c l B m d ks x W he h hf hn hg hm).mono (fun e w' hq => CallRes2.at2 (by rw [ho] at hq; exact hq) hp ht1)
  have im : ∀ (W : World) (_ : ErrAt a W) (A : Option Addr) (n c : Nat) (B : Option Addr) (m d : Nat), Nods W 0 W.heap.size A n c l → Flat Cll.enc 4 W 0 W.heap.size B m d ks → n ≤ 1048576 → (∀ x ∈ l, x.log.length ≤ 1048576) → m ≤ 1048576 → Calls Mo.prog 10 #[.agg #[.int .i64 view, .slice A n c], .slice B m d, .agg #[.int .i64 x.client, .int .i64 x.number, .int .i64 x.what.key, .int .i64 x.what.value]] W (ResC W v1 l1 r1 t1) := fun W he A n c B m d h hf hn hg hm =>
    (callRun_any a view A n c l B m d ks x W he h hf hn hg hm).mono (fun e w' hq => CallRes.at1 (by rw [ho] at hq; exact hq) hp ht1)
  have SP := Lib.hid sp
  have IM := Lib.hid im
  have IM2 := Lib.hid im2
  have tt : (t1 != t1) = false := by simp
  have MB1 := Lib.hid (fun k => mk_bd (s := 1) HG1.out k)
  have HL := Lib.hid h.len
  have HM := Lib.hid hf.len
  have H := Lib.hid h
  have HF := Lib.hid hf
  have hmx : m ≤ 9223372036854775807 := by have := hf.2.1; have := hf.2.2.1; unfold maxLen at *; omega
  have H0 := Lib.hid ((h.box (.cells #[.int .i64 view, .slice A n c] 44)).box (.cells #[.int .i64 x.client, .int .i64 x.number, .int .i64 x.what.key, .int .i64 x.what.value] 48))
  have HE := Lib.hid he
  have UU0 := Lib.hid (show Blk ((w.alloc (.cells #[.int .i64 view, .slice A n c] 44)).alloc (.cells #[.int .i64 x.client, .int .i64 x.number, .int .i64 x.what.key, .int .i64 x.what.value] 48)) (w.heap.size + 1) #[.int .i64 x.client, .int .i64 x.number, .int .i64 x.what.key, .int .i64 x.what.value] 48 from by
    have h := Blk.new (w.alloc (.cells #[.int .i64 view, .slice A n c] 44)) #[.int .i64 x.client, .int .i64 x.number, .int .i64 x.what.key, .int .i64 x.what.value] 48
    rwa [World.size_alloc] at h)
  have CA0 := Lib.hid ((CI.mk (Blk.new w #[.int .i64 view, .slice A n c] 44) (h.keep (w' := w.alloc (.cells #[.int .i64 view, .slice A n c] 44)) (fun _ _ hk => Below.heap_alloc _ _ _ hk)) (Nat.le_refl _)).alloc (.cells #[.int .i64 x.client, .int .i64 x.number, .int .i64 x.what.key, .int .i64 x.what.value] 48))
  obtain ⟨nn, hnn⟩ : ∃ k, l1.length = k := ⟨_, rfl⟩
  have NN := Lib.hid hnn
  have hnn5 : nn ≤ 5 := by omega
  obtain ⟨mm, hmm⟩ : ∃ k, r1.length = k := ⟨_, rfl⟩
  have MM := Lib.hid hmm
  have hmm6 : mm ≤ 6 := by omega
  clear hnn hmm h hf he ho hv1 hl1 hr1 ht1 hp gg hr6 hl5 sp im im2
  go_enter Mo.func5, Tryz.ntmps5
  go_wp2_with fail
  refine (szChain_any _ _ _ _ l _ _ H0.out (by omega) (by omega)).mono ?_
  rintro e w1 ⟨z, rfl, hz, hb1⟩
  have BT := Lib.hid (below_box (below_box hb1))
  have CA := Lib.hid (CA0.out.below hb1)
  have UU := Lib.hid (UU0.out.below hb1)
  clear hb1 H0 CA0 UU0
  by_cases hz0 : z < 0
  · clear hz
    go_wp2
    go_ret
    exact ⟨rfl, BT.out⟩
  have hz' := hz.resolve_left hz0
  have hn : n ≤ 1048576 := by omega
  have HG := Lib.hid (show ∀ x ∈ l, x.log.length ≤ 1048576 from fun x hx => by have := hz'.2.2.2 x hx; have := hz'.2.1; omega)
  have MB := Lib.hid (fun k => mk_bd (s := 1) HG.out k)
  have hz2 : 0 ≤ z := hz'.1
  have hz3 : z ≤ 1048576 := hz'.2.1
  clear hz hz'
  go_wp2_with fail
  refine (szCallS_any _ _ _ _ _ hz2 hz3 hmx).mono ?_
  rintro e w1' ⟨rfl, rfl⟩
  by_cases hmz : (m : Int) ≤ z
  case neg =>
    rw [if_neg hmz]
    go_wp2
    go_ret
    exact ⟨rfl, BT.out⟩
  rw [if_pos hmz]
  have hm : m ≤ 1048576 := by omega
  have hzm : ¬ z - (m : Int) < 0 := by omega
  have FW := Lib.hid CA.out.wide
  have q0 := CA.out.c0
  have q1 := CA.out.c1
  have p0 := UU.out.cell (i := 0) (v := .int .i64 x.client) rfl
  have p1 := UU.out.cell (i := 1) (v := .int .i64 x.number) rfl
  have p2 := UU.out.cell (i := 2) (v := .int .i64 x.what.key) rfl
  have p3 := UU.out.cell (i := 3) (v := .int .i64 x.what.value) rfl
  have GI := Lib.hid ((HF.out.below BT.out (Nat.le_refl _)).mono (Nat.zero_le _) BT.out.size)
  go_upto_region 8 with fail
  go_cut [8, 9, 10] from 32 to 43 (fun sa sb sc wq => ∃ (gn rlo rhi clo chi : Nat) (A3 : Option Addr) (c3 : Nat) (B3 : Option Addr) (d3 : Nat), sa = .pointer (some ⟨gn, 0, none⟩) ∧ sb = .slice B3 mm d3 ∧ sc = .bool t1 ∧ CQ wq w1.heap.size wq.heap.size rlo rhi gn v1 A3 nn c3 l1 ∧ CL wq clo chi B3 mm d3 r1 ∧ Below w1.heap.size w1 wq)
  case first =>
    have BD := Lib.hid (show Below w1.heap.size w1 w1.drew from (Below.refl _ _).drew)
    have BA := Lib.hid (show Below w1.heap.size w1 (w1.alloc (.cells #[.int .i64 0, .slice none 0 0] 25)).drew from ((Below.refl _ _).alloc (Nat.le_refl _) _).drew)
    have NA := Lib.hid (Blk.new w1 #[.int .i64 0, .slice none 0 0] 25).drew
    have FD := Lib.hid (show Nods w1.drew 0 w1.drew.heap.size A n c l from FW.out.on BD.out)
    have FE := Lib.hid (show Nods (w1.alloc (.cells #[.int .i64 0, .slice none 0 0] 25)).drew 0 (w1.alloc (.cells #[.int .i64 0, .slice none 0 0] 25)).drew.heap.size A n c l from FW.out.on BA.out)
    have l0 : w.heap.size < w1.heap.size := CA.out.lt
    have l2 : w.heap.size + 1 < w1.heap.size := UU.out.lt
    have e1 : w.heap.size ≠ w1.heap.size := by omega
    have e2 : w.heap.size + 1 ≠ w1.heap.size := by omega
    have e3 : w1.heap.size ≠ w.heap.size := by omega
    have e4 : w1.heap.size ≠ w.heap.size + 1 := by omega
    go_region_held3 (fun V => V.cell? ⟨w.heap.size, 0, none⟩ = some (.int .i64 view) ∧ V.cell? ⟨w.heap.size, 1, none⟩ = some (.slice A n c) ∧ V.cell? ⟨w.heap.size + 1, 0, none⟩ = some (.int .i64 x.client) ∧ V.cell? ⟨w.heap.size + 1, 1, none⟩ = some (.int .i64 x.number) ∧ V.cell? ⟨w.heap.size + 1, 2, none⟩ = some (.int .i64 x.what.key) ∧ V.cell? ⟨w.heap.size + 1, 3, none⟩ = some (.int .i64 x.what.value)) (go_keep) ((first
          | (go_at_call 19; (with_reducible refine (toChain_any _ _ _ _ l _ FE.out hn HG.out).mono ?_); rintro e wa ⟨Aa, na, ca, rfl, hla, hrowa, hba⟩; obtain rfl : na = n := by rw [← hla]; exact HL.out
             have HB1 := Lib.hid (BA.out.trans (hba.mono (by simp))); have x10 := (HB1.out.cell (p := ⟨w.heap.size, 0, none⟩) l0).trans q0; have x11 := (HB1.out.cell (p := ⟨w.heap.size, 1, none⟩) l0).trans q1; have x12 := (HB1.out.cell (p := ⟨w.heap.size + 1, 0, none⟩) l2).trans p0; have x13 := (HB1.out.cell (p := ⟨w.heap.size + 1, 1, none⟩) l2).trans p1; have x14 := (HB1.out.cell (p := ⟨w.heap.size + 1, 2, none⟩) l2).trans p2; have x15 := (HB1.out.cell (p := ⟨w.heap.size + 1, 3, none⟩) l2).trans p3; have s1 := HB1.out.size; have g11 : w.heap.size < wa.heap.size := (by omega); have g12 : w.heap.size + 1 < wa.heap.size := (by omega); have h11 : w.heap.size ≠ wa.heap.size := (by omega); have h12 : w.heap.size + 1 ≠ wa.heap.size := (by omega); have h13 : wa.heap.size ≠ w.heap.size := (by omega); have h14 : wa.heap.size ≠ w.heap.size + 1 := (by omega); have NB := Lib.hid (NA.out.below hba); have n0 := NB.out.cell (i := 0) (v := .int .i64 0) rfl; have n1 := NB.out.cell (i := 1) (v := .slice none 0 0) rfl; have z0 := NB.out.free 0; have z1 := NB.out.free 1; (try (have NL1 := NB.out.lt)); have F1 := Lib.hid (hrowa.nods'.2.mono (Nat.zero_le _) (Nat.le_refl _)); clear hrowa hba hla)
          | (go_at_call 19; (with_reducible refine (toChain_any _ _ _ _ l _ FD.out hn HG.out).mono ?_); rintro e wa ⟨Aa, na, ca, rfl, hla, hrowa, hba⟩; obtain rfl : na = n := by rw [← hla]; exact HL.out
             have HB1 := Lib.hid (BD.out.trans (hba.mono (by simp))); have x10 := (HB1.out.cell (p := ⟨w.heap.size, 0, none⟩) l0).trans q0; have x11 := (HB1.out.cell (p := ⟨w.heap.size, 1, none⟩) l0).trans q1; have x12 := (HB1.out.cell (p := ⟨w.heap.size + 1, 0, none⟩) l2).trans p0; have x13 := (HB1.out.cell (p := ⟨w.heap.size + 1, 1, none⟩) l2).trans p1; have x14 := (HB1.out.cell (p := ⟨w.heap.size + 1, 2, none⟩) l2).trans p2; have x15 := (HB1.out.cell (p := ⟨w.heap.size + 1, 3, none⟩) l2).trans p3; have s1 := HB1.out.size; have g11 : w.heap.size < wa.heap.size := (by omega); have g12 : w.heap.size + 1 < wa.heap.size := (by omega); have h11 : w.heap.size ≠ wa.heap.size := (by omega); have h12 : w.heap.size + 1 ≠ wa.heap.size := (by omega); have h13 : wa.heap.size ≠ w.heap.size := (by omega); have h14 : wa.heap.size ≠ w.heap.size + 1 := (by omega); (try (have NL1 := NB.out.lt)); have F1 := Lib.hid (hrowa.nods'.2.mono (Nat.zero_le _) (Nat.le_refl _)); clear hrowa hba hla)
          | (go_at_call 20; (with_reducible refine (toCallS_any _ _ _ ks _ ((GI.out.on HB1.out).box (.cells #[.int .i64 0, .slice none 0 0] 25)) hm).mono ?_); rintro e wb ⟨rfl, hownb, hbb⟩
             have HB2 := Lib.hid ((HB1.out.alloc HB1.out.size (.cells #[.int .i64 0, .slice none 0 0] 25)).trans (hbb.mono (by simp; omega))); have x20 := (HB2.out.cell (p := ⟨w.heap.size, 0, none⟩) l0).trans q0; have x21 := (HB2.out.cell (p := ⟨w.heap.size, 1, none⟩) l0).trans q1; have x22 := (HB2.out.cell (p := ⟨w.heap.size + 1, 0, none⟩) l2).trans p0; have x23 := (HB2.out.cell (p := ⟨w.heap.size + 1, 1, none⟩) l2).trans p1; have x24 := (HB2.out.cell (p := ⟨w.heap.size + 1, 2, none⟩) l2).trans p2; have x25 := (HB2.out.cell (p := ⟨w.heap.size + 1, 3, none⟩) l2).trans p3; have s2 := HB2.out.size; have g21 : w.heap.size < wb.heap.size := (by omega); have g22 : w.heap.size + 1 < wb.heap.size := (by omega); have h21 : w.heap.size ≠ wb.heap.size := (by omega); have h22 : w.heap.size + 1 ≠ wb.heap.size := (by omega); have h23 : wb.heap.size ≠ w.heap.size := (by omega); have h24 : wb.heap.size ≠ w.heap.size + 1 := (by omega); have NB := Lib.hid ((Blk.new wa #[.int .i64 0, .slice none 0 0] 25).below hbb); have n0 := NB.out.cell (i := 0) (v := .int .i64 0) rfl; have n1 := NB.out.cell (i := 1) (v := .slice none 0 0) rfl; have z0 := NB.out.free 0; have z1 := NB.out.free 1; (try (have NL2 := NB.out.lt)); have F2 := Lib.hid ((F1.out.box (.cells #[.int .i64 0, .slice none 0 0] 25)).on hbb); have gg := (own_flat' Cll.len hownb HM.out).mono (Nat.zero_le _) (Nat.le_refl _); (try simp only [World.size_alloc] at gg); have G2 := Lib.hid gg; clear gg hownb hbb)
          | (go_at_call 20; (with_reducible refine (toCallS_any _ _ _ ks _ (GI.out.on HB1.out) hm).mono ?_); rintro e wb ⟨rfl, hownb, hbb⟩
             have HB2 := Lib.hid (HB1.out.trans (hbb.mono HB1.out.size)); have x20 := (HB2.out.cell (p := ⟨w.heap.size, 0, none⟩) l0).trans q0; have x21 := (HB2.out.cell (p := ⟨w.heap.size, 1, none⟩) l0).trans q1; have x22 := (HB2.out.cell (p := ⟨w.heap.size + 1, 0, none⟩) l2).trans p0; have x23 := (HB2.out.cell (p := ⟨w.heap.size + 1, 1, none⟩) l2).trans p1; have x24 := (HB2.out.cell (p := ⟨w.heap.size + 1, 2, none⟩) l2).trans p2; have x25 := (HB2.out.cell (p := ⟨w.heap.size + 1, 3, none⟩) l2).trans p3; have s2 := HB2.out.size; have g21 : w.heap.size < wb.heap.size := (by omega); have g22 : w.heap.size + 1 < wb.heap.size := (by omega); have h21 : w.heap.size ≠ wb.heap.size := (by omega); have h22 : w.heap.size + 1 ≠ wb.heap.size := (by omega); have h23 : wb.heap.size ≠ w.heap.size := (by omega); have h24 : wb.heap.size ≠ w.heap.size + 1 := (by omega); (try (have nb2 := NB.out.below hbb; clear NB n0 n1 z0 z1; have NB := Lib.hid nb2; have n0 := NB.out.cell (i := 0) (v := .int .i64 0) rfl; have n1 := NB.out.cell (i := 1) (v := .slice none 0 0) rfl; have z0 := NB.out.free 0; have z1 := NB.out.free 1; clear nb2)); (try (have NL2 := NB.out.lt)); have F2 := Lib.hid (F1.out.on hbb); have gg := (own_flat' Cll.len hownb HM.out).mono (Nat.zero_le _) (Nat.le_refl _); (try simp only [World.size_alloc] at gg); have G2 := Lib.hid gg; clear gg hownb hbb)
          | (go_at_call 21; (with_reducible refine (toCall_any _ _ _ _ (wb.alloc (.cells #[.int .i64 0, .slice none 0 0] 25))).mono ?_); rintro e wc ⟨rfl, hbc⟩
             have HB3 := Lib.hid ((HB2.out.alloc HB2.out.size (.cells #[.int .i64 0, .slice none 0 0] 25)).trans (hbc.mono (by simp; omega))); have x30 := (HB3.out.cell (p := ⟨w.heap.size, 0, none⟩) l0).trans q0; have x31 := (HB3.out.cell (p := ⟨w.heap.size, 1, none⟩) l0).trans q1; have x32 := (HB3.out.cell (p := ⟨w.heap.size + 1, 0, none⟩) l2).trans p0; have x33 := (HB3.out.cell (p := ⟨w.heap.size + 1, 1, none⟩) l2).trans p1; have x34 := (HB3.out.cell (p := ⟨w.heap.size + 1, 2, none⟩) l2).trans p2; have x35 := (HB3.out.cell (p := ⟨w.heap.size + 1, 3, none⟩) l2).trans p3; have s3 := HB3.out.size; have g31 : w.heap.size < wc.heap.size := (by omega); have g32 : w.heap.size + 1 < wc.heap.size := (by omega); have h31 : w.heap.size ≠ wc.heap.size := (by omega); have h32 : w.heap.size + 1 ≠ wc.heap.size := (by omega); have h33 : wc.heap.size ≠ w.heap.size := (by omega); have h34 : wc.heap.size ≠ w.heap.size + 1 := (by omega); have NB := Lib.hid ((Blk.new wb #[.int .i64 0, .slice none 0 0] 25).below hbc); have n0 := NB.out.cell (i := 0) (v := .int .i64 0) rfl; have n1 := NB.out.cell (i := 1) (v := .slice none 0 0) rfl; have z0 := NB.out.free 0; have z1 := NB.out.free 1; (try (have NL3 := NB.out.lt)); have F3 := Lib.hid ((F2.out.box (.cells #[.int .i64 0, .slice none 0 0] 25)).on hbc); have G3 := Lib.hid (Flat.on (G2.out.box (.cells #[.int .i64 0, .slice none 0 0] 25)) hbc); clear hbc)
          | (go_at_call 21; (with_reducible refine (toCall_any _ _ _ _ wb).mono ?_); rintro e wc ⟨rfl, hbc⟩
             have HB3 := Lib.hid (HB2.out.trans (hbc.mono HB2.out.size)); have x30 := (HB3.out.cell (p := ⟨w.heap.size, 0, none⟩) l0).trans q0; have x31 := (HB3.out.cell (p := ⟨w.heap.size, 1, none⟩) l0).trans q1; have x32 := (HB3.out.cell (p := ⟨w.heap.size + 1, 0, none⟩) l2).trans p0; have x33 := (HB3.out.cell (p := ⟨w.heap.size + 1, 1, none⟩) l2).trans p1; have x34 := (HB3.out.cell (p := ⟨w.heap.size + 1, 2, none⟩) l2).trans p2; have x35 := (HB3.out.cell (p := ⟨w.heap.size + 1, 3, none⟩) l2).trans p3; have s3 := HB3.out.size; have g31 : w.heap.size < wc.heap.size := (by omega); have g32 : w.heap.size + 1 < wc.heap.size := (by omega); have h31 : w.heap.size ≠ wc.heap.size := (by omega); have h32 : w.heap.size + 1 ≠ wc.heap.size := (by omega); have h33 : wc.heap.size ≠ w.heap.size := (by omega); have h34 : wc.heap.size ≠ w.heap.size + 1 := (by omega); (try (have nb2 := NB.out.below hbc; clear NB n0 n1 z0 z1; have NB := Lib.hid nb2; have n0 := NB.out.cell (i := 0) (v := .int .i64 0) rfl; have n1 := NB.out.cell (i := 1) (v := .slice none 0 0) rfl; have z0 := NB.out.free 0; have z1 := NB.out.free 1; clear nb2)); (try (have NL3 := NB.out.lt)); have F3 := Lib.hid (F2.out.on hbc); have G3 := Lib.hid (Flat.on G2.out hbc); clear hbc)
          | (go_at_call 11; (with_reducible refine (SP.out (wc.alloc (.cells #[.int .i64 0, .slice none 0 0] 25)) _ _ _ _ _ _ (F3.out.box (.cells #[.int .i64 0, .slice none 0 0] 25)) (G3.out.box (.cells #[.int .i64 0, .slice none 0 0] 25)) hn HG.out hm).mono ?_); rintro e wz ⟨Az, nz, cz, Bz, mz, dz, rfl, hlz, hmz, hrowz, hclz, hbz⟩; obtain rfl : nz = nn := by rw [← hlz]; exact NN.out
             obtain rfl : mz = mm := by rw [← hmz]; exact MM.out
             have HB4 := Lib.hid ((HB3.out.alloc HB3.out.size (.cells #[.int .i64 0, .slice none 0 0] 25)).trans (hbz.mono (by simp; omega))); have x40 := (HB4.out.cell (p := ⟨w.heap.size, 0, none⟩) l0).trans q0; have x41 := (HB4.out.cell (p := ⟨w.heap.size, 1, none⟩) l0).trans q1; have x42 := (HB4.out.cell (p := ⟨w.heap.size + 1, 0, none⟩) l2).trans p0; have x43 := (HB4.out.cell (p := ⟨w.heap.size + 1, 1, none⟩) l2).trans p1; have x44 := (HB4.out.cell (p := ⟨w.heap.size + 1, 2, none⟩) l2).trans p2; have x45 := (HB4.out.cell (p := ⟨w.heap.size + 1, 3, none⟩) l2).trans p3; have s4 := HB4.out.size; have g41 : w.heap.size < wz.heap.size := (by omega); have g42 : w.heap.size + 1 < wz.heap.size := (by omega); have h41 : w.heap.size ≠ wz.heap.size := (by omega); have h42 : w.heap.size + 1 ≠ wz.heap.size := (by omega); have h43 : wz.heap.size ≠ w.heap.size := (by omega); have h44 : wz.heap.size ≠ w.heap.size + 1 := (by omega); have NB := Lib.hid ((Blk.new wc #[.int .i64 0, .slice none 0 0] 25).below hbz); have n0 := NB.out.cell (i := 0) (v := .int .i64 0) rfl; have n1 := NB.out.cell (i := 1) (v := .slice none 0 0) rfl; have z0 := NB.out.free 0; have z1 := NB.out.free 1; have RC := Lib.hid hrowz; have KC := Lib.hid hclz; have LC := Lib.hid (show wc.heap.size ≤ (wc.alloc (.cells #[.int .i64 0, .slice none 0 0] 25)).heap.size by simp); have HBC := Lib.hid hbz.size; clear hrowz hbz hlz hmz hclz)
          | (go_at_call 11; (with_reducible refine (SP.out wc _ _ _ _ _ _ F3.out G3.out hn HG.out hm).mono ?_); rintro e wz ⟨Az, nz, cz, Bz, mz, dz, rfl, hlz, hmz, hrowz, hclz, hbz⟩; obtain rfl : nz = nn := by rw [← hlz]; exact NN.out
             obtain rfl : mz = mm := by rw [← hmz]; exact MM.out
             have HB4 := Lib.hid (HB3.out.trans (hbz.mono HB3.out.size)); have x40 := (HB4.out.cell (p := ⟨w.heap.size, 0, none⟩) l0).trans q0; have x41 := (HB4.out.cell (p := ⟨w.heap.size, 1, none⟩) l0).trans q1; have x42 := (HB4.out.cell (p := ⟨w.heap.size + 1, 0, none⟩) l2).trans p0; have x43 := (HB4.out.cell (p := ⟨w.heap.size + 1, 1, none⟩) l2).trans p1; have x44 := (HB4.out.cell (p := ⟨w.heap.size + 1, 2, none⟩) l2).trans p2; have x45 := (HB4.out.cell (p := ⟨w.heap.size + 1, 3, none⟩) l2).trans p3; have s4 := HB4.out.size; have g41 : w.heap.size < wz.heap.size := (by omega); have g42 : w.heap.size + 1 < wz.heap.size := (by omega); have h41 : w.heap.size ≠ wz.heap.size := (by omega); have h42 : w.heap.size + 1 ≠ wz.heap.size := (by omega); have h43 : wz.heap.size ≠ w.heap.size := (by omega); have h44 : wz.heap.size ≠ w.heap.size + 1 := (by omega); (try (have nb2 := NB.out.below hbz; clear NB n0 n1 z0 z1; have NB := Lib.hid nb2; have n0 := NB.out.cell (i := 0) (v := .int .i64 0) rfl; have n1 := NB.out.cell (i := 1) (v := .slice none 0 0) rfl; have z0 := NB.out.free 0; have z1 := NB.out.free 1; clear nb2)); have RC := Lib.hid hrowz; have KC := Lib.hid hclz; have LC := Lib.hid (show wc.heap.size ≤ wc.heap.size by simp); have HBC := Lib.hid hbz.size; clear hrowz hbz hlz hmz hclz)))
    all_goals
      go_wp2_with fail
      go_meet
      case rel =>
        have hrc := RC.out
        have lc := LC.out
        have hbcs := HBC.out
        try simp only [World.size_alloc] at hrc lc hbcs
        first
          | (obtain ⟨c1, c2, c3⟩ := fusedX (view := v1) HB4.out hrc KC.out (by omega) (Nat.le_refl _); exact ⟨_, _, _, _, _, Az, cz, Bz, dz, rfl, rfl, rfl, c1, c2, c3⟩)
          | (obtain ⟨c1, c2, c3⟩ := storedX (view := v1) HB4.out hrc KC.out NB.out (by first | exact Nat.le_refl _ | omega) (by omega) (Nat.le_refl _); exact ⟨_, _, _, _, _, Az, cz, Bz, dz, rfl, rfl, rfl, c1, c2, c3⟩)
  case rest =>
    obtain ⟨gw, wl, wh, kl, kh, A3, c3, B3, d3, rfl, rfl, rfl, CW, KW, bx⟩ := hcut
    obtain ⟨w3, rfl⟩ : ∃ w3 : World, w3 = wc := ⟨_, rfl⟩
    have hkw : kh ≤ w3.heap.size := KW.his
    have CW := Lib.hid CW
    have KW := Lib.hid KW
    have lw1 : w.heap.size + 1 < w1.heap.size := UU.out.lt
    have s3 := bx.size
    clear q0 q1 p0 p1 p2 p3 FW GI
    have CA_ := Lib.hid (CA.out.below bx)
    have UU_ := Lib.hid (UU.out.below bx)
    have BT_ := Lib.hid (BT.out.trans (bx.mono BT.out.size))
    clear CA UU BT
    have CA := Lib.hid CA_.out
    clear CA_
    have UU := Lib.hid UU_.out
    clear UU_
    have BT := Lib.hid BT_.out
    clear BT_
    clear bx
    have q0 := CA.out.c0
    have q1 := CA.out.c1
    go_wp2_with fail
    refine (toChain_any _ _ _ _ l _ CA.out.wide hn HG.out).mono ?_
    rintro e w4 ⟨A4, n4, c4, rfl, hl4, hrow4, hb4⟩
    obtain rfl : n4 = n := by rw [← hl4]; exact HL.out
    have CX := Lib.hid (CRx.new hrow4 view)
    clear q0 q1
    have CA_ := Lib.hid (CA.out.below hb4)
    have UU_ := Lib.hid (UU.out.below hb4)
    have BT_ := Lib.hid (BT.out.trans (hb4.mono BT.out.size))
    have CW_ := Lib.hid (CW.out.below hb4)
    have KW_ := Lib.hid (KW.out.below hb4)
    clear CA UU BT CW KW
    have CA := Lib.hid CA_.out
    clear CA_
    have UU := Lib.hid UU_.out
    clear UU_
    have BT := Lib.hid BT_.out
    clear BT_
    have CW := Lib.hid CW_.out
    clear CW_
    have KW := Lib.hid KW_.out
    clear KW_
    have CA_ := Lib.hid (CA.out.alloc (.cells #[.int .i64 view, .slice A4 n4 c4] 25))
    have UU_ := Lib.hid (UU.out.alloc (.cells #[.int .i64 view, .slice A4 n4 c4] 25))
    have BT_ := Lib.hid (BT.out.alloc BT.out.size (.cells #[.int .i64 view, .slice A4 n4 c4] 25))
    have CW_ := Lib.hid (CW.out.alloc (.cells #[.int .i64 view, .slice A4 n4 c4] 25))
    have KW_ := Lib.hid (KW.out.alloc (.cells #[.int .i64 view, .slice A4 n4 c4] 25))
    clear CA UU BT CW KW
    have CA := Lib.hid CA_.out
    clear CA_
    have UU := Lib.hid UU_.out
    clear UU_
    have BT := Lib.hid BT_.out
    clear BT_
    have CW := Lib.hid CW_.out
    clear CW_
    have KW := Lib.hid KW_.out
    clear KW_
    have s4 := hb4.size
    clear hrow4 hb4 hl4
    obtain ⟨wy, hwy⟩ : ∃ wy : World, w4.alloc (.cells #[.int .i64 view, .slice A4 n4 c4] 25) = wy := ⟨_, rfl⟩
    have sy : w4.heap.size < wy.heap.size := by rw [← hwy]; simp
    rw [hwy] at CX CA UU BT CW KW
    have GI := Lib.hid ((HF.out.below BT.out (Nat.le_refl _)).mono (Nat.zero_le _) BT.out.size)
    go_wp2_with fail
    clear hwy
    refine (toCallS_any _ _ _ ks _ GI.out hm).mono ?_
    rintro e wx ⟨rfl, hown4, hb4⟩
    have KX := Lib.hid (CL.mk hown4 (fun g e => (hown4.lt g e).2) HM.out (Nat.le_refl _))
    have sx := hb4.size
    clear hown4 GI
    have CA_ := Lib.hid (CA.out.below hb4)
    have UU_ := Lib.hid (UU.out.below hb4)
    have BT_ := Lib.hid (BT.out.trans (hb4.mono BT.out.size))
    have CW_ := Lib.hid (CW.out.below hb4)
    have KW_ := Lib.hid (KW.out.below hb4)
    have CX_ := Lib.hid (CX.out.below hb4)
    clear CA UU BT CW KW CX
    have CA := Lib.hid CA_.out
    clear CA_
    have UU := Lib.hid UU_.out
    clear UU_
    have BT := Lib.hid BT_.out
    clear BT_
    have CW := Lib.hid CW_.out
    clear CW_
    have KW := Lib.hid KW_.out
    clear KW_
    have CX := Lib.hid CX_.out
    clear CX_
    clear hb4
    have GI := Lib.hid KX.out.flat
    have FW := Lib.hid CX.out.ci.wide
    have q0 := CX.out.ci.c0
    have q1 := CX.out.ci.c1
    have p0 := UU.out.cell (i := 0) (v := .int .i64 x.client) rfl
    have p1 := UU.out.cell (i := 1) (v := .int .i64 x.number) rfl
    have p2 := UU.out.cell (i := 2) (v := .int .i64 x.what.key) rfl
    have p3 := UU.out.cell (i := 3) (v := .int .i64 x.what.value) rfl
    go_upto_region 11 with fail
    go_cut [13, 14, 15] from 47 to 56 (fun sa sb sc wq => ∃ (gn rlo rhi clo chi : Nat) (A3 : Option Addr) (c3 : Nat) (B3 : Option Addr) (d3 : Nat), sa = .pointer (some ⟨gn, 0, none⟩) ∧ sb = .slice B3 mm d3 ∧ sc = .bool t1 ∧ CQ wq wx.heap.size wq.heap.size rlo rhi gn v1 A3 nn c3 l1 ∧ CL wq clo chi B3 mm d3 r1 ∧ Below wx.heap.size wx wq ∧ wx.heap.size ≤ clo ∧ rhi ≤ clo ∧ (gn < clo ∨ chi ≤ gn))
    case first =>
      have BD := Lib.hid (show Below wx.heap.size wx wx.drew from (Below.refl _ _).drew)
      have BA := Lib.hid (show Below wx.heap.size wx (wx.alloc (.cells #[.int .i64 0, .slice none 0 0] 25)).drew from ((Below.refl _ _).alloc (Nat.le_refl _) _).drew)
      have NA := Lib.hid (Blk.new wx #[.int .i64 0, .slice none 0 0] 25).drew
      have FD := Lib.hid (show Nods wx.drew 0 wx.drew.heap.size A4 n4 c4 l from FW.out.on BD.out)
      have FE := Lib.hid (show Nods (wx.alloc (.cells #[.int .i64 0, .slice none 0 0] 25)).drew 0 (wx.alloc (.cells #[.int .i64 0, .slice none 0 0] 25)).drew.heap.size A4 n4 c4 l from FW.out.on BA.out)
      have l0 : w4.heap.size < wx.heap.size := CX.out.ci.lt
      have l2 : w.heap.size + 1 < wx.heap.size := UU.out.lt
      have e1 : w4.heap.size ≠ wx.heap.size := by omega
      have e2 : w.heap.size + 1 ≠ wx.heap.size := by omega
      have e3 : wx.heap.size ≠ w4.heap.size := by omega
      have e4 : wx.heap.size ≠ w.heap.size + 1 := by omega
      go_region_held3 (fun V => V.cell? ⟨w4.heap.size, 0, none⟩ = some (.int .i64 view) ∧ V.cell? ⟨w4.heap.size, 1, none⟩ = some (.slice A4 n4 c4) ∧ V.cell? ⟨w.heap.size + 1, 0, none⟩ = some (.int .i64 x.client) ∧ V.cell? ⟨w.heap.size + 1, 1, none⟩ = some (.int .i64 x.number) ∧ V.cell? ⟨w.heap.size + 1, 2, none⟩ = some (.int .i64 x.what.key) ∧ V.cell? ⟨w.heap.size + 1, 3, none⟩ = some (.int .i64 x.what.value)) (go_keep) ((first
            | (go_at_call 21; (with_reducible refine (toCall_any _ _ _ _ (wx.alloc (.cells #[.int .i64 0, .slice none 0 0] 25)).drew).mono ?_); rintro e wa ⟨rfl, hba⟩
               have HB1 := Lib.hid (BA.out.trans (hba.mono (by simp))); have x10 := (HB1.out.cell (p := ⟨w4.heap.size, 0, none⟩) l0).trans q0; have x11 := (HB1.out.cell (p := ⟨w4.heap.size, 1, none⟩) l0).trans q1; have x12 := (HB1.out.cell (p := ⟨w.heap.size + 1, 0, none⟩) l2).trans p0; have x13 := (HB1.out.cell (p := ⟨w.heap.size + 1, 1, none⟩) l2).trans p1; have x14 := (HB1.out.cell (p := ⟨w.heap.size + 1, 2, none⟩) l2).trans p2; have x15 := (HB1.out.cell (p := ⟨w.heap.size + 1, 3, none⟩) l2).trans p3; have s1 := HB1.out.size; have g11 : w4.heap.size < wa.heap.size := (by omega); have g12 : w.heap.size + 1 < wa.heap.size := (by omega); have h11 : w4.heap.size ≠ wa.heap.size := (by omega); have h12 : w.heap.size + 1 ≠ wa.heap.size := (by omega); have h13 : wa.heap.size ≠ w4.heap.size := (by omega); have h14 : wa.heap.size ≠ w.heap.size + 1 := (by omega); have NB := Lib.hid (NA.out.below hba); have n0 := NB.out.cell (i := 0) (v := .int .i64 0) rfl; have n1 := NB.out.cell (i := 1) (v := .slice none 0 0) rfl; have z0 := NB.out.free 0; have z1 := NB.out.free 1; (try (have NL1 := NB.out.lt)); have F1 := Lib.hid (FE.out.on hba); have G1 := Lib.hid (Flat.on (GI.out.on BA.out) hba); clear hba)
            | (go_at_call 21; (with_reducible refine (toCall_any _ _ _ _ wx.drew).mono ?_); rintro e wa ⟨rfl, hba⟩
               have HB1 := Lib.hid (BD.out.trans (hba.mono (by simp))); have x10 := (HB1.out.cell (p := ⟨w4.heap.size, 0, none⟩) l0).trans q0; have x11 := (HB1.out.cell (p := ⟨w4.heap.size, 1, none⟩) l0).trans q1; have x12 := (HB1.out.cell (p := ⟨w.heap.size + 1, 0, none⟩) l2).trans p0; have x13 := (HB1.out.cell (p := ⟨w.heap.size + 1, 1, none⟩) l2).trans p1; have x14 := (HB1.out.cell (p := ⟨w.heap.size + 1, 2, none⟩) l2).trans p2; have x15 := (HB1.out.cell (p := ⟨w.heap.size + 1, 3, none⟩) l2).trans p3; have s1 := HB1.out.size; have g11 : w4.heap.size < wa.heap.size := (by omega); have g12 : w.heap.size + 1 < wa.heap.size := (by omega); have h11 : w4.heap.size ≠ wa.heap.size := (by omega); have h12 : w.heap.size + 1 ≠ wa.heap.size := (by omega); have h13 : wa.heap.size ≠ w4.heap.size := (by omega); have h14 : wa.heap.size ≠ w.heap.size + 1 := (by omega); (try (have NL1 := NB.out.lt)); have F1 := Lib.hid (FD.out.on hba); have G1 := Lib.hid (Flat.on (GI.out.on BD.out) hba); clear hba)
            | (go_at_call 10; (with_reducible refine (IM2.out (wa.alloc (.cells #[.int .i64 0, .slice none 0 0] 25)) ((HE.out.below (BT.out.trans (HB1.out.mono BT.out.size))).box _) _ _ _ _ _ _ (F1.out.box (.cells #[.int .i64 0, .slice none 0 0] 25)) (G1.out.box (.cells #[.int .i64 0, .slice none 0 0] 25)) hn HG.out hm).mono ?_); rintro e wz ⟨mid, Az, nz, cz, Bz, mz, dz, rfl, hlz, hmz, hrowz, hclz, hz1, hz2, hbz⟩; obtain rfl : nz = nn := by rw [← hlz]; exact NN.out
               obtain rfl : mz = mm := by rw [← hmz]; exact MM.out
               have HB2 := Lib.hid ((HB1.out.alloc HB1.out.size (.cells #[.int .i64 0, .slice none 0 0] 25)).trans (hbz.mono (by simp; omega))); have x20 := (HB2.out.cell (p := ⟨w4.heap.size, 0, none⟩) l0).trans q0; have x21 := (HB2.out.cell (p := ⟨w4.heap.size, 1, none⟩) l0).trans q1; have x22 := (HB2.out.cell (p := ⟨w.heap.size + 1, 0, none⟩) l2).trans p0; have x23 := (HB2.out.cell (p := ⟨w.heap.size + 1, 1, none⟩) l2).trans p1; have x24 := (HB2.out.cell (p := ⟨w.heap.size + 1, 2, none⟩) l2).trans p2; have x25 := (HB2.out.cell (p := ⟨w.heap.size + 1, 3, none⟩) l2).trans p3; have s2 := HB2.out.size; have g21 : w4.heap.size < wz.heap.size := (by omega); have g22 : w.heap.size + 1 < wz.heap.size := (by omega); have h21 : w4.heap.size ≠ wz.heap.size := (by omega); have h22 : w.heap.size + 1 ≠ wz.heap.size := (by omega); have h23 : wz.heap.size ≠ w4.heap.size := (by omega); have h24 : wz.heap.size ≠ w.heap.size + 1 := (by omega); have NB := Lib.hid ((Blk.new wa #[.int .i64 0, .slice none 0 0] 25).below hbz); have n0 := NB.out.cell (i := 0) (v := .int .i64 0) rfl; have n1 := NB.out.cell (i := 1) (v := .slice none 0 0) rfl; have z0 := NB.out.free 0; have z1 := NB.out.free 1; have RC := Lib.hid hrowz; have KC := Lib.hid hclz; have LC := Lib.hid (show wa.heap.size ≤ (wa.alloc (.cells #[.int .i64 0, .slice none 0 0] 25)).heap.size by simp); have HBC := Lib.hid hbz.size; have Hz := Lib.hid (And.intro hz1 hz2); clear hrowz hbz hlz hmz hclz hz1 hz2)
            | (go_at_call 10; (with_reducible refine (IM2.out wa (HE.out.below (BT.out.trans (HB1.out.mono BT.out.size))) _ _ _ _ _ _ F1.out G1.out hn HG.out hm).mono ?_); rintro e wz ⟨mid, Az, nz, cz, Bz, mz, dz, rfl, hlz, hmz, hrowz, hclz, hz1, hz2, hbz⟩; obtain rfl : nz = nn := by rw [← hlz]; exact NN.out
               obtain rfl : mz = mm := by rw [← hmz]; exact MM.out
               have HB2 := Lib.hid (HB1.out.trans (hbz.mono HB1.out.size)); have x20 := (HB2.out.cell (p := ⟨w4.heap.size, 0, none⟩) l0).trans q0; have x21 := (HB2.out.cell (p := ⟨w4.heap.size, 1, none⟩) l0).trans q1; have x22 := (HB2.out.cell (p := ⟨w.heap.size + 1, 0, none⟩) l2).trans p0; have x23 := (HB2.out.cell (p := ⟨w.heap.size + 1, 1, none⟩) l2).trans p1; have x24 := (HB2.out.cell (p := ⟨w.heap.size + 1, 2, none⟩) l2).trans p2; have x25 := (HB2.out.cell (p := ⟨w.heap.size + 1, 3, none⟩) l2).trans p3; have s2 := HB2.out.size; have g21 : w4.heap.size < wz.heap.size := (by omega); have g22 : w.heap.size + 1 < wz.heap.size := (by omega); have h21 : w4.heap.size ≠ wz.heap.size := (by omega); have h22 : w.heap.size + 1 ≠ wz.heap.size := (by omega); have h23 : wz.heap.size ≠ w4.heap.size := (by omega); have h24 : wz.heap.size ≠ w.heap.size + 1 := (by omega); (try (have nb2 := NB.out.below hbz; clear NB n0 n1 z0 z1; have NB := Lib.hid nb2; have n0 := NB.out.cell (i := 0) (v := .int .i64 0) rfl; have n1 := NB.out.cell (i := 1) (v := .slice none 0 0) rfl; have z0 := NB.out.free 0; have z1 := NB.out.free 1; clear nb2)); have RC := Lib.hid hrowz; have KC := Lib.hid hclz; have LC := Lib.hid (show wa.heap.size ≤ wa.heap.size by simp); have HBC := Lib.hid hbz.size; have Hz := Lib.hid (And.intro hz1 hz2); clear hrowz hbz hlz hmz hclz hz1 hz2)))
      all_goals
        go_wp2_with fail
        go_meet
        case rel =>
          have hrc := RC.out
          have lc := LC.out
          have hbcs := HBC.out
          have hz := Hz.out
          try simp only [World.size_alloc] at hrc lc hbcs hz
          first
            | (obtain ⟨c1, c2, c3⟩ := fusedX (view := v1) HB2.out hrc KC.out (by omega) hz.2; exact ⟨_, _, _, _, _, Az, cz, Bz, dz, rfl, rfl, rfl, c1, c2, c3, by omega, Nat.le_refl _, .inr (Nat.le_refl _)⟩)
            | (obtain ⟨c1, c2, c3⟩ := storedX (view := v1) HB2.out hrc KC.out NB.out (by first | exact Nat.le_refl _ | omega) (by omega) hz.2; exact ⟨_, _, _, _, _, Az, cz, Bz, dz, rfl, rfl, rfl, c1, c2, c3, by omega, Nat.le_refl _, .inl (by omega)⟩)
    case rest =>
      obtain ⟨gg, gl, gh, jl, jh, A5, c5, B5, d5, rfl, rfl, rfl, CG, KG, bx, jx, hj, hg⟩ := hcut
      obtain ⟨w5, rfl⟩ : ∃ w5 : World, w5 = wc := ⟨_, rfl⟩
      have CG := Lib.hid CG
      have KG := Lib.hid KG
      have lgx : wx.heap.size ≤ gl := CG.out.b1.1
      have lgg : wx.heap.size ≤ gg := CG.out.b0.1
      have lgo := CG.out.out
      have s5 := bx.size
      clear q0 q1 p0 p1 p2 p3 FW GI
      have CA_ := Lib.hid (CA.out.below bx)
      have UU_ := Lib.hid (UU.out.below bx)
      have BT_ := Lib.hid (BT.out.trans (bx.mono BT.out.size))
      have CW_ := Lib.hid (CW.out.below bx)
      have KW_ := Lib.hid (KW.out.below bx)
      have CX_ := Lib.hid (CX.out.below bx)
      have KX_ := Lib.hid (KX.out.below bx)
      clear CA UU BT CW KW CX KX
      have CA := Lib.hid CA_.out
      clear CA_
      have UU := Lib.hid UU_.out
      clear UU_
      have BT := Lib.hid BT_.out
      clear BT_
      have CW := Lib.hid CW_.out
      clear CW_
      have KW := Lib.hid KW_.out
      clear KW_
      have CX := Lib.hid CX_.out
      clear CX_
      have KX := Lib.hid KX_.out
      clear KX_
      clear bx
      have q0 := CG.out.c0
      have q1 := CG.out.c1
      have p0 := CW.out.c0
      have p1 := CW.out.c1
      have hn5 : nn ≤ 1048576 := by omega
      have hm5 : mm ≤ 1048576 := by omega
      go_wp2_with fail
      refine (eqChain_same v1 _ _ _ _ _ l1 _ CG.out.wide CW.out.wide hn5 HG1.out).mono ?_
      rintro e w6 ⟨rfl, hb6⟩
      clear q0 q1 p0 p1
      have CA_ := Lib.hid (CA.out.below hb6)
      have UU_ := Lib.hid (UU.out.below hb6)
      have BT_ := Lib.hid (BT.out.trans (hb6.mono BT.out.size))
      have CW_ := Lib.hid (CW.out.below hb6)
      have KW_ := Lib.hid (KW.out.below hb6)
      have CX_ := Lib.hid (CX.out.below hb6)
      have KX_ := Lib.hid (KX.out.below hb6)
      have CG_ := Lib.hid (CG.out.below hb6)
      have KG_ := Lib.hid (KG.out.below hb6)
      clear CA UU BT CW KW CX KX CG KG
      have CA := Lib.hid CA_.out
      clear CA_
      have UU := Lib.hid UU_.out
      clear UU_
      have BT := Lib.hid BT_.out
      clear BT_
      have CW := Lib.hid CW_.out
      clear CW_
      have KW := Lib.hid KW_.out
      clear KW_
      have CX := Lib.hid CX_.out
      clear CX_
      have KX := Lib.hid KX_.out
      clear KX_
      have CG := Lib.hid CG_.out
      clear CG_
      have KG := Lib.hid KG_.out
      clear KG_
      have s6 := hb6.size
      clear hb6
      go_wp2_with fail
      refine (eqCallS_same _ _ _ _ _ r1 _ KG.out.flat KW.out.flat hm5).mono ?_
      rintro e w7 ⟨rfl, hb7⟩
      have CA_ := Lib.hid (CA.out.below hb7)
      have UU_ := Lib.hid (UU.out.below hb7)
      have BT_ := Lib.hid (BT.out.trans (hb7.mono BT.out.size))
      have CW_ := Lib.hid (CW.out.below hb7)
      have KW_ := Lib.hid (KW.out.below hb7)
      have CX_ := Lib.hid (CX.out.below hb7)
      have KX_ := Lib.hid (KX.out.below hb7)
      have CG_ := Lib.hid (CG.out.below hb7)
      have KG_ := Lib.hid (KG.out.below hb7)
      clear CA UU BT CW KW CX KX CG KG
      have CA := Lib.hid CA_.out
      clear CA_
      have UU := Lib.hid UU_.out
      clear UU_
      have BT := Lib.hid BT_.out
      clear BT_
      have CW := Lib.hid CW_.out
      clear CW_
      have KW := Lib.hid KW_.out
      clear KW_
      have CX := Lib.hid CX_.out
      clear CX_
      have KX := Lib.hid KX_.out
      clear KX_
      have CG := Lib.hid CG_.out
      clear CG_
      have KG := Lib.hid KG_.out
      clear KG_
      have s7 := hb7.size
      clear hb7
      have CA_ := Lib.hid (CA.out.drew)
      have CW_ := Lib.hid (CW.out.drew)
      have KW_ := Lib.hid (KW.out.drew)
      have CX_ := Lib.hid (CX.out.drew)
      have KX_ := Lib.hid (KX.out.drew)
      have CG_ := Lib.hid (CG.out.drew)
      have KG_ := Lib.hid (KG.out.drew)
      have BT_ := Lib.hid (BT.out.drew)
      clear CA CW KW CX KX CG KG BT
      have CA := Lib.hid CA_.out
      clear CA_
      have CW := Lib.hid CW_.out
      clear CW_
      have KW := Lib.hid KW_.out
      clear KW_
      have CX := Lib.hid CX_.out
      clear CX_
      have KX := Lib.hid KX_.out
      clear KX_
      have CG := Lib.hid CG_.out
      clear CG_
      have KG := Lib.hid KG_.out
      clear KG_
      have BT := Lib.hid BT_.out
      clear BT_
      have UUd := Lib.hid (show Blk w7.drew (w.heap.size + 1) #[.int .i64 x.client, .int .i64 x.number, .int .i64 x.what.key, .int .i64 x.what.value] 48 from UU.out)
      clear UU
      have UU := Lib.hid UUd.out
      clear UUd
      have q0 : w7.cell? ⟨w.heap.size, 0, none⟩ = _ := CA.out.c0
      have q1 : w7.cell? ⟨w.heap.size, 1, none⟩ = _ := CA.out.c1
      have p0 : w7.cell? ⟨w4.heap.size, 0, none⟩ = _ := CX.out.ci.c0
      have p1 : w7.cell? ⟨w4.heap.size, 1, none⟩ = _ := CX.out.ci.c1
      go_wp2_with fail
      go_region_held3 (fun V => V.cell? ⟨w4.heap.size, 0, none⟩ = some (.int .i64 view) ∧ V.cell? ⟨w4.heap.size, 1, none⟩ = some (.slice A4 n4 c4) ∧ V.cell? ⟨w.heap.size, 0, none⟩ = some (.int .i64 view) ∧ V.cell? ⟨w.heap.size, 1, none⟩ = some (.slice A n4 c)) (go_keep)
        ((first
          | (go_at_call 19; (with_reducible refine (toChain_any _ _ _ _ l _ CA.out.wide hn HG.out).mono ?_); rintro e w8 ⟨A7, n7, c7, rfl, hl7, hrow7, hb7⟩; obtain rfl : n7 = n4 := by rw [← hl7]; exact HL.out
             have CA7 := Lib.hid (CA.out.below hb7); have CX7 := Lib.hid (CX.out.below hb7); have KX7 := Lib.hid (KX.out.below hb7); have CG7 := Lib.hid (CG.out.below hb7); have KG7 := Lib.hid (KG.out.below hb7); have CW7 := Lib.hid (CW.out.below hb7); have KW7 := Lib.hid (KW.out.below hb7); have UU7 := Lib.hid (UU.out.below hb7); have B7 := Lib.hid (BT.out.trans (hb7.mono BT.out.size)); have F7 := Lib.hid (hrow7.nods'.2.mono (Nat.zero_le _) (Nat.le_refl _)); have t0 := CA7.out.c0; have u0 := CA7.out.c1; have t2 := CX7.out.ci.c0; have u2 := CX7.out.ci.c1; have s8 := hb7.size; clear hrow7 hb7 hl7)
          | (go_at_call 22; (with_reducible refine (eqChain_same view _ _ _ _ _ l _ CX7.out.ci.wide F7.out hn HG.out).mono ?_); rintro e w9 ⟨rfl, hb8⟩
             have CA8 := Lib.hid (CA7.out.below hb8); have CX8 := Lib.hid (CX7.out.below hb8); have KX8 := Lib.hid (KX7.out.below hb8); have CG8 := Lib.hid (CG7.out.below hb8); have KG8 := Lib.hid (KG7.out.below hb8); have CW8 := Lib.hid (CW7.out.below hb8); have KW8 := Lib.hid (KW7.out.below hb8); have UU8 := Lib.hid (UU7.out.below hb8); have B8 := Lib.hid (B7.out.trans (hb8.mono B7.out.size)); have t3 := CA8.out.c0; have u3 := CA8.out.c1; have t4 := CX8.out.ci.c0; have u4 := CX8.out.ci.c1; have s9 := hb8.size; clear hb8)))
      clear CA7 CX7 KX7 CG7 KG7 CW7 KW7 UU7 CA CX KX CG KG CW KW UU BT F7 B7 q0 q1 p0 p1
      have CA := Lib.hid CA8.out
      clear CA8
      have CX := Lib.hid CX8.out
      clear CX8
      have KX := Lib.hid KX8.out
      clear KX8
      have CG := Lib.hid CG8.out
      clear CG8
      have KG := Lib.hid KG8.out
      clear KG8
      have CW := Lib.hid CW8.out
      clear CW8
      have KW := Lib.hid KW8.out
      clear KW8
      have UU := Lib.hid UU8.out
      clear UU8
      have BT := Lib.hid B8.out
      clear B8
      have GI := Lib.hid ((HF.out.below BT.out (Nat.le_refl _)).mono (Nat.zero_le _) BT.out.size)
      go_wp2_with fail
      refine (toCallS_any _ _ _ ks _ GI.out hm).mono ?_
      rintro e w10 ⟨rfl, hown10, hb10⟩
      clear GI
      have GZ := Lib.hid ((own_flat' Cll.len hown10 HM.out).mono (Nat.zero_le _) (Nat.le_refl _))
      clear hown10
      have CA_ := Lib.hid (CA.out.below hb10)
      have CX_ := Lib.hid (CX.out.below hb10)
      have KX_ := Lib.hid (KX.out.below hb10)
      have CG_ := Lib.hid (CG.out.below hb10)
      have KG_ := Lib.hid (KG.out.below hb10)
      have CW_ := Lib.hid (CW.out.below hb10)
      have KW_ := Lib.hid (KW.out.below hb10)
      have UU_ := Lib.hid (UU.out.below hb10)
      have BT_ := Lib.hid (BT.out.trans (hb10.mono BT.out.size))
      clear CA CX KX CG KG CW KW UU BT
      have CA := Lib.hid CA_.out
      clear CA_
      have CX := Lib.hid CX_.out
      clear CX_
      have KX := Lib.hid KX_.out
      clear KX_
      have CG := Lib.hid CG_.out
      clear CG_
      have KG := Lib.hid KG_.out
      clear KG_
      have CW := Lib.hid CW_.out
      clear CW_
      have KW := Lib.hid KW_.out
      clear KW_
      have UU := Lib.hid UU_.out
      clear UU_
      have BT := Lib.hid BT_.out
      clear BT_
      have s10 := hb10.size
      clear hb10
      go_wp2_with fail
      refine (eqCallS_same _ _ _ _ _ ks _ KX.out.flat GZ.out hm).mono ?_
      rintro e w11 ⟨rfl, hb11⟩
      clear GZ
      have CA_ := Lib.hid (CA.out.below hb11)
      have CX_ := Lib.hid (CX.out.below hb11)
      have KX_ := Lib.hid (KX.out.below hb11)
      have CG_ := Lib.hid (CG.out.below hb11)
      have KG_ := Lib.hid (KG.out.below hb11)
      have CW_ := Lib.hid (CW.out.below hb11)
      have KW_ := Lib.hid (KW.out.below hb11)
      have UU_ := Lib.hid (UU.out.below hb11)
      have BT_ := Lib.hid (BT.out.trans (hb11.mono BT.out.size))
      clear CA CX KX CG KG CW KW UU BT
      have CA := Lib.hid CA_.out
      clear CA_
      have CX := Lib.hid CX_.out
      clear CX_
      have KX := Lib.hid KX_.out
      clear KX_
      have CG := Lib.hid CG_.out
      clear CG_
      have KG := Lib.hid KG_.out
      clear KG_
      have CW := Lib.hid CW_.out
      clear CW_
      have KW := Lib.hid KW_.out
      clear KW_
      have UU := Lib.hid UU_.out
      clear UU_
      have BT := Lib.hid BT_.out
      clear BT_
      have s11 := hb11.size
      clear hb11
      have q0 := CX.out.ci.c0
      have q1 := CX.out.ci.c1
      obtain ⟨kv, hkv⟩ : ∃ v, mk 1 l n7 = v := ⟨_, rfl⟩
      have KV := Lib.hid hkv
      have kv1 : 1 ≤ kv := by rw [← hkv]; exact (MB.out n7).1
      have kv2 : kv ≤ 17592186044416 := by have := (MB.out n7).2; rw [hkv] at this; omega
      have kv0 : ¬ kv + 4 * (m : Int) < 0 := by omega
      clear hkv
      go_wp2_with fail
      refine (markChain_any _ _ view _ _ _ l 1 _ CX.out.row CX.out.his' hn HG.out (by omega) (by omega)).mono ?_
      rintro e w12 ⟨rfl, hr12, hk12⟩
      rw [KV.out]
      have CG_ := Lib.hid (CG.out.kept hk12 (.inr (by omega)))
      have KG_ := Lib.hid (KG.out.kept hk12 (.inr (by omega)))
      have CW_ := Lib.hid (CW.out.kept hk12 (.inl (Nat.le_refl _)))
      have KW_ := Lib.hid (KW.out.kept hk12 (.inl (by omega)))
      have KX_ := Lib.hid (KX.out.kept hk12 (.inr (by omega)))
      have CA_ := Lib.hid (CA.out.kept hk12 (.inl (by omega)))
      have UU_ := Lib.hid (blk_kept UU.out hk12 (by omega))
      have BT_ := Lib.hid (BT.out.trans (hk12.below (by omega) BT.out.size))
      clear CG KG CW KW KX CA UU BT hr12 hk12 q0 q1 CX
      have CG := Lib.hid CG_.out
      clear CG_
      have KG := Lib.hid KG_.out
      clear KG_
      have CW := Lib.hid CW_.out
      clear CW_
      have KW := Lib.hid KW_.out
      clear KW_
      have KX := Lib.hid KX_.out
      clear KX_
      have CA := Lib.hid CA_.out
      clear CA_
      have UU := Lib.hid UU_.out
      clear UU_
      have BT := Lib.hid BT_.out
      clear BT_
      go_wp2_with fail
      refine (markCallS_own _ _ _ _ _ kv _ KX.out.own hm (by omega) kv2).mono ?_
      rintro e w13 ⟨rfl, ho13, hg13⟩
      obtain ⟨_, hk13⟩ := KX.out.mark ho13 hg13
      have CG_ := Lib.hid (CG.out.kept hk13 (.inr (Nat.le_refl _)))
      have KG_ := Lib.hid (KG.out.kept hk13 (.inr (by omega)))
      have CW_ := Lib.hid (CW.out.kept hk13 (.inl (by omega)))
      have KW_ := Lib.hid (KW.out.kept hk13 (.inl (by omega)))
      have CA_ := Lib.hid (CA.out.kept hk13 (.inl (by omega)))
      have UU_ := Lib.hid (blk_kept UU.out hk13 (by omega))
      have BT_ := Lib.hid (BT.out.trans (hk13.below (by omega) BT.out.size))
      clear CG KG CW KW KX CA UU BT ho13 hg13 hk13
      have CG := Lib.hid CG_.out
      clear CG_
      have KG := Lib.hid KG_.out
      clear KG_
      have CW := Lib.hid CW_.out
      clear CW_
      have KW := Lib.hid KW_.out
      clear KW_
      have CA := Lib.hid CA_.out
      clear CA_
      have UU := Lib.hid UU_.out
      clear UU_
      have BT := Lib.hid BT_.out
      clear BT_
      have q0 := CG.out.c0
      have q1 := CG.out.c1
      have p0 := CW.out.c0
      have p1 := CW.out.c1
      go_wp2_with fail
      refine (eqChain_same v1 _ _ _ _ _ l1 _ CG.out.wide CW.out.wide hn5 HG1.out).mono ?_
      rintro e w14 ⟨rfl, hb⟩
      clear q0 q1 p0 p1
      have CG_ := Lib.hid (CG.out.below hb)
      have KG_ := Lib.hid (KG.out.below hb)
      have CW_ := Lib.hid (CW.out.below hb)
      have KW_ := Lib.hid (KW.out.below hb)
      have CA_ := Lib.hid (CA.out.below hb)
      have UU_ := Lib.hid (UU.out.below hb)
      have BT_ := Lib.hid (BT.out.trans (hb.mono BT.out.size))
      clear CG KG CW KW CA UU BT
      have CG := Lib.hid CG_.out
      clear CG_
      have KG := Lib.hid KG_.out
      clear KG_
      have CW := Lib.hid CW_.out
      clear CW_
      have KW := Lib.hid KW_.out
      clear KW_
      have CA := Lib.hid CA_.out
      clear CA_
      have UU := Lib.hid UU_.out
      clear UU_
      have BT := Lib.hid BT_.out
      clear BT_
      clear hb
      go_wp2_with fail
      refine (eqCallS_same _ _ _ _ _ r1 _ KG.out.flat KW.out.flat hm5).mono ?_
      rintro e w15 ⟨rfl, hb⟩
      have CG_ := Lib.hid (CG.out.below hb)
      have KG_ := Lib.hid (KG.out.below hb)
      have CW_ := Lib.hid (CW.out.below hb)
      have KW_ := Lib.hid (KW.out.below hb)
      have CA_ := Lib.hid (CA.out.below hb)
      have UU_ := Lib.hid (UU.out.below hb)
      have BT_ := Lib.hid (BT.out.trans (hb.mono BT.out.size))
      clear CG KG CW KW CA UU BT
      have CG := Lib.hid CG_.out
      clear CG_
      have KG := Lib.hid KG_.out
      clear KG_
      have CW := Lib.hid CW_.out
      clear CW_
      have KW := Lib.hid KW_.out
      clear KW_
      have CA := Lib.hid CA_.out
      clear CA_
      have UU := Lib.hid UU_.out
      clear UU_
      have BT := Lib.hid BT_.out
      clear BT_
      clear hb
      have q0 := CG.out.c0
      have q1 := CG.out.c1
      obtain ⟨mv, hmv⟩ : ∃ v, mk 1 l1 nn = v := ⟨_, rfl⟩
      have MV := Lib.hid hmv
      have mv1 : 1 ≤ mv := by rw [← hmv]; exact (MB1.out nn).1
      have mv2 : mv ≤ 17592186044416 := by have := (MB1.out nn).2; rw [hmv] at this; omega
      have mv0 : ¬ mv < 0 := by omega
      have mv3 : ¬ mv + 4 * (mm : Int) < 0 := by omega
      have mvv : (mv + 4 * (mm : Int) != mv + 4 * (mm : Int)) = false := by simp
      clear hmv
      go_wp2_with fail
      refine (markChain_any _ _ v1 _ _ _ l1 1 _ CG.out.row CG.out.his hn5 HG1.out (by omega) (by omega)).mono ?_
      rintro e w16 ⟨rfl, hr16, hk16⟩
      rw [MV.out]
      have CG_ := Lib.hid (CG.out.mark hr16 hk16)
      have KG_ := Lib.hid (KG.out.kept hk16 (.inr hj))
      have CW_ := Lib.hid (CW.out.kept hk16 (.inl (by omega)))
      have KW_ := Lib.hid (KW.out.kept hk16 (.inl (by omega)))
      have CA_ := Lib.hid (CA.out.kept hk16 (.inl (by omega)))
      have UU_ := Lib.hid (blk_kept UU.out hk16 (by omega))
      have BT_ := Lib.hid (BT.out.trans (hk16.below (by omega) BT.out.size))
      clear CG KG CW KW CA UU BT hr16 hk16 q0 q1
      have CG := Lib.hid CG_.out
      clear CG_
      have KG := Lib.hid KG_.out
      clear KG_
      have CW := Lib.hid CW_.out
      clear CW_
      have KW := Lib.hid KW_.out
      clear KW_
      have CA := Lib.hid CA_.out
      clear CA_
      have UU := Lib.hid UU_.out
      clear UU_
      have BT := Lib.hid BT_.out
      clear BT_
      go_wp2_with fail
      refine (markCallS_own _ _ _ _ _ mv _ KG.out.own hm5 (by omega) mv2).mono ?_
      rintro e w17 ⟨rfl, ho17, hg17⟩
      obtain ⟨kg17, hk17⟩ := KG.out.mark ho17 hg17
      have KG_ := Lib.hid kg17
      have CG_ := Lib.hid (CG.out.kept2 hk17 hg (.inl hj))
      have CW_ := Lib.hid (CW.out.kept hk17 (.inl (by omega)))
      have KW_ := Lib.hid (KW.out.kept hk17 (.inl (by omega)))
      have CA_ := Lib.hid (CA.out.kept hk17 (.inl (by omega)))
      have UU_ := Lib.hid (blk_kept UU.out hk17 (by omega))
      have BT_ := Lib.hid (BT.out.trans (hk17.below (by omega) BT.out.size))
      clear CG KG CW KW CA UU BT ho17 hg17 hk17 kg17
      have CG := Lib.hid CG_.out
      clear CG_
      have KG := Lib.hid KG_.out
      clear KG_
      have CW := Lib.hid CW_.out
      clear CW_
      have KW := Lib.hid KW_.out
      clear KW_
      have CA := Lib.hid CA_.out
      clear CA_
      have UU := Lib.hid UU_.out
      clear UU_
      have BT := Lib.hid BT_.out
      clear BT_
      have q0 := CG.out.c0
      have q1 := CG.out.c1
      go_wp2_with fail
      refine (heldChain_marks v1 _ _ _ l1 1 _ CG.out.wide hn5 HG1.out (by omega) (by omega)).mono ?_
      rintro e w18 ⟨rfl, hb⟩
      rw [MV.out]
      clear q0 q1
      have CG_ := Lib.hid (CG.out.below hb)
      have KG_ := Lib.hid (KG.out.below hb)
      have CW_ := Lib.hid (CW.out.below hb)
      have KW_ := Lib.hid (KW.out.below hb)
      have CA_ := Lib.hid (CA.out.below hb)
      have UU_ := Lib.hid (UU.out.below hb)
      have BT_ := Lib.hid (BT.out.trans (hb.mono BT.out.size))
      clear CG KG CW KW CA UU BT
      have CG := Lib.hid CG_.out
      clear CG_
      have KG := Lib.hid KG_.out
      clear KG_
      have CW := Lib.hid CW_.out
      clear CW_
      have KW := Lib.hid KW_.out
      clear KW_
      have CA := Lib.hid CA_.out
      clear CA_
      have UU := Lib.hid UU_.out
      clear UU_
      have BT := Lib.hid BT_.out
      clear BT_
      clear hb
      go_wp2_with fail
      refine (heldCallS_marks _ _ _ mv _ KG.out.flat hm5 (by omega) mv2).mono ?_
      rintro e w19 ⟨rfl, hb⟩
      have CG_ := Lib.hid (CG.out.below hb)
      have KG_ := Lib.hid (KG.out.below hb)
      have CW_ := Lib.hid (CW.out.below hb)
      have KW_ := Lib.hid (KW.out.below hb)
      have CA_ := Lib.hid (CA.out.below hb)
      have UU_ := Lib.hid (UU.out.below hb)
      have BT_ := Lib.hid (BT.out.trans (hb.mono BT.out.size))
      clear CG KG CW KW CA UU BT
      have CG := Lib.hid CG_.out
      clear CG_
      have KG := Lib.hid KG_.out
      clear KG_
      have CW := Lib.hid CW_.out
      clear CW_
      have KW := Lib.hid KW_.out
      clear KW_
      have CA := Lib.hid CA_.out
      clear CA_
      have UU := Lib.hid UU_.out
      clear UU_
      have BT := Lib.hid BT_.out
      clear BT_
      clear hb
      have FW := Lib.hid CA.out.wide
      have q0 := CA.out.c0
      have q1 := CA.out.c1
      have p0 := UU.out.cell (i := 0) (v := .int .i64 x.client) rfl
      have p1 := UU.out.cell (i := 1) (v := .int .i64 x.number) rfl
      have p2 := UU.out.cell (i := 2) (v := .int .i64 x.what.key) rfl
      have p3 := UU.out.cell (i := 3) (v := .int .i64 x.what.value) rfl
      have GI := Lib.hid ((HF.out.below BT.out (Nat.le_refl _)).mono (Nat.zero_le _) BT.out.size)
      go_upto_region 35 with fail
      go_cut [19, 20, 21] from 125 to 136 (fun sa sb sc wq => ∃ (gn rlo rhi clo chi : Nat) (A3 : Option Addr) (c3 : Nat) (B3 : Option Addr) (d3 : Nat), sa = .pointer (some ⟨gn, 0, none⟩) ∧ sb = .slice B3 mm d3 ∧ sc = .bool t1 ∧ CQ wq w19.heap.size wq.heap.size rlo rhi gn v1 A3 nn c3 l1 ∧ CL wq clo chi B3 mm d3 r1 ∧ Below w19.heap.size w19 wq)
      case first =>
        have BD := Lib.hid (show Below w19.heap.size w19 w19.drew from (Below.refl _ _).drew)
        have BA := Lib.hid (show Below w19.heap.size w19 (w19.alloc (.cells #[.int .i64 0, .slice none 0 0] 25)).drew from ((Below.refl _ _).alloc (Nat.le_refl _) _).drew)
        have NA := Lib.hid (Blk.new w19 #[.int .i64 0, .slice none 0 0] 25).drew
        have FD := Lib.hid (show Nods w19.drew 0 w19.drew.heap.size A n7 c l from FW.out.on BD.out)
        have FE := Lib.hid (show Nods (w19.alloc (.cells #[.int .i64 0, .slice none 0 0] 25)).drew 0 (w19.alloc (.cells #[.int .i64 0, .slice none 0 0] 25)).drew.heap.size A n7 c l from FW.out.on BA.out)
        have l0 : w.heap.size < w19.heap.size := CA.out.lt
        have l2 : w.heap.size + 1 < w19.heap.size := UU.out.lt
        have e1 : w.heap.size ≠ w19.heap.size := by omega
        have e2 : w.heap.size + 1 ≠ w19.heap.size := by omega
        have e3 : w19.heap.size ≠ w.heap.size := by omega
        have e4 : w19.heap.size ≠ w.heap.size + 1 := by omega
        go_region_held3 (fun V => V.cell? ⟨w.heap.size, 0, none⟩ = some (.int .i64 view) ∧ V.cell? ⟨w.heap.size, 1, none⟩ = some (.slice A n7 c) ∧ V.cell? ⟨w.heap.size + 1, 0, none⟩ = some (.int .i64 x.client) ∧ V.cell? ⟨w.heap.size + 1, 1, none⟩ = some (.int .i64 x.number) ∧ V.cell? ⟨w.heap.size + 1, 2, none⟩ = some (.int .i64 x.what.key) ∧ V.cell? ⟨w.heap.size + 1, 3, none⟩ = some (.int .i64 x.what.value)) (go_keep) ((first
              | (go_at_call 19; (with_reducible refine (toChain_any _ _ _ _ l _ FE.out hn HG.out).mono ?_); rintro e wa ⟨Aa, na, ca, rfl, hla, hrowa, hba⟩; obtain rfl : na = n7 := by rw [← hla]; exact HL.out
                 have HB1 := Lib.hid (BA.out.trans (hba.mono (by simp))); have x10 := (HB1.out.cell (p := ⟨w.heap.size, 0, none⟩) l0).trans q0; have x11 := (HB1.out.cell (p := ⟨w.heap.size, 1, none⟩) l0).trans q1; have x12 := (HB1.out.cell (p := ⟨w.heap.size + 1, 0, none⟩) l2).trans p0; have x13 := (HB1.out.cell (p := ⟨w.heap.size + 1, 1, none⟩) l2).trans p1; have x14 := (HB1.out.cell (p := ⟨w.heap.size + 1, 2, none⟩) l2).trans p2; have x15 := (HB1.out.cell (p := ⟨w.heap.size + 1, 3, none⟩) l2).trans p3; have s1 := HB1.out.size; have g11 : w.heap.size < wa.heap.size := (by omega); have g12 : w.heap.size + 1 < wa.heap.size := (by omega); have h11 : w.heap.size ≠ wa.heap.size := (by omega); have h12 : w.heap.size + 1 ≠ wa.heap.size := (by omega); have h13 : wa.heap.size ≠ w.heap.size := (by omega); have h14 : wa.heap.size ≠ w.heap.size + 1 := (by omega); have NB := Lib.hid (NA.out.below hba); have n0 := NB.out.cell (i := 0) (v := .int .i64 0) rfl; have n1 := NB.out.cell (i := 1) (v := .slice none 0 0) rfl; have z0 := NB.out.free 0; have z1 := NB.out.free 1; (try (have NL1 := NB.out.lt)); have F1 := Lib.hid (hrowa.nods'.2.mono (Nat.zero_le _) (Nat.le_refl _)); clear hrowa hba hla)
              | (go_at_call 19; (with_reducible refine (toChain_any _ _ _ _ l _ FD.out hn HG.out).mono ?_); rintro e wa ⟨Aa, na, ca, rfl, hla, hrowa, hba⟩; obtain rfl : na = n7 := by rw [← hla]; exact HL.out
                 have HB1 := Lib.hid (BD.out.trans (hba.mono (by simp))); have x10 := (HB1.out.cell (p := ⟨w.heap.size, 0, none⟩) l0).trans q0; have x11 := (HB1.out.cell (p := ⟨w.heap.size, 1, none⟩) l0).trans q1; have x12 := (HB1.out.cell (p := ⟨w.heap.size + 1, 0, none⟩) l2).trans p0; have x13 := (HB1.out.cell (p := ⟨w.heap.size + 1, 1, none⟩) l2).trans p1; have x14 := (HB1.out.cell (p := ⟨w.heap.size + 1, 2, none⟩) l2).trans p2; have x15 := (HB1.out.cell (p := ⟨w.heap.size + 1, 3, none⟩) l2).trans p3; have s1 := HB1.out.size; have g11 : w.heap.size < wa.heap.size := (by omega); have g12 : w.heap.size + 1 < wa.heap.size := (by omega); have h11 : w.heap.size ≠ wa.heap.size := (by omega); have h12 : w.heap.size + 1 ≠ wa.heap.size := (by omega); have h13 : wa.heap.size ≠ w.heap.size := (by omega); have h14 : wa.heap.size ≠ w.heap.size + 1 := (by omega); (try (have NL1 := NB.out.lt)); have F1 := Lib.hid (hrowa.nods'.2.mono (Nat.zero_le _) (Nat.le_refl _)); clear hrowa hba hla)
              | (go_at_call 20; (with_reducible refine (toCallS_any _ _ _ ks _ ((GI.out.on HB1.out).box (.cells #[.int .i64 0, .slice none 0 0] 25)) hm).mono ?_); rintro e wb ⟨rfl, hownb, hbb⟩
                 have HB2 := Lib.hid ((HB1.out.alloc HB1.out.size (.cells #[.int .i64 0, .slice none 0 0] 25)).trans (hbb.mono (by simp; omega))); have x20 := (HB2.out.cell (p := ⟨w.heap.size, 0, none⟩) l0).trans q0; have x21 := (HB2.out.cell (p := ⟨w.heap.size, 1, none⟩) l0).trans q1; have x22 := (HB2.out.cell (p := ⟨w.heap.size + 1, 0, none⟩) l2).trans p0; have x23 := (HB2.out.cell (p := ⟨w.heap.size + 1, 1, none⟩) l2).trans p1; have x24 := (HB2.out.cell (p := ⟨w.heap.size + 1, 2, none⟩) l2).trans p2; have x25 := (HB2.out.cell (p := ⟨w.heap.size + 1, 3, none⟩) l2).trans p3; have s2 := HB2.out.size; have g21 : w.heap.size < wb.heap.size := (by omega); have g22 : w.heap.size + 1 < wb.heap.size := (by omega); have h21 : w.heap.size ≠ wb.heap.size := (by omega); have h22 : w.heap.size + 1 ≠ wb.heap.size := (by omega); have h23 : wb.heap.size ≠ w.heap.size := (by omega); have h24 : wb.heap.size ≠ w.heap.size + 1 := (by omega); have NB := Lib.hid ((Blk.new wa #[.int .i64 0, .slice none 0 0] 25).below hbb); have n0 := NB.out.cell (i := 0) (v := .int .i64 0) rfl; have n1 := NB.out.cell (i := 1) (v := .slice none 0 0) rfl; have z0 := NB.out.free 0; have z1 := NB.out.free 1; (try (have NL2 := NB.out.lt)); have F2 := Lib.hid ((F1.out.box (.cells #[.int .i64 0, .slice none 0 0] 25)).on hbb); have gg := (own_flat' Cll.len hownb HM.out).mono (Nat.zero_le _) (Nat.le_refl _); (try simp only [World.size_alloc] at gg); have G2 := Lib.hid gg; clear gg hownb hbb)
              | (go_at_call 20; (with_reducible refine (toCallS_any _ _ _ ks _ (GI.out.on HB1.out) hm).mono ?_); rintro e wb ⟨rfl, hownb, hbb⟩
                 have HB2 := Lib.hid (HB1.out.trans (hbb.mono HB1.out.size)); have x20 := (HB2.out.cell (p := ⟨w.heap.size, 0, none⟩) l0).trans q0; have x21 := (HB2.out.cell (p := ⟨w.heap.size, 1, none⟩) l0).trans q1; have x22 := (HB2.out.cell (p := ⟨w.heap.size + 1, 0, none⟩) l2).trans p0; have x23 := (HB2.out.cell (p := ⟨w.heap.size + 1, 1, none⟩) l2).trans p1; have x24 := (HB2.out.cell (p := ⟨w.heap.size + 1, 2, none⟩) l2).trans p2; have x25 := (HB2.out.cell (p := ⟨w.heap.size + 1, 3, none⟩) l2).trans p3; have s2 := HB2.out.size; have g21 : w.heap.size < wb.heap.size := (by omega); have g22 : w.heap.size + 1 < wb.heap.size := (by omega); have h21 : w.heap.size ≠ wb.heap.size := (by omega); have h22 : w.heap.size + 1 ≠ wb.heap.size := (by omega); have h23 : wb.heap.size ≠ w.heap.size := (by omega); have h24 : wb.heap.size ≠ w.heap.size + 1 := (by omega); (try (have nb2 := NB.out.below hbb; clear NB n0 n1 z0 z1; have NB := Lib.hid nb2; have n0 := NB.out.cell (i := 0) (v := .int .i64 0) rfl; have n1 := NB.out.cell (i := 1) (v := .slice none 0 0) rfl; have z0 := NB.out.free 0; have z1 := NB.out.free 1; clear nb2)); (try (have NL2 := NB.out.lt)); have F2 := Lib.hid (F1.out.on hbb); have gg := (own_flat' Cll.len hownb HM.out).mono (Nat.zero_le _) (Nat.le_refl _); (try simp only [World.size_alloc] at gg); have G2 := Lib.hid gg; clear gg hownb hbb)
              | (go_at_call 21; (with_reducible refine (toCall_any _ _ _ _ (wb.alloc (.cells #[.int .i64 0, .slice none 0 0] 25))).mono ?_); rintro e wc ⟨rfl, hbc⟩
                 have HB3 := Lib.hid ((HB2.out.alloc HB2.out.size (.cells #[.int .i64 0, .slice none 0 0] 25)).trans (hbc.mono (by simp; omega))); have x30 := (HB3.out.cell (p := ⟨w.heap.size, 0, none⟩) l0).trans q0; have x31 := (HB3.out.cell (p := ⟨w.heap.size, 1, none⟩) l0).trans q1; have x32 := (HB3.out.cell (p := ⟨w.heap.size + 1, 0, none⟩) l2).trans p0; have x33 := (HB3.out.cell (p := ⟨w.heap.size + 1, 1, none⟩) l2).trans p1; have x34 := (HB3.out.cell (p := ⟨w.heap.size + 1, 2, none⟩) l2).trans p2; have x35 := (HB3.out.cell (p := ⟨w.heap.size + 1, 3, none⟩) l2).trans p3; have s3 := HB3.out.size; have g31 : w.heap.size < wc.heap.size := (by omega); have g32 : w.heap.size + 1 < wc.heap.size := (by omega); have h31 : w.heap.size ≠ wc.heap.size := (by omega); have h32 : w.heap.size + 1 ≠ wc.heap.size := (by omega); have h33 : wc.heap.size ≠ w.heap.size := (by omega); have h34 : wc.heap.size ≠ w.heap.size + 1 := (by omega); have NB := Lib.hid ((Blk.new wb #[.int .i64 0, .slice none 0 0] 25).below hbc); have n0 := NB.out.cell (i := 0) (v := .int .i64 0) rfl; have n1 := NB.out.cell (i := 1) (v := .slice none 0 0) rfl; have z0 := NB.out.free 0; have z1 := NB.out.free 1; (try (have NL3 := NB.out.lt)); have F3 := Lib.hid ((F2.out.box (.cells #[.int .i64 0, .slice none 0 0] 25)).on hbc); have G3 := Lib.hid (Flat.on (G2.out.box (.cells #[.int .i64 0, .slice none 0 0] 25)) hbc); clear hbc)
              | (go_at_call 21; (with_reducible refine (toCall_any _ _ _ _ wb).mono ?_); rintro e wc ⟨rfl, hbc⟩
                 have HB3 := Lib.hid (HB2.out.trans (hbc.mono HB2.out.size)); have x30 := (HB3.out.cell (p := ⟨w.heap.size, 0, none⟩) l0).trans q0; have x31 := (HB3.out.cell (p := ⟨w.heap.size, 1, none⟩) l0).trans q1; have x32 := (HB3.out.cell (p := ⟨w.heap.size + 1, 0, none⟩) l2).trans p0; have x33 := (HB3.out.cell (p := ⟨w.heap.size + 1, 1, none⟩) l2).trans p1; have x34 := (HB3.out.cell (p := ⟨w.heap.size + 1, 2, none⟩) l2).trans p2; have x35 := (HB3.out.cell (p := ⟨w.heap.size + 1, 3, none⟩) l2).trans p3; have s3 := HB3.out.size; have g31 : w.heap.size < wc.heap.size := (by omega); have g32 : w.heap.size + 1 < wc.heap.size := (by omega); have h31 : w.heap.size ≠ wc.heap.size := (by omega); have h32 : w.heap.size + 1 ≠ wc.heap.size := (by omega); have h33 : wc.heap.size ≠ w.heap.size := (by omega); have h34 : wc.heap.size ≠ w.heap.size + 1 := (by omega); (try (have nb2 := NB.out.below hbc; clear NB n0 n1 z0 z1; have NB := Lib.hid nb2; have n0 := NB.out.cell (i := 0) (v := .int .i64 0) rfl; have n1 := NB.out.cell (i := 1) (v := .slice none 0 0) rfl; have z0 := NB.out.free 0; have z1 := NB.out.free 1; clear nb2)); (try (have NL3 := NB.out.lt)); have F3 := Lib.hid (F2.out.on hbc); have G3 := Lib.hid (Flat.on G2.out hbc); clear hbc)
              | (go_at_call 10; (with_reducible refine (IM.out (wc.alloc (.cells #[.int .i64 0, .slice none 0 0] 25)) ((HE.out.below (BT.out.trans (HB3.out.mono BT.out.size))).box _) _ _ _ _ _ _ (F3.out.box (.cells #[.int .i64 0, .slice none 0 0] 25)) (G3.out.box (.cells #[.int .i64 0, .slice none 0 0] 25)) hn HG.out hm).mono ?_); rintro e wz ⟨Az, nz, cz, Bz, mz, dz, rfl, hlz, hmz, hrowz, hclz, hbz⟩; obtain rfl : nz = nn := by rw [← hlz]; exact NN.out
                 obtain rfl : mz = mm := by rw [← hmz]; exact MM.out
                 have HB4 := Lib.hid ((HB3.out.alloc HB3.out.size (.cells #[.int .i64 0, .slice none 0 0] 25)).trans (hbz.mono (by simp; omega))); have x40 := (HB4.out.cell (p := ⟨w.heap.size, 0, none⟩) l0).trans q0; have x41 := (HB4.out.cell (p := ⟨w.heap.size, 1, none⟩) l0).trans q1; have x42 := (HB4.out.cell (p := ⟨w.heap.size + 1, 0, none⟩) l2).trans p0; have x43 := (HB4.out.cell (p := ⟨w.heap.size + 1, 1, none⟩) l2).trans p1; have x44 := (HB4.out.cell (p := ⟨w.heap.size + 1, 2, none⟩) l2).trans p2; have x45 := (HB4.out.cell (p := ⟨w.heap.size + 1, 3, none⟩) l2).trans p3; have s4 := HB4.out.size; have g41 : w.heap.size < wz.heap.size := (by omega); have g42 : w.heap.size + 1 < wz.heap.size := (by omega); have h41 : w.heap.size ≠ wz.heap.size := (by omega); have h42 : w.heap.size + 1 ≠ wz.heap.size := (by omega); have h43 : wz.heap.size ≠ w.heap.size := (by omega); have h44 : wz.heap.size ≠ w.heap.size + 1 := (by omega); have NB := Lib.hid ((Blk.new wc #[.int .i64 0, .slice none 0 0] 25).below hbz); have n0 := NB.out.cell (i := 0) (v := .int .i64 0) rfl; have n1 := NB.out.cell (i := 1) (v := .slice none 0 0) rfl; have z0 := NB.out.free 0; have z1 := NB.out.free 1; have RC := Lib.hid hrowz; have KC := Lib.hid hclz; have LC := Lib.hid (show wc.heap.size ≤ (wc.alloc (.cells #[.int .i64 0, .slice none 0 0] 25)).heap.size by simp); have HBC := Lib.hid hbz.size; clear hrowz hbz hlz hmz hclz)
              | (go_at_call 10; (with_reducible refine (IM.out wc (HE.out.below (BT.out.trans (HB3.out.mono BT.out.size))) _ _ _ _ _ _ F3.out G3.out hn HG.out hm).mono ?_); rintro e wz ⟨Az, nz, cz, Bz, mz, dz, rfl, hlz, hmz, hrowz, hclz, hbz⟩; obtain rfl : nz = nn := by rw [← hlz]; exact NN.out
                 obtain rfl : mz = mm := by rw [← hmz]; exact MM.out
                 have HB4 := Lib.hid (HB3.out.trans (hbz.mono HB3.out.size)); have x40 := (HB4.out.cell (p := ⟨w.heap.size, 0, none⟩) l0).trans q0; have x41 := (HB4.out.cell (p := ⟨w.heap.size, 1, none⟩) l0).trans q1; have x42 := (HB4.out.cell (p := ⟨w.heap.size + 1, 0, none⟩) l2).trans p0; have x43 := (HB4.out.cell (p := ⟨w.heap.size + 1, 1, none⟩) l2).trans p1; have x44 := (HB4.out.cell (p := ⟨w.heap.size + 1, 2, none⟩) l2).trans p2; have x45 := (HB4.out.cell (p := ⟨w.heap.size + 1, 3, none⟩) l2).trans p3; have s4 := HB4.out.size; have g41 : w.heap.size < wz.heap.size := (by omega); have g42 : w.heap.size + 1 < wz.heap.size := (by omega); have h41 : w.heap.size ≠ wz.heap.size := (by omega); have h42 : w.heap.size + 1 ≠ wz.heap.size := (by omega); have h43 : wz.heap.size ≠ w.heap.size := (by omega); have h44 : wz.heap.size ≠ w.heap.size + 1 := (by omega); (try (have nb2 := NB.out.below hbz; clear NB n0 n1 z0 z1; have NB := Lib.hid nb2; have n0 := NB.out.cell (i := 0) (v := .int .i64 0) rfl; have n1 := NB.out.cell (i := 1) (v := .slice none 0 0) rfl; have z0 := NB.out.free 0; have z1 := NB.out.free 1; clear nb2)); have RC := Lib.hid hrowz; have KC := Lib.hid hclz; have LC := Lib.hid (show wc.heap.size ≤ wc.heap.size by simp); have HBC := Lib.hid hbz.size; clear hrowz hbz hlz hmz hclz)))
        all_goals
          go_wp2_with fail
          go_meet
          case rel =>
            have hrc := RC.out
            have lc := LC.out
            have hbcs := HBC.out
            try simp only [World.size_alloc] at hrc lc hbcs
            first
              | (obtain ⟨c1, c2, c3⟩ := fusedX (view := v1) HB4.out hrc KC.out (by omega) (Nat.le_refl _); exact ⟨_, _, _, _, _, Az, cz, Bz, dz, rfl, rfl, rfl, c1, c2, c3⟩)
              | (obtain ⟨c1, c2, c3⟩ := storedX (view := v1) HB4.out hrc KC.out NB.out (by first | exact Nat.le_refl _ | omega) (by omega) (Nat.le_refl _); exact ⟨_, _, _, _, _, Az, cz, Bz, dz, rfl, rfl, rfl, c1, c2, c3⟩)
      case rest =>
        obtain ⟨gq, ql, qh, pl, ph, A14, c14, B14, d14, rfl, rfl, rfl, CH, KH, bx⟩ := hcut
        obtain ⟨w20, rfl⟩ : ∃ w20 : World, w20 = wc := ⟨_, rfl⟩
        have CH := Lib.hid CH
        have KH := Lib.hid KH
        clear q0 q1 p0 p1 p2 p3 FW GI
        have CG_ := Lib.hid (CG.out.below bx)
        have KG_ := Lib.hid (KG.out.below bx)
        have CW_ := Lib.hid (CW.out.below bx)
        have KW_ := Lib.hid (KW.out.below bx)
        have CA_ := Lib.hid (CA.out.below bx)
        have UU_ := Lib.hid (UU.out.below bx)
        have BT_ := Lib.hid (BT.out.trans (bx.mono BT.out.size))
        clear CG KG CW KW CA UU BT
        have CG := Lib.hid CG_.out
        clear CG_
        have KG := Lib.hid KG_.out
        clear KG_
        have CW := Lib.hid CW_.out
        clear CW_
        have KW := Lib.hid KW_.out
        clear KW_
        have CA := Lib.hid CA_.out
        clear CA_
        have UU := Lib.hid UU_.out
        clear UU_
        have BT := Lib.hid BT_.out
        clear BT_
        clear bx
        have q0 := CH.out.c0
        have q1 := CH.out.c1
        have p0 := CW.out.c0
        have p1 := CW.out.c1
        go_wp2_with fail
        refine (eqChain_same v1 _ _ _ _ _ l1 _ CH.out.wide CW.out.wide hn5 HG1.out).mono ?_
        rintro e w21 ⟨rfl, hb⟩
        clear q0 q1 p0 p1
        have CG_ := Lib.hid (CG.out.below hb)
        have KG_ := Lib.hid (KG.out.below hb)
        have CW_ := Lib.hid (CW.out.below hb)
        have KW_ := Lib.hid (KW.out.below hb)
        have BT_ := Lib.hid (BT.out.trans (hb.mono BT.out.size))
        have CH_ := Lib.hid (CH.out.below hb)
        have KH_ := Lib.hid (KH.out.below hb)
        clear CG KG CW KW BT CH KH
        have CG := Lib.hid CG_.out
        clear CG_
        have KG := Lib.hid KG_.out
        clear KG_
        have CW := Lib.hid CW_.out
        clear CW_
        have KW := Lib.hid KW_.out
        clear KW_
        have BT := Lib.hid BT_.out
        clear BT_
        have CH := Lib.hid CH_.out
        clear CH_
        have KH := Lib.hid KH_.out
        clear KH_
        clear hb
        go_wp2_with fail
        refine (eqCallS_same _ _ _ _ _ r1 _ KH.out.flat KW.out.flat hm5).mono ?_
        rintro e w22 ⟨rfl, hb⟩
        have CG_ := Lib.hid (CG.out.below hb)
        have KG_ := Lib.hid (KG.out.below hb)
        have BT_ := Lib.hid (BT.out.trans (hb.mono BT.out.size))
        clear CG KG BT
        have CG := Lib.hid CG_.out
        clear CG_
        have KG := Lib.hid KG_.out
        clear KG_
        have BT := Lib.hid BT_.out
        clear BT_
        clear hb
        have q0 := CG.out.c0
        have q1 := CG.out.c1
        go_wp2_with fail
        refine (heldChain_marks v1 _ _ _ l1 1 _ CG.out.wide hn5 HG1.out (by omega) (by omega)).mono ?_
        rintro e w23 ⟨rfl, hb⟩
        rw [MV.out]
        clear q0 q1
        have KG_ := Lib.hid (KG.out.below hb)
        have BT_ := Lib.hid (BT.out.trans (hb.mono BT.out.size))
        clear KG BT
        have KG := Lib.hid KG_.out
        clear KG_
        have BT := Lib.hid BT_.out
        clear BT_
        clear hb
        go_wp2_with fail
        refine (heldCallS_marks _ _ _ mv _ KG.out.flat hm5 (by omega) mv2).mono ?_
        rintro e w24 ⟨rfl, hb⟩
        have BE := Lib.hid (BT.out.trans (hb.mono BT.out.size))
        clear hb
        go_wp2_with fail
        go_ret
        exact ⟨rfl, BE.out⟩
theorem exCallRun_walkK (view : Int) (A : Option Addr) (n c : Nat) (l : List Nod) (B : Option Addr) (m d : Nat) (ks : List Cll) (x : Cll) (a : Addr) (w : World) (he : ErrAt a w) (h : Nods w 0 w.heap.size A n c l) (hf : Flat Cll.enc 4 w 0 w.heap.size B m d ks) :
    Calls Mo.prog 5 #[.agg #[.int .i64 view, .slice A n c], .slice B m d, .agg #[.int .i64 x.client, .int .i64 x.number, .int .i64 x.what.key, .int .i64 x.what.value]] w fun e w' => e = .returned (.bool true) ∧ Below w.heap.size w w' := exCallRun_walk a view A n c l B m d ks x w he h hf
end Go.Proofs.YtemgilofjbnoaaaGreatDoor
namespace Go.Proofs.YtemgilofjbnoaaaGreatDoor.fnExactCallRun
open Go Go.Conc Go.ChangeShapes Go.WideShapes Go.ChangeAt Go.RowKit
set_option linter.unusedVariables false
set_option maxRecDepth 100000 in
theorem lifted (os : Os) (started : os.Started) (H : Type) (enc : TypeId × Value → H) :
    ReturnsInLeavingWide {} Tryz.checked os 5 .any (fun w args => (Rows.fnExactCallRunSpec.pre enc Tryz.prog Tryz.f5 Rows.fnExactCallRunRow.domain false w args ∧ laidMetH Tryz.prog laidList w) ∧ sizedMet enc Tryz.prog Tryz.f5 (OpenSpec.ofChange Rows.fnExactCallRunSpec) false w args)
      (Rows.fnExactCallRunSpec.post enc Tryz.prog Tryz.f5 false true false false) := by
  refine leaving_and (C := Tryz.checked) (X := fun w _ => laidMetH Tryz.prog laidList w) (fun _ _ _ hh h => h.of_heap hh) ownK started Tryz.func5
    (ChangeSpec.witness_at (enc := enc) (C := Tryz.checked) (os := os) (X := fun w _ => laidMetH Tryz.prog laidList w) false (laidWorld os) #[.agg #[.int .i64 0, .slice none 0 0], .slice none 0 0, .agg #[.int .i64 0, .int .i64 0, .int .i64 0, .int .i64 0]] 8 rfl (by kernel_rfl) (by kernel_rfl) (by kernel_rfl) (by kernel_rfl) (by kernel_rfl) laid_metH) ?_
  intro W base args ds gs before hval0 hW hL
  have hval : ∀ (j : Nat) t v, Tryz.f5.params[j]? = some t → args[j]? = some v → Value.okWide Tryz.prog W .any base t v := hval0
  have hW' := hW
  obtain ⟨p, q, hA0, hV, rfl, hfz, hnd⟩ := hW
  have hA : DataW.TrodAll enc Tryz.prog W 0 (fun _ => true) true Tryz.f5.params.toList args.toList ds p := hA0
  rw [Tryz.params5] at hA hval
  obtain ⟨v0, vs0, d0, ds0, p0, q0, hargs, rfl, rfl, h0, r0⟩ := trodAll_cons hA
  obtain ⟨v1, vs1, d1, ds1, p1, q1, rfl, rfl, rfl, h1, r1⟩ := trodAll_cons r0
  obtain ⟨v2, vs2, d2, ds2, p2, q2, rfl, rfl, rfl, h2, r2⟩ := trodAll_cons r1
  obtain ⟨rfl, rfl, rfl⟩ := trodAll_nil r2
  obtain rfl : args = #[v0, v1, v2] := by cases args; simp_all
  have hV' : DataW.TrodVars enc Tryz.prog W (fun _ => true) ["loop.example/chainfiles/impl.errTake"] gs q := hV
  obtain ⟨g1, rfl⟩ := trodVars_len hV'
  obtain ⟨ea, he⟩ := err_of_laid hL
  have k0 := h0
  have lt0 : ∀ x ∈ p0, x.block < W.heap.size := by obtain ⟨m, hm⟩ := k0; exact DataW.trod_lt m _ _ _ hm
  have k1 := h1
  have lt1 : ∀ x ∈ p1, x.block < W.heap.size := by obtain ⟨m, hm⟩ := k1; exact DataW.trod_lt m _ _ _ hm
  have k2 := h2
  have lt2 : ∀ x ∈ p2, x.block < W.heap.size := by obtain ⟨m, hm⟩ := k2; exact DataW.trod_lt m _ _ _ hm
  obtain ⟨view0, A0, n0, c0, l0, rfl, f0⟩ := reads_chain (hval 0 44 v0 rfl rfl) h0
  obtain ⟨A1, n1, c1, l1, rfl, f1⟩ := reads_calls (hval 1 45 v1 rfl rfl) h1
  obtain ⟨x2, rfl⟩ := reads_call (hval 2 48 v2 rfl rfl) h2
  clear hA0 hval0
  obtain ⟨M, last, o, w', t', e1, e2, e3, e4⟩ := mo_run fmo5 (by kernel_rfl) (by decide) (by kernel_rfl) #[.agg #[.int .i64 view0, .slice A0 n0 c0], .slice A1 n1 c1, .agg #[.int .i64 x2.client, .int .i64 x2.number, .int .i64 x2.what.key, .int .i64 x2.what.value]] W (fun w hw => exCallRun_walkK view0 A0 n0 c0 l0 A1 n1 c1 l1 x2 ea w (he.brk hw) (brk_nods hw f0) (brk_flat hw f1))
  refine ⟨M, last, o, w', t', e1, e2, e3, e4.mono fun v hp => ?_⟩
  obtain ⟨rfl, bel⟩ := hp
  exact ⟨_, _, _, [], _, _, hW', trodAll_mk1 (shut_bool Tryz.underlying4 _), (trodAll_cons_mk (BelowT.trod laidOut (by kernel_rfl) (of_decide_eq_true (by kernel_rfl)) k0 bel lt0) (trodAll_cons_mk (BelowT.trod laidOut (by kernel_rfl) (of_decide_eq_true (by kernel_rfl)) k1 bel lt1) (trodAll_cons_mk (BelowT.trod laidOut (by kernel_rfl) (of_decide_eq_true (by kernel_rfl)) k2 bel lt2) trodAll_mk0))), BelowT.trodVars bel hV', bel.frame _, fun h => by cases h⟩
theorem over : Rows.fnExactCallRunRow.holds Tryz.pinned (OpenSpec.ofChange Rows.fnExactCallRunSpec) :=
  OpenClaim.holds_of_wide_leaving 5 Tryz.f5 rfl rfl rfl rfl rfl rfl rfl ⟨rfl, rfl, rfl, rfl, rfl⟩ rfl rfl rfl rfl rfl (by kernel_rfl) Tryz.func5 (by kernel_rfl)
    (of_decide_eq_true (by kernel_rfl)) (by unfold Func.isWrapper; first | (rw [if_pos (by decide +kernel)]; kernel_rfl) | (rw [if_neg (by decide +kernel)]; exact ⟨rfl, rfl⟩))
    (fun os started H enc _ => lifted os started H enc)
theorem proved : Rows.FnExactCallRunCardSaid :=
  tied_goes .later [.sentinel] true Rows.fnExactCallRunCard.stood.harness true
    over (by kernel_rfl) fnExactCallRun_row_tie rfl ⟨rfl, rfl⟩ (by kernel_rfl) rfl
    (fun f fn hf hfn => by
      obtain rfl : f = 5 := Option.some.inj ((show Tryz.prog.funcNamed "loop.example/chainfiles/laws.FnExactCallRun" = some 5 by kernel_rfl).symm.trans hf) |>.symm
      obtain rfl : fn = Tryz.f5 := (Option.some.inj (Tryz.func5.symm.trans hfn)).symm
      exact ⟨by kernel_rfl, fun j t ht => by
        rw [Tryz.params5] at ht
        rcases j with _ | j
        · obtain rfl : 44 = t := by simpa using ht
          exact (show Tryz.prog.wantsStandIn 44 = false by kernel_rfl)
        rcases j with _ | j
        · obtain rfl : 45 = t := by simpa using ht
          exact (show Tryz.prog.wantsStandIn 45 = false by kernel_rfl)
        rcases j with _ | j
        · obtain rfl : 48 = t := by simpa using ht
          exact (show Tryz.prog.wantsStandIn 48 = false by kernel_rfl)
        · simp at ht⟩)
    (by kernel_rfl)
#print axioms proved
end Go.Proofs.YtemgilofjbnoaaaGreatDoor.fnExactCallRun
