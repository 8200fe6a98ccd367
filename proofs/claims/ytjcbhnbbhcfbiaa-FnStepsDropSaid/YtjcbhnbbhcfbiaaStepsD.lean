/- The first step that does not fit: the program's walk, which ranges over a function. -/
import Derived.Test.YtjcbhnbbhcfbiaaStepsC
import Derived.Test.YtjcbhnbbhcfbiaaRound
namespace Go.Proofs.Ytjcbhnbbhcfbiaa
open Go.RowKit Go.Shelf
attribute [local go_sem] Oper.semAt_some

theorem st_own {β : Type} (g : Nat) (f : β → List Int) (hf : ∀ s, 0 < (f s).length) : Own (fun s W => StAt W g (f s)) := fun s X Y row hs hg hrow =>
  hs.kept hg (fun e' => by
    obtain ⟨o, ho, hc⟩ := hrow g e'.symm
    obtain ⟨x, _, hcell⟩ := hs.at_ (hf s)
    unfold World.cell? at hcell
    simp only [ho] at hcell
    cases o <;> simp_all [Obj.isCells])

/-- a step with its place, whose key is in range -/
abbrev KSt := { p : Nat × Stp // 0 ≤ p.2.key ∧ p.2.key ≤ 4 }
def ysOf (pre : List KSt) : List Stp := pre.map (·.1.2)
def stP (pre : List KSt) : List Int := (ysOf pre).foldl stStep st0
def GoodP (pre : List KSt) : Prop := ∀ i, i < pre.length → badAt (ysOf pre) i = false
theorem stP_len (pre : List KSt) : (stP pre).length = 5 := by unfold stP; rw [fold_len]; rfl
theorem ysOf_len (pre : List KSt) : (ysOf pre).length = pre.length := by unfold ysOf; simp
theorem ysOf_snoc (pre : List KSt) (x : KSt) : ysOf (pre ++ [x]) = ysOf pre ++ [x.1.2] := by unfold ysOf; simp
theorem stP_snoc (pre : List KSt) (x : KSt) : stP (pre ++ [x]) = stStep (stP pre) x.1.2 := by unfold stP; rw [ysOf_snoc, List.foldl_append]; rfl
theorem badAt_take {l : List Stp} {k i : Nat} (h : i < k) : badAt (l.take k) i = badAt l i := by
  unfold badAt stTo
  rw [List.getElem?_take, if_pos h, List.take_take, Nat.min_eq_left (by omega)]
theorem badAt_snoc_old {ys : List Stp} {s : Stp} {i : Nat} (h : i < ys.length) : badAt (ys ++ [s]) i = badAt ys i := by
  rw [← badAt_take (l := ys ++ [s]) (k := ys.length) h]
  rw [List.take_left]
theorem stTo_snoc (ys : List Stp) (s : Stp) : stTo (ys ++ [s]) ys.length = ys.foldl stStep st0 := by unfold stTo; rw [List.take_left]
theorem last_at (ys : List Stp) (s : Stp) : (ys ++ [s])[ys.length]? = some s := by simp
theorem good_snoc {pre : List KSt} {x : KSt} (h : GoodP pre) (hb : badAt (ysOf pre ++ [x.1.2]) (ysOf pre).length = false) : GoodP (pre ++ [x]) := by
  intro i hi
  rw [ysOf_snoc]
  rw [List.length_append, List.length_singleton] at hi
  by_cases e : i = pre.length
  · subst e; rw [← ysOf_len pre]; exact hb
  · rw [badAt_snoc_old (by rw [ysOf_len]; omega)]; exact h i (by omega)
/-- the last of these is the first bad one -/
def BadLast (pre : List KSt) (n : Nat) : Prop := ∃ pre0 x, pre = pre0 ++ [x] ∧ GoodP pre0 ∧ badAt (ysOf pre0 ++ [x.1.2]) (ysOf pre0).length = true ∧ n = x.1.1

theorem lift_list {β : Type} {P : β → Prop} : ∀ (L : List β), (∀ p ∈ L, P p) → ∃ xs : List { p : β // P p }, xs.map (·.1) = L := by
  intro L
  induction L with
  | nil => intro _; exact ⟨[], rfl⟩
  | cons a L ih =>
    intro h
    obtain ⟨xs, hx⟩ := ih (fun p hp => h p (List.mem_cons_of_mem _ hp))
    exact ⟨⟨a, h a List.mem_cons_self⟩ :: xs, by simp [hx]⟩

theorem hands_ks {l : List Stp} (h : stepsOk l = true) : ∃ xs : List KSt, Hands (·.1) l xs ∧ ysOf xs = l := by
  obtain ⟨xs, hx⟩ := lift_list (P := fun p : Nat × Stp => 0 ≤ p.2.key ∧ p.2.key ≤ 4) (numTo l l.length) (fun p hp => by
    have hm : p.2 ∈ l := by
      have : p.2 ∈ (numTo l l.length).map (·.2) := List.mem_map_of_mem hp
      rw [numTo_snd] at this
      exact List.mem_of_mem_take this
    obtain ⟨i, hi⟩ := List.getElem?_of_mem hm
    obtain ⟨kk, hk, h5⟩ := step_key h hi
    rw [hk]; omega)
  have hn := hands_numTo l
  refine ⟨xs, ⟨?_, fun k x hk => ?_⟩, ?_⟩
  · rw [← hn.1, ← hx, List.length_map]
  · exact hn.2 k x.1 (by rw [← hx, List.getElem?_map, hk]; rfl)
  · unfold ysOf
    have : xs.map (fun y => y.1.2) = (xs.map (·.1)).map (·.2) := by rw [List.map_map]; rfl
    rw [this, hx, numTo_snd, List.take_of_length_le (Nat.le_refl _)]

theorem stop_at {l : List Stp} {xs : List KSt} {k n : Nat} (hX : Hands (·.1) l xs) (hY : ysOf xs = l) (hb : BadLast (xs.take k) n) : firstBad l = n := by
  obtain ⟨pre0, x, he, hg, hbad, rfl⟩ := hb
  have hlen : (xs.take k).length = pre0.length + 1 := by rw [he]; simp
  have hj : pre0.length < k := by rw [List.length_take] at hlen; omega
  have hx : xs[pre0.length]? = some x := by
    have : (xs.take k)[pre0.length]? = some x := by rw [he]; simp
    rwa [List.getElem?_take, if_pos hj] at this
  have ⟨hn, hl⟩ := hX.2 _ _ hx
  have hpre : ysOf pre0 ++ [x.1.2] = l.take (pre0.length + 1) := by
    rw [← ysOf_snoc, ← he, ← hY]
    unfold ysOf
    rw [← List.map_take]
    congr 1
    rw [List.length_take] at hlen
    rw [List.take_eq_take_iff]
    omega
  have hlt := (List.getElem?_eq_some_iff.1 hl).1
  rw [hn]
  refine firstBad_at (fun i hi => ?_) ?_ hlt
  · have := hg i hi
    rw [← badAt_snoc_old (s := x.1.2) (by rw [ysOf_len]; exact hi), hpre, badAt_take (by omega)] at this
    exact this
  · rw [hpre, ysOf_len, badAt_take (by omega)] at hbad
    exact hbad

set_option maxRecDepth 100000 in
set_option maxHeartbeats 2000000 in
theorem stepsBad_any (A : Option Addr) (m c : Nat) (l : List Stp) (w : World) (h : Flat Stp.enc 3 w 0 w.heap.size A m c l) (hm : m ≤ 1048576) :
    Calls Try.prog 17 #[.slice A m c] w fun e w' => e = .returned (.int .i64 (stepsBad l)) ∧ Below w.heap.size w w' := by
  have H := Lib.hid h
  have HL := Lib.hid h.len
  clear h
  have bR := BlkIs.new w 3 #[.int .i64 0]
  have hBR : Below w.heap.size w (w.alloc (.cells #[.int .i64 0] 3)) := (Below.refl _ _).alloc (Nat.le_refl _) _
  have F0 := Lib.hid (H.out.below hBR (Nat.le_refl _))
  cases hok : stepsOk l
  · go_enter Try.func17, Try.ntmps17
    go_wp2_with fail
    refine (stepsValid_any _ _ _ l _ (F0.out.mono (Nat.zero_le _) (by simp)) hm).mono ?_
    rintro e w1 ⟨rfl, hb1⟩
    rw [hok]
    have q0 := ((bR.below hb1).cell 0).trans rfl
    have q1 := (bR.below hb1).free 0
    have q2 := (((bR.below hb1).set_ 0 (.int .i64 (-2))).cell 0).trans rfl
    have B1 := Lib.hid hb1
    clear hb1
    go_wp2
    refine bodyPost_ret (v := .int .i64 (-2)) (by simp [results, Try.results17, go_sem, q2]) rfl ⟨ret_int (by unfold stepsBad; rw [hok]; rfl), (hBR.trans (B1.out.mono (by simp))).setCell (Nat.le_refl _) _⟩
  have HK := Lib.hid hok
  clear hok
  refine (callsIn_wide (n := 9)).1 ?_
  refine callsIn_of_wp_marks Try.func17 rfl trivial ?_ rfl
  simp only [Try.ntmps17, List.size_toArray, List.length_cons, List.length_nil, Nat.reduceAdd, Nat.reduceSub, Array.replicate_succ, Array.replicate_zero, List.push_toArray, List.append_toArray, List.nil_append, List.cons_append]
  gi_wp2_with fail
  refine ⟨trivial, (callsIn_wide.2 (stepsValid_any _ _ _ l _ (F0.out.mono (Nat.zero_le _) (by simp)) hm)).mono ?_⟩
  rintro e w1 ⟨rfl, hb1⟩
  rw [HK.out]
  have bR1 := bR.below hb1
  have B1 := Lib.hid (hBR.trans (hb1.mono (by simp)))
  have s1 : w.heap.size < w1.heap.size := by have := hb1.size; simp at this; omega
  clear hb1 bR hBR F0
  gi_wp2_with fail
  refine ⟨trivial, (callsIn_wide.2 (newState_any _)).mono ?_⟩
  rintro e w2 ⟨rfl, hst, hb2⟩
  have S2 := hst
  have bR2 := bR1.below hb2
  have B2 := Lib.hid (B1.out.trans (hb2.mono B1.out.size))
  have s2 := hst.1
  clear hst hb2 bR1 B1
  gi_wp2_with fail
  refine ⟨trivial, (callsIn_wide.2 (inOrder_any _ _ _ _)).mono ?_⟩
  rintro e w3 ⟨rfl, rfl⟩
  gi_wp2_with fail
  obtain ⟨xs, hX, hys⟩ := hands_ks HK.out
  have HX := Lib.hid hX
  have HY := Lib.hid hys
  clear hX hys
  have bV := (BlkIs.new w2 57 #[.pointer (some ⟨w1.heap.size, 0, none⟩)]).alloc (.cells #[.slice A m c] 23)
  have bL := BlkIs.new (w2.alloc (.cells #[.pointer (some ⟨w1.heap.size, 0, none⟩)] 57)) 23 #[.slice A m c]
  have bR := (bR2.alloc (.cells #[.pointer (some ⟨w1.heap.size, 0, none⟩)] 57)).alloc (.cells #[.slice A m c] 23)
  have sS := (S2.alloc (.cells #[.pointer (some ⟨w1.heap.size, 0, none⟩)] 57)).alloc (.cells #[.slice A m c] 23)
  simp only [World.size_alloc] at bL
  have s02 : w.heap.size ≤ w2.heap.size := B2.out.size
  have hB0 : Below w.heap.size w ((w2.alloc (.cells #[.pointer (some ⟨w1.heap.size, 0, none⟩)] 57)).alloc (.cells #[.slice A m c] 23)) := (B2.out.alloc s02 _).alloc (by simp; omega) _
  have hsz : ((w2.alloc (.cells #[.pointer (some ⟨w1.heap.size, 0, none⟩)] 57)).alloc (.cells #[.slice A m c] 23)).heap.size = w2.heap.size + 2 := by simp
  obtain ⟨W0, hW0⟩ : ∃ W0, (w2.alloc (.cells #[.pointer (some ⟨w1.heap.size, 0, none⟩)] 57)).alloc (.cells #[.slice A m c] 23) = W0 := ⟨_, rfl⟩
  rw [hW0] at bR bV bL sS hB0 hsz ⊢
  clear hW0 S2 bR2 B2
  refine wpIn_rangeFunc_ownH rfl (by omega) (gf := 38) (lb := #[.pointer (some ⟨w2.heap.size + 1, 0, none⟩)]) rfl trivial (enters_of Try.func38 (by kernel_rfl) rfl)
    (steps_stops (·.1) Fence.wide (9 - 1) trivial rfl (by omega) (w2.heap.size + 1) w.heap.size A m c l xs HX.out hm W0 (by omega) (by omega) ((bL.cell 0).trans rfl) (H.out.below hB0 (Nat.le_refl _))) belowK_t (belowK_b (by omega)) (Below.refl _ _) (fun _ => rfl)
    (fun pre W => (((BlkIs W w.heap.size 3 #[.int .i64 0] ∧ BlkIs W w2.heap.size 57 #[.pointer (some ⟨w1.heap.size, 0, none⟩)]) ∧ StAt W w1.heap.size (stP pre)) ∧ (GoodP pre ∧ pre.length ≤ 1048576)) ∧ Below w.heap.size w W)
    (fun c pre W => (∃ n : Nat, BlkIs W w.heap.size 3 #[.int .i64 (n : Int)] ∧ (c = .ret ∧ BadLast pre n)) ∧ Below w.heap.size w W)
    (OwnFrom.and (OwnFrom.and (OwnFrom.and (OwnFrom.and (Own.from (blk_own _ _ _) _) (Own.from (blk_own _ _ _) _)) (Own.from (st_own _ _ (fun s => by rw [stP_len]; omega)) _)) (ownFrom_pure _ _)) (ownFrom_below (Nat.le_refl _) (by omega)))
    (fun c => OwnFrom.and (fun s X Y row hs hg hr => by obtain ⟨n, h1, h2⟩ := hs; exact ⟨n, blk_own w.heap.size 3 (fun (_ : Unit) => #[.int .i64 (n : Int)]) () X Y row h1 hg (fun r e => (hr r e).2), h2⟩) (ownFrom_below (Nat.le_refl _) (by omega)))
    ⟨⟨⟨⟨bR, bV⟩, sS⟩, fun i h => absurd h (by simp), by simp⟩, hB0⟩
    (fun x a' W => ∃ Bx, w2.heap.size < Bx ∧ BlkIs W Bx 27 #[.bool x.1.2.reads, .int .i64 x.1.2.key, .int .i64 x.1.2.value] ∧ a' = { tmps := #[.slice A m c, undef, .pointer (some ⟨w.heap.size, 0, none⟩), .pointer (some ⟨w2.heap.size, 0, none⟩), .int .i64 (x.1.1 : Int), .pointer (some ⟨Bx, 0, none⟩), .slice A m c, .bool true, .bool false, .pointer (some ⟨w1.heap.size, 0, none⟩), .slice A m c, .func (.func 38) #[] #[.pointer (some ⟨w2.heap.size + 1, 0, none⟩)], .int .i64 (x.1.1 : Int), .agg #[.bool x.1.2.reads, .int .i64 x.1.2.key, .int .i64 x.1.2.value], undef, undef, undef, undef, undef, undef, undef, undef, undef, undef, undef, undef, undef, undef, undef, undef, undef, undef, undef, undef], defers := [] })
    (fun x a' _ X Y row hs hg hr => by obtain ⟨Bx, h1, h2, h3⟩ := hs; exact ⟨Bx, h1, blk_own Bx 27 (fun (_ : Unit) => #[.bool x.1.2.reads, .int .i64 x.1.2.key, .int .i64 x.1.2.value]) () X Y row h2 hg (fun r e => (hr r e).2), h3⟩)
    ?assign ?body ?done ?stop
  case assign =>
    rintro lp pre x W K ⟨⟨⟨⟨bR1, bV1⟩, sS1⟩, hp⟩, hB1⟩ hK
    have hsW := hB1.size
    gi_wp2
    exact hK _ _ ((KeepsOthers.alloc _ _).from _) ((Below.refl _ W).alloc hsW _) ⟨⟨⟨⟨bR1.alloc _, bV1.alloc _⟩, sS1.alloc _⟩, hp⟩, hB1.alloc hsW _⟩ ⟨W.heap.size, bV1.lt, BlkIs.new W _ _, rfl⟩
  case body =>
    rintro lp pre x a' W hl hr ⟨⟨⟨⟨bR1, bV1⟩, sS1⟩, hgood, hlen⟩, hB1⟩ ⟨Bx, hBx, bX, rfl⟩ hlt
    have hsW := hB1.size
    obtain ⟨kk, hkk, hkk5⟩ : ∃ kk : Nat, x.1.2.key = (kk : Int) ∧ kk < 5 := ⟨x.1.2.key.toNat, by have := x.2; omega, by have := x.2; omega⟩
    have Hkk := Lib.hid hkk
    rw [hkk] at bX
    clear hkk
    have x0 : W.cell? ⟨Bx, 0, none⟩ = some (.bool x.1.2.reads) := (bX.cell 0).trans rfl
    have x1 : W.cell? ⟨Bx, 1, none⟩ = some (.int .i64 (kk : Int)) := (bX.cell 1).trans rfl
    have x2 : W.cell? ⟨Bx, 2, none⟩ = some (.int .i64 x.1.2.value) := (bX.cell 2).trans rfl
    have v0 : W.cell? ⟨w2.heap.size, 0, none⟩ = some (.pointer (some ⟨w1.heap.size, 0, none⟩)) := (bV1.cell 0).trans rfl
    have r0 := (bR1.cell 0).trans rfl
    have r1 := bR1.free 0
    obtain ⟨y, hy, hcy⟩ := sS1.at_ (show kk < (stP pre).length by rw [stP_len]; exact hkk5)
    have Hy := Lib.hid hy
    clear hy
    have hq0 : (0 : Int) ≤ (kk : Int) := by omega
    have hq5 : (kk : Int) < 5 := by omega
    have HG := Lib.hid hgood
    have HB := Lib.hid hB1
    have BR := Lib.hid bR1
    have BV := Lib.hid bV1
    have BX := Lib.hid bX
    have SS := Lib.hid sS1
    have Hlast := Lib.hid (last_at (ysOf pre) x.1.2)
    clear hgood hB1 bR1 bV1 bX sS1
    cases hr : x.1.2.reads
    · rw [hr] at x0
      have Hr := Lib.hid hr
      clear hr
      gi_wp2_with (refine ⟨trivial, ?_⟩; gi_at_call 29; refine (CallsIn.inRound lp (callsIn_wide.2 (put_any _ (stP pre) kk _ _ SS.out (stP_len pre) hkk5))).mono ?_; rintro e w4 ⟨rfl, hst4, hg4⟩)
      have hbg : Below w.heap.size W w4 := (Below.refl _ W).grown hg4 hsW (fun g e => by injection e with e; omega)
      refine ⟨KeepsFrom.of_grownBy hg4 (fun j e => by injection e with e; omega), hbg, ⟨⟨⟨BR.out.kept hg4 (fun e => by injection e with e; omega), BV.out.kept hg4 (fun e => by injection e with e; omega)⟩, ?_⟩, good_snoc HG.out (badAt_put Hlast.out Hr.out), by simp; omega⟩, HB.out.trans hbg⟩
      rw [stP_snoc]; unfold stStep; rw [Hr.out, Hkk.out]; exact hst4
    · rw [hr] at x0
      have Hr := Lib.hid hr
      clear hr
      have hmx : Try.prog.follows .mixedOrders = true := by kernel_rfl
      by_cases hxe : y = x.1.2.value
      · subst hxe
        gi_wp2_with fail
        refine region_drew_round rfl (by kernel_rfl) (by kernel_rfl) (by kernel_rfl) ?_
        repeat (gi_big_quiet_step (fail))
        refine wpQuietIn_nil ?_
        rintro _ ⟨d, rfl⟩
        gi_wp2
        have hbd := below_drewN (Below.refl w.heap.size W) d
        refine ⟨keeps_below (below_drewN (Below.refl _ W) d), hbd, ⟨⟨⟨BR.out, BV.out⟩, ?_⟩, good_snoc HG.out ?_, by simp; omega⟩, HB.out.trans hbd⟩
        · rw [stP_snoc]; unfold stStep; rw [Hr.out]; exact SS.out
        · rw [badAt_read Hlast.out Hr.out Hkk.out (by rw [stTo_snoc]; exact Hy.out)]; simp
      · have hne : (y == x.1.2.value) = false := by simp [hxe]
        have hne' : (y != x.1.2.value) = true := by simp [hxe]
        gi_wp2_with fail
        refine region_drew_round rfl (by kernel_rfl) (by kernel_rfl) (by kernel_rfl) ?_
        repeat (gi_big_quiet_step (fail))
        refine wpQuietIn_nil ?_
        rintro _ ⟨d, rfl⟩
        gi_wp2
        have hbd := below_drewN (Below.refl w.heap.size W) d
        refine ⟨(keeps_below (below_drewN (Below.refl _ W) d)).trans ((KeepsOthers.setCell _ _ _).from _), ⟨x.1.1, (show BlkIs (W.drewN d) w.heap.size 3 #[.int .i64 0] from BR.out).set_ 0 _, rfl, pre, x, rfl, HG.out, ?_, rfl⟩, (HB.out.trans hbd).setCell (Nat.le_refl _) _⟩
        rw [badAt_read Hlast.out Hr.out Hkk.out (by rw [stTo_snoc]; exact Hy.out)]; simp [hxe]
  case done =>
    rintro D zs W hD rfl ⟨⟨⟨⟨bR1, bV1⟩, sS1⟩, hgood, _⟩, hB1⟩ hK
    have r0 := (bR1.cell 0).trans rfl
    have r1 := bR1.free 0
    have hDR : D ≠ w.heap.size := by omega
    have HG := Lib.hid hgood
    have HB := Lib.hid hB1
    have BR := Lib.hid bR1
    have HD := Lib.hid hK
    clear hB1 bR1 bV1 sS1 hK hgood
    gi_wp2
    have hK' := (KeepsOthers.setCell W ⟨w.heap.size, 0, none⟩ (.int .i64 (-1))).same D _ HD.out rfl
    have hset := ((BR.out.set_ 0 (.int .i64 (-1))).cell 0).trans rfl
    have hc5 := cell_kept hset (grownBy_putObj' _ D (.deferred none)) (fun r e => by cases e; exact ⟨_, hK', rfl⟩)
    refine ⟨by simp, .inl ⟨_, _, rfl, run_takeDeferred hK', ?_⟩⟩
    refine ⟨.int .i64 (-1), by simp [results, Try.f17, go_sem, hc5], ret_int ?_, ?_⟩
    · have hg := HG.out
      have hn : zs.length = l.length := HX.out.1
      unfold GoodP at hg
      rw [HY.out] at hg
      unfold stepsBad
      rw [HK.out, if_pos rfl, firstBad_none (fun i hi => hg i (by omega))]
    · exact (HB.out.setCell (p := ⟨w.heap.size, 0, none⟩) (Nat.le_refl _) _).trans (belowK_b (w := w) (Nat.le_refl _) _ D _ _ (by omega) hK' rfl rfl)
  case stop =>
    rintro D cc pre W hD ⟨k, hk, rfl⟩ ⟨⟨n, bR1, rfl, hbad⟩, hB1⟩ hK
    have hset := (bR1.cell 0).trans rfl
    have hc5 := cell_kept hset (grownBy_putObj' _ D (.deferred none)) (fun r e => by cases e; exact ⟨_, hK, rfl⟩)
    have HBad := Lib.hid hbad
    have HD := Lib.hid hK
    have HB := Lib.hid hB1
    clear hbad hK hB1 bR1
    gi_wp2
    refine ⟨by simp, .inl ⟨_, _, rfl, run_takeDeferred HD.out, ?_⟩⟩
    refine ⟨.int .i64 (n : Int), by simp [results, Try.f17, go_sem, hc5], ret_int ?_, ?_⟩
    · unfold stepsBad
      rw [HK.out, if_pos rfl, stop_at HX.out HY.out HBad.out]
    · exact HB.out.trans (belowK_b (w := w) (Nat.le_refl _) _ D _ _ (by omega) HD.out rfl rfl)
end Go.Proofs.Ytjcbhnbbhcfbiaa
