/- Steps are valid: the program's walk, which ranges over a function. -/
import Derived.Test.YtjcbhnbbhcfbiaaIter
namespace Go.Proofs.Ytjcbhnbbhcfbiaa
open Go.RowKit Go.Shelf
attribute [local go_sem] Oper.semAt_some

def Stp.ok (s : Stp) : Bool := stpOk s.reads s.key s.value
def puts (l : List Stp) : Nat := (l.filter (fun s => !s.reads)).length
def stepsOk (l : List Stp) : Bool := decide (l.length ≤ 20) && l.all Stp.ok && decide (puts l ≤ 12)

theorem puts_snoc (l : List Stp) (s : Stp) : puts (l ++ [s]) = puts l + (if s.reads then 0 else 1) := by
  unfold puts; rw [List.filter_append, List.length_append]
  cases h : s.reads <;> simp [h]
theorem puts_le (l : List Stp) : puts l ≤ l.length := List.length_filter_le _ _

/-- block B is just these cells -/
def BlkIs (W : World) (B : Nat) (t : TypeId) (cs : Array Value) : Prop := W.heap[B]? = some (.cells cs t (0, 0))
section
variable {W W' : World} {B : Nat} {t : TypeId} {cs : Array Value}
theorem BlkIs.lt (h : BlkIs W B t cs) : B < W.heap.size := lt_of_block h
theorem BlkIs.cell (h : BlkIs W B t cs) (i : Nat) : W.cell? ⟨B, i, none⟩ = cs[i]? := cell_of_row W B i cs t (0, 0) h
theorem BlkIs.free (h : BlkIs W B t cs) (i : Nat) : W.frozen? ⟨B, i, none⟩ = false := row_free h i
theorem BlkIs.kept {row : Option Nat} (h : BlkIs W B t cs) (hg : W.grownBy W' row) (hne : some B ≠ row) : BlkIs W' B t cs := (hg.block B h.lt hne).trans h
theorem BlkIs.alloc (h : BlkIs W B t cs) (o : Obj) : BlkIs (W.alloc o) B t cs := (Below.heap_alloc W o B h.lt).trans h
theorem BlkIs.below (h : BlkIs W B t cs) (hb : Below W.heap.size W W') : BlkIs W' B t cs := (hb.block B h.lt).trans h
theorem BlkIs.new (W : World) (t : TypeId) (cs : Array Value) : BlkIs (W.alloc (.cells cs t)) W.heap.size t cs := heap_alloc_new W _
theorem BlkIs.set_ (h : BlkIs W B t cs) (i : Nat) (u : Value) : BlkIs (W.setCell ⟨B, i, none⟩ u) B t (cs.setIfInBounds i u) := heap_setCell_at h u
theorem BlkIs.far (h : BlkIs W B t cs) {p : Addr} (hp : B ≠ p.block) (u : Value) : BlkIs (W.setCell p u) B t cs := (Below.heap_setCell W p u B hp).trans h
end
theorem blk_own {β : Type} (B : Nat) (t : TypeId) (f : β → Array Value) : Own (fun s W => BlkIs W B t (f s)) := fun s X Y row hs hg hrow =>
  hs.kept hg (fun e' => by obtain ⟨o, ho, hc⟩ := hrow B e'.symm; rw [show X.heap[B]? = _ from hs] at ho; cases ho; cases hc)

theorem keeps_below {B : Nat} {W W' : World} (h : Below W.heap.size W W') : KeepsFrom B W W' := KeepsFrom.of_grownBy (row := none) ⟨h.os, h.tape, h.output, h.size, fun k hk _ => h.block k hk⟩ (fun j e => by cases e)
def okP (pre : List (Nat × Stp)) : Bool := pre.all fun p => p.2.ok
def putsP (pre : List (Nat × Stp)) : Nat := puts (pre.map (·.2))
theorem okP_snoc (pre : List (Nat × Stp)) (x : Nat × Stp) : okP (pre ++ [x]) = (okP pre && x.2.ok) := by unfold okP; simp [List.all_append]
theorem putsP_snoc (pre : List (Nat × Stp)) (x : Nat × Stp) : putsP (pre ++ [x]) = putsP pre + (if x.2.reads then 0 else 1) := by unfold putsP; rw [List.map_append]; exact puts_snoc _ _
theorem okP_numTo (l : List Stp) (k : Nat) : okP (numTo l k) = (l.take k).all Stp.ok := by
  unfold okP
  rw [← numTo_snd l k, List.all_map]; rfl
theorem putsP_numTo (l : List Stp) (k : Nat) : putsP (numTo l k) = puts (l.take k) := by unfold putsP; rw [numTo_snd]

set_option maxRecDepth 100000 in
set_option maxHeartbeats 2000000 in
theorem stepsValid_any (A : Option Addr) (m c : Nat) (l : List Stp) (w : World) (h : Flat Stp.enc 3 w 0 w.heap.size A m c l) (hm : m ≤ 1048576) :
    Calls Try.prog 26 #[.slice A m c] w fun e w' => e = .returned (.bool (stepsOk l)) ∧ Below w.heap.size w w' := by
  have H := Lib.hid h
  have HL := Lib.hid h.len
  clear h
  by_cases h20 : m ≤ 20
  case neg =>
    go_enter Try.func26, Try.ntmps26
    go_wp2
    refine bodyPost_ret (v := .bool false) (by simp [results, Try.results26, go_sem]) rfl ⟨ret_bool ?_, by go_grown⟩
    unfold stepsOk; rw [HL.out]; simp [h20]
  case pos =>
  refine (callsIn_wide (n := 9)).1 ?_
  refine callsIn_of_wp_marks Try.func26 rfl trivial ?_ rfl
  simp only [Try.ntmps26, List.size_toArray, List.length_cons, List.length_nil, Nat.reduceAdd, Nat.reduceSub, Array.replicate_succ, Array.replicate_zero, List.push_toArray, List.append_toArray, List.nil_append, List.cons_append]
  gi_wp2_with (refine ⟨trivial, ?_⟩; gi_at_call 28; refine (callsIn_wide.2 (inOrder_any _ _ _ _)).mono ?_; rintro e w' ⟨rfl, rfl⟩)
  have bR := ((BlkIs.new w 4 #[.bool false]).alloc (.cells #[.int .i64 0] 3)).alloc (.cells #[.slice A m c] 23)
  have bP := (BlkIs.new (w.alloc (.cells #[.bool false] 4)) 3 #[.int .i64 0]).alloc (.cells #[.slice A m c] 23)
  have bL := BlkIs.new ((w.alloc (.cells #[.bool false] 4)).alloc (.cells #[.int .i64 0] 3)) 23 #[.slice A m c]
  simp only [World.size_alloc] at bP bL
  have hB0 : Below w.heap.size w (((w.alloc (.cells #[.bool false] 4)).alloc (.cells #[.int .i64 0] 3)).alloc (.cells #[.slice A m c] 23)) := (((Below.refl _ w).alloc (Nat.le_refl _) _).alloc (by simp) _).alloc (by simp; omega) _
  have hsz : (((w.alloc (.cells #[.bool false] 4)).alloc (.cells #[.int .i64 0] 3)).alloc (.cells #[.slice A m c] 23)).heap.size = w.heap.size + 3 := by simp
  obtain ⟨W0, hW0⟩ : ∃ W0, ((w.alloc (.cells #[.bool false] 4)).alloc (.cells #[.int .i64 0] 3)).alloc (.cells #[.slice A m c] 23) = W0 := ⟨_, rfl⟩
  rw [hW0] at bR bP bL hB0 hsz ⊢
  clear hW0
  refine wpIn_rangeFunc_ownH rfl (by omega) (gf := 38) (lb := #[.pointer (some ⟨w.heap.size + 1 + 1, 0, none⟩)]) rfl trivial (enters_of Try.func38 (by kernel_rfl) rfl)
    (steps_stops id Fence.wide (9 - 1) trivial rfl (by omega) (w.heap.size + 1 + 1) w.heap.size A m c l (numTo l l.length) (hands_numTo l) hm W0 (by omega) (by omega) ((bL.cell 0).trans rfl) (H.out.below hB0 (Nat.le_refl _))) belowK_t (belowK_b (by omega)) (Below.refl _ _) (fun _ => rfl)
    (fun pre W => ((BlkIs W w.heap.size 4 #[.bool false] ∧ BlkIs W (w.heap.size + 1) 3 #[.int .i64 (putsP pre : Nat)]) ∧ (okP pre = true ∧ pre.length ≤ 1048576)) ∧ Below w.heap.size w W)
    (fun c pre W => (BlkIs W w.heap.size 4 #[.bool false] ∧ (c = .ret ∧ okP pre = false)) ∧ Below w.heap.size w W)
    (OwnFrom.and (OwnFrom.and (OwnFrom.and (Own.from (blk_own _ _ _) _) (Own.from (blk_own _ _ _) _)) (ownFrom_pure _ _)) (ownFrom_below (Nat.le_refl _) (by omega)))
    (fun c => OwnFrom.and (OwnFrom.and (Own.from (blk_own _ _ _) _) (ownFrom_pure _ _)) (ownFrom_below (Nat.le_refl _) (by omega)))
    ⟨⟨⟨bR, bP⟩, rfl, by simp⟩, hB0⟩
    (fun x a' W => ∃ Bx, w.heap.size + 1 < Bx ∧ BlkIs W Bx 27 #[.bool x.2.reads, .int .i64 x.2.key, .int .i64 x.2.value] ∧ a' = { tmps := #[.slice A m c, undef, .pointer (some ⟨w.heap.size, 0, none⟩), .pointer (some ⟨w.heap.size + 1, 0, none⟩), undef, .pointer (some ⟨Bx, 0, none⟩), .slice A m c, .int .i64 (m : Int), .bool (decide ((20 : Int) < (m : Int))), .slice A m c, .func (.func 38) #[] #[.pointer (some ⟨w.heap.size + 1 + 1, 0, none⟩)], .int .i64 (x.1 : Int), .agg #[.bool x.2.reads, .int .i64 x.2.key, .int .i64 x.2.value], undef, undef, undef, undef, undef, undef, undef, undef, undef, undef], defers := [] })
    (fun x a' _ X Y row hs hg hr => by obtain ⟨Bx, h1, h2, h3⟩ := hs; exact ⟨Bx, h1, blk_own Bx 27 (fun (_ : Unit) => #[.bool x.2.reads, .int .i64 x.2.key, .int .i64 x.2.value]) () X Y row h2 hg (fun r e => (hr r e).2), h3⟩)
    ?assign ?body ?done ?stop
  case assign =>
    rintro l pre x W K ⟨⟨⟨bR1, bP1⟩, hp⟩, hB1⟩ hK
    have hsW := hB1.size
    gi_wp2
    exact hK _ _ ((KeepsOthers.alloc _ _).from _) ((Below.refl _ W).alloc hsW _) ⟨⟨⟨bR1.alloc _, bP1.alloc _⟩, hp⟩, hB1.alloc hsW _⟩ ⟨W.heap.size, bP1.lt, BlkIs.new W _ _, rfl⟩
  case body =>
    rintro lp pre x a' W hl hr ⟨⟨⟨bR1, bP1⟩, hok, hlen⟩, hB1⟩ ⟨Bx, hBx, bX, rfl⟩ hlt
    have hsW := hB1.size
    have hpl : putsP pre ≤ 1048576 := Nat.le_trans (puts_le _) (by simp; omega)
    have x0 : W.cell? ⟨Bx, 0, none⟩ = some (.bool x.2.reads) := (bX.cell 0).trans rfl
    have x1 : W.cell? ⟨Bx, 1, none⟩ = some (.int .i64 x.2.key) := (bX.cell 1).trans rfl
    have x2 : W.cell? ⟨Bx, 2, none⟩ = some (.int .i64 x.2.value) := (bX.cell 2).trans rfl
    have HK := Lib.hid hok
    have HB := Lib.hid hB1
    have BR := Lib.hid bR1
    have BP := Lib.hid bP1
    have BX := Lib.hid bX
    clear hok hB1 bR1 bP1 bX
    have go : (Value.bool x.2.reads) = .bool x.2.reads := rfl
    clear go
    cases hv : stpOk x.2.reads x.2.key x.2.value
    · gi_wp2_with (refine ⟨trivial, ?_⟩; gi_at_call 37; refine (CallsIn.inRound lp (callsIn_wide.2 (stepValid_any _ _ _ _))).mono ?_; rintro e w1 ⟨rfl, hb1⟩; have q0 := ((BR.out.below hb1).cell 0).trans rfl; have q1 := (BR.out.below hb1).free 0; have Hb1 := Lib.hid hb1; clear hb1)
      exact ⟨(keeps_below Hb1.out).trans ((KeepsOthers.setCell _ _ _).from _), ⟨(BR.out.below Hb1.out).set_ 0 _, rfl, by rw [okP_snoc]; simp [Stp.ok, hv]⟩, (HB.out.trans (Hb1.out.mono hsW)).setCell (Nat.le_refl _) _⟩
    · cases hr : x.2.reads
      all_goals
        rw [hr] at x0
        have Hr := Lib.hid hr
        rw [hr] at hv
        have Hv := Lib.hid hv
        rw [hr] at BX
      · gi_wp2_with (refine ⟨trivial, ?_⟩; gi_at_call 37; refine (CallsIn.inRound lp (callsIn_wide.2 (stepValid_any _ _ _ _))).mono ?_; rintro e w1 ⟨rfl, hb1⟩; have q0 := ((BX.out.below hb1).cell 0).trans rfl; have q1 := ((BP.out.below hb1).cell 0).trans rfl; have q2 := (BP.out.below hb1).free 0; have Hb1 := Lib.hid hb1; clear hb1)
        exact ⟨(keeps_below Hb1.out).trans ((KeepsOthers.setCell _ _ _).from _), ((Hb1.out.mono hsW).setCell (by simp) _), ⟨⟨(BR.out.below Hb1.out).far (by simp) _, by rw [putsP_snoc, Hr.out]; exact (BP.out.below Hb1.out).set_ 0 _⟩, by rw [okP_snoc, HK.out]; simp [Stp.ok, Hr.out, Hv.out], by simp; omega⟩, (HB.out.trans (Hb1.out.mono hsW)).setCell (by simp) _⟩
      · gi_wp2_with (refine ⟨trivial, ?_⟩; gi_at_call 37; refine (CallsIn.inRound lp (callsIn_wide.2 (stepValid_any _ _ _ _))).mono ?_; rintro e w1 ⟨rfl, hb1⟩; have q0 := ((BX.out.below hb1).cell 0).trans rfl; have Hb1 := Lib.hid hb1; clear hb1)
        exact ⟨keeps_below Hb1.out, Hb1.out.mono hsW, ⟨⟨BR.out.below Hb1.out, by rw [putsP_snoc, Hr.out]; exact BP.out.below Hb1.out⟩, by rw [okP_snoc, HK.out]; simp [Stp.ok, Hr.out, Hv.out], by simp; omega⟩, HB.out.trans (Hb1.out.mono hsW)⟩
  case done =>
    rintro D zs W hD rfl ⟨⟨⟨bR1, bP1⟩, hok, _⟩, hB1⟩ hK
    rw [HL.out] at bP1 hok
    rw [putsP_numTo] at bP1
    have p0 := (bP1.cell 0).trans rfl
    have r0 := (bR1.cell 0).trans rfl
    have r1 := bR1.free 0
    have hDR : D ≠ w.heap.size := by omega
    have HB := Lib.hid hB1
    have BR := Lib.hid bR1
    have HK := Lib.hid hok
    have HD := Lib.hid hK
    clear hB1 bR1 bP1 hok hK
    gi_wp2
    have hK' := (KeepsOthers.setCell W ⟨w.heap.size, 0, none⟩ (.bool (decide ((puts (List.take m l) : Int) ≤ 12)))).same D _ HD.out rfl
    have hset := ((BR.out.set_ 0 (.bool (decide ((puts (List.take m l) : Int) ≤ 12)))).cell 0).trans rfl
    have hc5 := cell_kept hset (grownBy_putObj' _ D (.deferred none)) (fun r e => by cases e; exact ⟨_, hK', rfl⟩)
    refine ⟨by simp, .inl ⟨_, _, rfl, run_takeDeferred hK', ?_⟩⟩
    refine ⟨.bool (decide ((puts (List.take m l) : Int) ≤ 12)), by simp [results, Try.f26, go_sem, hc5], ret_bool ?_, ?_⟩
    · have hk := HK.out
      rw [okP_numTo] at hk
      have ht : l.take m = l := List.take_of_length_le (by rw [HL.out]; exact Nat.le_refl _)
      rw [ht] at hk ⊢
      unfold stepsOk
      rw [hk, HL.out]
      rw [Bool.eq_iff_iff]
      simp [h20]
      omega
    · exact (HB.out.setCell (p := ⟨w.heap.size, 0, none⟩) (Nat.le_refl _) _).trans (belowK_b (w := w) (Nat.le_refl _) _ D _ _ (by omega) hK' rfl rfl)
  case stop =>
    rintro D cc pre W hD ⟨k, hk, rfl⟩ ⟨⟨bR1, rfl, hok⟩, hB1⟩ hK
    rw [HL.out, numTo_take hk] at hok
    have hset := (bR1.cell 0).trans rfl
    have hc5 := cell_kept hset (grownBy_putObj' _ D (.deferred none)) (fun r e => by cases e; exact ⟨_, hK, rfl⟩)
    rw [okP_numTo] at hok
    have HK := Lib.hid hok
    have HD := Lib.hid hK
    have HB := Lib.hid hB1
    clear hok hK hB1
    gi_wp2
    refine ⟨by simp, .inl ⟨_, _, rfl, run_takeDeferred HD.out, ?_⟩⟩
    refine ⟨.bool false, by simp [results, Try.f26, go_sem, hc5], ret_bool ?_, ?_⟩
    · unfold stepsOk
      have : l.all Stp.ok = false := by
        have hk := HK.out
        rw [List.all_eq_false] at hk ⊢
        obtain ⟨x, hx, hn⟩ := hk
        exact ⟨x, List.mem_of_mem_take hx, hn⟩
      rw [this]; simp
    · exact HB.out.trans (belowK_b (w := w) (Nat.le_refl _) _ D _ _ (by omega) HD.out rfl rfl)
end Go.Proofs.Ytjcbhnbbhcfbiaa
