/- Drawing steps: what a draw hands back lies in new memory; nothing that was there but the reader's place changes. -/
import Derived.Test.YtjcbhnbbhcfbiaaDrawC
import Derived.Test.YtjcbhnbbhcfbiaaState
import Derived.Test.YtjcbhnbbhcfbiaaStepsA
import Derived.Deep.Onto
namespace Go.Proofs.Ytjcbhnbbhcfbiaa
open Go.RowKit

theorem infoStepD : (Try.prog.info? 27).map (fun i => (i.zero, i.size, i.bytes)) = some (some (.agg #[.bool false, .int .i64 0, .int .i64 0]), 3, 24) := by kernel_rfl

theorem own_block {W : World} {lo n sz : Nat} {e : TypeId} {v : Value} {xs : List Value} {g : Nat} (h : W.ownsRow lo e sz v n xs) (hg : v.ownBlock = some g) : ∃ cs, W.heap[g]? = some (.cells cs e (0, 0)) := by
  rcases h.2 with ⟨hv, _⟩ | ⟨g', cap, cur, hv, _, hb, _⟩
  · subst hv; cases hg
  · subst hv
    have : g' = g := by simpa [Value.ownBlock] using hg
    subst this; exact ⟨cur, hb⟩
theorem own_apart {W : World} {lo lo' n n' sz sz' : Nat} {e e' : TypeId} {v v' : Value} {xs xs' : List Value} (h : W.ownsRow lo e sz v n xs) (h' : W.ownsRow lo' e' sz' v' n' xs') (he : e ≠ e') {g : Nat} (hg : v.ownBlock = some g) : v'.ownBlock ≠ some g := by
  intro hg'
  obtain ⟨cs, h1⟩ := own_block h hg
  obtain ⟨cs', h2⟩ := own_block h' hg'
  rw [h1] at h2; injection h2 with h2; injection h2 with _ h2; exact he h2

theorem new_cells2 (N : Nat) (w : World) (t : TypeId) (xs : Array Value) (zs : List Value) (hN : N = w.heap.size) (h : xs.toList = zs) : ∀ j u, zs[j]? = some u → (w.alloc (.cells xs t)).cell? ((⟨N, 0, none⟩ : Addr).add j) = some u := by
  subst hN; exact new_cells w xs t zs h
/-- a draw of steps under way: and a state of five numbers at block g -/
def DrS (w0 w : World) (rb B p : Nat) (v : Value) (l : List Stp) (g cap : Nat) (st : List Int) : Prop :=
  DrF Stp.enc 3 27 w0 w rb B p v l ∧ w.ownsRow w0.heap.size 3 1 (.slice (some ⟨g, 0, none⟩) 5 cap) 5 (st.flatMap encInt) ∧ st.length = 5
section
variable {w0 w w' : World} {rb B p p' : Nat} {v v' : Value} {l : List Stp} {g cap : Nat} {st : List Int}
theorem DrS.lo (h : DrS w0 w rb B p v l g cap st) : w0.heap.size ≤ g := (h.2.1.lt g rfl).1
theorem DrS.picked (h : DrS w0 w rb B p v l g cap st) (hr : Rd w' rb B p') (hg : w.grownBy w' (some rb)) : DrS w0 w' rb B p' v l g cap st :=
  ⟨h.1.picked hr hg, h.2.1.kept hg (.inr (fun e => by have := h.lo; have := h.1.2.2.2; simp [Value.ownBlock] at e; omega)), h.2.2⟩
theorem DrS.alloc (h : DrS w0 w rb B p v l g cap st) (o : Obj) : DrS w0 (w.alloc o) rb B p v l g cap st := ⟨h.1.alloc o, h.2.1.alloc o, h.2.2⟩
theorem DrS.apart (h : DrS w0 w rb B p v l g cap st) : v.ownBlock ≠ some g := by
  intro e
  exact own_apart h.1.2.1 h.2.1 (by decide) e rfl
theorem DrS.appended {x : Stp} (h : DrS w0 w rb B p v l g cap st) {o : Obj} (hown : w'.ownsRow w0.heap.size 27 3 v' (l.length + 1) (l.flatMap Stp.enc ++ Stp.enc x)) (hg : (w.alloc o).grownBy w' v.ownBlock) : DrS w0 w' rb B p v' (l ++ [x]) g cap st :=
  ⟨h.1.appended hown hg, (h.2.1.alloc o).kept hg (.inr (fun e => h.apart e.symm)), h.2.2⟩
theorem DrS.below (h : DrS w0 w rb B p v l g cap st) (hb : Below w.heap.size w w') : DrS w0 w' rb B p v l g cap st :=
  ⟨⟨h.1.1.below hb, h.1.2.1.kept (only_of_below (rb := rb) hb) (.inr (fun e => by have := (h.1.2.1.lt rb e).1; have := h.1.2.2.2; omega)), only_trans h.1.2.2.1 (only_of_below hb), h.1.2.2.2⟩,
    h.2.1.kept (only_of_below (rb := rb) hb) (.inr (fun e => by have := h.lo; have := h.1.2.2.2; simp [Value.ownBlock] at e; omega)), h.2.2⟩
theorem DrS.far (h : DrS w0 w rb B p v l g cap st) {q : Addr} (u : Value) (hq : w0.heap.size ≤ q.block) (hg : q.block ≠ g) (hv : v.ownBlock ≠ some q.block) : DrS w0 (w.setCell q u) rb B p v l g cap st := by
  obtain ⟨⟨h1, h2, h3, h4⟩, h5, h6⟩ := h
  have hgr : w.grownBy (w.setCell q u) (some q.block) := ⟨rfl, rfl, rfl, by simp [World.setCell], fun i hi hn => Below.heap_setCell _ _ _ _ (fun e => hn (by rw [e]))⟩
  exact ⟨⟨h1.keep (fun i hi => Below.heap_setCell _ _ _ _ (by omega)), h2.kept hgr (.inr hv), ⟨h3.os, h3.tape, h3.output, by simpa [World.setCell] using h3.size, fun i hi hn => (Below.heap_setCell _ _ _ _ (by omega)).trans (h3.block i hi hn)⟩, h4⟩, h5.kept hgr (.inr (fun e => by simp [Value.ownBlock] at e; omega)), h6⟩
theorem DrS.read (h : DrS w0 w rb B p v l g cap st) {k : Nat} (hk : k < 5) : ∃ x, st[k]? = some x ∧ w.cell? ⟨g, k, none⟩ = some (.int .i64 x) := by
  have hl := h.2.2
  refine ⟨st[k], List.getElem?_eq_getElem (by omega), ?_⟩
  have := h.2.1.cellAt k (by omega)
  rw [this]
  have := flatMap_get encInt_len st k st[k] (List.getElem?_eq_getElem (by omega)) 0 (.int .i64 st[k]) rfl
  simpa using this
theorem DrS.put (h : DrS w0 w rb B p v l g cap st) (k : Nat) (x : Int) (hk : k < 5) : DrS w0 (w.setCell ⟨g, k, none⟩ (.int .i64 x)) rb B p v l g cap (st.set k x) := by
  have hlo := h.lo
  have hrb := h.1.2.2.2
  obtain ⟨⟨h1, h2, h3, h4⟩, h5, h6⟩ := h
  have hgr : w.grownBy (w.setCell ⟨g, k, none⟩ (.int .i64 x)) (some g) := ⟨rfl, rfl, rfl, by simp [World.setCell], fun i hi hn => Below.heap_setCell _ _ _ _ (fun e => hn (by rw [e]))⟩
  refine ⟨⟨h1.keep (fun i hi => Below.heap_setCell _ _ _ _ (by show i ≠ g; omega)), h2.kept hgr ?_, ⟨h3.os, h3.tape, h3.output, by simpa [World.setCell] using h3.size, fun i hi hn => (Below.heap_setCell _ _ _ _ (by show i ≠ g; omega)).trans (h3.block i hi hn)⟩, h4⟩, ?_, by simpa using h6⟩
  · cases hv : v.ownBlock with
    | none => exact .inl rfl
    | some j => exact .inr (fun e => by injection e with e; subst e; exact own_apart h2 h5 (by decide) hv rfl)
  · have := h5.stored k (.int .i64 x)
    have hx : st[k]? = some st[k] := List.getElem?_eq_getElem (by omega)
    have he := flatMap_set encInt_len (x := st[k]) (x' := x) (j := 0) (u := .int .i64 x) rfl (by omega) st k hx
    rw [show k * 1 + 0 = k by omega] at he
    rw [he] at this
    exact this.1
end

/-- what drawing steps leaves -/
def DrewSteps (w : World) (rb B p : Nat) (e : Ending) (w' : World) : Prop :=
  ∃ v l p', e = .returned v ∧ l.length ≤ 21 ∧ p' ≤ p + 200 ∧ DrF Stp.enc 3 27 w w' rb B p' v l

set_option maxHeartbeats 4000000 in
theorem l92Steps_any (rb B p : Nat) (w : World) (h : Rd w rb B p) (hp : p ≤ 549755813888) :
    Calls Try.prog 15 #[.pointer (some ⟨rb, 0, none⟩)] w (DrewSteps w rb B p) := by
  obtain ⟨i0, hi, hz0, hz1, hz2⟩ := info_parts infoStepD
  have hb0 := (Below.refl w.heap.size w).alloc (Nat.le_refl _) (.cells #[] 27)
  have h0 : DrF Stp.enc 3 27 w (w.alloc (.cells #[] 27)) rb B p (.slice (some ⟨w.heap.size, 0, none⟩) 0 0) [] :=
    ⟨h.below hb0, World.ownsRow_made w #[] 0 (Nat.le_refl _) (Nat.zero_le _) (by simp), only_of_below hb0, h.lt⟩
  have H0 := Lib.hid h0
  have hrb := h.lt
  clear h0 h hb0
  go_enter Try.func15, Try.ntmps15
  go_wp2_with fail
  refine (l2Empty_any _).mono ?_
  rintro e w0 ⟨g, cap, rfl, hg, hc5, hcm, hown, hb⟩
  have D0 : DrS w w0 rb B p (.slice (some ⟨w.heap.size, 0, none⟩) 0 0) [] g cap st0 :=
    ⟨⟨H0.out.1.below hb, H0.out.2.1.kept (only_of_below (rb := rb) hb) (.inr (fun e => by simp [Value.ownBlock] at e; omega)), only_trans H0.out.2.2.1 (only_of_below hb), hrb⟩, World.ownsRow.mono hown (by simp), rfl⟩
  have H1 := Lib.hid D0
  clear D0 H0 hown hb hg
  go_wp2_with fail
  refine (pick_any rb B p _ _ H1.out.1.1 (by omega)).mono ?_
  rintro e w1 ⟨n, rfl, hn0, hn1, _, hr1, hg1⟩
  have H2 := Lib.hid (H1.out.picked hr1 hg1)
  have hn8 := hn1 (by omega)
  clear hr1 hg1 H1 hn1
  go_wp2_with fail
  refine (pick_any rb B _ _ _ H2.out.1.1 (by omega)).mono ?_
  rintro e w2 ⟨n16, rfl, _, _, _, hr2, hg2⟩
  have H3 := Lib.hid (H2.out.picked hr2 hg2)
  clear hr2 hg2 H2
  by_cases hz : n16 = 0
  case' pos =>
    have hz' : (n16 == 0) = true := by simp [hz]
    clear hz
    go_wp2_with fail
    refine (pick_any rb B _ _ _ H3.out.1.1 (by omega)).mono ?_
    rintro e w3 ⟨n3, rfl, hn3, hn4, _, hr3, hg3⟩
    have H4 := Lib.hid (H3.out.picked hr3 hg3)
    have hn5 := hn4 (by omega)
    clear hr3 hg3 H3 hn4
    go_wp2_with fail
    obtain ⟨m, hm, hm0, hm6⟩ : ∃ m : Int, 19 + n3 = m ∧ 0 ≤ m ∧ m ≤ 21 := ⟨19 + n3, rfl, by omega, by omega⟩
    try rw [hm]
  case' neg =>
    have hz' : (n16 == 0) = false := by simp [hz]
    clear hz
    have H4 := H3
    clear H3
    go_wp2_with fail
    obtain ⟨m, hm, hm0, hm6⟩ : ∃ m : Int, n = m ∧ 0 ≤ m ∧ m ≤ 21 := ⟨n, rfl, by omega, by omega⟩
    rw [hm]
  all_goals
    clear hm hn0 hn8
    go_loopw [3, 6] (fun v i wr => ∃ (k : Nat) (l : List Stp) (st : List Int) (p' : Nat) (u : Value), i = .int .i64 k ∧ u = v ∧ (k : Int) ≤ m ∧ Hid (l.length = k) ∧ p' ≤ p + 3 + 6 * k ∧ DrS w wr rb B p' u l g cap st)
      (fun _ i _ => 21 - (intOf i).toNat)
    case atStart => exact ⟨0, [], st0, _, _, rfl, rfl, by omega, rfl, by omega, H4.out⟩
    case round =>
      obtain ⟨k, l, st, p', v, rfl, rfl, hkm, hlen, hpp, hdr⟩ := hrel
      have HD := Lib.hid hdr
      clear hdr H4
      by_cases hlt : (k : Int) < m
      · have hl1 : l.length ≤ k := Nat.le_of_eq hlen.out
        have hl2 : k ≤ l.length := Nat.le_of_eq hlen.out.symm
        go_wp2_with fail
        refine (pick_any rb B _ _ _ HD.out.1.1 (by omega)).mono ?_
        rintro e w4 ⟨r2, rfl, _, _, _, hr4, hg4⟩
        have H4 := Lib.hid (HD.out.picked hr4 hg4)
        clear hr4 hg4 HD
        obtain ⟨rd, hrd⟩ : ∃ rd : Bool, (r2 == 0) = rd := ⟨_, rfl⟩
        go_wp2_with fail
        refine (pick_any rb B _ _ _ H4.out.1.1 (by omega)).mono ?_
        rintro e w5 ⟨ke, rfl, hk0, hk1, _, hr5, hg5⟩
        have H5 := Lib.hid (H4.out.picked hr5 hg5)
        have hk3 := hk1 (by omega)
        clear hr5 hg5 H4 hk1
        obtain ⟨kk, rfl⟩ := Int.eq_ofNat_of_zero_le hk0
        go_wp2_with fail
        refine (pick_any rb B _ _ _ H5.out.1.1 (by omega)).mono ?_
        rintro e w6 ⟨va, rfl, _, _, _, hr6, hg6⟩
        have H6 := Lib.hid (H5.out.picked hr6 hg6)
        clear hr6 hg6 H5
        have hv6 : ∀ k, v.ownBlock = some k → k < w6.heap.size := fun k hk => (H6.out.1.2.1.lt k hk).2
        have HV := Lib.hid hv6
        have hlo := H6.out.lo
        have hgl : g < w6.heap.size := (H6.out.2.1.lt g rfl).2
        have hsz6 : w.heap.size ≤ w6.heap.size := H6.out.1.2.2.1.size
        have hrb6 := H6.out.1.2.2.2
        clear hv6
        obtain ⟨x, hx, hcx⟩ := H6.out.read (show kk < 5 by omega)
        have hgn : g ≠ w6.heap.size := by omega
        have hfx := H6.out.2.1.frozenAt kk
        cases rd
        · have H7 := Lib.hid ((H6.out.put kk va (by omega)).alloc (.cells #[.bool false, .int .i64 (kk : Int), .int .i64 va] 27))
          go_wp2_with (at_builtin; refine wpList_append_own _ rfl _ _ 23 rfl w.heap.size 27 i0 _ 3 24 Try.underlying23 hi hz0 hz1 hz2 rfl (by decide) _ l.length (l.flatMap Stp.enc) rfl (H7.out.1.2.1.alloc _) ⟨w6.heap.size + 1, 0, none⟩ 1 1 (Stp.enc ⟨false, kk, va⟩) rfl rfl (new_cells2 _ _ _ _ _ (by simp) rfl) (Stp.one _) (by unfold maxLen; omega) (by omega) (by simp; omega) ?_; intro v7 w7 hown7 hg7 _)
          have H8 := Lib.hid (H7.out.appended hown7 hg7)
          clear hown7 hg7 H6 H7
          go_roundw
          case rel => exact ⟨k + 1, l ++ [⟨false, kk, va⟩], _, p' + 1 + 1 + 1, _, by go_num, rfl, by omega, by simp [Hid]; omega, by omega, H8.out⟩
          case measure => simp [intOf]; omega
        · have hcx' : (w6.alloc (.cells #[.bool true, .int .i64 (kk : Int), .int .i64 va] 27)).cell? ⟨g, kk, none⟩ = some (.int .i64 x) := (World.cell?_alloc_past _ _ _ hgl).trans hcx
          go_wp2_with fail
          refine (pick_any rb B _ _ _ (H6.out.alloc _).1.1 (by omega)).mono ?_
          rintro e w7 ⟨r24, rfl, _, _, _, hr7, hg7⟩
          have H7 := Lib.hid ((H6.out.alloc _).picked hr7 hg7)
          have bX := (BlkIs.new w6 27 #[.bool true, .int .i64 (kk : Int), .int .i64 x]).kept hg7 (fun e => by injection e with e; omega)
          have s67 : w6.heap.size < w7.heap.size := bX.lt
          clear hr7 hg7 H6 hcx hcx'
          obtain ⟨x', _, hcy⟩ := H7.out.read (show kk < 5 by omega)
          have hfy := H7.out.2.1.frozenAt kk
          by_cases hz24 : r24 = 0
          · have hzz : (r24 == 0) = true := by simp [hz24]
            clear hz24
            have BX := Lib.hid bX
            clear bX hcy hfy
            go_wp2_with fail
            refine (pick_any rb B _ _ _ H7.out.1.1 (by omega)).mono ?_
            rintro e w8 ⟨vv, rfl, _, _, _, hr8, hg8⟩
            have H8 := Lib.hid (H7.out.picked hr8 hg8)
            have bX := BX.out.kept hg8 (fun e => by injection e with e; omega)
            have x0 := (bX.cell 0).trans rfl
            have x1 := (bX.cell 1).trans rfl
            have x2 := (bX.cell 2).trans rfl
            have x3 := bX.free 2
            have s78 : w7.heap.size ≤ w8.heap.size := hg8.size
            clear hr8 hg8 H7 bX BX
            obtain ⟨x'', _, hcy⟩ := H8.out.read (show kk < 5 by omega)
            have hfy := H8.out.2.1.frozenAt kk
            have H9 := Lib.hid ((H8.out.far (q := ⟨w6.heap.size, 2, none⟩) (.int .i64 vv) hsz6 (by show w6.heap.size ≠ g; omega) (fun e => by have := HV.out _ e; simp at this)).put kk vv (by omega))
            clear H8
            go_wp2_with (at_builtin; refine wpList_append_own _ rfl _ _ 23 rfl w.heap.size 27 i0 _ 3 24 Try.underlying23 hi hz0 hz1 hz2 rfl (by decide) _ l.length (l.flatMap Stp.enc) rfl (H9.out.1.2.1.alloc _) ⟨w8.heap.size, 0, none⟩ 1 1 (Stp.enc ⟨true, kk, vv⟩) rfl rfl (new_cells2 _ _ _ _ _ (by simp) rfl) (Stp.one _) (by unfold maxLen; omega) (by omega) (by simp; omega) ?_; intro v9 w9 hown9 hg9 _)
            have HA := Lib.hid (H9.out.appended hown9 hg9)
            clear hown9 hg9 H9
            go_roundw
            case rel => exact ⟨k + 1, l ++ [⟨true, kk, vv⟩], _, p' + 1 + 1 + 1 + 1 + 1, _, by go_num, rfl, by omega, by simp [Hid]; omega, by omega, HA.out⟩
            case measure => simp [intOf]; omega
          · have hzz : (r24 == 0) = false := by simp [hz24]
            clear hz24
            have x0 := (bX.cell 0).trans rfl
            have x1 := (bX.cell 1).trans rfl
            have x2 := (bX.cell 2).trans rfl
            clear bX
            have H9 := Lib.hid (H7.out.put kk x (by omega))
            clear H7
            go_wp2_with (at_builtin; refine wpList_append_own _ rfl _ _ 23 rfl w.heap.size 27 i0 _ 3 24 Try.underlying23 hi hz0 hz1 hz2 rfl (by decide) _ l.length (l.flatMap Stp.enc) rfl (H9.out.1.2.1.alloc _) ⟨w7.heap.size, 0, none⟩ 1 1 (Stp.enc ⟨true, kk, x⟩) rfl rfl (new_cells2 _ _ _ _ _ (by simp) rfl) (Stp.one _) (by unfold maxLen; omega) (by omega) (by simp; omega) ?_; intro v9 w9 hown9 hg9 _)
            have HA := Lib.hid (H9.out.appended hown9 hg9)
            clear hown9 hg9 H9
            go_roundw
            case rel => exact ⟨k + 1, l ++ [⟨true, kk, x⟩], _, p' + 1 + 1 + 1 + 1, _, by go_num, rfl, by omega, by simp [Hid]; omega, by omega, HA.out⟩
            case measure => simp [intOf]; omega
      · have hl1 : l.length ≤ k := Nat.le_of_eq hlen.out
        have hl2 : k ≤ l.length := Nat.le_of_eq hlen.out.symm
        have HD := Lib.hid HD.out.1
        by_cases hm : 0 < m
        · go_wp2_with fail
          refine (pick_any rb B _ _ _ HD.out.1 (by omega)).mono ?_
          rintro e w4 ⟨a, rfl, _, _, _, hr4, hg4⟩
          have H4 := Lib.hid (HD.out.picked hr4 hg4)
          clear hr4 hg4 HD
          obtain ⟨g', cap', hv, _, _⟩ := own_form H4.out.2.1 (by omega)
          rw [hv]
          rw [hv] at H4
          clear hv
          go_wp2_with fail
          · refine (pick_any rb B _ _ _ H4.out.1 (by omega)).mono ?_
            rintro e w5 ⟨ix, rfl, hi0, hi1, _, hr5, hg5⟩
            have H5 := Lib.hid ((H4.out.picked hr5 hg5).alloc (.cells #[.int .i64 (-2), .int .i64 (-1), .int .i64 100] 3))
            have hix := hi1 (by omega)
            have hrb5 := hr5.lt
            clear hr5 hg5 H4 hi1
            obtain ⟨ii, rfl⟩ := Int.eq_ofNat_of_zero_le hi0
            go_wp2_with fail
            refine (pick_any rb B _ _ _ H5.out.1 (by omega)).mono ?_
            rintro e w6 ⟨z, rfl, hz3, hz4, _, hr6, hg6⟩
            have H6 := Lib.hid (H5.out.picked hr6 hg6)
            have hz5 := hz4 (by omega)
            obtain ⟨zi, rfl⟩ := Int.eq_ofNat_of_zero_le hz3
            have hsz : rb < w5.heap.size := hrb5
            have hblk : w6.heap[w5.heap.size]? = some (.cells #[.int .i64 (-2), .int .i64 (-1), .int .i64 100] 3 (0, 0)) := (hg6.block _ (by simp) (fun e => by injection e with e; omega)).trans (heap_alloc_new _ _)
            obtain ⟨u0, hu0⟩ : ∃ u, w6.cell? ⟨w5.heap.size, zi, none⟩ = some (.int .i64 u) := by
              have : zi = 0 ∨ zi = 1 ∨ zi = 2 := by omega
              rcases this with rfl | rfl | rfl <;> exact ⟨_, by simp [World.cell?, hblk]; rfl⟩
            clear hr6 hg6 H5 hz4 hblk
            have hb4 : ii * 3 + 2 < l.length * 3 := by omega
            obtain ⟨x, hx⟩ : ∃ x, l[ii]? = some x := ⟨l[ii]'(by omega), List.getElem?_eq_getElem _⟩
            have hc1 := H6.out.2.1.cellAt (ii * 3 + 2) hb4
            rw [flatMap_get Stp.len l ii x hx 2 (.int .i64 x.value) rfl] at hc1
            have hf1 := H6.out.2.1.frozenAt (ii * 3 + 2)
            go_wp2
            go_ret
            exact ⟨_, l.set ii { x with value := u0 }, p' + 1 + 1 + 1, rfl, by simp; omega, by omega, H6.out.stored (x := x) (sz := 3) (j := 2) Stp.len rfl (by omega) hx⟩
          · go_wp2
            go_ret
            exact ⟨_, l, p' + 1, rfl, by omega, by omega, H4.out⟩
        · go_wp2
          go_ret
          exact ⟨_, l, p', rfl, by omega, by omega, HD.out⟩
/-- what 'DrawSteps..' leaves -/
def DrawnSteps (w : World) (e : Ending) (w' : World) : Prop :=
  ∃ A n c l, e = .returned (.slice A n c) ∧ n ≤ 21 ∧ Flat Stp.enc 3 w' w.heap.size w'.heap.size A n c l ∧ Below w.heap.size w w'
theorem drawnSteps_of {w w1 w2 : World} {rb p' : Nat} {v : Value} {l : List Stp} (hb : Below w.heap.size w w1) (hrb : w.heap.size ≤ rb) (hlt : rb < w1.heap.size) (hl : l.length ≤ 21) (h : DrF Stp.enc 3 27 w1 w2 rb w.heap.size p' v l) :
    ∃ A n c, v = .slice A n c ∧ l.length = n ∧ n ≤ 21 ∧ Flat Stp.enc 3 w2 w.heap.size w2.heap.size A n c l ∧ Below w.heap.size w w2 := by
  obtain ⟨_, h2, h3, _⟩ := h
  obtain ⟨A, c, hv, hf⟩ := own_flat Stp.len h2 rfl
  exact ⟨A, _, c, hv, rfl, hl, hf.mono hb.size (Nat.le_refl _), hb.trans (only_to_below h3 hrb hlt)⟩


set_option maxHeartbeats 1000000 in
theorem drawStepsFit_any (A : Option Addr) (n c : Nat) (l : List Int) (w : World) (h : Flat encU8 1 w 0 w.heap.size A n c l) (hl : ∀ x ∈ l, 0 ≤ x ∧ x ≤ 255) :
    Calls Try.prog 6 #[.slice A n c] w (DrawnSteps w) := by
  have H := Lib.hid h
  have HL := Lib.hid hl
  clear h hl
  go_enter Try.func6, Try.ntmps6
  go_wp2_with fail
  refine (open_any _ _ _ l _ H.out HL.out).mono ?_
  rintro e w1 ⟨rb, rfl, hrb, hr1, hb1⟩
  have R1 := Lib.hid hr1
  have B1 := Lib.hid hb1
  clear hr1 hb1
  go_wp2_with fail
  refine (l92Steps_any rb _ _ _ R1.out (by omega)).mono ?_
  rintro e w2 ⟨v, l', p', rfl, hl6, _, hd⟩
  obtain ⟨A', n', c', hv, hn', h6, hf', hb'⟩ := drawnSteps_of B1.out hrb R1.out.lt hl6 hd
  rw [hv]
  have F2 := Lib.hid hf'
  have B2 := Lib.hid hb'
  clear hf' hb' hd hv
  go_wp2
  go_ret
  exact ⟨A', n', c', l', rfl, h6, F2.out, B2.out⟩

end Go.Proofs.Ytjcbhnbbhcfbiaa
