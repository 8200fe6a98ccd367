/- Views: impl.ViewOf, spec.ViewOf. -/
import Derived.Test.YtnbakpdphfdacaaVar
import Derived.Test.YtnbakpdphfdacaaCopyC
import Derived.Test.YtnbakpdphfdacaaDropA
import Derived.Test.YtnbakpdphfdacaaDropB
import Derived.Test.YtnbakpdphfdacaaAddS
namespace Go.Proofs.Ytnbakpdphfdacaa
open Go.RowKit
set_option linter.unusedVariables false
set_option linter.unusedSimpArgs false

def viewM (v : Int) (l : List Nod) : Option (Int × List Int) := if chainOk v l then some (v, l.map (·.id)) else none
def idsOf (l : List Nod) : List Int := l.map (·.id)
/-- what a view and a bool leave -/
def ViewRes (w : World) (num : Int) (ids : List Int) (t : Bool) (e : Ending) (w' : World) : Prop :=
  ∃ (A : Option Addr) (n c : Nat), e = .returned (.tuple #[.agg #[.int .i64 num, .slice A n c], .bool t]) ∧ ids.length = n ∧ w'.ownsRow w.heap.size 3 1 (.slice A n c) n (ids.flatMap encInt) ∧ Below w.heap.size w w'

/-- a view under way in block s, two other blocks known -/
structure VB (w0 w : World) (s : Nat) (num : Int) (v : Value) (ids : List Int) (cs ds : Array Value) : Prop where
  bel : Below w0.heap.size w0 w
  chn : Blk w s #[.int .i64 num, v] 28
  s0 : w0.heap.size + 1 < s
  own : w.ownsRow w0.heap.size 3 1 v ids.length (ids.flatMap encInt)
  b0 : Blk w w0.heap.size cs 33
  b1 : Blk w (w0.heap.size + 1) ds 28
theorem VB.new {w0 w : World} {num : Int} {l : List Int} {cs ds : Array Value} (hb : Below w0.heap.size w0 w) (h0 : Blk w w0.heap.size cs 33) (h1 : Blk w (w0.heap.size + 1) ds 28) :
    VB w0 (w.alloc (.cells #[.int .i64 num, .slice none 0 0] 28)) w.heap.size num (.slice none 0 0) [] cs ds :=
  ⟨hb.alloc hb.size _, Blk.new w _ _, h1.lt, World.ownsRow_nil _ _ _ _, h0.alloc _, h1.alloc _⟩
theorem VB.step {w0 w w7 : World} {s : Nat} {num x : Int} {v v7 : Value} {ids : List Int} {cs ds : Array Value} {W : World} (h : VB w0 w s num v ids cs ds)
    (ho : w7.ownsRow w0.heap.size 3 1 v7 (ids.length + 1) (ids.flatMap encInt ++ [.int .i64 x])) (hW : Below w.heap.size w W) (hg : W.grownBy w7 v.ownBlock) : VB w0 (w7.setCell ⟨s, 1, none⟩ v7) s num v7 (ids ++ [x]) cs ds := by
  have hsz := h.bel.size
  have hs0 := h.s0
  have blk : ∀ {b : Nat} {cs : Array Value} {t : TypeId}, Blk w b cs t → t ≠ 3 → Blk w7 b cs t := fun {b cs t} hb ht => (hb.below hW).grown hg (fun e => by
    obtain ⟨ds, hd⟩ := own_blk h.own e.symm
    exact ht (blk_type hb hd))
  have hc : w7.heap[s]? = some (.cells #[.int .i64 num, v] 28 (0, 0)) := blk h.chn (by decide)
  have hb7 : Below w0.heap.size w0 w7 := (h.bel.trans (hW.mono hsz)).grown hg (Nat.le_trans hsz hW.size) (fun k e => (h.own.lt k e).1)
  refine ⟨hb7.setCell (p := ⟨s, 1, none⟩) (by show w0.heap.size ≤ s; omega) _, (blk h.chn (by decide)).set 1 _, hs0, ?_, (blk h.b0 (by decide)).far (a := ⟨s, 1, none⟩) (by show w0.heap.size ≠ s; omega) _, (blk h.b1 (by decide)).far (a := ⟨s, 1, none⟩) (by show w0.heap.size + 1 ≠ s; omega) _⟩
  rw [List.length_append, List.flatMap_append]
  refine own_keep (by simpa [encInt] using ho) (fun g hg' => Below.heap_setCell _ _ _ _ (fun e => ?_))
  obtain ⟨ys, hd⟩ := own_blk ho hg'
  have : g = s := e
  subst this
  exact absurd (blk_type hd hc) (by decide)
theorem VB.new2 {w0 w : World} {num : Int} {cs ds : Array Value} (hb : Below w0.heap.size w0 w) (h0 : Blk w w0.heap.size cs 33) (h1 : Blk w (w0.heap.size + 1) ds 28) :
    VB w0 ((w.alloc (.cells #[] 3)).alloc (.cells #[.int .i64 num, .slice (some ⟨w.heap.size, 0, none⟩) 0 0] 28)) (w.heap.size + 1) num (.slice (some ⟨w.heap.size, 0, none⟩) 0 0) [] cs ds := by
  have hk := Blk.new (w.alloc (.cells #[] 3)) #[.int .i64 num, .slice (some ⟨w.heap.size, 0, none⟩) 0 0] 28
  simp only [World.size_alloc] at hk
  exact ⟨(hb.alloc hb.size _).alloc (by simp; have := hb.size; omega) _, hk, by have := h1.lt; omega, (made0 w w.heap.size w0.heap.size 3 1 rfl hb.size).alloc _, (h0.alloc _).alloc _, (h1.alloc _).alloc _⟩
theorem VB.drew {w0 w : World} {s : Nat} {num : Int} {v : Value} {ids : List Int} {cs ds : Array Value} (h : VB w0 w s num v ids cs ds) : VB w0 w.drew s num v ids cs ds := ⟨h.bel.drew, h.chn, h.s0, h.own, h.b0, h.b1⟩
theorem VB.fin {w0 w : World} {s : Nat} {num : Int} {A : Option Addr} {c : Nat} {ids : List Int} {cs ds : Array Value} (h : VB w0 w s num (.slice A ids.length c) ids cs ds) {u v : Value} :
    ((w.setCell ⟨w0.heap.size + 1, 0, none⟩ u).setCell ⟨w0.heap.size + 1, 1, none⟩ v).ownsRow w0.heap.size 3 1 (.slice A ids.length c) ids.length (ids.flatMap encInt) ∧ Below w0.heap.size w0 ((w.setCell ⟨w0.heap.size + 1, 0, none⟩ u).setCell ⟨w0.heap.size + 1, 1, none⟩ v) := by
  have hs : w0.heap.size ≤ w0.heap.size + 1 := by omega
  refine ⟨own_keep h.own (fun g hg => ?_), (h.bel.setCell (p := ⟨w0.heap.size + 1, 0, none⟩) hs _).setCell (p := ⟨w0.heap.size + 1, 1, none⟩) hs _⟩
  obtain ⟨ys, hd⟩ := own_blk h.own hg
  have hne : g ≠ w0.heap.size + 1 := by rintro rfl; exact absurd (blk_type hd h.b1) (by decide)
  rw [Below.heap_setCell _ _ _ _ hne, Below.heap_setCell _ _ _ _ hne]
theorem ids_step {l : List Nod} {k : Nat} {x : Nod} (hx : l[k]? = some x) : idsOf (l.take (k + 1)) = idsOf (l.take k) ++ [x.id] := by
  unfold idsOf; rw [List.take_add_one, hx]; simp
theorem view_fin (w : World) : ∀ w1 : World, Blk w1 (w.heap.size + 1) #[.int .i64 0, .slice none 0 0] 28 → Below w.heap.size w w1 →
    (((w1.setCell ⟨w.heap.size + 1, 0, none⟩ (.int .i64 0)).setCell ⟨w.heap.size + 1, 1, none⟩ (.slice none 0 0)).cell? ⟨w.heap.size + 1, 0, none⟩ = some (.int .i64 0) ∧ ((w1.setCell ⟨w.heap.size + 1, 0, none⟩ (.int .i64 0)).setCell ⟨w.heap.size + 1, 1, none⟩ (.slice none 0 0)).cell? ⟨w.heap.size + 1, 1, none⟩ = some (.slice none 0 0)) ∧
    Below w.heap.size w ((w1.setCell ⟨w.heap.size + 1, 0, none⟩ (.int .i64 0)).setCell ⟨w.heap.size + 1, 1, none⟩ (.slice none 0 0)) := fun w1 hk hb =>
  have hs := (hk.set 0 (.int .i64 0)).set 1 (.slice none 0 0)
  ⟨⟨hs.cell (i := 0) rfl, hs.cell (i := 1) rfl⟩, (hb.setCell (p := ⟨w.heap.size + 1, 0, none⟩) (by show w.heap.size ≤ w.heap.size + 1; omega) _).setCell (p := ⟨w.heap.size + 1, 1, none⟩) (by show w.heap.size ≤ w.heap.size + 1; omega) _⟩
set_option maxRecDepth 100000 in
set_option maxHeartbeats 4000000 in
theorem viewOf_any (view : Int) (A : Option Addr) (n c : Nat) (l : List Nod) (w : World) (h : Nods w 0 w.heap.size A n c l) (hn : n ≤ 1048576) (hlog : ∀ x ∈ l, x.log.length ≤ 1048576) :
    Calls Try.prog 17 #[.agg #[.int .i64 view, .slice A n c]] w (ViewRes w (if chainOk view l then view else 0) (if chainOk view l then idsOf l else []) (chainOk view l)) := by
  obtain ⟨i0, hi, hz0, hz1, hz2⟩ := info_parts intInfo
  have HL := Lib.hid h.len
  have HG := Lib.hid hlog
  have H := Lib.hid h
  have H0 := Lib.hid ((h.box (.cells #[.int .i64 view, .slice A n c] 33)).box (.cells #[.int .i64 0, .slice none 0 0] 28))
  clear h hlog
  have FIN := Lib.hid (view_fin w)
  obtain ⟨ok, hok⟩ : ∃ ok, chainOk view l = ok := ⟨_, rfl⟩
  have HO := Lib.hid hok
  rw [hok]
  clear hok
  cases ok
  · go_enter Try.func17, Try.ntmps17
    go_wp2_with fail
    refine (chainValid_any _ _ _ _ l _ H0.out hn HG.out).mono ?_
    rintro e w1 ⟨rfl, hb1⟩
    rw [HO.out]
    obtain ⟨k0, k1, b1⟩ := two_blks hb1
    have s1 := k1.lt
    have z0 := k1.cell (i := 0) (v := .int .i64 0) rfl
    have z1 := k1.cell (i := 1) (v := .slice none 0 0) rfl
    have y0 := k1.free 0
    have y1 := k1.free 1
    have FF := Lib.hid (FIN.out w1 k1 b1)
    clear hb1 k0 k1 b1
    go_wp2_with fail
    exact bodyPost_ret (v := .tuple #[.agg #[.int .i64 0, .slice none 0 0], .bool false]) (by simp [results, Try.results17, go_sem, FF.out.1.1, FF.out.1.2]) rfl ⟨none, 0, 0, rfl, rfl, World.ownsRow_nil _ _ _ _, FF.out.2⟩
  · go_enter Try.func17, Try.ntmps17
    go_wp2_with fail
    refine (chainValid_any _ _ _ _ l _ H0.out hn HG.out).mono ?_
    rintro e w1 ⟨rfl, hb1⟩
    rw [HO.out]
    obtain ⟨k0, k1, b1⟩ := two_blks hb1
    have s1 := k1.lt
    have q0 := k0.cell (i := 0) (v := .int .i64 view) rfl
    have q1 := k0.cell (i := 1) (v := .slice A n c) rfl
    have z0 := k1.cell (i := 0) (v := .int .i64 0) rfl
    have z1 := k1.cell (i := 1) (v := .slice none 0 0) rfl
    have y0 := k1.free 0
    have y1 := k1.free 1
    have s0 := k0.lt
    have VB0 := Lib.hid (VB.new (l := []) (num := view) b1 k0 k1)
    clear hb1 k0 k1 b1 y0 y1 z0 z1
    go_wp2_with fail
    go_loopw [17] (fun i wr => ∃ (k : Nat) (v : Value) (ik : List Int), k ≤ n ∧ i = .int .i64 k ∧ Hid (ik = idsOf (l.take k)) ∧ VB w wr w1.heap.size view v ik #[.int .i64 view, .slice A n c] #[.int .i64 0, .slice none 0 0]) (fun i _ => n - (intOf i).toNat)
    case atStart => exact ⟨0, _, _, Nat.zero_le _, rfl, rfl, VB0.out⟩
    case round =>
      obtain ⟨k, v, ik, hk, rfl, HK, hvb⟩ := hrel
      have SC := Lib.hid hvb
      clear hvb VB0
      by_cases hlt : k < n
      · obtain ⟨b, off, x, A', m, d, rfl, _, hbB, hx, c0, c1, c2, hf⟩ := (H.out.below SC.out.bel (Nat.le_refl _)).nod hlt
        have hss := SC.out.chn.lt
        have d1 := SC.out.chn.cell (i := 1) (v := v) rfl
        have f1 := SC.out.chn.free 1
        have HX := Lib.hid (ids_step hx)
        have hik : ik.length ≤ 1048576 := by rw [HK.out]; simp [idsOf]; omega
        have hbw : b < wr.heap.size := Nat.lt_of_lt_of_le hbB SC.out.bel.size
        have O0 := Lib.hid SC.out.own
        have hwr := SC.out.bel.size
        clear hx hf
        go_wp2_with (at_builtin; refine wpList_append_own _ rfl _ _ 26 rfl w.heap.size 3 i0 _ 1 8 Try.underlying26 hi hz0 hz1 hz2 rfl (by decide) v ik.length _ rfl ((O0.out.alloc _).alloc _) ⟨wr.heap.size + 1, 0, none⟩ 1 1 [.int .i64 x.id] rfl rfl (new_cellsN _ _ _ _ _ (by simp) rfl) (encInt_one _) (by unfold maxLen; omega) (by omega) (by simp; omega) ?_; intro v7 w7 hown7 hg7 _; obtain ⟨g7, c7, rfl, _⟩ := own_form hown7 (by omega); have S7 := Lib.hid (SC.out.step hown7 (((Below.refl _ _).alloc (Nat.le_refl _) _).alloc (by simp) _) hg7); have e1 := (((SC.out.chn.alloc _).alloc _).grown hg7 (fun e => by obtain ⟨ds, hd⟩ := own_blk O0.out e.symm; exact absurd (blk_type SC.out.chn hd) (by decide))); have g1 := e1.cell (i := 1) (v := v) rfl; have g2 := e1.free 1; clear hown7 hg7 e1)
        go_roundw
        case rel => exact ⟨k + 1, _, ik ++ [x.id], by omega, by go_num, by rw [HX.out, HK.out]; rfl, S7.out⟩
        case measure => simp [intOf]; omega
      · obtain rfl : n = k := by omega
        have hik : ik = idsOf l := by rw [HK.out, List.take_of_length_le (by rw [HL.out]; exact Nat.le_refl _)]
        subst hik
        obtain ⟨A', c', rfl, _⟩ := own_flat encInt_len SC.out.own rfl
        have d0 := SC.out.chn.cell (i := 0) (v := .int .i64 view) rfl
        have d1 := SC.out.chn.cell (i := 1) (v := .slice A' (idsOf l).length c') rfl
        have z0 := SC.out.b1.cell (i := 0) (v := .int .i64 0) rfl
        have z1 := SC.out.b1.cell (i := 1) (v := .slice none 0 0) rfl
        have y0 := SC.out.b1.free 0
        have y1 := SC.out.b1.free 1
        obtain ⟨t0, t1⟩ := two_stores _ (w.heap.size + 1) z0 z1
        have E := Lib.hid (And.intro t0 t1)
        have FE := Lib.hid (SC.out.fin (A := A') (c := c') (u := .int .i64 view) (v := .slice A' (idsOf l).length c'))
        clear t0 t1
        go_wp2_with fail
        obtain ⟨t0, t1⟩ := E.out
        exact bodyPost_ret (v := .tuple #[.agg #[.int .i64 view, .slice A' (idsOf l).length c'], .bool true]) (by simp [results, Try.results17, go_sem, t0, t1]) rfl ⟨A', _, c', rfl, rfl, FE.out.1, FE.out.2⟩
set_option maxRecDepth 100000 in
set_option maxHeartbeats 4000000 in
theorem specViewOf_any (view : Int) (A : Option Addr) (n c : Nat) (l : List Nod) (w : World) (h : Nods w 0 w.heap.size A n c l) (hn : n ≤ 1048576) (hlog : ∀ x ∈ l, x.log.length ≤ 1048576) :
    Calls Try.prog 15 #[.agg #[.int .i64 view, .slice A n c]] w (ViewRes w (if chainOk view l then view else 0) (if chainOk view l then idsOf l else []) (chainOk view l)) := by
  obtain ⟨i0, hi, hz0, hz1, hz2⟩ := info_parts intInfo
  have HL := Lib.hid h.len
  have HG := Lib.hid hlog
  have H := Lib.hid h
  have H0 := Lib.hid ((h.box (.cells #[.int .i64 view, .slice A n c] 33)).box (.cells #[.int .i64 0, .slice none 0 0] 28))
  clear h hlog
  have FIN := Lib.hid (view_fin w)
  obtain ⟨ok, hok⟩ : ∃ ok, chainOk view l = ok := ⟨_, rfl⟩
  have HO := Lib.hid hok
  rw [hok]
  clear hok
  cases ok
  · go_enter Try.func15, Try.ntmps15
    go_wp2_with fail
    refine (specChainValid_any _ _ _ _ l _ H0.out hn HG.out).mono ?_
    rintro e w1 ⟨rfl, hb1⟩
    rw [HO.out]
    obtain ⟨k0, k1, b1⟩ := two_blks hb1
    have s1 := k1.lt
    have z0 := k1.cell (i := 0) (v := .int .i64 0) rfl
    have z1 := k1.cell (i := 1) (v := .slice none 0 0) rfl
    have y0 := k1.free 0
    have y1 := k1.free 1
    have FF := Lib.hid (FIN.out w1 k1 b1)
    clear hb1 k0 k1 b1
    go_wp2_with fail
    exact bodyPost_ret (v := .tuple #[.agg #[.int .i64 0, .slice none 0 0], .bool false]) (by simp [results, Try.results15, go_sem, FF.out.1.1, FF.out.1.2]) rfl ⟨none, 0, 0, rfl, rfl, World.ownsRow_nil _ _ _ _, FF.out.2⟩
  · go_enter Try.func15, Try.ntmps15
    go_wp2_with fail
    refine (specChainValid_any _ _ _ _ l _ H0.out hn HG.out).mono ?_
    rintro e w1 ⟨rfl, hb1⟩
    rw [HO.out]
    obtain ⟨k0, k1, b1⟩ := two_blks hb1
    have s1 := k1.lt
    have q0 := k0.cell (i := 0) (v := .int .i64 view) rfl
    have q1 := k0.cell (i := 1) (v := .slice A n c) rfl
    have z0 := k1.cell (i := 0) (v := .int .i64 0) rfl
    have z1 := k1.cell (i := 1) (v := .slice none 0 0) rfl
    have y0 := k1.free 0
    have y1 := k1.free 1
    have s0 := k0.lt
    have VB0 := Lib.hid (VB.new2 (num := view) b1 k0 k1)
    clear hb1 k0 k1 b1 y0 y1 z0 z1
    go_wp2_with fail
    go_loopw [5] (fun i wr => ∃ (k : Nat) (v : Value) (ik : List Int), k ≤ n ∧ i = .int .i64 k ∧ Hid (ik = idsOf (l.take k)) ∧ VB w wr (w1.heap.size + 1) view v ik #[.int .i64 view, .slice A n c] #[.int .i64 0, .slice none 0 0]) (fun i _ => n - (intOf i).toNat)
    case atStart => exact ⟨0, _, _, Nat.zero_le _, rfl, rfl, VB0.out⟩
    case round =>
      obtain ⟨k, v, ik, hk, rfl, HK, hvb⟩ := hrel
      have SC := Lib.hid hvb
      clear hvb VB0
      by_cases hlt : k < n
      · obtain ⟨b, off, x, A', m, d, rfl, _, hbB, hx, c0, c1, c2, hf⟩ := (H.out.below SC.out.bel (Nat.le_refl _)).nod hlt
        have hss := SC.out.chn.lt
        have d1 := SC.out.chn.cell (i := 1) (v := v) rfl
        have f1 := SC.out.chn.free 1
        have HX := Lib.hid (ids_step hx)
        have hik : ik.length ≤ 1048576 := by rw [HK.out]; simp [idsOf]; omega
        have hbw : b < wr.heap.size := Nat.lt_of_lt_of_le hbB SC.out.bel.size
        have O0 := Lib.hid SC.out.own
        have hwr := SC.out.bel.size
        have b1' := SC.out.b0.cell (i := 1) (v := .slice (some ⟨b, off, none⟩) n c) rfl
        have SD := Lib.hid SC.out.drew
        clear hx hf
        go_wp2_with fail
        go_region_law ((first
          | (refine step_append_src _ (by rfl) (.tmp 22) (.tmp 29) 26 (by rfl) w.heap.size 3 i0 _ 1 8 Try.underlying26 hi hz0 hz1 hz2 rfl (by omega) v ik.length (ik.flatMap encInt) (by rfl) (O0.out.alloc _) _ 1 1 _ (by rfl) (src_row _ #[.int .i64 x.id] 3 1 _ rfl rfl) (encInt_one x.id) (by unfold maxLen; omega) (by omega) (by simp; omega) ?_; intro v7 w7 hown7 hg7; obtain ⟨g7, c7, rfl, _⟩ := own_form hown7 (by omega); have S7 := Lib.hid (SD.out.step hown7 ((Below.refl _ _).alloc (Nat.le_refl _) _) hg7); have e1 := ((SD.out.chn.alloc _).grown hg7 (fun e => by obtain ⟨ds, hd⟩ := own_blk O0.out e.symm; exact absurd (blk_type SC.out.chn hd) (by decide))); have g1 := e1.cell (i := 1) (v := v) rfl; have g2 := e1.free 1; clear hown7 hg7 e1)))
        all_goals
          go_wp2_with fail
          go_roundw
          case rel => exact ⟨k + 1, _, ik ++ [x.id], by omega, by go_num, by rw [HX.out, HK.out]; rfl, S7.out⟩
          case measure => simp [intOf]; omega
      · obtain rfl : n = k := by omega
        have hik : ik = idsOf l := by rw [HK.out, List.take_of_length_le (by rw [HL.out]; exact Nat.le_refl _)]
        subst hik
        obtain ⟨A', c', rfl, _⟩ := own_flat encInt_len SC.out.own rfl
        have b1' := SC.out.b0.cell (i := 1) (v := .slice A n c) rfl
        have d0 := SC.out.chn.cell (i := 0) (v := .int .i64 view) rfl
        have d1 := SC.out.chn.cell (i := 1) (v := .slice A' (idsOf l).length c') rfl
        have z0 := SC.out.b1.cell (i := 0) (v := .int .i64 0) rfl
        have z1 := SC.out.b1.cell (i := 1) (v := .slice none 0 0) rfl
        have y0 := SC.out.b1.free 0
        have y1 := SC.out.b1.free 1
        obtain ⟨t0, t1⟩ := two_stores _ (w.heap.size + 1) z0 z1
        have E := Lib.hid (And.intro t0 t1)
        have FE := Lib.hid (SC.out.fin (A := A') (c := c') (u := .int .i64 view) (v := .slice A' (idsOf l).length c'))
        clear t0 t1
        go_wp2_with fail
        obtain ⟨t0, t1⟩ := E.out
        exact bodyPost_ret (v := .tuple #[.agg #[.int .i64 view, .slice A' (idsOf l).length c'], .bool true]) (by simp [results, Try.results15, go_sem, t0, t1]) rfl ⟨A', _, c', rfl, rfl, FE.out.1, FE.out.2⟩
end Go.Proofs.Ytnbakpdphfdacaa
