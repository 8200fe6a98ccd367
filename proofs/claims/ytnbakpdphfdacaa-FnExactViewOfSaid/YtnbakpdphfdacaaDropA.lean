/- Taking a node out of a chain: impl.ChainDrop. -/
import Derived.Test.YtnbakpdphfdacaaCopyC
import Derived.Test.YtnbakpdphfdacaaGood
namespace Go.Proofs.Ytnbakpdphfdacaa
open Go.RowKit

theorem erase_skip {l : List Nod} {k : Nat} : (l.take (k + 1)).eraseIdx k = (l.take k).eraseIdx k := by
  rw [List.eraseIdx_eq_take_drop_succ, List.eraseIdx_eq_take_drop_succ, List.take_take, List.take_take, Nat.min_self, Nat.min_eq_left (Nat.le_succ k), List.drop_eq_nil_of_le (by rw [List.length_take]; omega), List.drop_eq_nil_of_le (by rw [List.length_take]; omega)]
theorem erase_step {l : List Nod} {k q : Nat} {x : Nod} (hx : l[k]? = some x) (hne : k ≠ q) : (l.take (k + 1)).eraseIdx q = (l.take k).eraseIdx q ++ [x] := by
  have hk := (List.getElem?_eq_some_iff.1 hx).1
  rw [List.take_add_one, hx]
  show (l.take k ++ [x]).eraseIdx q = _
  by_cases h : q < k
  · rw [List.eraseIdx_append_of_lt_length (by rw [List.length_take]; omega)]
  · rw [List.eraseIdx_append_of_length_le (by rw [List.length_take]; omega), List.eraseIdx_of_length_le (l := l.take k) (by rw [List.length_take]; omega), List.eraseIdx_of_length_le (by rw [List.length_take]; simp; omega)]
theorem placeI_some {l : List Nod} {id : Int} {k : Nat} (h : placeOf l id = some k) : placeI (placeOf l id) = (k : Int) := by rw [h]; rfl
theorem fixTail_at {l : List Nod} {x : Nod} {n : Nat} (hn : l.length = n) (h : l[n - 1]? = some x) : fixTail l = l.set (n - 1) { x with done := x.log.length } := by
  subst hn; unfold fixTail; rw [h]
theorem ChainRes.some_ {w w' : World} {view : Int} {A : Option Addr} {n c : Nat} {l : List Nod} (hl : l.length = n) (hrow : NodRow w' w.heap.size w'.heap.size (.slice A n c) l) (hb : Below w.heap.size w w') :
    ChainRes w (some (view, l)) (.returned (.tuple #[.agg #[.int .i64 view, .slice A n c], .bool true])) w' := ⟨view, A, n, c, l, rfl, rfl, hl, hrow, hb⟩
/-- a box and a result's block, behind a call -/
theorem two_blks {w w1 : World} {cs ds : Array Value} {t u : TypeId} (hb : Below ((w.alloc (.cells cs t)).alloc (.cells ds u)).heap.size ((w.alloc (.cells cs t)).alloc (.cells ds u)) w1) :
    Blk w1 w.heap.size cs t ∧ Blk w1 (w.heap.size + 1) ds u ∧ Below w.heap.size w w1 := by
  refine ⟨((Blk.new w cs t).alloc (.cells ds u)).below hb, ?_, below_box (below_box' hb)⟩
  have := (Blk.new (w.alloc (.cells cs t)) ds u).below hb
  simpa only [World.size_alloc] using this

set_option maxRecDepth 100000 in
set_option maxHeartbeats 8000000 in
theorem chainDrop_any (view : Int) (A : Option Addr) (n c : Nat) (l : List Nod) (id : Int) (w : World) (h : Nods w 0 w.heap.size A n c l) (hn : n ≤ 1048576) (hlog : ∀ x ∈ l, x.log.length ≤ 1048576) :
    Calls Try.prog 29 #[.agg #[.int .i64 view, .slice A n c], .int .i64 id] w (ChainRes w (dropM view l id)) := by
  obtain ⟨j0, hj, hy0, hy1, hy2⟩ := info_parts infoNode
  have HL := Lib.hid h.len
  have HG := Lib.hid hlog
  have H := Lib.hid h
  have H0 := Lib.hid ((h.box (.cells #[.int .i64 view, .slice A n c] 33)).box (.cells #[.int .i64 0, .slice none 0 0] 33))
  clear h hlog
  have fin : ∀ w1 : World, Blk w1 (w.heap.size + 1) #[.int .i64 0, .slice none 0 0] 33 → Below w.heap.size w w1 →
      (∀ i v, #[Value.int .i64 0, Value.slice none 0 0][i]? = some v → w1.cell? ⟨w.heap.size + 1, i, none⟩ = some v) ∧ (∀ i, w1.frozen? ⟨w.heap.size + 1, i, none⟩ = false) ∧
      (((w1.setCell ⟨w.heap.size + 1, 0, none⟩ (.int .i64 0)).setCell ⟨w.heap.size + 1, 1, none⟩ (.slice none 0 0)).cell? ⟨w.heap.size + 1, 0, none⟩ = some (.int .i64 0) ∧ ((w1.setCell ⟨w.heap.size + 1, 0, none⟩ (.int .i64 0)).setCell ⟨w.heap.size + 1, 1, none⟩ (.slice none 0 0)).cell? ⟨w.heap.size + 1, 1, none⟩ = some (.slice none 0 0)) ∧
      Below w.heap.size w ((w1.setCell ⟨w.heap.size + 1, 0, none⟩ (.int .i64 0)).setCell ⟨w.heap.size + 1, 1, none⟩ (.slice none 0 0)) := fun w1 hk hb =>
    have hs := (hk.set 0 (.int .i64 0)).set 1 (.slice none 0 0)
    ⟨fun i v hv => hk.cell hv, fun i => hk.free i, ⟨hs.cell (i := 0) rfl, hs.cell (i := 1) rfl⟩, (hb.setCell (p := ⟨w.heap.size + 1, 0, none⟩) (by show w.heap.size ≤ w.heap.size + 1; omega) _).setCell (p := ⟨w.heap.size + 1, 1, none⟩) (by show w.heap.size ≤ w.heap.size + 1; omega) _⟩
  have FIN := Lib.hid fin
  clear fin
  cases hok : chainOk view l
  · rw [dropM_bad hok]
    have HO := Lib.hid hok
    clear hok
    go_enter Try.func29, Try.ntmps29
    go_wp2_with fail
    refine (chainValid_any _ _ _ _ l _ H0.out hn HG.out).mono ?_
    rintro e w1 ⟨rfl, hb1⟩
    rw [HO.out]
    have FF := Lib.hid (FIN.out w1 (two_blks hb1).2.1 (two_blks hb1).2.2)
    have z0 := FF.out.1 0 _ rfl
    have z1 := FF.out.1 1 _ rfl
    have y0 := FF.out.2.1 0
    have y1 := FF.out.2.1 1
    clear hb1
    go_wp2
    exact bodyPost_ret (v := .tuple #[.agg #[.int .i64 0, .slice none 0 0], .bool false]) (by simp [results, Try.results29, go_sem, FF.out.2.2.1.1, FF.out.2.2.1.2]) rfl (ChainRes.none_ FF.out.2.2.2)
  have HO := Lib.hid hok
  have hg := good_iff.1 hok
  have hv0 := hg.1
  have hv9 := hg.2.1
  have hn1 : 1 ≤ n := by have := hg.2.2.1; have := HL.out; omega
  have hn5 : n ≤ 5 := by have := hg.2.2.2.1; have := HL.out; omega
  have GG := Lib.hid hg
  clear hok hg
  cases hp : placeOf l id with
  | none =>
    rw [dropM_none hp]
    have HP := Lib.hid (show placeI (placeOf l id) = -1 by rw [hp]; rfl)
    clear hp
    go_enter Try.func29, Try.ntmps29
    go_wp2_with fail
    refine (chainValid_any _ _ _ _ l _ H0.out hn HG.out).mono ?_
    rintro e w1 ⟨rfl, hb1⟩
    rw [HO.out]
    obtain ⟨k0, k1, b1⟩ := two_blks hb1
    have K0 := Lib.hid k0
    have K1 := Lib.hid k1
    have B1 := Lib.hid b1
    have F1 := Lib.hid (H.out.on b1)
    have q0 := k0.cell (i := 0) (v := .int .i64 view) rfl
    have q1 := k0.cell (i := 1) (v := .slice A n c) rfl
    clear hb1 k0 k1 b1
    go_wp2_with fail
    refine (chainPlace_any _ _ _ _ l _ _ F1.out hn).mono ?_
    rintro e w2 ⟨rfl, hb2⟩
    rw [HP.out]
    have FF := Lib.hid (FIN.out w2 (K1.out.below hb2) (B1.out.trans (hb2.mono B1.out.size)))
    have z0 := FF.out.1 0 _ rfl
    have z1 := FF.out.1 1 _ rfl
    have y0 := FF.out.2.1 0
    have y1 := FF.out.2.1 1
    clear hb2
    go_wp2
    exact bodyPost_ret (v := .tuple #[.agg #[.int .i64 0, .slice none 0 0], .bool false]) (by simp [results, Try.results29, go_sem, FF.out.2.2.1.1, FF.out.2.2.1.2]) rfl (ChainRes.none_ FF.out.2.2.2)
  | some q =>
  have hql : q < n := by have := placeOf_lt hp; have := HL.out; omega
  have HD := Lib.hid (dropM_at HO.out hp)
  have HP := Lib.hid (placeI_some hp)
  clear hp
  go_enter Try.func29, Try.ntmps29
  go_wp2_with fail
  refine (chainValid_any _ _ _ _ l _ H0.out hn HG.out).mono ?_
  rintro e w1 ⟨rfl, hb1⟩
  rw [HO.out]
  obtain ⟨k0, k1, b1⟩ := two_blks hb1
  have K0 := Lib.hid k0
  have K1 := Lib.hid k1
  have B1 := Lib.hid b1
  have F1 := Lib.hid (H.out.on b1)
  have s1 : w.heap.size + 1 < w1.heap.size := k1.lt
  have q0 := k0.cell (i := 0) (v := .int .i64 view) rfl
  have q1 := k0.cell (i := 1) (v := .slice A n c) rfl
  clear hb1 k0 k1 b1
  go_wp2_with fail
  refine (chainPlace_any _ _ _ _ l _ _ F1.out hn).mono ?_
  rintro e w2 ⟨rfl, hb2⟩
  rw [HP.out]
  have hB2 := B1.out.trans (hb2.mono B1.out.size)
  have k0 := K0.out.below hb2
  have k1 := K1.out.below hb2
  have s2 : w1.heap.size ≤ w2.heap.size := hb2.size
  obtain ⟨L, hL⟩ : ∃ L, L = [(w.heap.size, #[Value.int .i64 view, Value.slice A n c], 33), (w.heap.size + 1, #[Value.int .i64 0, Value.slice none 0 0], 33)] := ⟨_, rfl⟩
  have C0 := Lib.hid (CB.new (L := L) hB2 (view + 1) (by rw [hL]; exact ((Oth.nil _ _).cons k1 (by omega) (by decide)).cons k0 (by omega) (by decide)))
  have L0 := Lib.hid (show (w.heap.size, #[Value.int .i64 view, Value.slice A n c], 33) ∈ L by rw [hL]; simp)
  have L1 := Lib.hid (show (w.heap.size + 1, #[Value.int .i64 0, Value.slice none 0 0], 33) ∈ L by rw [hL]; simp)
  have z0 := k0.cell (i := 0) (v := .int .i64 view) rfl
  have z1 := k0.cell (i := 1) (v := .slice A n c) rfl
  have hlt2 : w.heap.size < w2.heap.size := by omega
  clear hb2 k0 k1 hL q0 q1 F1 K0 K1 hB2
  go_wp2_with fail
  clear z0 z1
  go_loopw [28] (fun i wr => ∃ (k : Nat) (nv : Value) (hi : Nat) (lk : List Nod), k ≤ n ∧ i = .int .i64 k ∧ Hid (lk = (l.take k).eraseIdx q) ∧ CB w wr w2.heap.size (view + 1) nv lk hi L) (fun i _ => n - (intOf i).toNat)
  case atStart => exact ⟨0, _, _, _, Nat.zero_le _, rfl, rfl, C0.out⟩
  case round =>
    obtain ⟨k, nv, hi', lk, hk, rfl, HK, hcb⟩ := hrel
    have SC := Lib.hid hcb
    clear hcb C0
    have q1 := SC.out.chn.cell (i := 1) (v := nv) rfl
    by_cases hlt : k < n
    · obtain ⟨b, off, x, A', m, d, rfl, _, hbB, hx, c0, c1, c2, hf⟩ := (H.out.below SC.out.bel (Nat.le_refl _)).nod hlt
      have hm : m ≤ 1048576 := by have := hf.len; have := HG.out x (List.mem_of_getElem? hx); omega
      have hxm := Lib.hid hf.len
      have Hx := Lib.hid hx
      by_cases hkq : k = q
      · have hz : ((k : Int) != (q : Int)) = false := by simp [hkq]
        have htk := Lib.hid (show lk = (l.take (k + 1)).eraseIdx q by rw [HK.out, hkq, erase_skip])
        have SN := Lib.hid (SC.out.alloc (.cells #[.int .i64 x.id, .slice A' m d, .int .i64 x.done] 57))
        clear hkq hx hf q1
        go_wp2_with fail
        go_roundw
        case rel => exact ⟨k + 1, _, _, _, by omega, by go_num, htk.out, SN.out⟩
        case measure => simp [intOf]; omega
      · have hz : ((k : Int) != (q : Int)) = true := by simp; omega
        have htk := Lib.hid (show lk ++ [x] = (l.take (k + 1)).eraseIdx q by rw [HK.out, erase_step hx hkq])
        have hlk : lk.length ≤ 1048576 := by rw [HK.out, List.length_eraseIdx, List.length_take]; split <;> omega
        have E4 := Lib.hid (SC.out.alloc (.cells #[.int .i64 x.id, .slice A' m d, .int .i64 x.done] 57)).raise.drew
        have Fx := Lib.hid (show Flat Upd.enc 2 (wr.alloc (.cells #[.int .i64 x.id, .slice A' m d, .int .i64 x.done] 57)).drew 0 (wr.alloc (.cells #[.int .i64 x.id, .slice A' m d, .int .i64 x.done] 57)).drew.heap.size A' m d x.log from ((hf.mono (Nat.le_refl _) SC.out.bel.size).box (.cells #[.int .i64 x.id, .slice A' m d, .int .i64 x.done] 57)).below (Below.refl _ _).drew (Nat.le_refl _))
        have XB := Lib.hid (Blk.new wr #[.int .i64 x.id, .slice A' m d, .int .i64 x.done] 57)
        have x0 := XB.out.cell (i := 0) (v := .int .i64 x.id) rfl
        have x1 := XB.out.cell (i := 1) (v := .slice A' m d) rfl
        have x2 := XB.out.cell (i := 2) (v := .int .i64 x.done) rfl
        have q1 := (SC.out.alloc (.cells #[.int .i64 x.id, .slice A' m d, .int .i64 x.done] 57)).chn.cell (i := 1) (v := nv) rfl
        have hws : w.heap.size ≤ wr.heap.size + 1 := by have := SC.out.bel.size; omega
        have hss : w2.heap.size < wr.heap.size := SC.out.size
        clear hkq hx hf
        go_wp2_with fail
        go_region_law ((first
          | (refine step_append_src _ (by rfl) (.tmp 37) (.tmp 40) 31 (by rfl) w.heap.size 57 j0 _ 3 40 Try.underlying31 hj hy0 hy1 hy2 rfl (by omega) nv lk.length (rs.flatMap RN.enc) (by rfl) (hat.1.alloc _) _ 1 1 _ (by rfl) (src_row _ #[.int .i64 x.id, .slice (some ⟨g6, 0, none⟩) m m, .int .i64 x.done] 57 3 _ rfl rfl) (RN.one ⟨x.id, (some ⟨g6, 0, none⟩), m, m, x.done⟩) (by unfold maxLen; omega) (by omega) (by simp; omega) ?_; intro v8 w8 hown8 hg8; obtain ⟨g8, c8, rfl, _⟩ := own_form hown8 (by omega)
             have K8 := Z.out.chnAfter hat hg8; have d1 := K8.cell (i := 1) (v := nv) rfl; have f1 := K8.free 1; have Y := Lib.hid (Z.out.appended (x := x) (r := ⟨x.id, (some ⟨g6, 0, none⟩), m, m, x.done⟩) hat ⟨rfl, rfl, hxm.out⟩ (OZ.out.mono (by simp; omega)) hnew6.out hown8 hg8); clear hown8 hg8 K8)
          | (rw [if_pos (by rfl)]; go_simp; go_at_call 61; (with_reducible refine (copyNode_any x A' m d _ Fx.out hm).mono ?_); rintro e w6 ⟨g6, rfl, hown6, hb6⟩
             have Z := Lib.hid (E4.out.below hb6); have OZ := Lib.hid hown6; have hnew6 := Lib.hid (fun (g : Nat) (e : (Value.slice (some ⟨g6, 0, none⟩) m m).ownBlock = some g) => (hown6.lt g e).1); have d1 := Z.out.chn.cell (i := 1) (v := nv) rfl; have hz6 : w.heap.size ≤ w6.heap.size := Z.out.bel.size; have hz7 : w2.heap.size < w6.heap.size := Z.out.size; obtain ⟨rs, hat⟩ := Z.out.row; clear hown6 hb6)))
        all_goals
          go_wp2_with fail
          go_roundw
          case rel => exact ⟨k + 1, _, _, _, by omega, by go_num, htk.out, Y.out⟩
          case measure => simp [intOf]; omega
    · obtain rfl : n = k := by omega
      have hlk : lk = l.eraseIdx q := by rw [HK.out, List.take_of_length_le (by rw [HL.out]; exact Nat.le_refl _)]
      have hfl : dropped l q = fixTail lk := by rw [hlk]; rfl
      have HD2 := Lib.hid (HD.out.trans (by rw [hfl]) : dropM view l id = if chainOk (view + 1) (fixTail lk) = true then some (view + 1, fixTail lk) else none)
      have HG2 := Lib.hid (show ∀ x ∈ fixTail lk, x.log.length ≤ 1048576 from fun x hx => by
        obtain ⟨y, hy, _, e⟩ := fixTail_mem hx
        rw [e]; exact HG.out y (by rw [hlk] at hy; exact (List.eraseIdx_sublist l q).subset hy))
      have hlen : lk.length + 1 = n := by rw [hlk, List.length_eraseIdx, HL.out, if_pos hql]; omega
      clear hlk hfl HK q1 hlt
      by_cases hl0 : lk.length = 0
      · have e0 : lk = [] := List.eq_nil_of_length_eq_zero hl0
        subst e0
        have e1 : fixTail [] = [] := rfl
        rw [e1] at HD2 HG2
        clear e1 hl0
        obtain ⟨A2, c2, hv2, hnd⟩ := SC.out.row.nods
        have hv3 : nv = .slice A2 0 c2 := hv2
        subst hv3
        have FN := Lib.hid (show Nods wr 0 wr.heap.size A2 0 c2 [] from SC.out.nods.2)
        have ht : dropM view l id = none := by rw [HD2.out, chainOk_nil]; rfl
        have HT := Lib.hid ht
        have q0 := SC.out.chn.cell (i := 0) (v := .int .i64 (view + 1)) rfl
        have q1 := SC.out.chn.cell (i := 1) (v := .slice A2 0 c2) rfl
        clear ht hv2 hnd
        go_wp2_with fail
        refine (chainValid_any _ _ _ _ [] _ FN.out (by omega) HG2.out).mono ?_
        rintro e w4 ⟨rfl, hb4⟩
        rw [chainOk_nil]
        have S4 := SC.out.below hb4
        have FF := Lib.hid (FIN.out w4 (S4.blk L1.out) S4.bel)
        have z0 := FF.out.1 0 _ rfl
        have z1 := FF.out.1 1 _ rfl
        have y0 := FF.out.2.1 0
        have y1 := FF.out.2.1 1
        clear hb4 S4 q0 q1
        go_wp2
        exact bodyPost_ret (v := .tuple #[.agg #[.int .i64 0, .slice none 0 0], .bool false]) (by simp [results, Try.results29, go_sem, FF.out.2.2.1.1, FF.out.2.2.1.2]) rfl (by rw [HT.out]; exact ChainRes.none_ FF.out.2.2.2)
      · obtain ⟨g, c2, rfl, hg0, hgs, hcc⟩ := SC.out.row.form (by omega)
        obtain ⟨t, A1, m1, d1, ht, _, c1, cd, htl, _, hfz⟩ := SC.out.row.at_ (k := lk.length - 1) (by omega)
        have hft := fixTail_at rfl ht
        rw [htl] at hft
        have SD := Lib.hid (SC.out.setDone ht (m1 : Int))
        rw [← hft] at SD
        have hlf : (fixTail lk).length = lk.length := fixTail_length lk
        obtain ⟨lf, hlf'⟩ : ∃ lf, fixTail lk = lf := ⟨_, rfl⟩
        rw [hlf'] at SD HD2 HG2 hlf
        have HLF := Lib.hid hlf
        have q0 := SC.out.chn.cell (i := 0) (v := .int .i64 (view + 1)) rfl
        have q1 := SC.out.chn.cell (i := 1) (v := .slice (some ⟨g, 0, none⟩) lk.length c2) rfl
        have z0 := SD.out.chn.cell (i := 0) (v := .int .i64 (view + 1)) rfl
        have z1 := SD.out.chn.cell (i := 1) (v := .slice (some ⟨g, 0, none⟩) lk.length c2) rfl
        have f2 := hfz ((lk.length - 1) * 3 + 2)
        have i1 : (1 : Int) ≤ (lk.length : Int) := by omega
        have hl5 : lk.length ≤ 5 := by omega
        have FN := Lib.hid SD.out.nods.2
        clear hft ht htl hfz hlf' hlf hl0
        go_wp2_with fail
        refine (chainValid_any _ _ _ _ lf _ FN.out (by omega) HG2.out).mono ?_
        rintro e w4 ⟨rfl, hb4⟩
        have S4 := Lib.hid (SD.out.below hb4)
        clear hb4 q0 q1 z0 z1 c1 cd f2 SD SC
        obtain ⟨ok, hok⟩ : ∃ ok, chainOk (view + 1) lf = ok := ⟨_, rfl⟩
        rw [hok]
        have HD3 := HD2.out
        rw [hok] at HD3
        cases ok
        · have HD4 : dropM view l id = none := HD3
          have HT := Lib.hid HD4
          have FF := Lib.hid (FIN.out w4 (S4.out.blk L1.out) S4.out.bel)
          have z0 := FF.out.1 0 _ rfl
          have z1 := FF.out.1 1 _ rfl
          have y0 := FF.out.2.1 0
          have y1 := FF.out.2.1 1
          clear HD3 HD4 hok
          go_wp2
          exact bodyPost_ret (v := .tuple #[.agg #[.int .i64 0, .slice none 0 0], .bool false]) (by simp [results, Try.results29, go_sem, FF.out.2.2.1.1, FF.out.2.2.1.2]) rfl (by rw [HT.out]; exact ChainRes.none_ FF.out.2.2.2)
        · have HD4 : dropM view l id = some (view + 1, lf) := HD3
          have HT := Lib.hid HD4
          have FF := Lib.hid (FIN.out w4 (S4.out.blk L1.out) S4.out.bel)
          have z0 := FF.out.1 0 _ rfl
          have z1 := FF.out.1 1 _ rfl
          have y0 := FF.out.2.1 0
          have y1 := FF.out.2.1 1
          have q0 := S4.out.chn.cell (i := 0) (v := .int .i64 (view + 1)) rfl
          have q1 := S4.out.chn.cell (i := 1) (v := .slice (some ⟨g, 0, none⟩) lk.length c2) rfl
          have O := Lib.hid (S4.out.out (u := .int .i64 (view + 1)) (v := .slice (some ⟨g, 0, none⟩) lk.length c2) (S4.out.blk L1.out) (by omega))
          obtain ⟨e0, e1⟩ := two_stores _ (w.heap.size + 1) z0 z1
          have E := Lib.hid (And.intro e0 e1)
          clear HD3 HD4 hok e0 e1
          go_wp2
          obtain ⟨e0, e1⟩ := E.out
          exact bodyPost_ret (v := .tuple #[.agg #[.int .i64 (view + 1), .slice (some ⟨g, 0, none⟩) lk.length c2], .bool true]) (by simp [results, Try.results29, go_sem, e0, e1]) rfl (by rw [HT.out]; exact ChainRes.some_ HLF.out O.out.1 O.out.2)
end Go.Proofs.Ytnbakpdphfdacaa
