/- The texts DropA DropB, joined. -/
import Derived.IntWalk
import Derived.Test.YtcomppiglhibkaaB2
/- Taking a node out of a chain: impl.ChainDrop. -/
namespace Go.Proofs.Ytcomppiglhibkaa
open Go.RowKit

theorem erase_skip {l : List Nod} {k : Nat} : (l.take (k + 1)).eraseIdx k = (l.take k).eraseIdx k := by
  rw [List.eraseIdx_eq_take_drop_succ, List.eraseIdx_eq_take_drop_succ, List.take_take, List.take_take, Nat.min_self, Nat.min_eq_left (Nat.le_succ k), List.drop_eq_nil_of_le (by rw [List.length_take]; omega), List.drop_eq_nil_of_le (by rw [List.length_take]; omega)]
theorem erase_step {l : List Nod} {k q : Nat} {x : Nod} (hx : l[k]? = some x) (hne : k ≠ q) : (l.take (k + 1)).eraseIdx q = (l.take k).eraseIdx q ++ [x] := by
  have hk := (List.getElem?_eq_some_iff.1 hx).1
  rw [List.take_add_one, hx]
  show (l.take k ++ [x]).eraseIdx q = _
  by_cases h : q < k
  · rw [List.eraseIdx_append_of_lt_length (by rw [List.length_take]; omega)]
  · rw [List.eraseIdx_append_of_length_le (by rw [List.length_take]; omega), List.eraseIdx_of_length_le (l := l.take k) (by rw [List.length_take]; omega), List.eraseIdx_of_length_le (by rw [List.length_take]; simp; omega)]
theorem placeI_some {l : List Nod} {id : Int} {k : Nat} (h : placeOf l id = some k) : placeI (placeOf l id) = (k : Int) := by rw [h]; rfl
theorem fixTail_at {l : List Nod} {x : Nod} {n : Nat} (hn : l.length = n) (h : l[n - 1]? = some x) : fixTail l = l.set (n - 1) { x with done := x.log.length } := by
  subst hn; unfold fixTail; rw [h]
theorem ChainRes.some_ {w w' : World} {view : Int} {A : Option Addr} {n c : Nat} {l : List Nod} (hl : l.length = n) (hrow : NodRow w' w.heap.size w'.heap.size (.slice A n c) l) (hb : Below w.heap.size w w') :
    ChainRes w (some (view, l)) (.returned (.tuple #[.agg #[.int .i64 view, .slice A n c], .bool true])) w' := ⟨view, A, n, c, l, rfl, rfl, hl, hrow, hb⟩
/-- a box and a result's block, behind a call -/
theorem two_blks {w w1 : World} {cs ds : Array Value} {t u : TypeId} (hb : Below ((w.alloc (.cells cs t)).alloc (.cells ds u)).heap.size ((w.alloc (.cells cs t)).alloc (.cells ds u)) w1) :
    Blk w1 w.heap.size cs t ∧ Blk w1 (w.heap.size + 1) ds u ∧ Below w.heap.size w w1 := by
  refine ⟨((Blk.new w cs t).alloc (.cells ds u)).below hb, ?_, below_box (below_box' hb)⟩
  have := (Blk.new (w.alloc (.cells cs t)) ds u).below hb
  simpa only [World.size_alloc] using this

set_option maxRecDepth 100000 in
set_option maxHeartbeats 8000000 in
theorem chainDrop_any (view : Int) (A : Option Addr) (n c : Nat) (l : List Nod) (id : Int) (w : World) (h : Nods w 0 w.heap.size A n c l) (hn : n ≤ 1048576) (hlog : ∀ x ∈ l, x.log.length ≤ 1048576) :
    Calls Mo.prog 15 #[.agg #[.int .i64 view, .slice A n c], .int .i64 id] w (ChainRes w (dropM view l id)) := by
  obtain ⟨j0, hj, hy0, hy1, hy2⟩ := info_parts infoNode
  have HL := Lib.hid h.len
  have HG := Lib.hid hlog
  have H := Lib.hid h
  have H0 := Lib.hid ((h.box (.cells #[.int .i64 view, .slice A n c] 25)).box (.cells #[.int .i64 0, .slice none 0 0] 25))
  clear h hlog
  have fin : ∀ w1 : World, Blk w1 (w.heap.size + 1) #[.int .i64 0, .slice none 0 0] 25 → Below w.heap.size w w1 →
      (∀ i v, #[Value.int .i64 0, Value.slice none 0 0][i]? = some v → w1.cell? ⟨w.heap.size + 1, i, none⟩ = some v) ∧ (∀ i, w1.frozen? ⟨w.heap.size + 1, i, none⟩ = false) ∧
      (((w1.setCell ⟨w.heap.size + 1, 0, none⟩ (.int .i64 0)).setCell ⟨w.heap.size + 1, 1, none⟩ (.slice none 0 0)).cell? ⟨w.heap.size + 1, 0, none⟩ = some (.int .i64 0) ∧ ((w1.setCell ⟨w.heap.size + 1, 0, none⟩ (.int .i64 0)).setCell ⟨w.heap.size + 1, 1, none⟩ (.slice none 0 0)).cell? ⟨w.heap.size + 1, 1, none⟩ = some (.slice none 0 0)) ∧
      Below w.heap.size w ((w1.setCell ⟨w.heap.size + 1, 0, none⟩ (.int .i64 0)).setCell ⟨w.heap.size + 1, 1, none⟩ (.slice none 0 0)) := fun w1 hk hb =>
    have hs := (hk.set 0 (.int .i64 0)).set 1 (.slice none 0 0)
    ⟨fun i v hv => hk.cell hv, fun i => hk.free i, ⟨hs.cell (i := 0) rfl, hs.cell (i := 1) rfl⟩, (hb.setCell (p := ⟨w.heap.size + 1, 0, none⟩) (by show w.heap.size ≤ w.heap.size + 1; omega) _).setCell (p := ⟨w.heap.size + 1, 1, none⟩) (by show w.heap.size ≤ w.heap.size + 1; omega) _⟩
  have FIN := Lib.hid fin
  clear fin
  cases hok : chainOk view l
  · rw [dropM_bad hok]
    have HO := Lib.hid hok
    clear hok
    go_enter Mo.func15, Try.ntmps15
    go_wp2_with fail
    refine (chainValid_any _ _ _ _ l _ H0.out hn HG.out).mono ?_
    rintro e w1 ⟨rfl, hb1⟩
    rw [HO.out]
    have FF := Lib.hid (FIN.out w1 (two_blks hb1).2.1 (two_blks hb1).2.2)
    have z0 := FF.out.1 0 _ rfl
    have z1 := FF.out.1 1 _ rfl
    have y0 := FF.out.2.1 0
    have y1 := FF.out.2.1 1
    clear hb1
    go_wp2
    exact bodyPost_ret (v := .tuple #[.agg #[.int .i64 0, .slice none 0 0], .bool false]) (by simp [results, Try.results15, go_sem, FF.out.2.2.1.1, FF.out.2.2.1.2]) rfl (ChainRes.none_ FF.out.2.2.2)
  have HO := Lib.hid hok
  have hg := good_iff.1 hok
  have hv0 := hg.1
  have hv9 := hg.2.1
  have hn1 : 1 ≤ n := by have := hg.2.2.1; have := HL.out; omega
  have hn5 : n ≤ 5 := by have := hg.2.2.2.1; have := HL.out; omega
  have GG := Lib.hid hg
  clear hok hg
  cases hp : placeOf l id with
  | none =>
    rw [dropM_none hp]
    have HP := Lib.hid (show placeI (placeOf l id) = -1 by rw [hp]; rfl)
    clear hp
    go_enter Mo.func15, Try.ntmps15
    go_wp2_with fail
    refine (chainValid_any _ _ _ _ l _ H0.out hn HG.out).mono ?_
    rintro e w1 ⟨rfl, hb1⟩
    rw [HO.out]
    obtain ⟨k0, k1, b1⟩ := two_blks hb1
    have K0 := Lib.hid k0
    have K1 := Lib.hid k1
    have B1 := Lib.hid b1
    have F1 := Lib.hid (H.out.on b1)
    have q0 := k0.cell (i := 0) (v := .int .i64 view) rfl
    have q1 := k0.cell (i := 1) (v := .slice A n c) rfl
    clear hb1 k0 k1 b1
    go_wp2_with fail
    refine (chainPlace_any _ _ _ _ l _ _ F1.out hn).mono ?_
    rintro e w2 ⟨rfl, hb2⟩
    rw [HP.out]
    have FF := Lib.hid (FIN.out w2 (K1.out.below hb2) (B1.out.trans (hb2.mono B1.out.size)))
    have z0 := FF.out.1 0 _ rfl
    have z1 := FF.out.1 1 _ rfl
    have y0 := FF.out.2.1 0
    have y1 := FF.out.2.1 1
    clear hb2
    go_wp2
    exact bodyPost_ret (v := .tuple #[.agg #[.int .i64 0, .slice none 0 0], .bool false]) (by simp [results, Try.results15, go_sem, FF.out.2.2.1.1, FF.out.2.2.1.2]) rfl (ChainRes.none_ FF.out.2.2.2)
  | some q =>
  have hql : q < n := by have := placeOf_lt hp; have := HL.out; omega
  have HD := Lib.hid (dropM_at HO.out hp)
  have HP := Lib.hid (placeI_some hp)
  clear hp
  go_enter Mo.func15, Try.ntmps15
  go_wp2_with fail
  refine (chainValid_any _ _ _ _ l _ H0.out hn HG.out).mono ?_
  rintro e w1 ⟨rfl, hb1⟩
  rw [HO.out]
  obtain ⟨k0, k1, b1⟩ := two_blks hb1
  have K0 := Lib.hid k0
  have K1 := Lib.hid k1
  have B1 := Lib.hid b1
  have F1 := Lib.hid (H.out.on b1)
  have s1 : w.heap.size + 1 < w1.heap.size := k1.lt
  have q0 := k0.cell (i := 0) (v := .int .i64 view) rfl
  have q1 := k0.cell (i := 1) (v := .slice A n c) rfl
  clear hb1 k0 k1 b1
  go_wp2_with fail
  refine (chainPlace_any _ _ _ _ l _ _ F1.out hn).mono ?_
  rintro e w2 ⟨rfl, hb2⟩
  rw [HP.out]
  have hB2 := B1.out.trans (hb2.mono B1.out.size)
  have k0 := K0.out.below hb2
  have k1 := K1.out.below hb2
  have s2 : w1.heap.size ≤ w2.heap.size := hb2.size
  obtain ⟨L, hL⟩ : ∃ L, L = [(w.heap.size, #[Value.int .i64 view, Value.slice A n c], 25), (w.heap.size + 1, #[Value.int .i64 0, Value.slice none 0 0], 25)] := ⟨_, rfl⟩
  have C0 := Lib.hid (CB.new (L := L) hB2 (view + 1) (by rw [hL]; exact ((Oth.nil _ _).cons k1 (by omega) (by decide)).cons k0 (by omega) (by decide)))
  have L0 := Lib.hid (show (w.heap.size, #[Value.int .i64 view, Value.slice A n c], 25) ∈ L by rw [hL]; simp)
  have L1 := Lib.hid (show (w.heap.size + 1, #[Value.int .i64 0, Value.slice none 0 0], 25) ∈ L by rw [hL]; simp)
  have z0 := k0.cell (i := 0) (v := .int .i64 view) rfl
  have z1 := k0.cell (i := 1) (v := .slice A n c) rfl
  have hlt2 : w.heap.size < w2.heap.size := by omega
  clear hb2 k0 k1 hL q0 q1 F1 K0 K1 hB2
  go_wp2_with fail
  clear z0 z1
  go_loopw [28] (fun i wr => ∃ (k : Nat) (nv : Value) (hi : Nat) (lk : List Nod), k ≤ n ∧ i = .int .i64 k ∧ Hid (lk = (l.take k).eraseIdx q) ∧ CB w wr w2.heap.size (view + 1) nv lk hi L) (fun i _ => n - (intOf i).toNat)
  case atStart => exact ⟨0, _, _, _, Nat.zero_le _, rfl, rfl, C0.out⟩
  case round =>
    obtain ⟨k, nv, hi', lk, hk, rfl, HK, hcb⟩ := hrel
    have SC := Lib.hid hcb
    clear hcb C0
    have q1 := SC.out.chn.cell (i := 1) (v := nv) rfl
    by_cases hlt : k < n
    · obtain ⟨b, off, x, A', m, d, rfl, _, hbB, hx, c0, c1, c2, hf⟩ := (H.out.below SC.out.bel (Nat.le_refl _)).nod hlt
      have hm : m ≤ 1048576 := by have := hf.len; have := HG.out x (List.mem_of_getElem? hx); omega
      have hxm := Lib.hid hf.len
      have Hx := Lib.hid hx
      by_cases hkq : k = q
      · have hz : ((k : Int) != (q : Int)) = false := by simp [hkq]
        have htk := Lib.hid (show lk = (l.take (k + 1)).eraseIdx q by rw [HK.out, hkq, erase_skip])
        have SN := Lib.hid (SC.out.alloc (.cells #[.int .i64 x.id, .slice A' m d, .int .i64 x.done] 34))
        clear hkq hx hf q1
        go_wp2_with fail
        go_roundw
        case rel => exact ⟨k + 1, _, _, _, by omega, by go_num, htk.out, SN.out⟩
        case measure => simp [intOf]; omega
      · have hz : ((k : Int) != (q : Int)) = true := by simp; omega
        have htk := Lib.hid (show lk ++ [x] = (l.take (k + 1)).eraseIdx q by rw [HK.out, erase_step hx hkq])
        have hlk : lk.length ≤ 1048576 := by rw [HK.out, List.length_eraseIdx, List.length_take]; split <;> omega
        have E4 := Lib.hid (SC.out.alloc (.cells #[.int .i64 x.id, .slice A' m d, .int .i64 x.done] 34)).raise.drew
        have Fx := Lib.hid (show Flat Upd.enc 2 (wr.alloc (.cells #[.int .i64 x.id, .slice A' m d, .int .i64 x.done] 34)).drew 0 (wr.alloc (.cells #[.int .i64 x.id, .slice A' m d, .int .i64 x.done] 34)).drew.heap.size A' m d x.log from ((hf.mono (Nat.le_refl _) SC.out.bel.size).box (.cells #[.int .i64 x.id, .slice A' m d, .int .i64 x.done] 34)).below (Below.refl _ _).drew (Nat.le_refl _))
        have XB := Lib.hid (Blk.new wr #[.int .i64 x.id, .slice A' m d, .int .i64 x.done] 34)
        have x0 := XB.out.cell (i := 0) (v := .int .i64 x.id) rfl
        have x1 := XB.out.cell (i := 1) (v := .slice A' m d) rfl
        have x2 := XB.out.cell (i := 2) (v := .int .i64 x.done) rfl
        have q1 := (SC.out.alloc (.cells #[.int .i64 x.id, .slice A' m d, .int .i64 x.done] 34)).chn.cell (i := 1) (v := nv) rfl
        have hws : w.heap.size ≤ wr.heap.size + 1 := by have := SC.out.bel.size; omega
        have hss : w2.heap.size < wr.heap.size := SC.out.size
        clear hkq hx hf
        go_wp2_with fail
        go_region_law ((first
          | (refine step_append_src _ (by rfl) (.tmp 37) (.tmp 40) 23 (by rfl) w.heap.size 34 j0 _ 3 40 Mo.underlying23 hj hy0 hy1 hy2 rfl (by omega) nv lk.length (rs.flatMap RN.enc) (by rfl) (hat.1.alloc _) _ 1 1 _ (by rfl) (src_row _ #[.int .i64 x.id, .slice (some ⟨g6, 0, none⟩) m m, .int .i64 x.done] 34 3 _ rfl rfl) (RN.one ⟨x.id, (some ⟨g6, 0, none⟩), m, m, x.done⟩) (by unfold maxLen; omega) (by omega) (by simp; omega) ?_; intro v8 w8 hown8 hg8; obtain ⟨g8, c8, rfl, _⟩ := own_form hown8 (by omega)
             have K8 := Z.out.chnAfter hat hg8; have d1 := K8.cell (i := 1) (v := nv) rfl; have f1 := K8.free 1; have Y := Lib.hid (Z.out.appended (x := x) (r := ⟨x.id, (some ⟨g6, 0, none⟩), m, m, x.done⟩) hat ⟨rfl, rfl, hxm.out⟩ (OZ.out.mono (by simp; omega)) hnew6.out hown8 hg8); clear hown8 hg8 K8)
          | (rw [if_pos (by rfl)]; go_simp; go_at_call 39; (with_reducible refine (copyNode_any x A' m d _ Fx.out hm).mono ?_); rintro e w6 ⟨g6, rfl, hown6, hb6⟩
             have Z := Lib.hid (E4.out.below hb6); have OZ := Lib.hid hown6; have hnew6 := Lib.hid (fun (g : Nat) (e : (Value.slice (some ⟨g6, 0, none⟩) m m).ownBlock = some g) => (hown6.lt g e).1); have d1 := Z.out.chn.cell (i := 1) (v := nv) rfl; have hz6 : w.heap.size ≤ w6.heap.size := Z.out.bel.size; have hz7 : w2.heap.size < w6.heap.size := Z.out.size; obtain ⟨rs, hat⟩ := Z.out.row; clear hown6 hb6)))
        all_goals
          go_wp2_with fail
          go_roundw
          case rel => exact ⟨k + 1, _, _, _, by omega, by go_num, htk.out, Y.out⟩
          case measure => simp [intOf]; omega
    · obtain rfl : n = k := by omega
      have hlk : lk = l.eraseIdx q := by rw [HK.out, List.take_of_length_le (by rw [HL.out]; exact Nat.le_refl _)]
      have hfl : dropped l q = fixTail lk := by rw [hlk]; rfl
      have HD2 := Lib.hid (HD.out.trans (by rw [hfl]) : dropM view l id = if chainOk (view + 1) (fixTail lk) = true then some (view + 1, fixTail lk) else none)
      have HG2 := Lib.hid (show ∀ x ∈ fixTail lk, x.log.length ≤ 1048576 from fun x hx => by
        obtain ⟨y, hy, _, e⟩ := fixTail_mem hx
        rw [e]; exact HG.out y (by rw [hlk] at hy; exact (List.eraseIdx_sublist l q).subset hy))
      have hlen : lk.length + 1 = n := by rw [hlk, List.length_eraseIdx, HL.out, if_pos hql]; omega
      clear hlk hfl HK q1 hlt
      by_cases hl0 : lk.length = 0
      · have e0 : lk = [] := List.eq_nil_of_length_eq_zero hl0
        subst e0
        have e1 : fixTail [] = [] := rfl
        rw [e1] at HD2 HG2
        clear e1 hl0
        obtain ⟨A2, c2, hv2, hnd⟩ := SC.out.row.nods
        have hv3 : nv = .slice A2 0 c2 := hv2
        subst hv3
        have FN := Lib.hid (show Nods wr 0 wr.heap.size A2 0 c2 [] from SC.out.nods.2)
        have ht : dropM view l id = none := by rw [HD2.out, chainOk_nil]; rfl
        have HT := Lib.hid ht
        have q0 := SC.out.chn.cell (i := 0) (v := .int .i64 (view + 1)) rfl
        have q1 := SC.out.chn.cell (i := 1) (v := .slice A2 0 c2) rfl
        clear ht hv2 hnd
        go_wp2_with fail
        refine (chainValid_any _ _ _ _ [] _ FN.out (by omega) HG2.out).mono ?_
        rintro e w4 ⟨rfl, hb4⟩
        rw [chainOk_nil]
        have S4 := SC.out.below hb4
        have FF := Lib.hid (FIN.out w4 (S4.blk L1.out) S4.bel)
        have z0 := FF.out.1 0 _ rfl
        have z1 := FF.out.1 1 _ rfl
        have y0 := FF.out.2.1 0
        have y1 := FF.out.2.1 1
        clear hb4 S4 q0 q1
        go_wp2
        exact bodyPost_ret (v := .tuple #[.agg #[.int .i64 0, .slice none 0 0], .bool false]) (by simp [results, Try.results15, go_sem, FF.out.2.2.1.1, FF.out.2.2.1.2]) rfl (by rw [HT.out]; exact ChainRes.none_ FF.out.2.2.2)
      · obtain ⟨g, c2, rfl, hg0, hgs, hcc⟩ := SC.out.row.form (by omega)
        obtain ⟨t, A1, m1, d1, ht, _, c1, cd, htl, _, hfz⟩ := SC.out.row.at_ (k := lk.length - 1) (by omega)
        have hft := fixTail_at rfl ht
        rw [htl] at hft
        have SD := Lib.hid (SC.out.setDone ht (m1 : Int))
        rw [← hft] at SD
        have hlf : (fixTail lk).length = lk.length := fixTail_length lk
        obtain ⟨lf, hlf'⟩ : ∃ lf, fixTail lk = lf := ⟨_, rfl⟩
        rw [hlf'] at SD HD2 HG2 hlf
        have HLF := Lib.hid hlf
        have q0 := SC.out.chn.cell (i := 0) (v := .int .i64 (view + 1)) rfl
        have q1 := SC.out.chn.cell (i := 1) (v := .slice (some ⟨g, 0, none⟩) lk.length c2) rfl
        have z0 := SD.out.chn.cell (i := 0) (v := .int .i64 (view + 1)) rfl
        have z1 := SD.out.chn.cell (i := 1) (v := .slice (some ⟨g, 0, none⟩) lk.length c2) rfl
        have f2 := hfz ((lk.length - 1) * 3 + 2)
        have i1 : (1 : Int) ≤ (lk.length : Int) := by omega
        have hl5 : lk.length ≤ 5 := by omega
        have FN := Lib.hid SD.out.nods.2
        clear hft ht htl hfz hlf' hlf hl0
        go_wp2_with fail
        refine (chainValid_any _ _ _ _ lf _ FN.out (by omega) HG2.out).mono ?_
        rintro e w4 ⟨rfl, hb4⟩
        have S4 := Lib.hid (SD.out.below hb4)
        clear hb4 q0 q1 z0 z1 c1 cd f2 SD SC
        obtain ⟨ok, hok⟩ : ∃ ok, chainOk (view + 1) lf = ok := ⟨_, rfl⟩
        rw [hok]
        have HD3 := HD2.out
        rw [hok] at HD3
        cases ok
        · have HD4 : dropM view l id = none := HD3
          have HT := Lib.hid HD4
          have FF := Lib.hid (FIN.out w4 (S4.out.blk L1.out) S4.out.bel)
          have z0 := FF.out.1 0 _ rfl
          have z1 := FF.out.1 1 _ rfl
          have y0 := FF.out.2.1 0
          have y1 := FF.out.2.1 1
          clear HD3 HD4 hok
          go_wp2
          exact bodyPost_ret (v := .tuple #[.agg #[.int .i64 0, .slice none 0 0], .bool false]) (by simp [results, Try.results15, go_sem, FF.out.2.2.1.1, FF.out.2.2.1.2]) rfl (by rw [HT.out]; exact ChainRes.none_ FF.out.2.2.2)
        · have HD4 : dropM view l id = some (view + 1, lf) := HD3
          have HT := Lib.hid HD4
          have FF := Lib.hid (FIN.out w4 (S4.out.blk L1.out) S4.out.bel)
          have z0 := FF.out.1 0 _ rfl
          have z1 := FF.out.1 1 _ rfl
          have y0 := FF.out.2.1 0
          have y1 := FF.out.2.1 1
          have q0 := S4.out.chn.cell (i := 0) (v := .int .i64 (view + 1)) rfl
          have q1 := S4.out.chn.cell (i := 1) (v := .slice (some ⟨g, 0, none⟩) lk.length c2) rfl
          have O := Lib.hid (S4.out.out (u := .int .i64 (view + 1)) (v := .slice (some ⟨g, 0, none⟩) lk.length c2) (S4.out.blk L1.out) (by omega))
          obtain ⟨e0, e1⟩ := two_stores _ (w.heap.size + 1) z0 z1
          have E := Lib.hid (And.intro e0 e1)
          clear HD3 HD4 hok e0 e1
          go_wp2
          obtain ⟨e0, e1⟩ := E.out
          exact bodyPost_ret (v := .tuple #[.agg #[.int .i64 (view + 1), .slice (some ⟨g, 0, none⟩) lk.length c2], .bool true]) (by simp [results, Try.results15, go_sem, e0, e1]) rfl (by rw [HT.out]; exact ChainRes.some_ HLF.out O.out.1 O.out.2)
end Go.Proofs.Ytcomppiglhibkaa
/- Taking a node out of a chain: spec.ChainDrop. -/
namespace Go.Proofs.Ytcomppiglhibkaa
open Go.RowKit

/-- the first rows of a row -/
theorem own_take {w : World} {lo g n cap k : Nat} {rs : List RN} (h : w.ownsRow lo 34 3 (.slice (some ⟨g, 0, none⟩) n cap) n (rs.flatMap RN.enc)) (hl : rs.length = n) (hk : k ≤ n) : w.ownsRow lo 34 3 (.slice (some ⟨g, 0, none⟩) k cap) k ((rs.take k).flatMap RN.enc) := by
  have e : (rs.take k).flatMap RN.enc = (rs.flatMap RN.enc).take (k * 3) := by
    apply List.ext_getElem?
    intro m
    rw [List.getElem?_take]
    by_cases hm : m < k * 3
    · rw [if_pos hm]
      have hi : m / 3 < k := Nat.div_lt_of_lt_mul (by omega)
      have hr : rs[m / 3]? = some (rs[m / 3]'(by omega)) := List.getElem?_eq_getElem _
      have hj : (rs[m / 3]'(by omega)).enc[m % 3]? = some ((rs[m / 3]'(by omega)).enc[m % 3]'(by rw [RN.len]; omega)) := List.getElem?_eq_getElem _
      have h1 := flatMap_get RN.len rs _ _ hr _ _ hj
      have h2 := flatMap_get RN.len (rs.take k) _ _ (by rw [List.getElem?_take, if_pos hi]; exact hr) _ _ hj
      rw [show m / 3 * 3 + m % 3 = m by omega] at h1 h2
      rw [h1, h2]
    · rw [if_neg hm, List.getElem?_eq_none (by rw [length_flatMap RN.len, List.length_take]; omega)]
  refine ⟨by rw [length_flatMap RN.len, List.length_take]; omega, ?_⟩
  rcases h.2 with ⟨hv, _⟩ | ⟨g', cap', cur, hv, hb, hg, hnc, hcm, hcs, ht⟩
  · cases hv
  · injection hv with e1 e2 e3
    injection e1 with e1; injection e1 with e1
    subst e1; subst e3
    refine .inr ⟨g, cap, cur, rfl, hb, hg, by omega, hcm, hcs, ?_⟩
    rw [e, ← ht, List.take_take, Nat.min_eq_left (by omega)]
/-- a row from which one node was taken -/
theorem NodRowAt.erased {w w1 : World} {lo hi g n cap k p : Nat} {l : List Nod} {rs : List RN} {v' : Value} (h : NodRowAt w lo hi (.slice (some ⟨g, 0, none⟩) n cap) l rs) (hp : p + 1 = l.length) (hk : k < l.length)
    (ho' : w1.ownsRow lo 34 3 v' p ((rs.take k).flatMap RN.enc ++ (rs.drop (k + 1)).flatMap RN.enc)) (hg : w.grownBy w1 (some g)) : NodRow w1 lo w1.heap.size v' (l.eraseIdx k) := by
  obtain ⟨ho, hv, hl, hrs, hd⟩ := h
  obtain ⟨cs, hgb⟩ := own_blk ho rfl
  have keepLog : ∀ {A : Option Addr} {n c : Nat} {xs : List Value}, w.ownsRow lo 63 2 (.slice A n c) n xs → w1.ownsRow lo 63 2 (.slice A n c) n xs := fun hh =>
    own_keep hh fun q e => hg.block q (hh.lt q e).2 (fun e' => by injection e' with e'; subst e'; exact own_part hh ho (by decide) e rfl)
  have get : ∀ {α : Type} (xs : List α) (i : Nat), (xs.eraseIdx k)[i]? = xs[if i < k then i else i + 1]? := fun xs i => by rw [List.getElem?_eraseIdx]; split <;> rfl
  have e : (rs.take k).flatMap RN.enc ++ (rs.drop (k + 1)).flatMap RN.enc = (rs.eraseIdx k).flatMap RN.enc := by rw [List.eraseIdx_eq_take_drop_succ, List.flatMap_append]
  have hp' : p = (l.eraseIdx k).length := by rw [List.length_eraseIdx, if_pos hk]; omega
  rw [e] at ho'
  subst hp'
  refine ⟨rs.eraseIdx k, ho', fun q e => (ho'.lt q e).2, by rw [List.length_eraseIdx, List.length_eraseIdx, hl], fun i r x h1 h2 => ?_, fun i j r s b h1 h2 hij => ?_⟩
  · rw [get] at h1 h2
    obtain ⟨a, b, c, d, f⟩ := hrs _ r x h1 h2
    exact ⟨a, b, c, keepLog d, fun q e => (((keepLog d).lt q e).2)⟩
  · rw [get] at h1 h2
    exact hd _ _ r s b h1 h2 (by split <;> split <;> omega)

set_option maxRecDepth 100000 in
set_option maxHeartbeats 16000000 in
theorem specChainDrop_any (view : Int) (A : Option Addr) (n c : Nat) (l : List Nod) (id : Int) (w : World) (h : Nods w 0 w.heap.size A n c l) (hn : n ≤ 1048576) (hlog : ∀ x ∈ l, x.log.length ≤ 1048576) :
    Calls Mo.prog 16 #[.agg #[.int .i64 view, .slice A n c], .int .i64 id] w (ChainRes w (dropM view l id)) := by
  obtain ⟨j0, hj, hy0, hy1, hy2⟩ := info_parts infoNode
  have HL := Lib.hid h.len
  have HG := Lib.hid hlog
  have H := Lib.hid h
  have H0 := Lib.hid ((h.box (.cells #[.int .i64 view, .slice A n c] 25)).box (.cells #[.int .i64 0, .slice none 0 0] 25))
  clear h hlog
  have fin : ∀ w1 : World, Blk w1 (w.heap.size + 1) #[.int .i64 0, .slice none 0 0] 25 → Below w.heap.size w w1 →
      (∀ i v, #[Value.int .i64 0, Value.slice none 0 0][i]? = some v → w1.cell? ⟨w.heap.size + 1, i, none⟩ = some v) ∧ (∀ i, w1.frozen? ⟨w.heap.size + 1, i, none⟩ = false) ∧
      (((w1.setCell ⟨w.heap.size + 1, 0, none⟩ (.int .i64 0)).setCell ⟨w.heap.size + 1, 1, none⟩ (.slice none 0 0)).cell? ⟨w.heap.size + 1, 0, none⟩ = some (.int .i64 0) ∧ ((w1.setCell ⟨w.heap.size + 1, 0, none⟩ (.int .i64 0)).setCell ⟨w.heap.size + 1, 1, none⟩ (.slice none 0 0)).cell? ⟨w.heap.size + 1, 1, none⟩ = some (.slice none 0 0)) ∧
      Below w.heap.size w ((w1.setCell ⟨w.heap.size + 1, 0, none⟩ (.int .i64 0)).setCell ⟨w.heap.size + 1, 1, none⟩ (.slice none 0 0)) := fun w1 hk hb =>
    have hs := (hk.set 0 (.int .i64 0)).set 1 (.slice none 0 0)
    ⟨fun i v hv => hk.cell hv, fun i => hk.free i, ⟨hs.cell (i := 0) rfl, hs.cell (i := 1) rfl⟩, (hb.setCell (p := ⟨w.heap.size + 1, 0, none⟩) (by show w.heap.size ≤ w.heap.size + 1; omega) _).setCell (p := ⟨w.heap.size + 1, 1, none⟩) (by show w.heap.size ≤ w.heap.size + 1; omega) _⟩
  have FIN := Lib.hid fin
  clear fin
  obtain ⟨pl, hpl⟩ : ∃ pl, placeI (placeOf l id) = pl := ⟨_, rfl⟩
  have HPL := Lib.hid hpl
  by_cases hbad : chainOk view l = false ∨ pl < 0 ∨ n = 1
  · have HT := Lib.hid (show dropM view l id = none by
      rcases hbad with h1 | h1 | h1
      · exact dropM_bad h1
      · cases hp : placeOf l id with
        | none => exact dropM_none hp
        | some k => rw [hp] at hpl; rw [← hpl] at h1; simp [placeI] at h1; omega
      · exact dropM_one (by rw [HL.out]; exact h1))
    obtain ⟨ok, hok⟩ : ∃ ok, chainOk view l = ok := ⟨_, rfl⟩
    have HO := Lib.hid hok
    rw [hok] at hbad
    clear hok hpl
    have hcases : ok = false ∨ (ok = true ∧ pl < 0) ∨ (ok = true ∧ ¬ pl < 0 ∧ (n == 1) = true) := by
      cases ok
      · exact .inl rfl
      · rcases hbad with h1 | h1 | h1
        · cases h1
        · exact .inr (.inl ⟨rfl, h1⟩)
        · by_cases h2 : pl < 0
          · exact .inr (.inl ⟨rfl, h2⟩)
          · exact .inr (.inr ⟨rfl, h2, by simp [h1]⟩)
    clear hbad
    go_enter Mo.func16, Try.ntmps16
    go_wp2_with fail
    refine (l11At_any _ _ _ _ l _ _ H0.out hn).mono ?_
    rintro e w1 ⟨rfl, hb1⟩
    rw [HPL.out]
    obtain ⟨k0, k1, b1⟩ := two_blks hb1
    have K0 := Lib.hid k0
    have K1 := Lib.hid k1
    have B1 := Lib.hid b1
    have F1 := Lib.hid (H.out.on b1)
    have s1 : w.heap.size + 1 < w1.heap.size := k1.lt
    have q0 := k0.cell (i := 0) (v := .int .i64 view) rfl
    have q1 := k0.cell (i := 1) (v := .slice A n c) rfl
    clear hb1 k0 k1 b1
    go_wp2_with fail
    refine (specChainValid_any _ _ _ _ l _ F1.out hn HG.out).mono ?_
    rintro e w2 ⟨rfl, hb2⟩
    rw [HO.out]
    have k0 := K0.out.below hb2
    have FF := Lib.hid (FIN.out w2 (K1.out.below hb2) (B1.out.trans (hb2.mono B1.out.size)))
    have z0 := FF.out.1 0 _ rfl
    have z1 := FF.out.1 1 _ rfl
    have y0 := FF.out.2.1 0
    have y1 := FF.out.2.1 1
    have p1 := k0.cell (i := 1) (v := .slice A n c) rfl
    clear hb2 k0 q0 q1
    rcases hcases with rfl | ⟨rfl, h1⟩ | ⟨rfl, h1, h2⟩
    · go_wp2
      exact bodyPost_ret (v := .tuple #[.agg #[.int .i64 0, .slice none 0 0], .bool false]) (by simp [results, Try.results16, go_sem, FF.out.2.2.1.1, FF.out.2.2.1.2]) rfl (by rw [HT.out]; exact ChainRes.none_ FF.out.2.2.2)
    · go_wp2
      exact bodyPost_ret (v := .tuple #[.agg #[.int .i64 0, .slice none 0 0], .bool false]) (by simp [results, Try.results16, go_sem, FF.out.2.2.1.1, FF.out.2.2.1.2]) rfl (by rw [HT.out]; exact ChainRes.none_ FF.out.2.2.2)
    · obtain rfl : n = 1 := by simpa using h2
      clear h2
      go_wp2
      exact bodyPost_ret (v := .tuple #[.agg #[.int .i64 0, .slice none 0 0], .bool false]) (by simp [results, Try.results16, go_sem, FF.out.2.2.1.1, FF.out.2.2.1.2]) rfl (by rw [HT.out]; exact ChainRes.none_ FF.out.2.2.2)
  · have hok : chainOk view l = true := by cases he : chainOk view l <;> simp_all
    have hpl0 : ¬ pl < 0 := fun e => hbad (.inr (.inl e))
    have hn1 : n ≠ 1 := fun e => hbad (.inr (.inr e))
    clear hbad
    have hg := good_iff.1 hok
    have hv0 := hg.1
    have hv9 := hg.2.1
    have hn2 : 2 ≤ n := by have := hg.2.2.1; have := HL.out; omega
    have hn5 : n ≤ 5 := by have := hg.2.2.2.1; have := HL.out; omega
    obtain ⟨q, hp⟩ : ∃ q, placeOf l id = some q := by
      cases hp : placeOf l id with
      | none => rw [hp] at hpl; rw [← hpl] at hpl0; simp [placeI] at hpl0
      | some q => exact ⟨q, rfl⟩
    have hql : q < n := by have := placeOf_lt hp; have := HL.out; omega
    have HD := Lib.hid (dropM_at hok hp)
    have hz1 : ((n : Int) == 1) = false := by simp; omega
    have hpq : pl = (q : Int) := by rw [← hpl, hp]; rfl
    clear hpl hpl0
    subst hpq
    have HO := Lib.hid hok
    clear hok hg hp hn1
    go_enter Mo.func16, Try.ntmps16
    go_wp2_with fail
    refine (l11At_any _ _ _ _ l _ _ H0.out hn).mono ?_
    rintro e w1 ⟨rfl, hb1⟩
    rw [HPL.out]
    obtain ⟨k0, k1, b1⟩ := two_blks hb1
    have K0 := Lib.hid k0
    have K1 := Lib.hid k1
    have B1 := Lib.hid b1
    have F1 := Lib.hid (H.out.on b1)
    have s1 : w.heap.size + 1 < w1.heap.size := k1.lt
    have q0 := k0.cell (i := 0) (v := .int .i64 view) rfl
    have q1 := k0.cell (i := 1) (v := .slice A n c) rfl
    clear hb1 k0 k1 b1
    go_wp2_with fail
    refine (specChainValid_any _ _ _ _ l _ F1.out hn HG.out).mono ?_
    rintro e w2 ⟨rfl, hb2⟩
    rw [HO.out]
    have k0 := K0.out.below hb2
    have k1 := K1.out.below hb2
    have s2 : w.heap.size + 1 < w2.heap.size := k1.lt
    have B2 := Lib.hid (B1.out.trans (hb2.mono B1.out.size))
    have F2 := Lib.hid (H.out.on B2.out)
    have M0 := Lib.hid k0
    have M1 := Lib.hid k1
    have p0 := k0.cell (i := 0) (v := .int .i64 view) rfl
    have p1 := k0.cell (i := 1) (v := .slice A n c) rfl
    clear hb2 k0 k1 q0 q1 K0 K1 B1 F1
    go_wp2_with fail
    refine (l4Copy_any _ _ _ _ l _ F2.out hn HG.out).mono ?_
    rintro e w3 ⟨A3, n3, c3, rfl, hl3, hrow3, hb3⟩
    obtain rfl : n3 = n := by rw [← hl3]; exact HL.out
    obtain ⟨L, hL⟩ : ∃ L, L = [(w.heap.size, #[Value.int .i64 view, Value.slice A n3 c], 25), (w.heap.size + 1, #[Value.int .i64 0, Value.slice none 0 0], 25)] := ⟨_, rfl⟩
    have k0 := M0.out.below hb3
    have k1 := M1.out.below hb3
    have s3 : w.heap.size + 1 < w3.heap.size := k1.lt
    have s3' : w.heap.size < w3.heap.size := by omega
    have r0 := k0.cell (i := 0) (v := .int .i64 view) rfl
    have hB3 := B2.out.trans (hb3.mono B2.out.size)
    have hC := CB.made (view := view) (L := L) hB3 ((hrow3.lower B2.out.size)) (by rw [hL]; exact ((Oth.nil _ _).cons k1 (by omega) (by decide)).cons k0 (by omega) (by decide))
    have L1 := Lib.hid (show (w.heap.size + 1, #[Value.int .i64 0, Value.slice none 0 0], 25) ∈ L by rw [hL]; simp)
    obtain ⟨g, cc, hv, hg0, hgs, hcc⟩ := hC.row.form (by omega)
    injection hv with e1 e2 e3
    subst e1
    have hC' := CB.made (view := view + 1) (L := L) hB3 ((hrow3.lower B2.out.size)) (by rw [hL]; exact ((Oth.nil _ _).cons k1 (by omega) (by decide)).cons k0 (by omega) (by decide))
    have E3 := Lib.hid hC'.drew
    have x2 := hC'.chn.cell (i := 0) (v := .int .i64 (view + 1)) rfl
    have x3 := hC'.chn.cell (i := 1) (v := .slice (some ⟨g, 0, none⟩) n3 c3) rfl
    have x4 := hC'.chn.free 1
    have x0 := hC.chn.cell (i := 0) (v := .int .i64 view) rfl
    have x1 := hC.chn.cell (i := 1) (v := .slice (some ⟨g, 0, none⟩) n3 c3) rfl
    have y0 := hC.chn.free 0
    have y1 := hC.chn.free 1
    have hn3c : n3 ≤ c3 := hC.nods.2.cap.1
    have hc3m := hC.nods.2.cap.2
    unfold maxLen at hc3m
    have hgs3 : g < w3.heap.size := by
      obtain ⟨rs, ho, _⟩ := hrow3
      exact (ho.lt g rfl).2
    clear hb3 k0 k1 hL p0 p1 F2 M0 M1 hB3 hC hC' hrow3 hl3 e2 e3 hcc hg0 hgs
    obtain ⟨p, hpn⟩ : ∃ p, p + 1 = n3 := ⟨n3 - 1, by omega⟩
    have HPN := Lib.hid hpn
    have hp0 : 0 < p := by omega
    clear hpn
    go_upto_region 6 with fail
    go_cut [] from 32 to 42 (fun wx => ∃ (g8 c8 hi : Nat), CB w wx w3.heap.size (view + 1) (.slice (some ⟨g8, 0, none⟩) p c8) (l.eraseIdx q) hi L)
    case first =>
      obtain ⟨rs, hat⟩ := E3.out.row
      have hrl : rs.length = n3 := by rw [hat.2.2.1]; exact HL.out
      have hown := hat.1
      rw [HL.out] at hown
      have hro := own_flat' RN.len hown hrl
      have OT := Lib.hid (own_take hown hrl (Nat.le_of_lt hql))
      have hbase := E3.out.bel.size
      have hgw : w.heap.size ≤ g := (hown.lt g rfl).1
      have hqn : q + (n3 - (q + 1)) = p := by have := HPN.out; omega
      have hp1 := Lib.hid (show p + 1 = l.length by have := HL.out; have := HPN.out; omega)
      have hql' : q < l.length := by have := HL.out; omega
      have hkp : ∀ w8, (w3.alloc (.cells #[.int .i64 (view + 1), .slice (some ⟨g, 0, none⟩) n3 c3] 25)).drew.grownBy w8 (some g) → ∀ (k : Nat) (cs : Array Value) (t : TypeId), (w3.alloc (.cells #[.int .i64 (view + 1), .slice (some ⟨g, 0, none⟩) n3 c3] 25)).drew.heap[k]? = some (.cells cs t (0, 0)) → t ≠ 34 → w8.heap[k]? = (w3.alloc (.cells #[.int .i64 (view + 1), .slice (some ⟨g, 0, none⟩) n3 c3] 25)).drew.heap[k]? := fun w8 hg8 k cs t hk ht =>
        hg8.block k (lt_of_block hk) (fun e => by
          injection e with e; subst e
          obtain ⟨ds, hd⟩ := own_blk hown rfl
          exact ht (blk_type hk hd))
      have hc0 : q ≤ c3 := by omega
      have hw1 : IntKind.i64.wrap ((q : Int) + 1) = (q : Int) + 1 := IntWalk.i64_in _ (by omega)
      have hw2 : ((q : Int) + 1).toNat = q + 1 := by omega
      have hw3 : (0 : Int) ≤ (q : Int) + 1 := by omega
      by_cases hq1 : q + 1 < n3
      · have hd := hro.drop_at hq1
        rw [Nat.zero_add] at hd
        have SR := Lib.hid (flat_src RN.len (by omega) hd)
        have hcq : ¬ c3 = q + 1 := by omega
        have hc1 : q + 1 ≤ c3 := by omega
        have hc2 : (q : Int) + 1 ≤ (n3 : Int) := by omega
        have hc3 : (q : Int) + 1 ≤ (c3 : Int) := by omega
        clear hd hro
        go_region_law ((first
          | (refine step_append_src _ (by rfl) (.tmp 35) (.tmp 40) 23 (by rfl) w.heap.size 34 j0 _ 3 40 Mo.underlying23 hj hy0 hy1 hy2 rfl (by omega) (.slice (some ⟨g, 0, none⟩) q c3) q ((rs.take q).flatMap RN.enc) (by rfl) OT.out (some ⟨g, (q + 1) * 3, none⟩) (n3 - (q + 1)) (c3 - (q + 1)) ((rs.drop (q + 1)).flatMap RN.enc) (by rfl) SR.out (one_enc RN.one _) (by unfold maxLen; omega) (by omega) hbase ?_; intro v8 w8 hown8 hg8; rw [hqn] at hown8; obtain ⟨g8, c8, rfl, _⟩ := own_form hown8 (by omega)
             have hkeep := hkp w8 hg8; have K8 : Blk w8 w3.heap.size #[.int .i64 (view + 1), .slice (some ⟨g, 0, none⟩) n3 c3] 25 := (hkeep _ _ _ E3.out.chn (by decide)).trans E3.out.chn; have d1 := K8.cell (i := 1) (v := .slice (some ⟨g, 0, none⟩) n3 c3) rfl; have f1 := K8.free 1
             have Y := Lib.hid (E3.out.rowOf (hat.erased hp1.out hql' hown8 hg8) (E3.out.bel.grown hg8 hbase (fun k e => by cases e; exact hgw)) hg8.size hkeep); clear hown8 hg8 K8 hkeep)))
        all_goals
          go_wp2_with fail
          go_meet
          case rel => exact ⟨_, _, _, Y.out⟩
      · obtain rfl : n3 = q + 1 := by omega
        have e00 : q + 1 - (q + 1) = 0 := Nat.sub_self _
        have hnil : (rs.drop (q + 1)).flatMap RN.enc = [] := by rw [List.drop_eq_nil_of_le (by omega)]; rfl
        have SR := Lib.hid (show ∀ A, A ≠ none → Src (w3.alloc (.cells #[.int .i64 (view + 1), .slice (some ⟨g, 0, none⟩) (q + 1) c3] 25)).drew 3 A 0 ((rs.drop (q + 1)).flatMap RN.enc) from fun A hA => by rw [hnil]; exact ⟨rfl, fun e => absurd e hA, fun ad _ j u hu => by simp at hu⟩)
        obtain rfl : p = q := by omega
        clear hnil hro HPN
        by_cases hc : c3 = p + 1
        · subst hc
          have hc9 : (p : Int) ≤ (p : Int) + 1 := by omega
          go_region_law ((first
            | (refine step_append_src _ (by rfl) (.tmp 35) (.tmp 40) 23 (by rfl) w.heap.size 34 j0 _ 3 40 Mo.underlying23 hj hy0 hy1 hy2 rfl (by omega) (.slice (some ⟨g, 0, none⟩) p (p + 1)) p ((rs.take p).flatMap RN.enc) (by rfl) OT.out (some ⟨g, 0, none⟩) 0 0 ((rs.drop (p + 1)).flatMap RN.enc) (by rfl) (SR.out _ (by intro e; cases e)) (one_enc RN.one _) (by unfold maxLen; omega) (by omega) hbase ?_; intro v8 w8 hown8 hg8; rw [Nat.add_zero] at hown8; obtain ⟨g8, c8, rfl, _⟩ := own_form hown8 (by omega)
               have hkeep := hkp w8 hg8; have K8 : Blk w8 w3.heap.size #[.int .i64 (view + 1), .slice (some ⟨g, 0, none⟩) (p + 1) (p + 1)] 25 := (hkeep _ _ _ E3.out.chn (by decide)).trans E3.out.chn; have d1 := K8.cell (i := 1) (v := .slice (some ⟨g, 0, none⟩) (p + 1) (p + 1)) rfl; have f1 := K8.free 1
               have Y := Lib.hid (E3.out.rowOf (hat.erased hp1.out hql' hown8 hg8) (E3.out.bel.grown hg8 hbase (fun k e => by cases e; exact hgw)) hg8.size hkeep); clear hown8 hg8 K8 hkeep)))
          all_goals
            go_wp2_with fail
            go_meet
            case rel => exact ⟨_, _, _, Y.out⟩
        · have hc' : ¬ c3 = p + 1 := hc
          have hc1 : p + 1 ≤ c3 := by omega
          have hc3 : (p : Int) + 1 ≤ (c3 : Int) := by omega
          go_region_law ((first
            | (refine step_append_src _ (by rfl) (.tmp 35) (.tmp 40) 23 (by rfl) w.heap.size 34 j0 _ 3 40 Mo.underlying23 hj hy0 hy1 hy2 rfl (by omega) (.slice (some ⟨g, 0, none⟩) p c3) p ((rs.take p).flatMap RN.enc) (by rfl) OT.out (some ⟨g, (p + 1) * 3, none⟩) 0 (c3 - (p + 1)) ((rs.drop (p + 1)).flatMap RN.enc) (by rfl) (SR.out _ (by intro e; cases e)) (one_enc RN.one _) (by unfold maxLen; omega) (by omega) hbase ?_; intro v8 w8 hown8 hg8; rw [Nat.add_zero] at hown8; obtain ⟨g8, c8, rfl, _⟩ := own_form hown8 (by omega)
               have hkeep := hkp w8 hg8; have K8 : Blk w8 w3.heap.size #[.int .i64 (view + 1), .slice (some ⟨g, 0, none⟩) (p + 1) c3] 25 := (hkeep _ _ _ E3.out.chn (by decide)).trans E3.out.chn; have d1 := K8.cell (i := 1) (v := .slice (some ⟨g, 0, none⟩) (p + 1) c3) rfl; have f1 := K8.free 1
               have Y := Lib.hid (E3.out.rowOf (hat.erased hp1.out hql' hown8 hg8) (E3.out.bel.grown hg8 hbase (fun k e => by cases e; exact hgw)) hg8.size hkeep); clear hown8 hg8 K8 hkeep)))
          all_goals
            go_wp2_with fail
            go_meet
            case rel => exact ⟨_, _, _, Y.out⟩
    case rest =>
      obtain ⟨g8, c8, hi8, hcb⟩ := hcut
      obtain ⟨j, rfl⟩ : ∃ j, p = j + 1 := ⟨p - 1, by omega⟩
      obtain ⟨w8, rfl⟩ : ∃ w8 : World, w8 = wc := ⟨_, rfl⟩
      have hlen : (l.eraseIdx q).length = j + 1 := by have := hcb.row.nods'.1; omega
      obtain ⟨tt, A1, m1, d1, ht, _, c1, cd, htl, _, hfz⟩ := hcb.row.at_ (k := j) (by omega)
      have hft := fixTail_at hlen ht
      rw [htl] at hft
      have hSD := hcb.drew.setDone ht (m1 : Int)
      rw [show j + 1 - 1 = j from rfl] at hft
      rw [← hft] at hSD
      have hlf : (fixTail (l.eraseIdx q)).length = j + 1 := by rw [fixTail_length]; exact hlen
      have HG2 := Lib.hid (show ∀ x ∈ fixTail (l.eraseIdx q), x.log.length ≤ 1048576 from fun x hx => by
        obtain ⟨y, hy, _, e⟩ := fixTail_mem hx
        rw [e]; exact HG.out y ((List.eraseIdx_sublist l q).subset hy))
      have hd2 : dropM view l id = if chainOk (view + 1) (fixTail (l.eraseIdx q)) = true then some (view + 1, fixTail (l.eraseIdx q)) else none := HD.out
      have HD2 := Lib.hid hd2
      clear hd2
      obtain ⟨lf, hlf'⟩ : ∃ lf, fixTail (l.eraseIdx q) = lf := ⟨_, rfl⟩
      rw [hlf'] at hSD HD2 HG2 hlf
      have SC := Lib.hid hcb
      have SD := Lib.hid hSD
      have HLF := Lib.hid hlf
      have q0 := SC.out.chn.cell (i := 0) (v := .int .i64 (view + 1)) rfl
      have q1 := SC.out.chn.cell (i := 1) (v := .slice (some ⟨g8, 0, none⟩) (j + 1) c8) rfl
      have z0 := SD.out.chn.cell (i := 0) (v := .int .i64 (view + 1)) rfl
      have z1 := SD.out.chn.cell (i := 1) (v := .slice (some ⟨g8, 0, none⟩) (j + 1) c8) rfl
      have f2 := hfz (j * 3 + 2)
      have FN := Lib.hid SD.out.nods.2
      have j5 : j ≤ 5 := by have := HPN.out; omega
      have i0 : (0 : Int) ≤ (j : Int) := by omega
      have i1 : (j : Int) < (j : Int) + 1 := by omega
      clear hft ht htl hfz hlf' hlf hcb hSD hlen E3 HD HPN x0 x1 y0 y1 x2 x3 x4 r0
      go_wp2_with fail
      go_region
      all_goals
        go_wp2_with fail
        refine (specChainValid_any _ _ _ _ lf _ FN.out (by omega) HG2.out).mono ?_
        rintro e w9 ⟨rfl, hb9⟩
        have S9 := Lib.hid (SD.out.below hb9)
        clear hb9 q0 q1 z0 z1 c1 cd f2 SD SC
        obtain ⟨ok, hok⟩ : ∃ ok, chainOk (view + 1) lf = ok := ⟨_, rfl⟩
        rw [hok]
        have HD3 := HD2.out
        rw [hok] at HD3
        have FF := Lib.hid (FIN.out w9 (S9.out.blk L1.out) S9.out.bel)
        have z0 := FF.out.1 0 _ rfl
        have z1 := FF.out.1 1 _ rfl
        have y0 := FF.out.2.1 0
        have y1 := FF.out.2.1 1
        cases ok
        · have HT := Lib.hid (show dropM view l id = none from HD3)
          clear HD3 hok
          go_wp2
          exact bodyPost_ret (v := .tuple #[.agg #[.int .i64 0, .slice none 0 0], .bool false]) (by simp [results, Try.results16, go_sem, FF.out.2.2.1.1, FF.out.2.2.1.2]) rfl (by rw [HT.out]; exact ChainRes.none_ FF.out.2.2.2)
        · have HT := Lib.hid (show dropM view l id = some (view + 1, lf) from HD3)
          have q0 := S9.out.chn.cell (i := 0) (v := .int .i64 (view + 1)) rfl
          have q1 := S9.out.chn.cell (i := 1) (v := .slice (some ⟨g8, 0, none⟩) (j + 1) c8) rfl
          have O := Lib.hid (S9.out.out (u := .int .i64 (view + 1)) (v := .slice (some ⟨g8, 0, none⟩) (j + 1) c8) (S9.out.blk L1.out) (by omega))
          obtain ⟨e0, e1⟩ := two_stores _ (w.heap.size + 1) z0 z1
          have E := Lib.hid (And.intro e0 e1)
          clear HD3 hok e0 e1
          go_wp2
          obtain ⟨e0, e1⟩ := E.out
          exact bodyPost_ret (v := .tuple #[.agg #[.int .i64 (view + 1), .slice (some ⟨g8, 0, none⟩) (j + 1) c8], .bool true]) (by simp [results, Try.results16, go_sem, e0, e1]) rfl (by rw [HT.out]; exact ChainRes.some_ HLF.out O.out.1 O.out.2)
end Go.Proofs.Ytcomppiglhibkaa
