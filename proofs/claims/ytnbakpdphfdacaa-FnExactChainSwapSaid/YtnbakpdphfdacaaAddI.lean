/- Putting a new node behind the tail: impl.ChainAdd. -/
import Derived.Test.YtnbakpdphfdacaaLinkW
import Derived.Test.YtnbakpdphfdacaaAddS
import Derived.IntWalk
namespace Go.Proofs.Ytnbakpdphfdacaa
open Go.RowKit

set_option maxRecDepth 100000 in
set_option maxHeartbeats 16000000 in
theorem chainAdd_any (view : Int) (A : Option Addr) (n c : Nat) (l : List Nod) (id : Int) (w : World) (h : Nods w 0 w.heap.size A n c l) (hn : n ≤ 1048576) (hlog : ∀ x ∈ l, x.log.length ≤ 1048576) :
    Calls Try.prog 32 #[.agg #[.int .i64 view, .slice A n c], .int .i64 id] w (ChainRes w (addM view l id)) := by
  have HL := Lib.hid h.len
  have HG := Lib.hid hlog
  have H := Lib.hid h
  have H0 := Lib.hid ((h.box (.cells #[.int .i64 view, .slice A n c] 33)).box (.cells #[.int .i64 0, .slice none 0 0] 33))
  have FIN := Lib.hid (res_fin w)
  clear h hlog
  cases hok : chainOk view l
  · have HT := Lib.hid (addM_bad (id := id) hok)
    have HO := Lib.hid hok
    clear hok
    go_enter Try.func32, Try.ntmps32
    go_wp2_with fail
    refine (chainValid_any _ _ _ _ l _ H0.out hn HG.out).mono ?_
    rintro e w1 ⟨rfl, hb1⟩
    rw [HO.out]
    have FF := Lib.hid (FIN.out w1 (two_blks hb1).2.1 (two_blks hb1).2.2)
    have z0 := FF.out.1 0 _ rfl
    have z1 := FF.out.1 1 _ rfl
    have y0 := FF.out.2.1 0
    have y1 := FF.out.2.1 1
    clear hb1
    go_wp2
    exact bodyPost_ret (v := .tuple #[.agg #[.int .i64 0, .slice none 0 0], .bool false]) (by simp [results, Try.results32, go_sem, FF.out.2.2.1.1, FF.out.2.2.1.2]) rfl (by rw [HT.out]; exact ChainRes.none_ FF.out.2.2.2)
  have HO := Lib.hid hok
  have hg := good_iff.1 hok
  have hv0 := hg.1
  have hv9 := hg.2.1
  have hn1 : 1 ≤ n := by have := hg.2.2.1; have := HL.out; omega
  have hn5 : n ≤ 5 := by have := hg.2.2.2.1; have := HL.out; omega
  have HT := Lib.hid (addM_at (id := id) hok)
  obtain ⟨la, x, hla⟩ := snoc_of hg.2.2.1
  have HLA := Lib.hid hla
  have hxm : x.log.length ≤ 1048576 := HG.out x (by rw [hla]; simp)
  clear hok hg hla
  go_enter Try.func32, Try.ntmps32
  go_wp2_with fail
  refine (chainValid_any _ _ _ _ l _ H0.out hn HG.out).mono ?_
  rintro e w1 ⟨rfl, hb1⟩
  rw [HO.out]
  obtain ⟨k0, k1, b1⟩ := two_blks hb1
  have K0 := Lib.hid k0
  have K1 := Lib.hid k1
  have B1 := Lib.hid b1
  have F1 := Lib.hid (H.out.on b1)
  have s1 : w.heap.size + 1 < w1.heap.size := k1.lt
  have q0 := k0.cell (i := 0) (v := .int .i64 view) rfl
  have q1 := k0.cell (i := 1) (v := .slice A n c) rfl
  clear hb1 k0 k1 b1
  go_wp2_with fail
  refine (linksOf_any _ _ _ _ l _ F1.out hn HG.out).mono ?_
  rintro e w2 ⟨p, rs, rfl, hla2, hsd2, hb2⟩
  have s2 := hb2.size
  have B2 := Lib.hid (B1.out.trans (hb2.mono B1.out.size))
  have M0 := Lib.hid (K0.out.below hb2)
  have M1 := Lib.hid (K1.out.below hb2)
  have hrl : rs.length = l.length := hla2.1
  obtain ⟨ra, r, hrs⟩ : ∃ (ra : List RN) (r : RN), rs = ra ++ [r] := ⟨rs.dropLast, rs.getLast (by intro e; subst e; have := HL.out; simp at hrl; omega), (List.dropLast_concat_getLast _).symm⟩
  subst hrs
  have hral : ra.length = la.length := by have := HLA.out; rw [this] at hrl; simpa using hrl
  obtain ⟨e1, e2, e3, e4, e5⟩ := hla2.2.1 ra.length r x (by simp) (by rw [HLA.out, hral]; simp)
  have hb2w : w.heap.size ≤ w1.heap.size := B1.out.size
  obtain ⟨g, hg0, hg1, hlk, hseg⟩ := hsd2.split
  have LA := Lib.hid hla2
  have SG := Lib.hid hseg
  have LK := Lib.hid hlk
  have RX := Lib.hid (And.intro e1 (And.intro e2 e3))
  have FX := Lib.hid ((own_read Upd.len e4 e3 e5).mono (Nat.zero_le _) (Nat.le_refl _))
  have HN5 := Lib.hid (show (ra ++ [r]).length ≤ 5 by have := HL.out; omega)
  have hrn : r.n ≤ 1048576 := by omega
  have l1 := hlk.cell (i := 1) (v := .slice r.A r.n r.c) rfl
  have l3 := hlk.cell (i := 3) (v := .pointer none) rfl
  have f3 := hlk.free 3
  clear hla2 hsd2 hb2 q0 q1 F1 K0 K1 B1 hrl hral e1 e2 e3 e4 e5 hseg hlk
  go_wp2_with fail
  refine (last_any _ g p ra r _ SG.out LK.out).mono ?_
  rintro e w3 ⟨rfl, rfl⟩
  go_upto_region 5 with fail
  go_cut [8] from 18 to 31 (fun s8 wx => ∃ (gn gl : Nat), s8 = .pointer (some ⟨gn, 0, none⟩) ∧ Blk wx gn #[.int .i64 id, .slice (some ⟨gl, 0, none⟩) r.n r.n, .int .i64 (r.n : Int)] 57 ∧ w2.heap.size ≤ gn ∧
    wx.ownsRow w2.heap.size 72 2 (.slice (some ⟨gl, 0, none⟩) r.n r.n) r.n (x.log.flatMap Upd.enc) ∧ Below w2.heap.size w2 wx)
  case first =>
    have FD := Lib.hid (show Flat Upd.enc 2 w2.drew 0 w2.drew.heap.size r.A r.n r.c x.log from FX.out.below (Below.refl w2.heap.size w2).drew (Nat.le_refl _))
    have FE := Lib.hid ((FX.out.box (.cells #[.int .i64 0, .slice none 0 0, .int .i64 0] 57)).below (Below.refl _ _).drew (Nat.le_refl _))
    have NB := Lib.hid (Blk.new w2 #[.int .i64 0, .slice none 0 0, .int .i64 0] 57).drew
    have BA := Lib.hid (show Below w2.heap.size w2 (w2.alloc (.cells #[.int .i64 0, .slice none 0 0, .int .i64 0] 57)).drew from ((Below.refl _ _).alloc (Nat.le_refl _) _).drew)
    have hgn : g ≠ w2.heap.size := by omega
    have hgn' : w2.heap.size ≠ g := by omega
    have BD := Lib.hid (show Below w2.heap.size w2 w2.drew from (Below.refl _ _).drew)
    go_region_held3 (fun V => V.cell? ⟨g, 1, none⟩ = some (.slice r.A r.n r.c)) (go_keep) ((first
      | (go_at_call 57; (with_reducible refine (copyLog_any _ _ _ x.log _ FE.out hrn).mono ?_); rintro e w4 ⟨rfl, hown4, hb4⟩; have O4 := Lib.hid hown4; have HB4 := Lib.hid (BA.out.trans (hb4.mono (by simp))); have k1 := (HB4.out.cell (p := ⟨g, 1, none⟩) hg1).trans l1; have s4 : w2.heap.size ≤ w4.heap.size := HB4.out.size; have hg4 := Nat.lt_of_lt_of_le hg1 s4; have hg5 := Nat.ne_of_lt hg4; have hg6 := Nat.ne_of_gt hg4; have kk := NB.out.below hb4; have n0 := kk.cell (i := 0) (v := .int .i64 0) rfl; have n1 := kk.cell (i := 1) (v := .slice none 0 0) rfl; have n2 := kk.cell (i := 2) (v := .int .i64 0) rfl; have m0 := kk.free 0; have m1 := kk.free 1; have m2 := kk.free 2; have KK := Lib.hid kk; have tag := FE; clear hown4 hb4 kk)
      | (go_at_call 57; (with_reducible refine (copyLog_any _ _ _ x.log _ FD.out hrn).mono ?_); rintro e w4 ⟨rfl, hown4, hb4⟩; have O4 := Lib.hid hown4; have HB4 := Lib.hid (BD.out.trans (hb4.mono (by simp))); have k1 := (HB4.out.cell (p := ⟨g, 1, none⟩) hg1).trans l1; have s4 : w2.heap.size ≤ w4.heap.size := HB4.out.size; have hg4 := Nat.lt_of_lt_of_le hg1 s4; have hg5 := Nat.ne_of_lt hg4; have hg6 := Nat.ne_of_gt hg4; clear hown4 hb4)))
    all_goals
      go_wp2_with fail
      go_meet
      case rel =>
        have ho4 := O4.out
        simp only [World.size_drew, World.size_alloc] at ho4
        first
          | exact ⟨w4.heap.size, w2.heap.size, rfl, Blk.new w4 _ _, s4, own_keep ho4 (fun q hq => Below.heap_alloc _ _ _ (ho4.lt q hq).2), HB4.out.alloc s4 _⟩
          | exact ⟨w2.heap.size, w2.heap.size + 1, rfl, ((KK.out.set 0 _).set 1 _).set 2 _, Nat.le_refl _, own_keep (ho4.mono (by omega)) (fun q hq => by
              have hne : q ≠ w2.heap.size := by have := (ho4.lt q hq).1; omega
              rw [Below.heap_setCell _ _ _ _ hne, Below.heap_setCell _ _ _ _ hne, Below.heap_setCell _ _ _ _ hne]),
              ((HB4.out.setCell (p := ⟨w2.heap.size, 0, none⟩) (Nat.le_refl _) _).setCell (p := ⟨w2.heap.size, 1, none⟩) (Nat.le_refl _) _).setCell (p := ⟨w2.heap.size, 2, none⟩) (Nat.le_refl _) _⟩
  case rest =>
    obtain ⟨gn, gl, rfl, hnb, hgn, hown, hbel⟩ := hcut
    obtain ⟨w5, rfl⟩ : ∃ w5 : World, w5 = wc := ⟨_, rfl⟩
    have s5 := hbel.size
    have n0 := hnb.cell (i := 0) (v := .int .i64 id) rfl
    have n1 := hnb.cell (i := 1) (v := .slice (some ⟨gl, 0, none⟩) r.n r.n) rfl
    have n2 := hnb.cell (i := 2) (v := .int .i64 (r.n : Int)) rfl
    have k3 := (hbel.cell (p := ⟨g, 3, none⟩) hg1).trans l3
    have y3 := (hbel.frozen (p := ⟨g, 3, none⟩) hg1).trans f3
    have hg5 : g < w5.heap.size := by omega
    obtain ⟨W, hW⟩ : ∃ W, W = (w5.setCell ⟨g, 3, none⟩ (.pointer (some ⟨w5.heap.size, 0, none⟩))).alloc (.cells #[.int .i64 id, .slice (some ⟨gl, 0, none⟩) r.n r.n, .int .i64 (r.n : Int), .pointer none] 80) := ⟨_, rfl⟩
    have e5 : (w5.setCell ⟨g, 3, none⟩ (.pointer (some ⟨w5.heap.size, 0, none⟩))).heap.size = w5.heap.size := by simp [World.setCell]
    have off : ∀ k, k < w2.heap.size → k ≠ g → W.heap[k]? = w2.heap[k]? := fun k hk hne => by
      rw [hW, Below.heap_alloc _ _ _ (by rw [e5]; omega), Below.heap_setCell _ _ _ _ hne]; exact hbel.block k hk
    have off5 : ∀ k, k < w5.heap.size → k ≠ g → W.heap[k]? = w5.heap[k]? := fun k hk hne => by
      rw [hW, Below.heap_alloc _ _ _ (by rw [e5]; exact hk), Below.heap_setCell _ _ _ _ hne]
    have hWs : W.heap.size = w5.heap.size + 1 := by rw [hW]; simp [World.setCell]
    have lk5 : Lnk W g r (some ⟨w5.heap.size, 0, none⟩) := by
      rw [hW]; exact ((LK.out.below hbel).set 3 _).alloc _
    have lf5 : Lnk W w5.heap.size ⟨id, some ⟨gl, 0, none⟩, r.n, r.n, (r.n : Int)⟩ none := by
      have hnew := Blk.new (w5.setCell ⟨g, 3, none⟩ (.pointer (some ⟨w5.heap.size, 0, none⟩))) #[.int .i64 id, .slice (some ⟨gl, 0, none⟩) r.n r.n, .int .i64 (r.n : Int), .pointer none] 80
      rw [e5] at hnew
      rw [hW]; exact hnew
    have sg5 : Seg W p ((ra ++ [r]) ++ [⟨id, some ⟨gl, 0, none⟩, r.n, r.n, (r.n : Int)⟩]) none := by
      rw [List.append_assoc]
      refine (SG.out.seg (w' := W) (fun k h1 h2 => off k h2 (by omega))).join ⟨g, _, rfl, lk5, ?_⟩
      exact ⟨w5.heap.size, _, rfl, lf5, rfl⟩
    have gk := LK.out
    have logs5 : LogsAt w5 w.heap.size w5.heap.size (l ++ [⟨id, x.log, (x.log.length : Int)⟩]) ((ra ++ [r]) ++ [⟨id, some ⟨gl, 0, none⟩, r.n, r.n, (r.n : Int)⟩]) := by
      have hl := (LA.out.keep (w' := w5) (fun k _ hk => hbel.block k hk))
      refine ((hl.lower hb2w).snoc (x := ⟨id, x.log, (x.log.length : Int)⟩) (r := ⟨id, some ⟨gl, 0, none⟩, r.n, r.n, (r.n : Int)⟩) ⟨rfl, by show (r.n : Int) = _; rw [RX.out.2.2], RX.out.2.2⟩ (hown.mono (by omega)) (fun q e => (hown.lt q e).1) s5)
    have logsW : LogsAt W w.heap.size W.heap.size (l ++ [⟨id, x.log, (x.log.length : Int)⟩]) ((ra ++ [r]) ++ [⟨id, some ⟨gl, 0, none⟩, r.n, r.n, (r.n : Int)⟩]) := by
      refine (logs5.keepT (fun k cs hk => off5 k (lt_of_block hk) (by
        rintro rfl
        exact absurd (blk_type hk (gk.below hbel)) (by decide)))).mono (by omega)
    have bW : Below w.heap.size w W := by
      rw [hW]; exact ((B2.out.trans (hbel.mono (by omega))).setCell (p := ⟨g, 3, none⟩) (by show w.heap.size ≤ g; omega) _).alloc (by rw [e5]; omega) _
    have m0 : Blk W w.heap.size #[.int .i64 view, .slice A n c] 33 := (off w.heap.size M0.out.lt (by rintro e; subst e; exact absurd (blk_type M0.out gk) (by decide))).trans M0.out
    have m1 : Blk W (w.heap.size + 1) #[.int .i64 0, .slice none 0 0] 33 := (off _ M1.out.lt (by intro e; have := M1.out; rw [e] at this; exact absurd (blk_type this gk) (by decide))).trans M1.out
    have SG5 := Lib.hid sg5
    have LW := Lib.hid logsW
    have BW := Lib.hid bW
    have P0 := Lib.hid m0
    have P1 := Lib.hid m1
    have HWs := Lib.hid hWs
    have HW := Lib.hid hW
    have hne5 : gn ≠ w5.heap.size := by have := hnb.lt; omega
    have hgn5 : gn < w5.heap.size := hnb.lt
    clear e5 off off5 lk5 lf5 sg5 gk logs5 logsW bW m0 m1 hWs hnb hown hbel l1 l3 f3 hW
    have hra := Lib.hid (show added l id = l ++ [(⟨id, x.log, (x.log.length : Int)⟩ : Nod)] by rw [HLA.out, added_snoc])
    have HG2 := Lib.hid (show ∀ y ∈ l ++ [(⟨id, x.log, (x.log.length : Int)⟩ : Nod)], y.log.length ≤ 1048576 from fun y hy => by
      rcases List.mem_append.1 hy with h1 | h1
      · exact HG.out y h1
      · rw [List.mem_singleton] at h1; subst h1; exact hxm)
    have HT2 := Lib.hid (show addM view l id = if chainOk (view + 1) (l ++ [⟨id, x.log, (x.log.length : Int)⟩]) = true then some (view + 1, l ++ [⟨id, x.log, (x.log.length : Int)⟩]) else none by rw [HT.out, hra.out])
    have HL6 := Lib.hid (show ((ra ++ [r]) ++ [(⟨id, some ⟨gl, 0, none⟩, r.n, r.n, (r.n : Int)⟩ : RN)]).length ≤ 1048576 by have := HN5.out; rw [List.length_append]; simp only [List.length_singleton]; omega)
    obtain ⟨RS, hRS⟩ : ∃ RS, (ra ++ [r]) ++ [(⟨id, some ⟨gl, 0, none⟩, r.n, r.n, (r.n : Int)⟩ : RN)] = RS := ⟨_, rfl⟩
    obtain ⟨lf, hlf⟩ : ∃ lf, l ++ [(⟨id, x.log, (x.log.length : Int)⟩ : Nod)] = lf := ⟨_, rfl⟩
    rw [hRS] at SG5 LW HL6
    rw [hlf] at LW HG2 HT2
    have hlf5 := Lib.hid (show lf.length ≤ 1048576 by have := LW.out.1; have := HL6.out; omega)
    clear hRS hlf hra HT
    go_upto_region 7 with fail
    rw [← HW.out]
    obtain ⟨L, hL⟩ : ∃ L, L = [(w.heap.size + 1, #[Value.int .i64 0, Value.slice none 0 0], 33)] := ⟨_, rfl⟩
    have L1 := Lib.hid (show (w.heap.size + 1, #[Value.int .i64 0, Value.slice none 0 0], 33) ∈ L by rw [hL]; simp)
    have HLL := Lib.hid hL
    have p0 := P0.out.cell (i := 0) (v := .int .i64 view) rfl
    have q1 := P1.out.lt
    have q0 := P0.out.lt
    have hnw : w.heap.size ≠ W.heap.size := by omega
    have hnw' : W.heap.size ≠ w.heap.size := by omega
    clear hL
    go_cut [9] from 38 to 43 (fun s9 wx => ∃ (s : Nat) (A9 : Option Addr) (n9 c9 hi : Nat), s9 = .pointer (some ⟨s, 0, none⟩) ∧ lf.length = n9 ∧ CB w wx s (view + 1) (.slice A9 n9 c9) lf hi L)
    case first =>
      have SD := Lib.hid (show Seg W.drew p RS none from SG5.out.keepT (fun _ _ _ => rfl))
      have SE := Lib.hid (show Seg (W.alloc (.cells #[.int .i64 0, .slice none 0 0] 33)).drew p RS none from SG5.out.keepT (fun k cs hk => Below.heap_alloc _ _ _ (lt_of_block hk)))
      have NB := Lib.hid (Blk.new W #[.int .i64 0, .slice none 0 0] 33).drew
      have BA := Lib.hid (show Below W.heap.size W (W.alloc (.cells #[.int .i64 0, .slice none 0 0] 33)).drew from ((Below.refl _ _).alloc (Nat.le_refl _) _).drew)
      have BD := Lib.hid (show Below W.heap.size W W.drew from (Below.refl _ _).drew)
      have hwv : IntKind.i64.wrap (view + 1) = view + 1 := IntWalk.i64_in _ (by omega)
      go_region_held3 (fun V => V.cell? ⟨w.heap.size, 0, none⟩ = some (.int .i64 view)) (go_keep) ((first
        | (go_at_call 65; (with_reducible refine (nodes_any p RS _ SE.out HL6.out).mono ?_); rintro e w8 ⟨A8, n8, c8, rfl, hl8, ho8, hb8⟩; have O8 := Lib.hid ho8; have L8 := Lib.hid hl8; have HB8 := Lib.hid (BA.out.trans (hb8.mono (by simp))); have k0 := (HB8.out.cell (p := ⟨w.heap.size, 0, none⟩) q0).trans p0; have s8 : W.heap.size ≤ w8.heap.size := HB8.out.size; have h8 := Nat.lt_of_lt_of_le q0 s8; have h9 := Nat.ne_of_lt h8; have h10 := Nat.ne_of_gt h8; have kk := NB.out.below hb8; have n0 := kk.cell (i := 0) (v := .int .i64 0) rfl; have n1 := kk.cell (i := 1) (v := .slice none 0 0) rfl; have m0 := kk.free 0; have m1 := kk.free 1; have KK := Lib.hid kk; clear hl8 ho8 hb8 kk)
        | (go_at_call 65; (with_reducible refine (nodes_any p RS _ SD.out HL6.out).mono ?_); rintro e w8 ⟨A8, n8, c8, rfl, hl8, ho8, hb8⟩; have O8 := Lib.hid ho8; have L8 := Lib.hid hl8; have HB8 := Lib.hid (BD.out.trans (hb8.mono (by simp))); have k0 := (HB8.out.cell (p := ⟨w.heap.size, 0, none⟩) q0).trans p0; have s8 : W.heap.size ≤ w8.heap.size := HB8.out.size; have h8 := Nat.lt_of_lt_of_le q0 s8; have h9 := Nat.ne_of_lt h8; have h10 := Nat.ne_of_gt h8; clear hl8 ho8 hb8)))
      all_goals
        go_wp2_with fail
        go_meet
        case rel =>
          have hln : lf.length = n8 := by rw [← L8.out]; exact LW.out.1.symm
          have ho8 := O8.out
          simp only [World.size_drew, World.size_alloc] at ho8
          have hB8 : Below w.heap.size w w8 := BW.out.trans (HB8.out.mono BW.out.size)
          have hlg := LW.out.keep (w' := w8) (fun k _ hk => HB8.out.block k hk)
          have hws := BW.out.size
          have hro : w8.ownsRow w.heap.size 57 3 (.slice A8 n8 c8) lf.length (RS.flatMap RN.enc) := by rw [hln]; exact ho8.mono (by omega)
          have hrow := hlg.row HB8.out.size hro
          have ot : Oth w8 W.heap.size L := by rw [HLL.out]; exact (Oth.nil _ _).cons (P1.out.below HB8.out) (by omega) (by decide)
          first
            | exact ⟨w8.heap.size, A8, n8, c8, _, rfl, hln, CB.made hB8 hrow (ot.raise s8)⟩
            | (have kk := KK.out; exact ⟨W.heap.size, A8, n8, c8, _, rfl, hln, CB.stored hB8 hrow kk (by omega) ot⟩)
            | exact ⟨w8.heap.size, A8, n8, c8, _, rfl, hln, CB.made hB8 hrow (ot.raise s8)⟩
    case rest =>
      obtain ⟨s, A9, n9, c9, hi9, rfl, hln, hcb⟩ := hcut
      obtain ⟨w8, rfl⟩ : ∃ w8 : World, w8 = wc := ⟨_, rfl⟩
      have S8 := Lib.hid hcb
      have FN := Lib.hid hcb.nods.2
      have HLN := Lib.hid hln
      have hn9 : n9 ≤ 1048576 := by have := hlf5.out; omega
      have q0 := hcb.chn.cell (i := 0) (v := .int .i64 (view + 1)) rfl
      have q1 := hcb.chn.cell (i := 1) (v := .slice A9 n9 c9) rfl
      clear hln hcb p0 n0 n1 n2 k3 y3
      go_wp2_with fail
      refine (chainValid_any _ _ _ _ lf _ FN.out hn9 HG2.out).mono ?_
      rintro e w9 ⟨rfl, hb9⟩
      have S9 := Lib.hid (S8.out.below hb9)
      clear hb9 q0 q1 S8 FN
      obtain ⟨ok, hok⟩ : ∃ ok, chainOk (view + 1) lf = ok := ⟨_, rfl⟩
      rw [hok]
      have HD3 := HT2.out
      rw [hok] at HD3
      have FF := Lib.hid (FIN.out w9 (S9.out.blk L1.out) S9.out.bel)
      have z0 := FF.out.1 0 _ rfl
      have z1 := FF.out.1 1 _ rfl
      have y0 := FF.out.2.1 0
      have y1 := FF.out.2.1 1
      cases ok
      · have HT := Lib.hid (show addM view l id = none from HD3)
        clear HD3 hok
        go_wp2
        exact bodyPost_ret (v := .tuple #[.agg #[.int .i64 0, .slice none 0 0], .bool false]) (by simp [results, Try.results32, go_sem, FF.out.2.2.1.1, FF.out.2.2.1.2]) rfl (by rw [HT.out]; exact ChainRes.none_ FF.out.2.2.2)
      · have HT := Lib.hid (show addM view l id = some (view + 1, lf) from HD3)
        have q0 := S9.out.chn.cell (i := 0) (v := .int .i64 (view + 1)) rfl
        have q1 := S9.out.chn.cell (i := 1) (v := .slice A9 n9 c9) rfl
        have O := Lib.hid (S9.out.out (u := .int .i64 (view + 1)) (v := .slice A9 n9 c9) (S9.out.blk L1.out) (by omega))
        obtain ⟨e0, e1⟩ := two_stores _ (w.heap.size + 1) z0 z1
        have E := Lib.hid (And.intro e0 e1)
        clear HD3 hok e0 e1
        go_wp2
        obtain ⟨e0, e1⟩ := E.out
        exact bodyPost_ret (v := .tuple #[.agg #[.int .i64 (view + 1), .slice A9 n9 c9], .bool true]) (by simp [results, Try.results32, go_sem, e0, e1]) rfl (by rw [HT.out]; exact ChainRes.some_ HLN.out O.out.1 O.out.2)
end Go.Proofs.Ytnbakpdphfdacaa
