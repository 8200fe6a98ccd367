/- Copies of nodes and chains by the reference: spec.l3Copy, spec.l4Copy. -/
import Derived.Test.YtnbakpdphfdacaaChn
import Derived.Test.YtnbakpdphfdacaaNodeF
import Derived.Deep.RegionLaw
import Derived.Deep.DeepCutAuto
import Derived.Deep.CutRange
namespace Go.Proofs.Ytnbakpdphfdacaa
open Go.RowKit

theorem made0 (w : World) (N lo : Nat) (t : TypeId) (sz : Nat) (hN : N = w.heap.size) (hlo : lo ≤ N) : (w.alloc (.cells #[] t)).ownsRow lo t sz (.slice (some ⟨N, 0, none⟩) 0 0) 0 [] := by
  subst hN
  exact (World.ownsRow_made (base := w.heap.size) (e := t) (size := sz) w #[] 0 (Nat.le_refl _) (Nat.zero_le _) (by simp)).mono hlo

set_option maxRecDepth 100000 in
set_option maxHeartbeats 2000000 in
theorem l3Copy_any (x : Nod) (A : Option Addr) (n c : Nat) (w : World) (h : Flat Upd.enc 2 w 0 w.heap.size A n c x.log) (hn : n ≤ 1048576) :
    Calls Try.prog 92 #[.agg #[.int .i64 x.id, .slice A n c, .int .i64 x.done]] w (NodeMade w x) := by
  obtain ⟨i0, hi, hz0, hz1, hz2⟩ := info_parts infoUpd
  have HL := Lib.hid h.len
  obtain ⟨W, hW⟩ : ∃ W, W = (w.alloc (.cells #[.int .i64 x.id, .slice A n c, .int .i64 x.done] 57)).alloc (.cells #[.int .i64 0, .slice none 0 0, .int .i64 0] 57) := ⟨_, rfl⟩
  have hWs : W.heap.size = w.heap.size + 1 + 1 := by rw [hW]; simp
  have B0 : Below w.heap.size w W := by rw [hW]; exact ((Below.refl _ _).alloc (Nat.le_refl _) _).alloc (by simp) _
  have K0 : Blk W w.heap.size #[.int .i64 x.id, .slice A n c, .int .i64 x.done] 57 := by rw [hW]; exact (Blk.new w _ _).alloc _
  have K1 : Blk W (w.heap.size + 1) #[.int .i64 0, .slice none 0 0, .int .i64 0] 57 := by
    rw [hW]; have := Blk.new (w.alloc (.cells #[.int .i64 x.id, .slice A n c, .int .i64 x.done] 57)) #[.int .i64 0, .slice none 0 0, .int .i64 0] 57
    simpa using this
  have O0 := Lib.hid (made0 W (w.heap.size + 1 + 1) w.heap.size 72 2 hWs.symm (by omega))
  have S0 := Lib.hid (flat_src Upd.len (by omega) ((h.on B0).box (.cells #[] 72)))
  have L0 := Lib.hid (K0.alloc (.cells #[] 72))
  have L1 := Lib.hid (K1.alloc (.cells #[] 72))
  have HB := Lib.hid (B0.alloc (by rw [hWs]; omega) (.cells #[] 72))
  have HWs := Lib.hid hWs
  have q1 := L0.out.cell (i := 1) (v := .slice A n c) rfl
  clear h B0 K0 K1 hWs
  have hsz : W.heap.size = w.heap.size + 1 + 1 := HWs.out
  clear hsz
  subst hW
  go_enter Try.func92, Try.ntmps92
  go_wp2_with (at_builtin; go_loud (refine wpList_append_src _ rfl (.tmp 3) (.tmp 5) 40 rfl w.heap.size 72 i0 _ 2 16 Try.underlying40 hi hz0 hz1 hz2 rfl (by omega) (.slice (some ⟨w.heap.size + 1 + 1, 0, none⟩) 0 0) 0 [] rfl O0.out A n c _ rfl S0.out (one_enc Upd.one _) (by unfold maxLen; omega) (by omega) (by simp only [World.size_alloc]; omega) ?_; intro v3 w3 hown3 hg3; rw [Nat.zero_add, List.nil_append] at hown3; obtain ⟨A3, c3, rfl, _⟩ := own_flat Upd.len hown3 HL.out; have O3 := Lib.hid hown3; have G3 := Lib.hid hg3; have M0 := Lib.hid (L0.out.grown hg3 (by intro e; simp [Value.ownBlock] at e; try omega)); have M1 := Lib.hid (L1.out.grown hg3 (by intro e; simp [Value.ownBlock] at e; try omega)); have m0 := M0.out.cell (i := 0) (v := .int .i64 x.id) rfl; have m1 := M0.out.cell (i := 1) (v := .slice A n c) rfl; have m2 := M0.out.cell (i := 2) (v := .int .i64 x.done) rfl; have p0 := M1.out.cell (i := 0) (v := .int .i64 0) rfl; have p1 := M1.out.cell (i := 1) (v := .slice none 0 0) rfl; have p2 := M1.out.cell (i := 2) (v := .int .i64 0) rfl; have f0 := M0.out.free 1; have f1 := M1.out.free 0; have f2 := M1.out.free 1; have f3 := M1.out.free 2; clear hown3 hg3))
  obtain ⟨W, hW⟩ : ∃ W, W = w3.setCell ⟨w.heap.size, 1, none⟩ (.slice A3 n c3) := ⟨_, rfl⟩
  have N1 : Blk W (w.heap.size + 1) #[.int .i64 0, .slice none 0 0, .int .i64 0] 57 := by rw [hW]; exact M1.out.far (a := ⟨w.heap.size, 1, none⟩) (by show w.heap.size + 1 ≠ w.heap.size; omega) _
  obtain ⟨e0, e1, e2⟩ := three_cells W (w.heap.size + 1) (N1.cell (i := 0) rfl) (N1.cell (i := 1) rfl) (N1.cell (i := 2) rfl) (.int .i64 x.id) (.slice A3 n c3) (.int .i64 x.done)
  rw [← hW]
  refine bodyPost_ret (v := .agg #[.int .i64 x.id, .slice A3 n c3, .int .i64 x.done]) (by simp [results, Try.results92, go_sem, e0, e1, e2]) rfl ⟨A3, n, c3, rfl, HL.out, ?_, ?_⟩
  · refine own_keep O3.out (fun g hg => ?_)
    obtain ⟨ds, hd⟩ := own_blk O3.out hg
    have h0 : g ≠ w.heap.size := by rintro rfl; exact absurd (blk_type hd M0.out) (by decide)
    have h1 : g ≠ w.heap.size + 1 := by rintro rfl; exact absurd (blk_type hd M1.out) (by decide)
    rw [Below.heap_setCell _ _ _ _ h1, Below.heap_setCell _ _ _ _ h1, Below.heap_setCell _ _ _ _ h1, hW, Below.heap_setCell _ _ _ _ h0]
  · have hb : Below w.heap.size w w3 := HB.out.grown G3.out (by simp only [World.size_alloc]; omega) (fun k e => by simp [Value.ownBlock] at e; omega)
    have hr : w.heap.size ≤ w.heap.size + 1 := by omega
    rw [hW]
    exact (((hb.setCell (p := ⟨w.heap.size, 1, none⟩) (Nat.le_refl _) _).setCell (p := ⟨w.heap.size + 1, 0, none⟩) hr _).setCell (p := ⟨w.heap.size + 1, 1, none⟩) hr _).setCell (p := ⟨w.heap.size + 1, 2, none⟩) hr _

theorem src_row (w : World) (cs : Array Value) (t : TypeId) (sz N : Nat) (hN : N = w.heap.size) (hs : cs.size = sz) : Src (w.alloc (.cells cs t)) sz (some ⟨N, 0, none⟩) 1 cs.toList := by
  subst hN
  refine ⟨by rw [Array.length_toList, hs]; omega, (fun e => by cases e), fun ad e j u hu => ?_⟩
  injection e with e; subst e
  exact new_cells w cs t _ rfl j u hu

set_option maxRecDepth 100000 in
set_option maxHeartbeats 8000000 in
theorem l4Copy_any (view : Int) (A : Option Addr) (n c : Nat) (l : List Nod) (w : World) (h : Nods w 0 w.heap.size A n c l) (hn : n ≤ 1048576) (hlog : ∀ x ∈ l, x.log.length ≤ 1048576) :
    Calls Try.prog 59 #[.agg #[.int .i64 view, .slice A n c]] w (ChainLeft w view l) := by
  obtain ⟨j0, hj, hy0, hy1, hy2⟩ := info_parts infoNode
  have HL := Lib.hid h.len
  have HG := Lib.hid hlog
  have H := Lib.hid h
  clear h hlog
  obtain ⟨L, hL⟩ : ∃ L, L = [(w.heap.size, #[Value.int .i64 view, Value.slice A n c], 33), (w.heap.size + 1, #[Value.int .i64 0, Value.slice none 0 0], 33)] := ⟨_, rfl⟩
  have hC : CB w (((w.alloc (.cells #[.int .i64 view, .slice A n c] 33)).alloc (.cells #[.int .i64 0, .slice none 0 0] 33)).alloc (.cells #[.int .i64 view, .slice none 0 0] 33)) (w.heap.size + 1 + 1) view (.slice none 0 0) [] (w.heap.size + 1 + 1 + 1) L := by
    have k0 := (Blk.new w #[.int .i64 view, .slice A n c] 33).alloc (.cells #[.int .i64 0, .slice none 0 0] 33)
    have k1 := Blk.new (w.alloc (.cells #[.int .i64 view, .slice A n c] 33)) #[.int .i64 0, .slice none 0 0] 33
    simp only [World.size_alloc] at k1
    have := CB.new (w0 := w) (L := L) (((Below.refl w.heap.size w).alloc (Nat.le_refl _) (.cells #[.int .i64 view, .slice A n c] 33)).alloc (by simp) (.cells #[.int .i64 0, .slice none 0 0] 33)) view (by rw [hL]; exact ((Oth.nil _ _).cons k1 (by simp) (by decide)).cons k0 (by simp; omega) (by decide))
    simpa only [World.size_alloc] using this
  have C0 := Lib.hid hC
  have L0 := Lib.hid (show (w.heap.size, #[Value.int .i64 view, Value.slice A n c], 33) ∈ L by rw [hL]; simp)
  have L1 := Lib.hid (show (w.heap.size + 1, #[Value.int .i64 0, Value.slice none 0 0], 33) ∈ L by rw [hL]; simp)
  clear hC hL
  go_enter Try.func59, Try.ntmps59
  go_wp2_with fail
  go_loopw [4] (fun i wr => ∃ (k : Nat) (nv : Value) (hi : Nat) (lk : List Nod), k ≤ n ∧ i = .int .i64 k ∧ Hid (lk = l.take k) ∧ CB w wr (w.heap.size + 1 + 1) view nv lk hi L) (fun i _ => n - (intOf i).toNat)
  case atStart => exact ⟨0, _, _, _, Nat.zero_le _, rfl, rfl, C0.out⟩
  case round =>
    obtain ⟨k, nv, hi', lk, hk, rfl, HK, hcb⟩ := hrel
    have SC := Lib.hid hcb
    clear hcb C0
    have b1 := (SC.out.blk L0.out).cell (i := 1) (v := .slice A n c) rfl
    have q1 := SC.out.chn.cell (i := 1) (v := nv) rfl
    by_cases hlt : k < n
    · obtain ⟨b, off, x, A', m, d, rfl, _, hbB, hx, c0, c1, c2, hf⟩ := (H.out.below SC.out.bel (Nat.le_refl _)).nod hlt
      have hm : m ≤ 1048576 := by have := hf.len; have := HG.out x (List.mem_of_getElem? hx); omega
      have hxm := Lib.hid hf.len
      have Fx := Lib.hid (show Flat Upd.enc 2 wr.drew 0 wr.drew.heap.size A' m d x.log from (hf.mono (Nat.le_refl _) SC.out.bel.size).below (Below.refl wr.heap.size wr).drew (Nat.le_refl _))
      have E4 := Lib.hid SC.out.raise.drew
      have hws : w.heap.size ≤ wr.heap.size := SC.out.bel.size
      have hss : w.heap.size + 1 + 1 < wr.heap.size := SC.out.size
      have htk := Lib.hid (show lk ++ [x] = l.take (k + 1) by rw [HK.out, List.take_add_one, hx]; rfl)
      have hlk : lk.length ≤ 1048576 := by rw [HK.out, List.length_take]; omega
      clear hx hf
      go_wp2_with fail
      go_region_law ((first
          | (refine step_append_src _ (by rfl) (.tmp 16) (.tmp 23) 31 (by rfl) w.heap.size 57 j0 _ 3 40 Try.underlying31 hj hy0 hy1 hy2 rfl (by omega) nv lk.length (rs.flatMap RN.enc) (by rfl) (hat.1.alloc _) _ 1 1 _ (by rfl) (src_row _ #[.int .i64 x.id, .slice A6 m6 c6, .int .i64 x.done] 57 3 _ rfl rfl) (RN.one ⟨x.id, A6, m6, c6, x.done⟩) (by unfold maxLen; omega) (by omega) (by simp; omega) ?_; intro v8 w8 hown8 hg8; obtain ⟨g8, c8, rfl, _⟩ := own_form hown8 (by omega)
             have K8 := Z.out.chnAfter hat hg8; have d1 := K8.cell (i := 1) (v := nv) rfl; have f1 := K8.free 1; have Y := Lib.hid (Z.out.appended (x := x) (r := ⟨x.id, A6, m6, c6, x.done⟩) hat ⟨rfl, rfl, hl6.out⟩ (OZ.out.mono hws) hnew6.out hown8 hg8); clear hown8 hg8 K8)
          | (rw [if_pos (by rfl)]; go_simp; go_at_call 92; (with_reducible refine (l3Copy_any x A' m d _ Fx.out hm).mono ?_); rintro e w6 ⟨A6, m6, c6, rfl, hlen6, hown6, hb6⟩
             have Z := Lib.hid (E4.out.below hb6); have hl6 := Lib.hid hlen6; have OZ := Lib.hid hown6; have hnew6 := Lib.hid (fun (g : Nat) (e : (Value.slice A6 m6 c6).ownBlock = some g) => (hown6.lt g e).1); have d1 := Z.out.chn.cell (i := 1) (v := nv) rfl; have hz6 : w.heap.size ≤ w6.heap.size := Z.out.bel.size; have hz7 : w.heap.size + 1 + 1 < w6.heap.size := Z.out.size; obtain ⟨rs, hat⟩ := Z.out.row; clear hown6 hb6 hlen6)))
      all_goals
        go_wp2_with fail
        go_roundw
        case rel => exact ⟨k + 1, _, _, _, by omega, by go_num, htk.out, Y.out⟩
        case measure => simp [intOf]; omega
    · obtain rfl : n = k := by omega
      have hlk : lk = l := by rw [HK.out, List.take_of_length_le (by rw [HL.out]; exact Nat.le_refl _)]
      subst hlk
      obtain ⟨A2, c2, rfl, _⟩ := SC.out.row.nods
      have z0 := (SC.out.blk L1.out).cell (i := 0) (v := .int .i64 0) rfl
      have z1 := (SC.out.blk L1.out).cell (i := 1) (v := .slice none 0 0) rfl
      have y0 := (SC.out.blk L1.out).free 0
      have y1 := (SC.out.blk L1.out).free 1
      have q0 := SC.out.chn.cell (i := 0) (v := .int .i64 view) rfl
      obtain ⟨e0, e1⟩ := two_stores _ (w.heap.size + 1) z0 z1
      have E := Lib.hid (And.intro e0 e1)
      have O := Lib.hid (SC.out.out (u := .int .i64 view) (v := .slice A2 lk.length c2) (SC.out.blk L1.out) (by omega))
      clear e0 e1
      go_wp2
      obtain ⟨e0, e1⟩ := E.out
      exact bodyPost_ret (v := .agg #[.int .i64 view, .slice A2 lk.length c2]) (by simp [results, Try.results59, go_sem, e0, e1]) rfl ⟨A2, lk.length, c2, rfl, rfl, O.out.1, O.out.2⟩
end Go.Proofs.Ytnbakpdphfdacaa
