/- Texts of this claim, joined: NodeF CopyC ChainA ChainB ChainV ChainW AddCost DropRole Lost Good Take ConvA ConvU ConvN. -/
import Derived.Deep.RegionLaw
import Derived.Deep.DeepCutAuto
import Derived.Deep.CutRange
import Derived.Lib.QuietBelow
import Derived.Test.YtemgilofjbnoaaaGreatDoorWB1
set_option linter.unusedSimpArgs false
set_option linter.unusedVariables false
namespace Go.Proofs.YtemgilofjbnoaaaGreatDoor
open Go.RowKit
def pending (x : Nod) : List Upd := if nodeOk x then x.log.drop x.done.toNat else []
def LogLeft (w : World) (l : List Upd) (e : Ending) (w' : World) : Prop :=
  ∃ A m c, e = .returned (.slice A m c) ∧ l.length = m ∧ w'.ownsRow w.heap.size 28 2 (.slice A m c) m (l.flatMap Upd.enc) ∧ Below w.heap.size w w'
def KeysLeft (w : World) (l : List Upd) (key : Int) (e : Ending) (w' : World) : Prop :=
  ∃ A m c, e = .returned (.slice A m c) ∧ (logOk l = true → (m = 0 ↔ keyIn l key = false)) ∧ m ≤ 12 ∧ Below w.heap.size w w'
theorem three_cells (w : World) (g : Nat) {a b c : Value} (h0 : w.cell? ⟨g, 0, none⟩ = some a) (h1 : w.cell? ⟨g, 1, none⟩ = some b) (h2 : w.cell? ⟨g, 2, none⟩ = some c) (u v x : Value) :
    (((w.setCell ⟨g, 0, none⟩ u).setCell ⟨g, 1, none⟩ v).setCell ⟨g, 2, none⟩ x).cell? ⟨g, 0, none⟩ = some u ∧ (((w.setCell ⟨g, 0, none⟩ u).setCell ⟨g, 1, none⟩ v).setCell ⟨g, 2, none⟩ x).cell? ⟨g, 1, none⟩ = some v ∧
    (((w.setCell ⟨g, 0, none⟩ u).setCell ⟨g, 1, none⟩ v).setCell ⟨g, 2, none⟩ x).cell? ⟨g, 2, none⟩ = some x := by
  obtain ⟨e0, e1, e2⟩ := three_stores w g h0 h1 h2
  refine ⟨?_, ?_, e2 u v x⟩
  · rw [World.cell?_setCell_other _ _ _ _ (by simp), World.cell?_setCell_other _ _ _ _ (by simp)]; exact e0 u
  · rw [World.cell?_setCell_other _ _ _ _ (by simp)]; exact e1 u v
theorem below_box' {w w1 : World} {o p : Obj} (hb : Below ((w.alloc o).alloc p).heap.size ((w.alloc o).alloc p) w1) : Below (w.alloc o).heap.size (w.alloc o) w1 := below_box hb
theorem two_box {w w1 : World} {cs ds : Array Value} {t u : TypeId} (hb : Below ((w.alloc (.cells cs t)).alloc (.cells ds u)).heap.size ((w.alloc (.cells cs t)).alloc (.cells ds u)) w1) :
    (∀ i, w1.cell? ⟨w.heap.size, i, none⟩ = cs[i]?) ∧ (∀ i, w1.cell? ⟨w.heap.size + 1, i, none⟩ = ds[i]?) ∧ (∀ i, w1.frozen? ⟨w.heap.size + 1, i, none⟩ = false) :=
  ⟨fun i => (hb.cell (p := ⟨w.heap.size, i, none⟩) (by simp; omega)).trans (World.cell?_alloc_box w _ _ _ _ i),
   fun i => (hb.cell (p := ⟨w.heap.size + 1, i, none⟩) (by simp)).trans (World.cell?_alloc_top w _ _ _ _ i),
   fun i => (hb.frozen (p := ⟨w.heap.size + 1, i, none⟩) (by simp)).trans (World.frozen?_alloc_top w _ _ _ _ i)⟩
def NodeTold (w : World) (x : Nod) (k : Nat) (e : Ending) (w' : World) : Prop :=
  ∃ A n c, e = .returned (.tuple #[.agg #[.int .i64 x.id, .slice A n c, .int .i64 k], .bool true]) ∧ x.log.length = n ∧ w'.ownsRow w.heap.size 28 2 (.slice A n c) n (x.log.flatMap Upd.enc) ∧ Below w.heap.size w w'
end Go.Proofs.YtemgilofjbnoaaaGreatDoor
namespace Go.Proofs.YtemgilofjbnoaaaGreatDoor
open Go.RowKit
theorem made0 (w : World) (N lo : Nat) (t : TypeId) (sz : Nat) (hN : N = w.heap.size) (hlo : lo ≤ N) : (w.alloc (.cells #[] t)).ownsRow lo t sz (.slice (some ⟨N, 0, none⟩) 0 0) 0 [] := by
  subst hN
  exact (World.ownsRow_made (base := w.heap.size) (e := t) (size := sz) w #[] 0 (Nat.le_refl _) (Nat.zero_le _) (by simp)).mono hlo
set_option maxRecDepth 100000 in
set_option maxHeartbeats 2000000 in
theorem l3Copy_any (x : Nod) (A : Option Addr) (n c : Nat) (w : World) (h : Flat Upd.enc 2 w 0 w.heap.size A n c x.log) (hn : n ≤ 1048576) :
    Calls Mo.prog 75 #[.agg #[.int .i64 x.id, .slice A n c, .int .i64 x.done]] w (NodeMade w x) := by
  obtain ⟨i0, hi, hz0, hz1, hz2⟩ := info_parts infoUpd
  have HL := Lib.hid h.len
  obtain ⟨W, hW⟩ : ∃ W, W = (w.alloc (.cells #[.int .i64 x.id, .slice A n c, .int .i64 x.done] 78)).alloc (.cells #[.int .i64 0, .slice none 0 0, .int .i64 0] 78) := ⟨_, rfl⟩
  have hWs : W.heap.size = w.heap.size + 1 + 1 := by rw [hW]; simp
  have B0 : Below w.heap.size w W := by rw [hW]; exact ((Below.refl _ _).alloc (Nat.le_refl _) _).alloc (by simp) _
  have K0 : Blk W w.heap.size #[.int .i64 x.id, .slice A n c, .int .i64 x.done] 78 := by rw [hW]; exact (Blk.new w _ _).alloc _
  have K1 : Blk W (w.heap.size + 1) #[.int .i64 0, .slice none 0 0, .int .i64 0] 78 := by
    rw [hW]; have := Blk.new (w.alloc (.cells #[.int .i64 x.id, .slice A n c, .int .i64 x.done] 78)) #[.int .i64 0, .slice none 0 0, .int .i64 0] 78
    simpa using this
  have O0 := Lib.hid (made0 W (w.heap.size + 1 + 1) w.heap.size 28 2 hWs.symm (by omega))
  have S0 := Lib.hid (flat_src Upd.len (by omega) ((h.on B0).box (.cells #[] 28)))
  have L0 := Lib.hid (K0.alloc (.cells #[] 28))
  have L1 := Lib.hid (K1.alloc (.cells #[] 28))
  have HB := Lib.hid (B0.alloc (by rw [hWs]; omega) (.cells #[] 28))
  have HWs := Lib.hid hWs
  have q1 := L0.out.cell (i := 1) (v := .slice A n c) rfl
  clear h B0 K0 K1 hWs
  have hsz : W.heap.size = w.heap.size + 1 + 1 := HWs.out
  clear hsz
  subst hW
  go_enter Mo.func75, Tryz.ntmps75
  go_wp2_with (at_builtin; go_loud (refine wpList_append_src _ rfl (.tmp 3) (.tmp 5) 76 rfl w.heap.size 28 i0 _ 2 16 Mo.underlying76 hi hz0 hz1 hz2 rfl (by omega) (.slice (some ⟨w.heap.size + 1 + 1, 0, none⟩) 0 0) 0 [] rfl O0.out A n c _ rfl S0.out (one_enc Upd.one _) (by unfold maxLen; omega) (by omega) (by simp only [World.size_alloc]; omega) ?_; intro v3 w3 hown3 hg3; rw [Nat.zero_add, List.nil_append] at hown3; obtain ⟨A3, c3, rfl, _⟩ := own_flat Upd.len hown3 HL.out; have O3 := Lib.hid hown3; have G3 := Lib.hid hg3; have M0 := Lib.hid (L0.out.grown hg3 (by intro e; simp [Value.ownBlock] at e; try omega)); have M1 := Lib.hid (L1.out.grown hg3 (by intro e; simp [Value.ownBlock] at e; try omega)); have m0 := M0.out.cell (i := 0) (v := .int .i64 x.id) rfl; have m1 := M0.out.cell (i := 1) (v := .slice A n c) rfl; have m2 := M0.out.cell (i := 2) (v := .int .i64 x.done) rfl; have p0 := M1.out.cell (i := 0) (v := .int .i64 0) rfl; have p1 := M1.out.cell (i := 1) (v := .slice none 0 0) rfl; have p2 := M1.out.cell (i := 2) (v := .int .i64 0) rfl; have f0 := M0.out.free 1; have f1 := M1.out.free 0; have f2 := M1.out.free 1; have f3 := M1.out.free 2; clear hown3 hg3))
  obtain ⟨W, hW⟩ : ∃ W, W = w3.setCell ⟨w.heap.size, 1, none⟩ (.slice A3 n c3) := ⟨_, rfl⟩
  have N1 : Blk W (w.heap.size + 1) #[.int .i64 0, .slice none 0 0, .int .i64 0] 78 := by rw [hW]; exact M1.out.far (a := ⟨w.heap.size, 1, none⟩) (by show w.heap.size + 1 ≠ w.heap.size; omega) _
  obtain ⟨e0, e1, e2⟩ := three_cells W (w.heap.size + 1) (N1.cell (i := 0) rfl) (N1.cell (i := 1) rfl) (N1.cell (i := 2) rfl) (.int .i64 x.id) (.slice A3 n c3) (.int .i64 x.done)
  rw [← hW]
  refine bodyPost_ret (v := .agg #[.int .i64 x.id, .slice A3 n c3, .int .i64 x.done]) (by simp [results, Tryz.results75, go_sem, e0, e1, e2]) rfl ⟨A3, n, c3, rfl, HL.out, ?_, ?_⟩
  · refine own_keep O3.out (fun g hg => ?_)
    obtain ⟨ds, hd⟩ := own_blk O3.out hg
    have h0 : g ≠ w.heap.size := by rintro rfl; exact absurd (blk_type hd M0.out) (by decide)
    have h1 : g ≠ w.heap.size + 1 := by rintro rfl; exact absurd (blk_type hd M1.out) (by decide)
    rw [Below.heap_setCell _ _ _ _ h1, Below.heap_setCell _ _ _ _ h1, Below.heap_setCell _ _ _ _ h1, hW, Below.heap_setCell _ _ _ _ h0]
  · have hb : Below w.heap.size w w3 := HB.out.grown G3.out (by simp only [World.size_alloc]; omega) (fun k e => by simp [Value.ownBlock] at e; omega)
    have hr : w.heap.size ≤ w.heap.size + 1 := by omega
    rw [hW]
    exact (((hb.setCell (p := ⟨w.heap.size, 1, none⟩) (Nat.le_refl _) _).setCell (p := ⟨w.heap.size + 1, 0, none⟩) hr _).setCell (p := ⟨w.heap.size + 1, 1, none⟩) hr _).setCell (p := ⟨w.heap.size + 1, 2, none⟩) hr _
theorem src_row (w : World) (cs : Array Value) (t : TypeId) (sz N : Nat) (hN : N = w.heap.size) (hs : cs.size = sz) : Src (w.alloc (.cells cs t)) sz (some ⟨N, 0, none⟩) 1 cs.toList := by
  subst hN
  refine ⟨by rw [Array.length_toList, hs]; omega, (fun e => by cases e), fun ad e j u hu => ?_⟩
  injection e with e; subst e
  exact new_cells w cs t _ rfl j u hu
set_option maxRecDepth 100000 in
set_option maxHeartbeats 8000000 in
theorem l4Copy_any (view : Int) (A : Option Addr) (n c : Nat) (l : List Nod) (w : World) (h : Nods w 0 w.heap.size A n c l) (hn : n ≤ 1048576) (hlog : ∀ x ∈ l, x.log.length ≤ 1048576) :
    Calls Mo.prog 43 #[.agg #[.int .i64 view, .slice A n c]] w (ChainLeft w view l) := by
  obtain ⟨j0, hj, hy0, hy1, hy2⟩ := info_parts infoNode
  have HL := Lib.hid h.len
  have HG := Lib.hid hlog
  have H := Lib.hid h
  clear h hlog
  obtain ⟨L, hL⟩ : ∃ L, L = [(w.heap.size, #[Value.int .i64 view, Value.slice A n c], 25), (w.heap.size + 1, #[Value.int .i64 0, Value.slice none 0 0], 25)] := ⟨_, rfl⟩
  have hC : CB w (((w.alloc (.cells #[.int .i64 view, .slice A n c] 25)).alloc (.cells #[.int .i64 0, .slice none 0 0] 25)).alloc (.cells #[.int .i64 view, .slice none 0 0] 25)) (w.heap.size + 1 + 1) view (.slice none 0 0) [] (w.heap.size + 1 + 1 + 1) L := by
    have k0 := (Blk.new w #[.int .i64 view, .slice A n c] 25).alloc (.cells #[.int .i64 0, .slice none 0 0] 25)
    have k1 := Blk.new (w.alloc (.cells #[.int .i64 view, .slice A n c] 25)) #[.int .i64 0, .slice none 0 0] 25
    simp only [World.size_alloc] at k1
    have := CB.new (w0 := w) (L := L) (((Below.refl w.heap.size w).alloc (Nat.le_refl _) (.cells #[.int .i64 view, .slice A n c] 25)).alloc (by simp) (.cells #[.int .i64 0, .slice none 0 0] 25)) view (by rw [hL]; exact ((Oth.nil _ _).cons k1 (by simp) (by decide)).cons k0 (by simp; omega) (by decide))
    simpa only [World.size_alloc] using this
  have C0 := Lib.hid hC
  have L0 := Lib.hid (show (w.heap.size, #[Value.int .i64 view, Value.slice A n c], 25) ∈ L by rw [hL]; simp)
  have L1 := Lib.hid (show (w.heap.size + 1, #[Value.int .i64 0, Value.slice none 0 0], 25) ∈ L by rw [hL]; simp)
  clear hC hL
  go_enter Mo.func43, Tryz.ntmps43
  go_wp2_with fail
  go_loopw [4] (fun i wr => ∃ (k : Nat) (nv : Value) (hi : Nat) (lk : List Nod), k ≤ n ∧ i = .int .i64 k ∧ Hid (lk = l.take k) ∧ CB w wr (w.heap.size + 1 + 1) view nv lk hi L) (fun i _ => n - (intOf i).toNat)
  case atStart => exact ⟨0, _, _, _, Nat.zero_le _, rfl, rfl, C0.out⟩
  case round =>
    obtain ⟨k, nv, hi', lk, hk, rfl, HK, hcb⟩ := hrel
    have SC := Lib.hid hcb
    clear hcb C0
    have b1 := (SC.out.blk L0.out).cell (i := 1) (v := .slice A n c) rfl
    have q1 := SC.out.chn.cell (i := 1) (v := nv) rfl
    by_cases hlt : k < n
    · obtain ⟨b, off, x, A', m, d, rfl, _, hbB, hx, c0, c1, c2, hf⟩ := (H.out.below SC.out.bel (Nat.le_refl _)).nod hlt
      have hm : m ≤ 1048576 := by have := hf.len; have := HG.out x (List.mem_of_getElem? hx); omega
      have hxm := Lib.hid hf.len
      have Fx := Lib.hid (show Flat Upd.enc 2 wr.drew 0 wr.drew.heap.size A' m d x.log from (hf.mono (Nat.le_refl _) SC.out.bel.size).below (Below.refl wr.heap.size wr).drew (Nat.le_refl _))
      have E4 := Lib.hid SC.out.raise.drew
      have hws : w.heap.size ≤ wr.heap.size := SC.out.bel.size
      have hss : w.heap.size + 1 + 1 < wr.heap.size := SC.out.size
      have htk := Lib.hid (show lk ++ [x] = l.take (k + 1) by rw [HK.out, List.take_add_one, hx]; rfl)
      have hlk : lk.length ≤ 1048576 := by rw [HK.out, List.length_take]; omega
      clear hx hf
      go_wp2_with fail
      go_region_law ((first
          | (refine step_append_src _ (by rfl) (.tmp 16) (.tmp 23) 23 (by rfl) w.heap.size 78 j0 _ 3 40 Mo.underlying23 hj hy0 hy1 hy2 rfl (by omega) nv lk.length (rs.flatMap RN.enc) (by rfl) (hat.1.alloc _) _ 1 1 _ (by rfl) (src_row _ #[.int .i64 x.id, .slice A6 m6 c6, .int .i64 x.done] 78 3 _ rfl rfl) (RN.one ⟨x.id, A6, m6, c6, x.done⟩) (by unfold maxLen; omega) (by omega) (by simp; omega) ?_; intro v8 w8 hown8 hg8; obtain ⟨g8, c8, rfl, _⟩ := own_form hown8 (by omega)
             have K8 := Z.out.chnAfter hat hg8; have d1 := K8.cell (i := 1) (v := nv) rfl; have f1 := K8.free 1; have Y := Lib.hid (Z.out.appended (x := x) (r := ⟨x.id, A6, m6, c6, x.done⟩) hat ⟨rfl, rfl, hl6.out⟩ (OZ.out.mono hws) hnew6.out hown8 hg8); clear hown8 hg8 K8)
          | (rw [if_pos (by rfl)]; go_simp; go_at_call 75; (with_reducible refine (l3Copy_any x A' m d _ Fx.out hm).mono ?_); rintro e w6 ⟨A6, m6, c6, rfl, hlen6, hown6, hb6⟩
             have Z := Lib.hid (E4.out.below hb6); have hl6 := Lib.hid hlen6; have OZ := Lib.hid hown6; have hnew6 := Lib.hid (fun (g : Nat) (e : (Value.slice A6 m6 c6).ownBlock = some g) => (hown6.lt g e).1); have d1 := Z.out.chn.cell (i := 1) (v := nv) rfl; have hz6 : w.heap.size ≤ w6.heap.size := Z.out.bel.size; have hz7 : w.heap.size + 1 + 1 < w6.heap.size := Z.out.size; obtain ⟨rs, hat⟩ := Z.out.row; clear hown6 hb6 hlen6)))
      all_goals
        go_wp2_with fail
        go_roundw
        case rel => exact ⟨k + 1, _, _, _, by omega, by go_num, htk.out, Y.out⟩
        case measure => simp [intOf]; omega
    · obtain rfl : n = k := by omega
      have hlk : lk = l := by rw [HK.out, List.take_of_length_le (by rw [HL.out]; exact Nat.le_refl _)]
      subst hlk
      obtain ⟨A2, c2, rfl, _⟩ := SC.out.row.nods
      have z0 := (SC.out.blk L1.out).cell (i := 0) (v := .int .i64 0) rfl
      have z1 := (SC.out.blk L1.out).cell (i := 1) (v := .slice none 0 0) rfl
      have y0 := (SC.out.blk L1.out).free 0
      have y1 := (SC.out.blk L1.out).free 1
      have q0 := SC.out.chn.cell (i := 0) (v := .int .i64 view) rfl
      obtain ⟨e0, e1⟩ := two_stores _ (w.heap.size + 1) z0 z1
      have E := Lib.hid (And.intro e0 e1)
      have O := Lib.hid (SC.out.out (u := .int .i64 view) (v := .slice A2 lk.length c2) (SC.out.blk L1.out) (by omega))
      clear e0 e1
      go_wp2
      obtain ⟨e0, e1⟩ := E.out
      exact bodyPost_ret (v := .agg #[.int .i64 view, .slice A2 lk.length c2]) (by simp [results, Tryz.results43, go_sem, e0, e1]) rfl ⟨A2, lk.length, c2, rfl, rfl, O.out.1, O.out.2⟩
end Go.Proofs.YtemgilofjbnoaaaGreatDoor
namespace Go.Proofs.YtemgilofjbnoaaaGreatDoor
open Go.RowKit
theorem Nods.box {w : World} {n c : Nat} {A : Option Addr} {l : List Nod} (h : Nods w 0 w.heap.size A n c l) (o : Obj) : Nods (w.alloc o) 0 (w.alloc o).heap.size A n c l :=
  (h.below ((Below.refl _ _).alloc (Nat.le_refl _) _) (Nat.le_refl _)).mono (Nat.zero_le _) (by simp)
theorem Nods.on {w w' : World} {n c : Nat} {A : Option Addr} {l : List Nod} (h : Nods w 0 w.heap.size A n c l) (hb : Below w.heap.size w w') : Nods w' 0 w'.heap.size A n c l :=
  (h.below hb (Nat.le_refl _)).mono (Nat.zero_le _) hb.size
def noneHas (l : List Nod) (k : Nat) (id : Int) : Prop := ∀ (i : Nat) (y : Nod), i < k → l[i]? = some y → y.id ≠ id
theorem noneHas_succ {l : List Nod} {k : Nat} {x : Nod} {id : Int} (h : noneHas l k id) (hx : l[k]? = some x) (hne : x.id ≠ id) : noneHas l (k + 1) id := by
  intro i y hi hy
  by_cases e : i = k
  · subst e; rw [hx] at hy; injection hy with hy; subst hy; exact hne
  · exact h i y (by omega) hy
theorem noneHas_end {l : List Nod} {n : Nat} {id : Int} (hl : l.length = n) (h : noneHas l n id) : placeOf l id = none :=
  placeOf_none fun i x hx => h i x (by have := (List.getElem?_eq_some_iff.1 hx).1; omega) hx
set_option maxHeartbeats 1000000 in
theorem chainPlace_any (view : Int) (A : Option Addr) (n c : Nat) (l : List Nod) (id : Int) (w : World) (h : Nods w 0 w.heap.size A n c l) (hn : n ≤ 1048576) :
    Calls Mo.prog 63 #[.agg #[.int .i64 view, .slice A n c], .int .i64 id] w fun e w' => e = .returned (.int .i64 (placeI (placeOf l id))) ∧ Below w.heap.size w w' := by
  have HL := Lib.hid h.len
  have H := Lib.hid h
  clear h
  go_enter Mo.func63, Tryz.ntmps63
  go_wp2_with fail
  go_loopw [10] (fun i wr => ∃ k : Nat, k ≤ n ∧ i = .int .i64 k ∧ Hid (noneHas l k id) ∧ Below w.heap.size w wr)
    (fun i _ => n - (intOf i).toNat)
  case atStart => exact ⟨0, Nat.zero_le _, rfl, fun _ _ h => absurd h (by omega), (Below.refl _ _).alloc (Nat.le_refl _) _⟩
  case round =>
    obtain ⟨k, hk, rfl, hall, hB⟩ := hrel
    have HW := Lib.hid (H.out.below hB (Nat.le_refl _))
    have HB := Lib.hid hB
    have hsz := hB.size
    clear hB H
    by_cases hlt : k < n
    · obtain ⟨b, off, x, A', m, d, rfl, _, hbB, hx, c0, c1, c2, hf⟩ := HW.out.nod hlt
      have Hx := Lib.hid hx
      clear hx hf
      by_cases hid : x.id = id
      · have HK := Lib.hid hid
        rw [hid] at c0
        clear hid
        go_wp2
        go_ret
        exact ⟨ret_int (by rw [placeOf_at Hx.out HK.out hall.out]; rfl), HB.out.alloc hsz _⟩
      · have hne : (x.id == id) = false := by simp [hid]
        have HK := Lib.hid hid
        clear hid
        go_wp2
        go_roundw
        case rel => exact ⟨k + 1, by omega, by go_num, noneHas_succ hall.out Hx.out HK.out, HB.out.alloc hsz _⟩
        case measure => simp [intOf]; omega
    · obtain rfl : n = k := by omega
      go_wp2
      go_ret
      exact ⟨ret_int (by rw [noneHas_end HL.out hall.out]; rfl), HB.out⟩
set_option maxHeartbeats 1000000 in
theorem l4Has_any (A : Option Addr) (n c : Nat) (l : List Nod) (id : Int) (w : World) (h : Nods w 0 w.heap.size A n c l) (hn : n ≤ 1048576) :
    Calls Mo.prog 70 #[.slice A n c, .int .i64 id] w fun e w' => e = .returned (.bool (placeOf l id).isSome) ∧ w = w' := by
  have HL := Lib.hid h.len
  have H := Lib.hid h
  clear h
  go_enter Mo.func70, Tryz.ntmps70
  go_wp2_with fail
  go_loop [5] (fun i => ∃ k : Nat, k ≤ n ∧ i = .int .i64 k ∧ Hid (noneHas l k id)) (fun i => n - (intOf i).toNat)
  case atStart => exact ⟨0, Nat.zero_le _, rfl, fun _ _ h => absurd h (by omega)⟩
  case round =>
    obtain ⟨k, hk, rfl, hall⟩ := hrel
    by_cases hlt : k < n
    · obtain ⟨b, off, x, A', m, d, rfl, _, hbB, hx, c0, c1, c2, hf⟩ := H.out.nod hlt
      have Hx := Lib.hid hx
      clear hx hf
      by_cases hid : x.id = id
      · have HK := Lib.hid hid
        rw [hid] at c0
        clear hid
        go_wp2
        go_ret
        exact ⟨ret_bool (by rw [placeOf_at Hx.out HK.out hall.out]; rfl), rfl⟩
      · have hne : (x.id == id) = false := by simp [hid]
        have HK := Lib.hid hid
        clear hid
        go_wp2
        go_round
        case rel => exact ⟨k + 1, by omega, by go_num, noneHas_succ hall.out Hx.out HK.out⟩
        case measure => simp [intOf]; omega
    · obtain rfl : n = k := by omega
      go_wp2
      go_ret
      exact ⟨ret_bool (by rw [noneHas_end HL.out hall.out]; rfl), rfl⟩
set_option maxHeartbeats 2000000 in
theorem l1Common_any (A B : Option Addr) (n c m d : Nat) (a b : List Upd) (w : World) (h : Flat Upd.enc 2 w 0 w.heap.size A n c a) (h' : Flat Upd.enc 2 w 0 w.heap.size B m d b) (hn : n ≤ 1048576) (_ : m ≤ 1048576) :
    Calls Mo.prog 71 #[.slice A n c, .slice B m d] w fun e w' => e = .returned (.int .i64 (common a b : Nat)) ∧ Below w.heap.size w w' := by
  have HL := Lib.hid h.len
  have HL' := Lib.hid h'.len
  have H := Lib.hid h
  have H' := Lib.hid h'
  clear h h'
  go_enter Mo.func71, Tryz.ntmps71
  go_wp2_with fail
  go_loopw [5] (fun i wr => ∃ k : Nat, k ≤ n ∧ k ≤ m ∧ i = .int .i64 k ∧ Hid (common a b = k + common (a.drop k) (b.drop k)) ∧ Below w.heap.size w wr) (fun i _ => n - (intOf i).toNat)
  case atStart => exact ⟨0, Nat.zero_le _, Nat.zero_le _, rfl, by simp [Hid], Below.refl _ _⟩
  case round =>
    obtain ⟨k, hk, hk', rfl, hall, hB⟩ := hrel
    have W1 := Lib.hid (H.out.below hB (Nat.le_refl _))
    have W2 := Lib.hid (H'.out.below hB (Nat.le_refl _))
    have HB := Lib.hid hB
    clear hB
    have k0 : (0 : Int) ≤ (k : Int) := by omega
    by_cases hlt : k < n
    · have kn : (k : Int) < (n : Int) := by omega
      by_cases hlt' : k < m
      · have km : (k : Int) < (m : Int) := by omega
        obtain ⟨b1, off1, x, rfl, _, _, hx, c0, c1⟩ := W1.out.upd hlt
        obtain ⟨b2, off2, y, rfl, _, _, hy, d0, d1⟩ := W2.out.upd hlt'
        have Hx := Lib.hid hx
        have Hy := Lib.hid hy
        clear hx hy
        cases hs : x.same y
        · have HS := Lib.hid hs
          have hpart : (x.key == y.key) = false ∨ ((x.key == y.key) = true ∧ (x.value == y.value) = false) := by
            by_cases e1 : x.key = y.key
            · by_cases e2 : x.value = y.value
              · simp [Upd.same, e1, e2] at hs
              · exact .inr ⟨by simp [e1], by simp [e2]⟩
            · exact .inl (by simp [e1])
          clear hs
          rcases hpart with p1 | ⟨p1, p2⟩
          all_goals
            go_wp2_with fail
            go_quiet (fail)
            go_wp2
            go_ret
            exact ⟨ret_int (by rw [hall.out, common_part Hx.out Hy.out HS.out]; rfl), below_drewN HB.out _⟩
        · have HS := Lib.hid hs
          obtain rfl := Upd.same_iff.1 hs
          clear hs
          go_wp2_with fail
          go_quiet (fail)
          go_wp2
          go_roundw
          case rel => exact ⟨k + 1, by omega, by omega, by go_num, by rw [hall.out, common_step Hx.out Hy.out HS.out]; show _ = _; omega, below_drewN HB.out _⟩
          case measure => simp [intOf]; omega
      · have km : decide ((k : Int) < (m : Int)) = false := by simp; omega
        have kz : common (a.drop k) (b.drop k) = 0 := common_end (.inr (by rw [HL'.out]; omega))
        have KZ := Lib.hid kz
        clear kz
        go_wp2_with fail
        go_quiet (fail)
        go_wp2
        go_ret
        exact ⟨ret_int (by rw [hall.out, KZ.out]; rfl), below_drewN HB.out _⟩
    · have kn : decide ((k : Int) < (n : Int)) = false := by simp; omega
      have kz : common (a.drop k) (b.drop k) = 0 := common_end (.inl (by rw [HL.out]; omega))
      have KZ := Lib.hid kz
      clear kz
      go_wp2_with fail
      go_quiet (fail)
      go_wp2
      go_ret
      exact ⟨ret_int (by rw [hall.out, KZ.out]; rfl), below_drewN HB.out _⟩
end Go.Proofs.YtemgilofjbnoaaaGreatDoor
namespace Go.Proofs.YtemgilofjbnoaaaGreatDoor
open Go.RowKit
set_option maxHeartbeats 2000000 in
theorem logCommon_any (A B : Option Addr) (n c m d : Nat) (a b : List Upd) (w : World) (h : Flat Upd.enc 2 w 0 w.heap.size A n c a) (h' : Flat Upd.enc 2 w 0 w.heap.size B m d b) (hn : n ≤ 1048576) (hm : m ≤ 1048576) :
    Calls Mo.prog 91 #[.slice A n c, .slice B m d] w fun e w' => e = .returned (.int .i64 (logCommon a b)) ∧ Below w.heap.size w w' := by
  have HL := Lib.hid h.len
  have HL' := Lib.hid h'.len
  have H := Lib.hid h
  have H' := Lib.hid h'
  clear h h'
  cases hoa : logOk a
  · have e0 : logCommon a b = -1 := by simp [logCommon, hoa]
    rw [e0]; clear e0
    go_enter Mo.func91, Tryz.ntmps91
    go_wp2_with (go_at_call 90; refine (logValid_any _ _ _ a _ H.out hn).mono ?_; rintro e w1 ⟨rfl, hb1⟩; rw [hoa]; have B1 := Lib.hid hb1; clear hb1)
    go_ret
    exact ⟨rfl, B1.out⟩
  have HA := Lib.hid hoa
  clear hoa
  cases hob : logOk b
  · have e0 : logCommon a b = -1 := by simp [logCommon, hob]
    rw [e0]; clear e0
    go_enter Mo.func91, Tryz.ntmps91
    go_wp2_with fail
    refine (logValid_any _ _ _ a _ H.out hn).mono ?_
    rintro e w1 ⟨rfl, hb1⟩
    rw [HA.out]
    have B1 := Lib.hid hb1
    have F1 := Lib.hid (H'.out.on hb1)
    clear hb1
    go_wp2_with (go_at_call 90; refine (logValid_any _ _ _ b _ F1.out hm).mono ?_; rintro e w2 ⟨rfl, hb2⟩; rw [hob]; have B2 := Lib.hid (B1.out.trans (hb2.mono B1.out.size)); clear hb2)
    go_ret
    exact ⟨rfl, B2.out⟩
  have HO := Lib.hid hob
  have e0 : logCommon a b = (common a b : Nat) := by simp [logCommon, HA.out, hob]
  rw [e0]
  clear e0 hob
  go_enter Mo.func91, Tryz.ntmps91
  go_wp2_with fail
  refine (logValid_any _ _ _ a _ H.out hn).mono ?_
  rintro e w1 ⟨rfl, hb1⟩
  rw [HA.out]
  have B1 := Lib.hid hb1
  have F1 := Lib.hid (H'.out.on hb1)
  clear hb1
  go_wp2_with fail
  refine (logValid_any _ _ _ b _ F1.out hm).mono ?_
  rintro e w2 ⟨rfl, hb2⟩
  rw [HO.out]
  have B2 := Lib.hid (B1.out.trans (hb2.mono B1.out.size))
  clear hb2
  go_wp2_with fail
  go_loopw [5] (fun i wr => ∃ k : Nat, k ≤ n ∧ k ≤ m ∧ i = .int .i64 k ∧ Hid (common a b = k + common (a.drop k) (b.drop k)) ∧ Below w.heap.size w wr) (fun i _ => n - (intOf i).toNat)
  case atStart => exact ⟨0, Nat.zero_le _, Nat.zero_le _, rfl, by simp [Hid], B2.out⟩
  case round =>
    obtain ⟨k, hk, hk', rfl, hall, hB⟩ := hrel
    have W1 := Lib.hid (H.out.below hB (Nat.le_refl _))
    have W2 := Lib.hid (H'.out.below hB (Nat.le_refl _))
    have HB := Lib.hid hB
    clear hB
    have k0 : (0 : Int) ≤ (k : Int) := by omega
    by_cases hlt : k < n
    · have kn : (k : Int) < (n : Int) := by omega
      by_cases hlt' : k < m
      · have km : (k : Int) < (m : Int) := by omega
        obtain ⟨b1, off1, x, rfl, _, _, hx, c0, c1⟩ := W1.out.upd hlt
        obtain ⟨b2, off2, y, rfl, _, _, hy, d0, d1⟩ := W2.out.upd hlt'
        have Hx := Lib.hid hx
        have Hy := Lib.hid hy
        clear hx hy
        cases hs : x.same y
        · have HS := Lib.hid hs
          have hpart : (x.key == y.key) = false ∨ ((x.key == y.key) = true ∧ (x.value == y.value) = false) := by
            by_cases e1 : x.key = y.key
            · by_cases e2 : x.value = y.value
              · simp [Upd.same, e1, e2] at hs
              · exact .inr ⟨by simp [e1], by simp [e2]⟩
            · exact .inl (by simp [e1])
          clear hs
          rcases hpart with p1 | ⟨p1, p2⟩
          all_goals
            go_wp2_with fail
            go_quiet (fail)
            go_wp2
            go_ret
            exact ⟨ret_int (by rw [hall.out, common_part Hx.out Hy.out HS.out]; rfl), below_drewN HB.out _⟩
        · have HS := Lib.hid hs
          obtain rfl := Upd.same_iff.1 hs
          clear hs
          go_wp2_with fail
          go_quiet (fail)
          go_wp2
          go_roundw
          case rel => exact ⟨k + 1, by omega, by omega, by go_num, by rw [hall.out, common_step Hx.out Hy.out HS.out]; show _ = _; omega, below_drewN HB.out _⟩
          case measure => simp [intOf]; omega
      · have km : decide ((k : Int) < (m : Int)) = false := by simp; omega
        have kz : common (a.drop k) (b.drop k) = 0 := common_end (.inr (by rw [HL'.out]; omega))
        have KZ := Lib.hid kz
        clear kz
        go_wp2_with fail
        go_quiet (fail)
        go_wp2
        go_ret
        exact ⟨ret_int (by rw [hall.out, KZ.out]; rfl), below_drewN HB.out _⟩
    · have kn : decide ((k : Int) < (n : Int)) = false := by simp; omega
      have kz : common (a.drop k) (b.drop k) = 0 := common_end (.inl (by rw [HL.out]; omega))
      have KZ := Lib.hid kz
      clear kz
      go_wp2_with fail
      go_quiet (fail)
      go_wp2
      go_ret
      exact ⟨ret_int (by rw [hall.out, KZ.out]; rfl), below_drewN HB.out _⟩
set_option maxHeartbeats 1000000 in
theorem logBegins_any (A B : Option Addr) (n c m d : Nat) (a b : List Upd) (w : World) (h : Flat Upd.enc 2 w 0 w.heap.size A n c a) (h' : Flat Upd.enc 2 w 0 w.heap.size B m d b) (hn : n ≤ 1048576) (hm : m ≤ 1048576) :
    Calls Mo.prog 64 #[.slice A n c, .slice B m d] w fun e w' => e = .returned (.bool (logBegins a b)) ∧ Below w.heap.size w w' := by
  have HL := Lib.hid h.len
  have H := Lib.hid h
  have H' := Lib.hid h'
  clear h h'
  cases hoa : logOk a
  · have e0 : logBegins a b = false := by simp [logBegins, hoa]
    rw [e0]; clear e0
    go_enter Mo.func64, Tryz.ntmps64
    go_wp2_with (go_at_call 90; refine (logValid_any _ _ _ a _ H.out hn).mono ?_; rintro e w1 ⟨rfl, hb1⟩; rw [hoa]; have B1 := Lib.hid hb1; clear hb1)
    go_ret
    exact ⟨rfl, B1.out⟩
  have HA := Lib.hid hoa
  clear hoa
  obtain ⟨v, hv⟩ : ∃ v, logCommon a b = v := ⟨_, rfl⟩
  have e0 : logBegins a b = (v == (n : Int)) := by
    have hl := HL.out
    have hle := (common_le a b).1
    rw [← hv]
    unfold logBegins logCommon
    rw [HA.out]
    cases logOk b
    · simp; try omega
    · rw [Bool.eq_iff_iff]; simp; try omega
  rw [e0]
  have HV := Lib.hid hv
  clear hv e0
  go_enter Mo.func64, Tryz.ntmps64
  go_wp2_with fail
  refine (logValid_any _ _ _ a _ H.out hn).mono ?_
  rintro e w1 ⟨rfl, hb1⟩
  rw [HA.out]
  have B1 := Lib.hid hb1
  have F1 := Lib.hid (H.out.on hb1)
  have G1 := Lib.hid (H'.out.on hb1)
  clear hb1
  go_wp2_with (go_at_call 91; refine (logCommon_any _ _ _ _ _ _ a b _ F1.out G1.out hn hm).mono ?_; rintro e w2 ⟨rfl, hb2⟩; rw [HV.out]; have B2 := Lib.hid (B1.out.trans (hb2.mono B1.out.size)); clear hb2)
  go_ret
  exact ⟨rfl, B2.out⟩
def TailLeft (w : World) (l : List Nod) (n : Nat) (e : Ending) (w' : World) : Prop :=
  ∃ (x : Nod) (A' : Option Addr) (m d : Nat), l[n - 1]? = some x ∧ e = .returned (.agg #[.int .i64 x.id, .slice A' m d, .int .i64 x.done]) ∧ Flat Upd.enc 2 w 0 w.heap.size A' m d x.log ∧ Below w.heap.size w w'
set_option maxHeartbeats 1000000 in
theorem tailOf_any (view : Int) (A : Option Addr) (n c : Nat) (l : List Nod) (w : World) (h : Nods w 0 w.heap.size A n c l) (hn : n ≤ 1048576) (hpos : 0 < n) :
    Calls Mo.prog 49 #[.agg #[.int .i64 view, .slice A n c]] w (TailLeft w l n) := by
  obtain ⟨b, off, x, A', m, d, rfl, _, hbB, hx, c0, c1, c2, hf⟩ := h.nod (show n - 1 < n by omega)
  have Hx := Lib.hid hx
  have HF := Lib.hid hf
  clear hx hf h
  have hne : b ≠ w.heap.size := by omega
  have hne' : b ≠ w.heap.size + 1 := by omega
  have h1 : (1 : Int) ≤ (n : Int) := by omega
  go_enter Mo.func49, Tryz.ntmps49
  go_wp2_with fail
  exact bodyPost_ret (v := .agg #[.int .i64 x.id, .slice A' m d, .int .i64 x.done]) (by simp [results, Tryz.results49, go_sem]) rfl ⟨x, A', m, d, Hx.out, rfl, HF.out, ((Below.refl _ _).alloc (Nat.le_refl _) _).alloc (by simp) _⟩
end Go.Proofs.YtemgilofjbnoaaaGreatDoor
namespace Go.Proofs.YtemgilofjbnoaaaGreatDoor
open Go.RowKit
theorem chainOk_ends {v : Int} {l : List Nod} (h : ¬ (0 ≤ v ∧ v ≤ 999 ∧ 1 ≤ l.length ∧ l.length ≤ 5)) : chainOk v l = false := by
  cases hc : chainOk v l
  · rfl
  · exfalso; apply h
    unfold chainOk inB at hc
    simp only [Bool.and_eq_true, decide_eq_true_eq] at hc
    exact ⟨hc.1.1.1.1.1, hc.1.1.1.1.2, hc.1.1.1.2, hc.1.1.2⟩
theorem chainOk_mk {v : Int} {l : List Nod} (h0 : 0 ≤ v) (h1 : v ≤ 999) (h2 : 1 ≤ l.length) (h3 : l.length ≤ 5) (h : (List.range l.length).all (nodAt l) = true) : chainOk v l = tailOk l := by
  unfold chainOk inB; rw [h]; simp [h0, h1, h2, h3]
theorem tailOk_at {l : List Nod} {x : Nod} {n : Nat} (hl : l.length = n) (hx : l[n - 1]? = some x) : tailOk l = decide (x.done = x.log.length) := by
  unfold tailOk; rw [hl, hx]
theorem mem_len {l : List Nod} {k : Nat} {x : Nod} (h : ∀ x ∈ l, x.log.length ≤ 1048576) (hx : l[k]? = some x) : x.log.length ≤ 1048576 := h x (List.mem_of_getElem? hx)
set_option maxHeartbeats 4000000 in
theorem chainValid_any (view : Int) (A : Option Addr) (n c : Nat) (l : List Nod) (w : World) (h : Nods w 0 w.heap.size A n c l) (hn : n ≤ 1048576) (hlog : ∀ x ∈ l, x.log.length ≤ 1048576) :
    Calls Mo.prog 34 #[.agg #[.int .i64 view, .slice A n c]] w fun e w' => e = .returned (.bool (chainOk view l)) ∧ Below w.heap.size w w' := by
  have HL := Lib.hid h.len
  have HG := Lib.hid hlog
  have H := Lib.hid h
  clear h hlog
  by_cases hin : 0 ≤ view ∧ view ≤ 999 ∧ 1 ≤ n ∧ n ≤ 5
  case neg =>
    rw [chainOk_ends (by rw [HL.out]; exact hin)]
    by_cases h0 : 0 ≤ view
    case neg =>
      clear hin
      go_enter Mo.func34, Tryz.ntmps34
      go_wp2
      go_ret
      exact ⟨rfl, (Below.refl _ _).alloc (Nat.le_refl _) _⟩
    by_cases h1 : view ≤ 999
    case neg =>
      clear hin
      go_enter Mo.func34, Tryz.ntmps34
      go_wp2
      go_ret
      exact ⟨rfl, (Below.refl _ _).alloc (Nat.le_refl _) _⟩
    by_cases h2 : 1 ≤ n
    case neg =>
      clear hin
      obtain rfl : n = 0 := by omega
      go_enter Mo.func34, Tryz.ntmps34
      go_wp2
      go_ret
      exact ⟨rfl, (Below.refl _ _).alloc (Nat.le_refl _) _⟩
    have h3 : ¬ n ≤ 5 := fun h3 => hin ⟨h0, h1, h2, h3⟩
    clear hin
    go_enter Mo.func34, Tryz.ntmps34
    go_wp2
    go_ret
    exact ⟨rfl, (Below.refl _ _).alloc (Nat.le_refl _) _⟩
  obtain ⟨h0, h1, h2, h3⟩ := hin
  have h2' : (1 : Int) ≤ (n : Int) := by omega
  have h3' : (n : Int) ≤ 5 := by omega
  obtain ⟨W0, hW0⟩ : ∃ W0, W0 = w.alloc (.cells #[.int .i64 view, .slice A n c] 25) := ⟨_, rfl⟩
  have K0 := Lib.hid (show Blk W0 w.heap.size #[.int .i64 view, .slice A n c] 25 by rw [hW0]; exact Blk.new _ _ _)
  have B0 := Lib.hid (show Below w.heap.size w W0 by rw [hW0]; exact (Below.refl _ _).alloc (Nat.le_refl _) _)
  have s0 : w.heap.size < W0.heap.size := by rw [hW0]; simp
  have HW0 := Lib.hid hW0
  clear hW0
  go_enter Mo.func34, Tryz.ntmps34
  go_wp2_with fail
  go_loopw [30] (fun i wr => ∃ k : Nat, k ≤ n ∧ i = .int .i64 k ∧ Hid ((List.range k).all (nodAt l) = true) ∧ Below W0.heap.size W0 wr)
    (fun i _ => n - (intOf i).toNat)
  case atStart => exact ⟨0, Nat.zero_le _, rfl, rfl, by rw [HW0.out]; exact Below.refl _ _⟩
  case round =>
    obtain ⟨k, hk, rfl, hall, hB⟩ := hrel
    have HK := Lib.hid (K0.out.below hB)
    have HB := Lib.hid (B0.out.trans (hB.mono (Nat.le_of_lt s0)))
    have HB0 := Lib.hid hB
    have HW := Lib.hid (H.out.on HB.out)
    have hsz : w.heap.size < wr.heap.size := Nat.lt_of_lt_of_le s0 hB.size
    have hsz0 := hB.size
    clear hB
    have b0 := HK.out.cell (i := 0) (v := .int .i64 view) rfl
    have b1 := HK.out.cell (i := 1) (v := .slice A n c) rfl
    by_cases hlt : k < n
    · obtain ⟨b, off, x, A', m, d, rfl, _, hbB, hx, c0, c1, c2, hf⟩ := HW.out.nod hlt
      have hm : m ≤ 1048576 := by have := hf.len; have := mem_len HG.out hx; omega
      have Hx := Lib.hid hx
      have HF := Lib.hid (hf.box (.cells #[.int .i64 x.id, .slice A' m d, .int .i64 x.done] 78))
      have X0 := Lib.hid (Blk.new wr #[.int .i64 x.id, .slice A' m d, .int .i64 x.done] 78)
      have K1 := Lib.hid (HK.out.alloc (.cells #[.int .i64 x.id, .slice A' m d, .int .i64 x.done] 78))
      clear hx hf
      cases hok : nodeOk x
      · go_wp2_with (go_at_call 62; refine (nodeValid_any x _ _ _ _ HF.out hm).mono ?_; rintro e w1 ⟨rfl, hb1⟩; rw [hok]; have B1 := Lib.hid (below_box hb1); clear hb1)
        go_ret
        exact ⟨ret_bool (chainOk_bad (nodAt_node Hx.out hok) (by have := HL.out; omega)).symm, HB.out.trans (B1.out.mono (by omega))⟩
      have HO := Lib.hid hok
      clear hok
      obtain ⟨pl, hpl⟩ : ∃ pl, placeI (placeOf l x.id) = pl := ⟨_, rfl⟩
      by_cases hp : placeOf l x.id = some k
      case neg =>
        have hne : (pl != (k : Int)) = true := by
          rw [← hpl]
          cases he : placeOf l x.id with
          | none => simp [placeI]; try omega
          | some j => rw [he] at hp; simp [placeI]; intro e; exact hp (by rw [show j = k by omega])
        have HP := Lib.hid hp
        have HPL := Lib.hid hpl
        clear hp hpl
        go_wp2_with fail
        refine (nodeValid_any x _ _ _ _ HF.out hm).mono ?_
        rintro e w1 ⟨rfl, hb1⟩
        rw [HO.out]
        have B1 := Lib.hid (below_box hb1)
        have k1 := K1.out.below hb1
        have x1 := X0.out.below hb1
        have q0 := k1.cell (i := 0) (v := .int .i64 view) rfl
        have q1 := k1.cell (i := 1) (v := .slice (some ⟨b, off, none⟩) n c) rfl
        have r0 := x1.cell (i := 0) (v := .int .i64 x.id) rfl
        have F1 := Lib.hid (HW.out.on B1.out)
        clear hb1 k1 x1
        go_wp2_with (go_at_call 63; refine (chainPlace_any _ _ _ _ l _ _ F1.out hn).mono ?_; rintro e w2 ⟨rfl, hb2⟩; rw [HPL.out]; have B2 := Lib.hid (B1.out.trans (hb2.mono B1.out.size)); clear hb2)
        go_ret
        exact ⟨ret_bool (chainOk_bad (nodAt_place Hx.out HP.out) (by have := HL.out; omega)).symm, HB.out.trans (B2.out.mono (by omega))⟩
      have hne : (pl != (k : Int)) = false := by rw [← hpl, hp]; simp [placeI]
      have HP := Lib.hid hp
      have HPL := Lib.hid hpl
      clear hp hpl
      by_cases hk0 : k = 0
      · have hz : ((k : Int) == 0) = true := by simp [hk0]
        have HK0 := Lib.hid hk0
        clear hk0
        go_wp2_with fail
        refine (nodeValid_any x _ _ _ _ HF.out hm).mono ?_
        rintro e w1 ⟨rfl, hb1⟩
        rw [HO.out]
        have B1 := Lib.hid (below_box hb1)
        have k1 := K1.out.below hb1
        have x1 := X0.out.below hb1
        have q0 := k1.cell (i := 0) (v := .int .i64 view) rfl
        have q1 := k1.cell (i := 1) (v := .slice (some ⟨b, off, none⟩) n c) rfl
        have r0 := x1.cell (i := 0) (v := .int .i64 x.id) rfl
        have F1 := Lib.hid (HW.out.on B1.out)
        clear hb1 k1 x1
        go_wp2_with (go_at_call 63; refine (chainPlace_any _ _ _ _ l _ _ F1.out hn).mono ?_; rintro e w2 ⟨rfl, hb2⟩; rw [HPL.out]; have B2 := Lib.hid (B1.out.trans (hb2.mono B1.out.size)); clear hb2)
        go_roundw
        case rel =>
          refine ⟨k + 1, by omega, by go_num, all_range_succ hall.out ?_, HB0.out.trans (B2.out.mono hsz0)⟩
          have e := HK0.out
          have hx0 := Hx.out
          have hp0 := HP.out
          rw [e] at hx0 hp0 ⊢
          rw [nodAt_zero hx0, HO.out, hp0]; simp
        case measure => simp [intOf]; omega
      have hz : ((k : Int) == 0) = false := by simp [hk0]
      obtain ⟨b', off', y, A'', m', d', e', _, _, hy, y0, y1, y2, hfy⟩ := HW.out.nod (show k - 1 < n by omega)
      obtain ⟨rfl, rfl⟩ : b = b' ∧ off = off' := by injection e' with e'; injection e' with e1 e2; exact ⟨e1, e2⟩
      have hm' : m' ≤ 1048576 := by have := hfy.len; have := mem_len HG.out hy; omega
      have Hy := Lib.hid hy
      have HFy := Lib.hid hfy
      have hbr : b < wr.heap.size := by omega
      have hk1 : (1 : Int) ≤ (k : Int) := by omega
      have HK0 := Lib.hid hk0
      clear hk0 hy hfy e'
      obtain ⟨lb, hlb⟩ : ∃ lb, logBegins x.log y.log = lb := ⟨_, rfl⟩
      have HLB := Lib.hid hlb
      clear hlb
      have ahead : nodAt l k = (lb && decide (y.done ≤ x.done)) := by
        have hx0 := Hx.out
        have hy0 := Hy.out
        have hp0 := HP.out
        have hk' := HK0.out
        obtain ⟨j, rfl⟩ : ∃ j, k = j + 1 := ⟨k - 1, by omega⟩
        rw [nodAt_succ hx0 hy0, HO.out, hp0, HLB.out]; simp
      have HA := Lib.hid ahead
      clear ahead
      go_wp2_with fail
      refine (nodeValid_any x _ _ _ _ HF.out hm).mono ?_
      rintro e w1 ⟨rfl, hb1⟩
      rw [HO.out]
      have B1 := Lib.hid (below_box hb1)
      have k1 := K1.out.below hb1
      have x1 := X0.out.below hb1
      have q0 := k1.cell (i := 0) (v := .int .i64 view) rfl
      have q1 := k1.cell (i := 1) (v := .slice (some ⟨b, off, none⟩) n c) rfl
      have r0 := x1.cell (i := 0) (v := .int .i64 x.id) rfl
      have KK1 := Lib.hid k1
      have XX1 := Lib.hid x1
      have F1 := Lib.hid (HW.out.on B1.out)
      have s1 : wr.heap.size < w1.heap.size := x1.lt
      clear hb1 k1 x1
      go_wp2_with fail
      refine (chainPlace_any _ _ _ _ l _ _ F1.out hn).mono ?_
      rintro e w2 ⟨rfl, hb2⟩
      rw [HPL.out]
      have B2 := Lib.hid (B1.out.trans (hb2.mono B1.out.size))
      have k2 := KK1.out.below hb2
      have x2 := XX1.out.below hb2
      have q0 := k2.cell (i := 0) (v := .int .i64 view) rfl
      have q1 := k2.cell (i := 1) (v := .slice (some ⟨b, off, none⟩) n c) rfl
      have r0 := x2.cell (i := 0) (v := .int .i64 x.id) rfl
      have r1 := x2.cell (i := 1) (v := .slice A' m d) rfl
      have r2 := x2.cell (i := 2) (v := .int .i64 x.done) rfl
      have yy0 := (B2.out.cell (p := ⟨b, off + (k - 1) * 3, none⟩) hbr).trans y0
      have yy1 := (B2.out.cell (p := ⟨b, off + (k - 1) * 3 + 1, none⟩) hbr).trans y1
      have yy2 := (B2.out.cell (p := ⟨b, off + (k - 1) * 3 + 2, none⟩) hbr).trans y2
      have s2 : w1.heap.size ≤ w2.heap.size := hb2.size
      have XX2 := Lib.hid (x2.alloc (.cells #[.int .i64 y.id, .slice A'' m' d', .int .i64 y.done] 78))
      have YY2 := Lib.hid (Blk.new w2 #[.int .i64 y.id, .slice A'' m' d', .int .i64 y.done] 78)
      have Fx := Lib.hid (((HF.out.on (show Below (wr.alloc (.cells #[.int .i64 x.id, .slice A' m d, .int .i64 x.done] 78)).heap.size _ w2 from ⟨B2.out.os, B2.out.tape, B2.out.output, by simp; omega, fun q hq => by
        by_cases e : q < wr.heap.size
        · exact (B2.out.block q e).trans (Below.heap_alloc _ _ _ e).symm
        · simp at hq
          obtain rfl : q = wr.heap.size := by omega
          exact (show w2.heap[wr.heap.size]? = _ from x2).trans (heap_alloc_new wr _).symm⟩))).box (.cells #[.int .i64 y.id, .slice A'' m' d', .int .i64 y.done] 78))
      have Fy := Lib.hid ((HFy.out.on B2.out).box (.cells #[.int .i64 y.id, .slice A'' m' d', .int .i64 y.done] 78))
      have hnn : wr.heap.size ≠ w2.heap.size := by omega
      have hnl : wr.heap.size < w2.heap.size := by omega
      have hnl' : w.heap.size < w2.heap.size := by omega
      have hnb : b ≠ w2.heap.size := by omega
      clear hb2 k2 x2
      go_wp2_with fail
      refine (logBegins_any _ _ _ _ _ _ x.log y.log _ Fx.out Fy.out hm hm').mono ?_
      rintro e w3 ⟨rfl, hb3⟩
      rw [HLB.out]
      have B3 := Lib.hid (B2.out.trans ((below_box hb3).mono B2.out.size))
      have x3 := (XX2.out.below hb3).cell (i := 2) (v := .int .i64 x.done) rfl
      have y3 := (YY2.out.below hb3).cell (i := 2) (v := .int .i64 y.done) rfl
      clear hb3 HF X0 K1 KK1 XX1 F1 XX2 YY2 Fx Fy HFy q0 q1 r0 r1 r2 yy0 yy1 yy2
      cases lb
      · go_wp2
        go_ret
        exact ⟨ret_bool (chainOk_bad (by rw [HA.out]; rfl) (by have := HL.out; omega)).symm, HB.out.trans (B3.out.mono (by omega))⟩
      · by_cases hd : x.done < y.done
        · go_wp2
          go_ret
          exact ⟨ret_bool (chainOk_bad (by rw [HA.out]; simp; omega) (by have := HL.out; omega)).symm, HB.out.trans (B3.out.mono (by omega))⟩
        · go_wp2
          go_roundw
          case rel => exact ⟨k + 1, by omega, by go_num, all_range_succ hall.out (by rw [HA.out]; simp; omega), HB0.out.trans (B3.out.mono hsz0)⟩
          case measure => simp [intOf]; omega
    · obtain rfl : n = k := by omega
      go_wp2_with fail
      refine (tailOf_any _ _ _ _ l _ HW.out hn (by omega)).mono ?_
      rintro e w1 ⟨x, A', m, d, hx, rfl, hf, hb1⟩
      have B1 := Lib.hid (HB.out.trans (hb1.mono (by omega)))
      have hml : x.log.length = m := hf.len
      have hT := tailOk_at HL.out hx
      have hC := chainOk_mk h0 h1 (by rw [HL.out]; exact h2) (by rw [HL.out]; exact h3) (by rw [HL.out]; exact hall.out)
      have HC := Lib.hid (hC.trans hT)
      have HML := Lib.hid hml
      clear hb1 hf hx hml hT hC
      have s1 := B1.out.size
      go_wp2
      go_ret
      exact ⟨ret_bool (by rw [HC.out, HML.out, Bool.eq_iff_iff]; simp), B1.out.alloc s1 _⟩
end Go.Proofs.YtemgilofjbnoaaaGreatDoor
namespace Go.Proofs.YtemgilofjbnoaaaGreatDoor
open Go.RowKit Go.Sort
theorem placeOf_take {l : List Nod} {k : Nat} {x : Nod} (hx : l[k]? = some x) : (placeOf (l.take k) x.id).isSome = !decide (placeOf l x.id = some k) := by
  cases h : placeOf (l.take k) x.id with
  | none =>
    have : placeOf l x.id = some k := placeOf_at hx rfl fun i y hi hy e => by
      have hy' : (l.take k)[i]? = some y := by rw [List.getElem?_take, if_pos hi]; exact hy
      have : placeOf (l.take k) x.id ≠ none := by
        unfold placeOf
        rw [ne_eq, List.findIdx?_eq_none_iff]
        intro hall
        have := hall y (List.mem_of_getElem? hy')
        simp [e] at this
      exact this h
    simp [this]
  | some j =>
    obtain ⟨y, hy, he, hb⟩ := placeOf_some h
    have hj := placeOf_lt h
    rw [List.length_take] at hj
    have hy' : l[j]? = some y := by rw [List.getElem?_take, if_pos (by omega)] at hy; exact hy
    have : placeOf l x.id = some j := placeOf_at hy' he fun i z hi hz => hb i z hi (by rw [List.getElem?_take, if_pos (by omega)]; exact hz)
    rw [this]; simp; omega
theorem nodeOk_lg {x : Nod} (h : nodeOk x = true) : logOk x.log = true := by simp only [nodeOk, Bool.and_eq_true] at h; exact h.1.2
theorem nodAt_ok {l : List Nod} {i : Nat} {x : Nod} (hx : l[i]? = some x) (h : nodAt l i = true) : nodeOk x = true := by
  unfold nodAt at h; rw [hx] at h; simp only [Bool.and_eq_true] at h; exact h.1.1
theorem chainOk_tail {v : Int} {l : List Nod} (h : tailOk l = false) : chainOk v l = false := by unfold chainOk; rw [h]; simp
theorem chainOk_last {v : Int} {l : List Nod} {n : Nat} (hl : l.length = n) (h : (List.range n).all (nodAt l) = true) (ht : n ≠ 0 → tailOk l = true) : chainOk v l = (inB n 1 5 && inB v 0 999) := by
  subst hl
  unfold chainOk
  rw [h]
  by_cases h0 : l.length = 0
  · simp [h0, inB]
  · rw [ht h0, Bool.eq_iff_iff]
    simp [inB]
    omega
theorem l4Has_below (A : Option Addr) (n c : Nat) (l : List Nod) (id : Int) (w : World) (h : Nods w 0 w.heap.size A n c l) (hn : n ≤ 1048576) :
    Calls Mo.prog 70 #[.slice A n c, .int .i64 id] w fun e w' => e = .returned (.bool (placeOf l id).isSome) ∧ Below w.heap.size w w' :=
  (l4Has_any A n c l id w h hn).mono fun e w' ⟨h1, h2⟩ => ⟨h1, by subst h2; exact Below.refl _ _⟩
set_option maxHeartbeats 8000000 in
theorem specChainValid_any (view : Int) (A : Option Addr) (n c : Nat) (l : List Nod) (w : World) (h : Nods w 0 w.heap.size A n c l) (hn : n ≤ 1048576) (hlog : ∀ x ∈ l, x.log.length ≤ 1048576) :
    Calls Mo.prog 39 #[.agg #[.int .i64 view, .slice A n c]] w fun e w' => e = .returned (.bool (chainOk view l)) ∧ Below w.heap.size w w' := by
  have HL := Lib.hid h.len
  have HG := Lib.hid hlog
  have H := Lib.hid h
  have hnc := h.cap.1
  have hcm := h.cap.2
  unfold maxLen at hcm
  clear h hlog
  obtain ⟨W0, hW0⟩ : ∃ W0, W0 = w.alloc (.cells #[.int .i64 view, .slice A n c] 25) := ⟨_, rfl⟩
  have K0 := Lib.hid (show Blk W0 w.heap.size #[.int .i64 view, .slice A n c] 25 by rw [hW0]; exact Blk.new _ _ _)
  have B0 := Lib.hid (show Below w.heap.size w W0 by rw [hW0]; exact (Below.refl _ _).alloc (Nat.le_refl _) _)
  have s0 : w.heap.size < W0.heap.size := by rw [hW0]; simp
  have HW0 := Lib.hid hW0
  clear hW0
  go_enter Mo.func39, Tryz.ntmps39
  go_wp2_with fail
  go_loopw [3] (fun i wr => ∃ k : Nat, k ≤ n ∧ i = .int .i64 k ∧ Hid ((List.range k).all (nodAt l) = true) ∧ Hid (k = n → n ≠ 0 → tailOk l = true) ∧ Below W0.heap.size W0 wr)
    (fun i _ => n - (intOf i).toNat)
  case atStart => exact ⟨0, Nat.zero_le _, rfl, rfl, (fun e h => absurd e.symm h), by rw [HW0.out]; exact Below.refl _ _⟩
  case round =>
    obtain ⟨k, hk, rfl, hall, htl, hB⟩ := hrel
    have HK := Lib.hid (K0.out.below hB)
    have HB := Lib.hid (B0.out.trans (hB.mono (Nat.le_of_lt s0)))
    have HB0 := Lib.hid hB
    have HW := Lib.hid (H.out.on HB.out)
    have hsz : w.heap.size < wr.heap.size := Nat.lt_of_lt_of_le s0 hB.size
    have hsz0 := hB.size
    clear hB
    have b0 := HK.out.cell (i := 0) (v := .int .i64 view) rfl
    have b1 := HK.out.cell (i := 1) (v := .slice A n c) rfl
    by_cases hlt : k < n
    · obtain ⟨b, off, x, A', m, d, rfl, _, hbB, hx, c0, c1, c2, hf⟩ := HW.out.nod hlt
      have hm : m ≤ 1048576 := by have := hf.len; have := mem_len HG.out hx; omega
      have hml : x.log.length = m := hf.len
      have HML := Lib.hid hml
      have Hx := Lib.hid hx
      obtain ⟨W, hW⟩ : ∃ W, W = wr.alloc (.cells #[.int .i64 x.id, .slice A' m d, .int .i64 x.done] 78) := ⟨_, rfl⟩
      have hbW : Below wr.heap.size wr W := by rw [hW]; exact (Below.refl _ _).alloc (Nat.le_refl _) _
      have X0 := Lib.hid (show Blk W wr.heap.size #[.int .i64 x.id, .slice A' m d, .int .i64 x.done] 78 by rw [hW]; exact Blk.new _ _ _)
      have K1 := Lib.hid (HK.out.below hbW)
      have HF := Lib.hid (hf.on hbW)
      have HN := Lib.hid ((HW.out.on hbW).take_ (Nat.le_of_lt hlt))
      have BW := Lib.hid hbW
      have HWE := Lib.hid hW
      clear hx hf hml hbW hW
      have d0 := cell_regrown (X0.out.cell (i := 0) (v := .int .i64 x.id) rfl)
      have d1 := cell_regrown (X0.out.cell (i := 1) (v := .slice A' m d) rfl)
      have d2 := cell_regrown (X0.out.cell (i := 2) (v := .int .i64 x.done) rfl)
      have d3 := cell_regrown (K1.out.cell (i := 1) (v := .slice (some ⟨b, off, none⟩) n c) rfl)
      have hkc : (k : Int) ≤ (c : Int) := by omega
      have hk0 : (0 : Int) ≤ (k : Int) := by omega
      cases hok : nodeOk x
      · go_wp2_with fail
        rw [← HWE.out]
        refine wp_region_quiet_below (by kernel_rfl) (by kernel_rfl) ?_
        repeat (go_big_quiet_step ((go_at_call 69; exact Calls.regrown_of (specNodeValid_any x _ _ _ _ (HF.out.on (below_regrown _ _ _)) hm))))
        refine wpQuiet_nil ?_
        intro w2 hw2
        have hb2 := Lib.hid (below_of_regrown hw2)
        clear hw2 d0 d1 d2 d3
        go_wp2
        go_ret
        exact ⟨ret_bool (chainOk_bad (nodAt_node Hx.out hok) (by have := HL.out; omega)).symm, HB.out.trans ((BW.out.mono (by omega)).trans (hb2.out.mono (by have := BW.out.size; omega)))⟩
      have hps := placeOf_take Hx.out
      have HPS := Lib.hid hps
      clear hps
      cases hhas : (placeOf (l.take k) x.id).isSome
      case true =>
        go_wp2_with fail
        rw [← HWE.out]
        refine wp_region_quiet_below (by kernel_rfl) (by kernel_rfl) ?_
        repeat (go_big_quiet_step ((first | (go_at_call 69; exact Calls.regrown_of (specNodeValid_any x _ _ _ _ (HF.out.on (below_regrown _ _ _)) hm)) | (go_at_call 70; exact Calls.regrown_of (l4Has_below _ _ _ (l.take k) _ _ (HN.out.on (below_regrown _ _ _)) (by omega))))))
        refine wpQuiet_nil ?_
        intro w2 hw2
        have hb2 := Lib.hid (below_of_regrown hw2)
        clear hw2 d0 d1 d2 d3
        go_wp2
        go_ret
        refine ⟨ret_bool (chainOk_bad (nodAt_place Hx.out ?_) (by have := HL.out; omega)).symm, HB.out.trans ((BW.out.mono (by omega)).trans (hb2.out.mono (by have := BW.out.size; omega)))⟩
        have := HPS.out
        rw [hhas] at this
        intro e; rw [e] at this; simp at this
      case false =>
      have hpl : placeOf l x.id = some k := by
        have := HPS.out
        rw [hhas] at this
        simpa using this
      have HPL := Lib.hid hpl
      clear hpl
      go_wp2_with fail
      rw [← HWE.out]
      refine wp_region_quiet_below (by kernel_rfl) (by kernel_rfl) ?_
      repeat (go_big_quiet_step ((first | (go_at_call 69; exact Calls.regrown_of (specNodeValid_any x _ _ _ _ (HF.out.on (below_regrown _ _ _)) hm)) | (go_at_call 70; exact Calls.regrown_of (l4Has_below _ _ _ (l.take k) _ _ (HN.out.on (below_regrown _ _ _)) (by omega))))))
      refine wpQuiet_nil ?_
      intro w2 hw2
      have hb2 := below_of_regrown hw2
      have B2 := Lib.hid (HB.out.trans ((BW.out.mono (by omega)).trans (hb2.mono (by have := BW.out.size; omega))))
      have B20 := Lib.hid (HB0.out.trans ((BW.out.mono hsz0).trans (hb2.mono (by have := BW.out.size; omega))))
      have BR := Lib.hid (BW.out.trans (hb2.mono BW.out.size))
      have X2 := Lib.hid (X0.out.below hb2)
      have K2 := Lib.hid (K1.out.below hb2)
      have F2 := Lib.hid (HF.out.on hb2)
      have s2 : wr.heap.size < w2.heap.size := X2.out.lt
      clear hw2 d0 d1 d2 d3 hb2
      have HO := Lib.hid hok
      have HH := Lib.hid hhas
      clear hok hhas
      have r0 := X2.out.cell (i := 0) (v := .int .i64 x.id) rfl
      have r1 := X2.out.cell (i := 1) (v := .slice A' m d) rfl
      have r2 := X2.out.cell (i := 2) (v := .int .i64 x.done) rfl
      have t1 := K2.out.cell (i := 1) (v := .slice (some ⟨b, off, none⟩) n c) rfl
      rcases Nat.eq_zero_or_pos k with hkz | hkp
      · have na : nodAt l k = true := by
          have hx0 := Hx.out
          have hp0 := HPL.out
          rw [hkz] at hx0 hp0 ⊢
          rw [nodAt_zero hx0, HO.out, hp0]; simp
        have NA := Lib.hid na
        have hg : decide ((0 : Int) < (k : Int)) = false := by simp; omega
        have hgn : decide (0 < k) = false := by simp; omega
        clear na hkz
        go_wp2_with fail
        refine wp_region_quiet_below (by kernel_rfl) (by kernel_rfl) ?_
        repeat (go_big_quiet_step (fail))
        refine wpQuiet_nil ?_
        intro w3 hw3
        have hb3 := below_of_regrown hw3
        have B3 := Lib.hid (B2.out.trans (hb3.mono B2.out.size))
        have B30 := Lib.hid (B20.out.trans (hb3.mono B20.out.size))
        have X3 := Lib.hid (X2.out.below hb3)
        have K3 := Lib.hid (K2.out.below hb3)
        clear hw3 hb3 r0 r1 r2 t1
        have r2 := X3.out.cell (i := 2) (v := .int .i64 x.done) rfl
        have r1 := X3.out.cell (i := 1) (v := .slice A' m d) rfl
        have t1 := K3.out.cell (i := 1) (v := .slice (some ⟨b, off, none⟩) n c) rfl
        by_cases hlast : k + 1 = n
        · have hl1 : (((k : Int) + 1) == (n : Int)) = true := by simp; omega
          by_cases hdone : x.done = (m : Int)
          · have hd1 : (x.done != (m : Int)) = false := by simp [hdone]
            have HD := Lib.hid hdone
            have HLA := Lib.hid hlast
            clear hdone hlast
            go_wp2
            go_roundw
            case rel => exact ⟨k + 1, by omega, by go_num, all_range_succ hall.out NA.out, (fun _ _ => by rw [tailOk_at HL.out (by rw [← HLA.out]; exact Hx.out), HD.out, HML.out]; simp), B30.out⟩
            case measure => simp [intOf]; omega
          · have hd1 : (x.done != (m : Int)) = true := by simp [hdone]
            have HD := Lib.hid hdone
            have HLA := Lib.hid hlast
            clear hdone hlast
            go_wp2
            go_ret
            exact ⟨ret_bool (chainOk_tail (by rw [tailOk_at HL.out (by rw [← HLA.out]; exact Hx.out), HML.out]; simp; exact HD.out)).symm, B3.out⟩
        · have hl1 : (((k : Int) + 1) == (n : Int)) = false := by simp; omega
          have HLA := Lib.hid hlast
          clear hlast
          go_wp2
          go_roundw
          case rel => exact ⟨k + 1, by omega, by go_num, all_range_succ hall.out NA.out, (fun e _ => absurd e HLA.out), B30.out⟩
          case measure => simp [intOf]; omega
      · obtain ⟨b', off', y, A'', m', d', e', _, _, hy, y0, y1, y2, hfy⟩ := HW.out.nod (show k - 1 < n by omega)
        obtain ⟨rfl, rfl⟩ : b = b' ∧ off = off' := by injection e' with e'; injection e' with e1 e2; exact ⟨e1, e2⟩
        have hm' : m' ≤ 1048576 := by have := hfy.len; have := mem_len HG.out hy; omega
        have hyo := nodAt_ok hy (all_range_at hall.out (show k - 1 < k by omega))
        have Hy := Lib.hid hy
        have HFy := Lib.hid (hfy.on BR.out)
        have hbr : b < wr.heap.size := by omega
        have hk1 : (1 : Int) ≤ (k : Int) := by omega
        have hk1' : (0 : Int) ≤ (k : Int) - 1 := by omega
        have hkn1 : (k : Int) - 1 < (n : Int) := by omega
        have hg : decide ((0 : Int) < (k : Int)) = true := by simp; omega
        have hgn : decide (0 < k) = true := by simp; omega
        have wr1 : IntKind.i64.wrap ((k : Int) - 1) = (k : Int) - 1 := IntWalk.i64_in _ (by omega)
        have wr2 : ((k : Int) - 1).toNat = k - 1 := by omega
        have e0 := cell_regrown (X2.out.cell (i := 0) (v := .int .i64 x.id) rfl)
        have e1 := cell_regrown (X2.out.cell (i := 1) (v := .slice A' m d) rfl)
        have e2 := cell_regrown (X2.out.cell (i := 2) (v := .int .i64 x.done) rfl)
        have e3 := cell_regrown (K2.out.cell (i := 1) (v := .slice (some ⟨b, off, none⟩) n c) rfl)
        have e4 := cell_regrown ((BR.out.cell (p := ⟨b, off + (k - 1) * 3 + 1, none⟩) hbr).trans y1)
        have e5 := cell_regrown ((BR.out.cell (p := ⟨b, off + (k - 1) * 3 + 2, none⟩) hbr).trans y2)
        obtain ⟨cm, hcm'⟩ : ∃ cm, common x.log y.log = cm := ⟨_, rfl⟩
        have ahead : nodAt l k = (decide (cm = m) && decide (y.done ≤ x.done)) := by
          have hx0 := Hx.out
          have hy0 := hy
          have hp0 := HPL.out
          obtain ⟨j, rfl⟩ : ∃ j, k = j + 1 := ⟨k - 1, by omega⟩
          have hl1 := nodeOk_lg HO.out
          have hl2 := nodeOk_lg hyo
          rw [nodAt_succ hx0 hy0, HO.out, hp0]
          unfold logBegins
          rw [hl1, hl2, hcm', HML.out]; simp
        have HA := Lib.hid ahead
        have hle : cm ≤ m := by have := (common_le x.log y.log).1; have := HML.out; omega
        have HC := Lib.hid (show ∀ (q : Nat) (os : Array Obj), Calls Mo.prog 71 #[.slice A' m d, .slice A'' m' d'] (grow (redrawn w2 q) os) fun e w' => e = .returned (.int .i64 (cm : Int)) ∧ Below (grow (redrawn w2 q) os).heap.size (grow (redrawn w2 q) os) w' from fun q os => by
          have hc := l1Common_any A' A'' m d m' d' x.log y.log (grow (redrawn w2 q) os) (F2.out.on (below_regrown _ _ _)) (HFy.out.on (below_regrown _ _ _)) hm hm'
          rwa [hcm'] at hc)
        clear hy hfy e' hyo hcm' ahead y0 y1 y2 c0 c1 c2
        by_cases hcl : cm < m
        · have hcl' : decide ((cm : Int) < (m : Int)) = true := by simp; omega
          go_wp2_with fail
          refine wp_region_quiet_below (by kernel_rfl) (by kernel_rfl) ?_
          repeat (go_big_quiet_step ((go_at_call 71; exact Calls.regrown_of (HC.out _ _))))
          refine wpQuiet_nil ?_
          intro w3 hw3
          have hb3 := below_of_regrown hw3
          have B3 := Lib.hid (B2.out.trans (hb3.mono B2.out.size))
          clear hw3 hb3 r0 r1 r2 t1 e0 e1 e2 e3 e4 e5 wr1 wr2
          go_wp2
          go_ret
          exact ⟨ret_bool (chainOk_bad (by rw [HA.out]; simp; omega) (by have := HL.out; omega)).symm, B3.out⟩
        · obtain rfl : cm = m := by omega
          have hcl' : decide ((cm : Int) < (cm : Int)) = false := by simp
          have hcln : decide (cm < cm) = false := by simp
          by_cases hd : x.done < y.done
          · have hd' : decide (x.done < y.done) = true := by simp [hd]
            go_wp2_with fail
            refine wp_region_quiet_below (by kernel_rfl) (by kernel_rfl) ?_
            repeat (go_big_quiet_step ((go_at_call 71; exact Calls.regrown_of (HC.out _ _))))
            refine wpQuiet_nil ?_
            intro w3 hw3
            have hb3 := below_of_regrown hw3
            have B3 := Lib.hid (B2.out.trans (hb3.mono B2.out.size))
            clear hw3 hb3 r0 r1 r2 t1 e0 e1 e2 e3 e4 e5 wr1 wr2
            go_wp2
            go_ret
            exact ⟨ret_bool (chainOk_bad (by rw [HA.out]; simp; omega) (by have := HL.out; omega)).symm, B3.out⟩
          · have hd' : decide (x.done < y.done) = false := by simp; omega
            have NA := Lib.hid (show nodAt l k = true by rw [HA.out]; simp; omega)
            have HDD := Lib.hid hd
            clear hd
            go_wp2_with fail
            refine wp_region_quiet_below (by kernel_rfl) (by kernel_rfl) ?_
            repeat (go_big_quiet_step ((go_at_call 71; exact Calls.regrown_of (HC.out _ _))))
            refine wpQuiet_nil ?_
            intro w3 hw3
            have hb3 := below_of_regrown hw3
            have B3 := Lib.hid (B2.out.trans (hb3.mono B2.out.size))
            have B30 := Lib.hid (B20.out.trans (hb3.mono B20.out.size))
            have X3 := Lib.hid (X2.out.below hb3)
            have K3 := Lib.hid (K2.out.below hb3)
            clear hw3 hb3 r0 r1 r2 t1 e0 e1 e2 e3 e4 e5 wr1 wr2 hd'
            have r2 := X3.out.cell (i := 2) (v := .int .i64 x.done) rfl
            have r1 := X3.out.cell (i := 1) (v := .slice A' cm d) rfl
            have t1 := K3.out.cell (i := 1) (v := .slice (some ⟨b, off, none⟩) n c) rfl
            by_cases hlast : k + 1 = n
            · have hl1 : (((k : Int) + 1) == (n : Int)) = true := by simp; omega
              by_cases hdone : x.done = (cm : Int)
              · have hd1 : (x.done != (cm : Int)) = false := by simp [hdone]
                have HD := Lib.hid hdone
                have HLA := Lib.hid hlast
                clear hdone hlast
                go_wp2
                go_roundw
                case rel => exact ⟨k + 1, by omega, by go_num, all_range_succ hall.out NA.out, (fun _ _ => by rw [tailOk_at HL.out (by rw [← HLA.out]; exact Hx.out), HD.out, HML.out]; simp), B30.out⟩
                case measure => simp [intOf]; omega
              · have hd1 : (x.done != (cm : Int)) = true := by simp [hdone]
                have HD := Lib.hid hdone
                have HLA := Lib.hid hlast
                clear hdone hlast
                go_wp2
                go_ret
                exact ⟨ret_bool (chainOk_tail (by rw [tailOk_at HL.out (by rw [← HLA.out]; exact Hx.out), HML.out]; simp; exact HD.out)).symm, B3.out⟩
            · have hl1 : (((k : Int) + 1) == (n : Int)) = false := by simp; omega
              have HLA := Lib.hid hlast
              clear hlast
              go_wp2
              go_roundw
              case rel => exact ⟨k + 1, by omega, by go_num, all_range_succ hall.out NA.out, (fun e _ => absurd e HLA.out), B30.out⟩
              case measure => simp [intOf]; omega
    · obtain rfl : n = k := by omega
      have hC := chainOk_last (v := view) HL.out hall.out (htl.out rfl)
      have HC := Lib.hid hC
      clear hC
      by_cases hn0 : inB n 1 5 = true
      all_goals
        go_wp2_with (go_at_call 72; refine (l6In_any _ _ _ _).mono ?_; rintro e w' ⟨rfl, rfl⟩)
        go_ret
        exact ⟨ret_bool (by rw [HC.out]; simp_all), HB.out⟩
end Go.Proofs.YtemgilofjbnoaaaGreatDoor
namespace Go.Proofs.YtemgilofjbnoaaaGreatDoor
open Go.RowKit
def addCost (v : Int) (l : List Nod) : Int := if chainOk v l then (match l[l.length - 1]? with | some x => (x.log.length : Int) | none => 0) else -1
end Go.Proofs.YtemgilofjbnoaaaGreatDoor
namespace Go.Proofs.YtemgilofjbnoaaaGreatDoor
open Go.RowKit Go.Sort
def roleOf (at_ many : Int) : Int := if at_ < 0 ∨ many ≤ at_ then 0 else if many = 1 then 4 else if at_ = 0 then 1 else if at_ = many - 1 then 3 else 2
def dropRole (v : Int) (l : List Nod) (id : Int) : Int := if chainOk v l then roleOf (placeI (placeOf l id)) l.length else 0
end Go.Proofs.YtemgilofjbnoaaaGreatDoor
namespace Go.Proofs.YtemgilofjbnoaaaGreatDoor
open Go.RowKit
def lost (v : Int) (l : List Nod) (id : Int) : List Upd :=
  if dropRole v l id = 1 then (match l[0]?, l[1]? with | some x, some y => x.log.drop y.log.length | _, _ => []) else []
end Go.Proofs.YtemgilofjbnoaaaGreatDoor
namespace Go.Proofs.YtemgilofjbnoaaaGreatDoor
open Go.RowKit
def Ahead (y x : Nod) : Prop := y.id ≠ x.id ∧ x.log <+: y.log ∧ y.done ≤ x.done
theorem Ahead.trans {a b c : Nod} (h : Ahead a b) (h' : Ahead b c) (hne : a.id ≠ c.id) : Ahead a c := ⟨hne, h'.2.1.trans h.2.1, Int.le_trans h.2.2 h'.2.2⟩
theorem nodeOk_log' {x : Nod} (h : nodeOk x = true) : logOk x.log = true := by unfold nodeOk at h; simp only [Bool.and_eq_true] at h; exact h.1.2
theorem nodeOk_iff {x : Nod} : nodeOk x = true ↔ 1 ≤ x.id ∧ x.id ≤ 99 ∧ logOk x.log = true ∧ 0 ≤ x.done ∧ x.done ≤ x.log.length := by
  unfold nodeOk inB; simp only [Bool.and_eq_true, decide_eq_true_eq]; constructor
  · rintro ⟨⟨⟨a, b⟩, c⟩, d, e⟩; exact ⟨a, b, c, d, e⟩
  · rintro ⟨a, b, c, d, e⟩; exact ⟨⟨⟨a, b⟩, c⟩, d, e⟩
def Good (v : Int) (l : List Nod) : Prop := 0 ≤ v ∧ v ≤ 999 ∧ 1 ≤ l.length ∧ l.length ≤ 5 ∧ (∀ x ∈ l, nodeOk x = true) ∧ l.Pairwise Ahead ∧ tailOk l = true
theorem placeOf_iff {l : List Nod} {x : Nod} {i : Nat} (hx : l[i]? = some x) : placeOf l x.id = some i ↔ ∀ (j : Nat) (y : Nod), j < i → l[j]? = some y → y.id ≠ x.id := by
  constructor
  · intro h
    obtain ⟨z, hz, _, hb⟩ := placeOf_some h
    exact hb
  · intro h; exact placeOf_at hx rfl h
theorem nodAt_iff {l : List Nod} {i : Nat} {x : Nod} (hx : l[i]? = some x) : nodAt l i = true ↔ nodeOk x = true ∧ (∀ (j : Nat) (y : Nod), j < i → l[j]? = some y → y.id ≠ x.id) ∧ (∀ y, 0 < i → l[i - 1]? = some y → logOk y.log = true ∧ logOk x.log = true ∧ x.log <+: y.log ∧ y.done ≤ x.done) := by
  cases i with
  | zero => rw [nodAt_zero hx]; simp [placeOf_iff hx]
  | succ j =>
    have hj : j < l.length := by have := (List.getElem?_eq_some_iff.1 hx).1; omega
    have hy : l[j]? = some l[j] := List.getElem?_eq_getElem hj
    rw [nodAt_succ hx hy]
    simp only [Bool.and_eq_true, decide_eq_true_eq, placeOf_iff hx, logBegins_iff]
    constructor
    · rintro ⟨⟨a, b⟩, ⟨c, d, e⟩, f⟩
      refine ⟨a, b, fun y _ h => ?_⟩
      simp only [Nat.add_sub_cancel] at h
      rw [hy] at h; injection h with h; subst h
      exact ⟨d, c, e, f⟩
    · rintro ⟨a, b, c⟩
      obtain ⟨d, e, f, g⟩ := c l[j] (by omega) (by simp [hy])
      exact ⟨⟨a, b⟩, ⟨e, d, f⟩, g⟩
theorem good_iff {v : Int} {l : List Nod} : chainOk v l = true ↔ Good v l := by
  unfold chainOk Good
  simp only [Bool.and_eq_true, decide_eq_true_eq, List.all_eq_true, List.mem_range, inB]
  constructor
  · rintro ⟨⟨⟨⟨⟨a, b⟩, c⟩, d⟩, h⟩, t⟩
    refine ⟨a, b, c, d, fun x hx => ?_, ?_, t⟩
    · obtain ⟨i, hi⟩ := List.getElem?_of_mem hx
      exact ((nodAt_iff hi).1 (h i (List.getElem?_eq_some_iff.1 hi).1)).1
    · rw [List.pairwise_iff_getElem]
      intro i j hi hj hij
      induction j with
      | zero => omega
      | succ j ih =>
        have hx : l[j + 1]? = some l[j + 1] := List.getElem?_eq_getElem hj
        have n := (nodAt_iff hx).1 (h (j + 1) hj)
        have hjl : j < l.length := by omega
        obtain ⟨_, _, p, q⟩ := n.2.2 l[j] (by omega) (by simp)
        have one : Ahead l[j] l[j + 1] := ⟨n.2.1 j _ (by omega) (List.getElem?_eq_getElem hjl), p, q⟩
        by_cases e : i = j
        · subst e; exact one
        · exact (ih hjl (by omega)).trans one (n.2.1 i _ hij (List.getElem?_eq_getElem hi))
  · rintro ⟨a, b, c, d, ok, pw, t⟩
    refine ⟨⟨⟨⟨⟨a, b⟩, c⟩, d⟩, fun i hi => ?_⟩, t⟩
    rw [List.pairwise_iff_getElem] at pw
    have hx : l[i]? = some l[i] := List.getElem?_eq_getElem hi
    refine (nodAt_iff hx).2 ⟨ok _ (List.getElem_mem hi), fun j y hj hy => ?_, fun y h0 hy => ?_⟩
    · obtain ⟨hjl, rfl⟩ := List.getElem?_eq_some_iff.1 hy
      exact (pw j i hjl hi hj).1
    · obtain ⟨hjl, rfl⟩ := List.getElem?_eq_some_iff.1 hy
      have := pw (i - 1) i hjl hi (by omega)
      exact ⟨nodeOk_log' (ok _ (List.getElem_mem hjl)), nodeOk_log' (ok _ (List.getElem_mem hi)), this.2.1, this.2.2⟩
def fixTail (l : List Nod) : List Nod := match l[l.length - 1]? with | some x => l.set (l.length - 1) { x with done := x.log.length } | none => l
def dropped (l : List Nod) (k : Nat) : List Nod := fixTail (l.eraseIdx k)
def dropM (v : Int) (l : List Nod) (id : Int) : Option (Int × List Nod) :=
  if chainOk v l then match placeOf l id with
    | some k => if chainOk (v + 1) (dropped l k) then some (v + 1, dropped l k) else none
    | none => none
  else none
def added (l : List Nod) (id : Int) : List Nod := match l[l.length - 1]? with | some x => l ++ [⟨id, x.log, x.log.length⟩] | none => l
def addM (v : Int) (l : List Nod) (id : Int) : Option (Int × List Nod) :=
  if chainOk v l then (if chainOk (v + 1) (added l id) then some (v + 1, added l id) else none) else none
def swapM (v : Int) (l : List Nod) (old id : Int) : Option (Int × List Nod) := match dropM v l old with | some (u, r) => addM u r id | none => none
theorem take_prefix {a b : List Upd} {n : Nat} (h : a <+: b) (hn : n ≤ a.length) : b.take n = a.take n := by
  obtain ⟨c, rfl⟩ := h
  rw [List.take_append_of_le_length hn]
end Go.Proofs.YtemgilofjbnoaaaGreatDoor
namespace Go.Proofs.YtemgilofjbnoaaaGreatDoor
open Go.RowKit Go.Sort
def takeM (x : Nod) (u : Upd) : Option Nod := if nodeOk x = true ∧ updOk u.key u.value = true ∧ x.log.length ≠ 12 then some ⟨x.id, x.log ++ [u], x.done⟩ else none
def NodeRes (w : World) (o : Option Nod) (e : Ending) (w' : World) : Prop :=
  ∃ (x : Nod) (A : Option Addr) (m c : Nat), x = o.getD ⟨0, [], 0⟩ ∧ e = .returned (.tuple #[.agg #[.int .i64 x.id, .slice A m c, .int .i64 x.done], .bool o.isSome]) ∧ x.log.length = m ∧ w'.ownsRow w.heap.size 28 2 (.slice A m c) m (x.log.flatMap Upd.enc) ∧ Below w.heap.size w w'
theorem takeM_none {x : Nod} {u : Upd} (h : ¬ (nodeOk x = true ∧ updOk u.key u.value = true ∧ x.log.length ≠ 12)) : takeM x u = none := if_neg h
theorem takeM_some {x : Nod} {u : Upd} (h1 : nodeOk x = true) (h2 : updOk u.key u.value = true) (h3 : x.log.length ≠ 12) : takeM x u = some ⟨x.id, x.log ++ [u], x.done⟩ := if_pos ⟨h1, h2, h3⟩
theorem res_three {w w1 : World} {s : Nat} {u v t a b c : Value} (hk : Blk w1 s #[u, v, t] 78) (hs : w.heap.size ≤ s) (hb : Below w.heap.size w w1) :
    (w1.cell? ⟨s, 0, none⟩ = some u ∧ w1.cell? ⟨s, 1, none⟩ = some v ∧ w1.cell? ⟨s, 2, none⟩ = some t ∧ w1.frozen? ⟨s, 0, none⟩ = false ∧ w1.frozen? ⟨s, 1, none⟩ = false ∧ w1.frozen? ⟨s, 2, none⟩ = false) ∧
    ((((w1.setCell ⟨s, 0, none⟩ a).setCell ⟨s, 1, none⟩ b).setCell ⟨s, 2, none⟩ c).cell? ⟨s, 0, none⟩ = some a ∧ (((w1.setCell ⟨s, 0, none⟩ a).setCell ⟨s, 1, none⟩ b).setCell ⟨s, 2, none⟩ c).cell? ⟨s, 1, none⟩ = some b ∧ (((w1.setCell ⟨s, 0, none⟩ a).setCell ⟨s, 1, none⟩ b).setCell ⟨s, 2, none⟩ c).cell? ⟨s, 2, none⟩ = some c) ∧
    Below w.heap.size w (((w1.setCell ⟨s, 0, none⟩ a).setCell ⟨s, 1, none⟩ b).setCell ⟨s, 2, none⟩ c) ∧
    ∀ {lo n : Nat} {r : Value} {xs : List Value}, w1.ownsRow lo 28 2 r n xs → (((w1.setCell ⟨s, 0, none⟩ a).setCell ⟨s, 1, none⟩ b).setCell ⟨s, 2, none⟩ c).ownsRow lo 28 2 r n xs :=
  have h2 := ((hk.set 0 a).set 1 b).set 2 c
  ⟨⟨hk.cell (i := 0) rfl, hk.cell (i := 1) rfl, hk.cell (i := 2) rfl, hk.free 0, hk.free 1, hk.free 2⟩, ⟨h2.cell (i := 0) rfl, h2.cell (i := 1) rfl, h2.cell (i := 2) rfl⟩, ((hb.setCell (p := ⟨s, 0, none⟩) hs _).setCell (p := ⟨s, 1, none⟩) hs _).setCell (p := ⟨s, 2, none⟩) hs _,
    fun ho => own_keep ho (fun g e => by
      have hne : g ≠ s := by
        rintro rfl
        obtain ⟨ds, hd⟩ := own_blk ho e
        exact absurd (blk_type hd hk) (by decide)
      rw [Below.heap_setCell _ _ _ _ hne, Below.heap_setCell _ _ _ _ hne, Below.heap_setCell _ _ _ _ hne])⟩
theorem NodeRes.none_ {w w1 : World} (hb : Below w.heap.size w w1) : NodeRes w none (.returned (.tuple #[.agg #[.int .i64 0, .slice none 0 0, .int .i64 0], .bool false])) w1 :=
  ⟨_, none, 0, 0, rfl, rfl, rfl, World.ownsRow_nil _ _ _ _, hb⟩
set_option maxRecDepth 100000 in
set_option maxHeartbeats 4000000 in
theorem specNodeTake_any (x : Nod) (u : Upd) (A : Option Addr) (n c : Nat) (w : World) (h : Flat Upd.enc 2 w 0 w.heap.size A n c x.log) (hn : n ≤ 1048576) :
    Calls Mo.prog 114 #[.agg #[.int .i64 x.id, .slice A n c, .int .i64 x.done], .agg #[.int .i64 u.key, .int .i64 u.value]] w (NodeRes w (takeM x u)) := by
  obtain ⟨i0, hi, hz0, hz1, hz2⟩ := info_parts infoUpd
  have HL := Lib.hid h.len
  have H := Lib.hid h
  have H0 := Lib.hid (((h.box (.cells #[.int .i64 x.id, .slice A n c, .int .i64 x.done] 78)).box (.cells #[.int .i64 u.key, .int .i64 u.value] 28)).box (.cells #[.int .i64 0, .slice none 0 0, .int .i64 0] 78))
  have K := Lib.hid (show ∀ w1 : World, Below (((w.alloc (.cells #[.int .i64 x.id, .slice A n c, .int .i64 x.done] 78)).alloc (.cells #[.int .i64 u.key, .int .i64 u.value] 28)).alloc (.cells #[.int .i64 0, .slice none 0 0, .int .i64 0] 78)).heap.size (((w.alloc (.cells #[.int .i64 x.id, .slice A n c, .int .i64 x.done] 78)).alloc (.cells #[.int .i64 u.key, .int .i64 u.value] 28)).alloc (.cells #[.int .i64 0, .slice none 0 0, .int .i64 0] 78)) w1 →
      Blk w1 w.heap.size #[.int .i64 x.id, .slice A n c, .int .i64 x.done] 78 ∧ Blk w1 (w.heap.size + 1) #[.int .i64 u.key, .int .i64 u.value] 28 ∧ Blk w1 (w.heap.size + 1 + 1) #[.int .i64 0, .slice none 0 0, .int .i64 0] 78 ∧ Below w.heap.size w w1 from fun w1 hb => by
    have a := ((((Blk.new w #[.int .i64 x.id, .slice A n c, .int .i64 x.done] 78).alloc (.cells #[.int .i64 u.key, .int .i64 u.value] 28)).alloc (.cells #[.int .i64 0, .slice none 0 0, .int .i64 0] 78))).below hb
    have b := ((Blk.new (w.alloc (.cells #[.int .i64 x.id, .slice A n c, .int .i64 x.done] 78)) #[.int .i64 u.key, .int .i64 u.value] 28).alloc (.cells #[.int .i64 0, .slice none 0 0, .int .i64 0] 78)).below hb
    have d := (Blk.new ((w.alloc (.cells #[.int .i64 x.id, .slice A n c, .int .i64 x.done] 78)).alloc (.cells #[.int .i64 u.key, .int .i64 u.value] 28)) #[.int .i64 0, .slice none 0 0, .int .i64 0] 78).below hb
    simp only [World.size_alloc] at a b d
    exact ⟨a, b, d, below_box (below_box (below_box hb))⟩)
  clear h
  cases hok : nodeOk x
  · have HT := Lib.hid (takeM_none (x := x) (u := u) (by simp [hok]))
    have HO := Lib.hid hok
    clear hok
    go_enter Mo.func114, Tryz.ntmps114
    go_wp2_with fail
    refine (specNodeValid_any x A n c _ H0.out hn).mono ?_
    rintro e w1 ⟨rfl, hb1⟩
    rw [HO.out]
    obtain ⟨_, _, k2, b1⟩ := K.out _ hb1
    have FF := Lib.hid (res_three (a := .int .i64 0) (b := .slice none 0 0) (c := .int .i64 0) k2 (by omega) b1)
    obtain ⟨z0, z1, z2, y0, y1, y2⟩ := FF.out.1
    clear hb1 k2 b1
    go_wp2
    exact bodyPost_ret (v := .tuple #[.agg #[.int .i64 0, .slice none 0 0, .int .i64 0], .bool false]) (by simp [results, Tryz.results114, go_sem, FF.out.2.1.1, FF.out.2.1.2.1, FF.out.2.1.2.2]) rfl (by rw [HT.out]; exact NodeRes.none_ FF.out.2.2.1)
  · have HO := Lib.hid hok
    have hl12 : x.log.length ≤ 12 := by
      have := (nodeOk_log' hok)
      unfold logOk at this
      simp only [Bool.and_eq_true, decide_eq_true_eq] at this
      exact this.1
    rw [HL.out] at hl12
    cases hu : updOk u.key u.value
    · have HT := Lib.hid (takeM_none (x := x) (u := u) (by simp [hu]))
      have HU := Lib.hid hu
      clear hu hok
      go_enter Mo.func114, Tryz.ntmps114
      go_wp2_with fail
      refine (specNodeValid_any x A n c _ H0.out hn).mono ?_
      rintro e w1 ⟨rfl, hb1⟩
      rw [HO.out]
      obtain ⟨_, k1, k2, b1⟩ := K.out _ hb1
      have u0 := k1.cell (i := 0) (v := .int .i64 u.key) rfl
      have u1 := k1.cell (i := 1) (v := .int .i64 u.value) rfl
      have K2 := Lib.hid k2
      have B1 := Lib.hid b1
      clear hb1 k1 k2 b1
      go_wp2_with fail
      refine (specUpdateValid_any _ _ _).mono ?_
      rintro e w2 ⟨rfl, hb2⟩
      rw [HU.out]
      have FF := Lib.hid (res_three (a := .int .i64 0) (b := .slice none 0 0) (c := .int .i64 0) (K2.out.below hb2) (show w.heap.size ≤ w.heap.size + 1 + 1 by omega) (B1.out.trans (hb2.mono B1.out.size)))
      obtain ⟨z0, z1, z2, y0, y1, y2⟩ := FF.out.1
      clear hb2 u0 u1
      go_wp2
      exact bodyPost_ret (v := .tuple #[.agg #[.int .i64 0, .slice none 0 0, .int .i64 0], .bool false]) (by simp [results, Tryz.results114, go_sem, FF.out.2.1.1, FF.out.2.1.2.1, FF.out.2.1.2.2]) rfl (by rw [HT.out]; exact NodeRes.none_ FF.out.2.2.1)
    · have HU := Lib.hid hu
      by_cases h12 : n = 12
      · have HT := Lib.hid (takeM_none (x := x) (u := u) (by simp [HL.out, h12]))
        have hq : ((n : Int) == 12) = true := by simp [h12]
        clear hu hok h12
        go_enter Mo.func114, Tryz.ntmps114
        go_wp2_with fail
        refine (specNodeValid_any x A n c _ H0.out hn).mono ?_
        rintro e w1 ⟨rfl, hb1⟩
        rw [HO.out]
        obtain ⟨k0, k1, k2, b1⟩ := K.out _ hb1
        have u0 := k1.cell (i := 0) (v := .int .i64 u.key) rfl
        have u1 := k1.cell (i := 1) (v := .int .i64 u.value) rfl
        have K0 := Lib.hid k0
        have K2 := Lib.hid k2
        have B1 := Lib.hid b1
        clear hb1 k1 k2 b1 k0
        go_wp2_with fail
        refine (specUpdateValid_any _ _ _).mono ?_
        rintro e w2 ⟨rfl, hb2⟩
        rw [HU.out]
        have a1 := (K0.out.below hb2).cell (i := 1) (v := .slice A n c) rfl
        have FF := Lib.hid (res_three (a := .int .i64 0) (b := .slice none 0 0) (c := .int .i64 0) (K2.out.below hb2) (show w.heap.size ≤ w.heap.size + 1 + 1 by omega) (B1.out.trans (hb2.mono B1.out.size)))
        obtain ⟨z0, z1, z2, y0, y1, y2⟩ := FF.out.1
        clear hb2 u0 u1
        go_wp2
        exact bodyPost_ret (v := .tuple #[.agg #[.int .i64 0, .slice none 0 0, .int .i64 0], .bool false]) (by simp [results, Tryz.results114, go_sem, FF.out.2.1.1, FF.out.2.1.2.1, FF.out.2.1.2.2]) rfl (by rw [HT.out]; exact NodeRes.none_ FF.out.2.2.1)
      · have HT := Lib.hid (takeM_some (x := x) (u := u) hok hu (by rw [HL.out]; exact h12))
        have hq : ((n : Int) == 12) = false := by simp; omega
        have hpn : (x.log ++ [u]).length = n + 1 := by simp [HL.out]
        have HPN := Lib.hid hpn
        clear hu hok h12 hpn
        go_enter Mo.func114, Tryz.ntmps114
        go_wp2_with fail
        refine (specNodeValid_any x A n c _ H0.out hn).mono ?_
        rintro e w1 ⟨rfl, hb1⟩
        rw [HO.out]
        obtain ⟨k0, k1, k2, b1⟩ := K.out _ hb1
        have u0 := k1.cell (i := 0) (v := .int .i64 u.key) rfl
        have u1 := k1.cell (i := 1) (v := .int .i64 u.value) rfl
        have K0 := Lib.hid k0
        have K1 := Lib.hid k1
        have K2 := Lib.hid k2
        have B1 := Lib.hid b1
        clear hb1 k1 k2 b1 k0
        go_wp2_with fail
        refine (specUpdateValid_any _ _ _).mono ?_
        rintro e w2 ⟨rfl, hb2⟩
        rw [HU.out]
        have a0 := (K0.out.below hb2).cell (i := 0) (v := .int .i64 x.id) rfl
        have a1 := (K0.out.below hb2).cell (i := 1) (v := .slice A n c) rfl
        have a2 := (K0.out.below hb2).cell (i := 2) (v := .int .i64 x.done) rfl
        have B2 := Lib.hid (B1.out.trans (hb2.mono B1.out.size))
        have K1' := Lib.hid (K1.out.below hb2)
        have K2' := Lib.hid (K2.out.below hb2)
        have F2 := Lib.hid (H.out.on B2.out)
        have hs2 := B2.out.size
        clear hb2 u0 u1
        go_wp2_with fail
        refine (l3Copy_any x A n c _ F2.out hn).mono ?_
        rintro e w3 ⟨A3, m3, c3, rfl, hm3, hown3, hb3⟩
        obtain rfl : m3 = n := by rw [← hm3]; exact HL.out
        obtain ⟨w4, hw4⟩ : ∃ w4 : World, w3.alloc (.cells #[.int .i64 x.id, .slice A3 m3 c3, .int .i64 x.done] 78) = w4 := ⟨_, rfl⟩
        have nb := Blk.new w3 #[.int .i64 x.id, .slice A3 m3 c3, .int .i64 x.done] 78
        have O4 := (hown3.mono hs2).alloc (.cells #[.int .i64 x.id, .slice A3 m3 c3, .int .i64 x.done] 78)
        have B4 := (B2.out.trans (hb3.mono hs2)).alloc (B2.out.trans (hb3.mono hs2)).size (.cells #[.int .i64 x.id, .slice A3 m3 c3, .int .i64 x.done] 78)
        have K14 := (K1'.out.below hb3).alloc (.cells #[.int .i64 x.id, .slice A3 m3 c3, .int .i64 x.done] 78)
        have K24 := (K2'.out.below hb3).alloc (.cells #[.int .i64 x.id, .slice A3 m3 c3, .int .i64 x.done] 78)
        rw [hw4] at nb O4 B4 K14 K24
        have v1 := nb.cell (i := 1) (v := .slice A3 m3 c3) rfl
        have u0 := K14.cell (i := 0) (v := .int .i64 u.key) rfl
        have u1 := K14.cell (i := 1) (v := .int .i64 u.value) rfl
        have NB := Lib.hid nb
        have HO4 := Lib.hid O4
        have HB4 := Lib.hid B4
        have HK24 := Lib.hid K24
        have hs3 : w.heap.size ≤ w3.heap.size := Nat.le_trans hs2 hb3.size
        have hs23 := hb3.size
        have hs22 := K2'.out.lt
        have hs4 : w3.heap.size < w4.heap.size := nb.lt
        clear a0 a1 a2 hown3 hb3 nb O4 B4 K14 K24
        go_wp2_with (at_builtin; go_loud (refine wpList_append_src _ rfl (.tmp 25) (.tmp 27) 76 rfl w.heap.size 28 i0 _ 2 16 Mo.underlying76 hi hz0 hz1 hz2 rfl (by omega) (.slice A3 m3 c3) m3 (x.log.flatMap Upd.enc) rfl (HO4.out.alloc _) (some ⟨_, 0, none⟩) 1 1 u.enc rfl (src_row _ #[.int .i64 u.key, .int .i64 u.value] 28 2 _ rfl rfl) (Upd.one u) (by unfold maxLen; omega) (by omega) (by simp; omega) ?_; intro v6 w6 hown6 hg6; rw [show x.log.flatMap Upd.enc ++ u.enc = (x.log ++ [u]).flatMap Upd.enc by simp] at hown6; obtain ⟨A6, c6, rfl, _⟩ := own_flat Upd.len hown6 HPN.out; have nb6 := (NB.out.alloc _).grown hg6 (fun e => by obtain ⟨ds, hd⟩ := own_blk HO4.out e.symm; exact absurd (blk_type NB.out hd) (by decide)); have rb6 := (HK24.out.alloc _).grown hg6 (fun e => by obtain ⟨ds, hd⟩ := own_blk HO4.out e.symm; exact absurd (blk_type HK24.out hd) (by decide)); have B6 := (HB4.out.alloc HB4.out.size (.cells #[.int .i64 u.key, .int .i64 u.value] 28)).grown hg6 (by simp; omega) (fun k e => (HO4.out.lt k e).1); have t1 := nb6.cell (i := 1) (v := .slice A3 m3 c3) rfl; have f1 := nb6.free 1; have nb7 := nb6.set 1 (.slice A6 (m3 + 1) c6); have rb7 := rb6.far (a := ⟨w3.heap.size, 1, none⟩) (by show w.heap.size + 1 + 1 ≠ w3.heap.size; omega) (.slice A6 (m3 + 1) c6); have B7 := B6.setCell (p := ⟨w3.heap.size, 1, none⟩) hs3 (.slice A6 (m3 + 1) c6); have O7 := own_keep hown6 (W' := w6.setCell ⟨w3.heap.size, 1, none⟩ (.slice A6 (m3 + 1) c6)) (fun g e => Below.heap_setCell _ _ _ _ (by rintro rfl; obtain ⟨ds, hd⟩ := own_blk hown6 e; exact absurd (blk_type hd nb6) (by decide))); obtain ⟨w7, hw7⟩ : ∃ w7 : World, w6.setCell ⟨w3.heap.size, 1, none⟩ (.slice A6 (m3 + 1) c6) = w7 := ⟨_, rfl⟩; rw [hw7] at nb7 rb7 B7 O7; have r0 := nb7.cell (i := 0) (v := .int .i64 x.id) rfl; have r1 := nb7.cell (i := 1) (v := .slice A6 (m3 + 1) c6) rfl; have r2 := nb7.cell (i := 2) (v := .int .i64 x.done) rfl; have FF := Lib.hid (res_three (a := .int .i64 x.id) (b := .slice A6 (m3 + 1) c6) (c := .int .i64 x.done) rb7 (show w.heap.size ≤ w.heap.size + 1 + 1 by omega) B7); obtain ⟨z0, z1, z2, y0, y1, y2⟩ := FF.out.1; have HO7 := Lib.hid O7; clear hown6 hg6 nb6 rb6 B6 nb7 rb7 B7 O7))
        exact bodyPost_ret (v := .tuple #[.agg #[.int .i64 x.id, .slice A6 (m3 + 1) c6, .int .i64 x.done], .bool true]) (by simp [results, Tryz.results114, go_sem, FF.out.2.1.1, FF.out.2.1.2.1, FF.out.2.1.2.2]) rfl ⟨⟨x.id, x.log ++ [u], x.done⟩, A6, m3 + 1, c6, by rw [HT.out]; rfl, by rw [HT.out]; rfl, HPN.out, FF.out.2.2.2 HO7.out, FF.out.2.2.1⟩
end Go.Proofs.YtemgilofjbnoaaaGreatDoor
namespace Go.Proofs.YtemgilofjbnoaaaGreatDoor
open Go.RowKit
set_option maxHeartbeats 400000 in
theorem szCallS_any (A : Option Addr) (n c : Nat) (left : Int) (w : World) (h0 : 0 ≤ left) (h1 : left ≤ 1048576) (hn : n ≤ 9223372036854775807) :
    Calls Mo.prog 18 #[.slice A n c, .int .i64 left] w fun e w' => e = .returned (.int .i64 (if (n : Int) ≤ left then left - n else -1)) ∧ w = w' := by
  by_cases hl : (n : Int) ≤ left
  all_goals
    go_enter Mo.func18, Tryz.ntmps18
    go_wp2
    go_ret
    exact ⟨ret_int (by simp [hl]), rfl⟩
set_option maxHeartbeats 400000 in
theorem toUpdate_any (k v : Int) (w : World) :
    Calls Mo.prog 53 #[.agg #[.int .i64 k, .int .i64 v]] w fun e w' => e = .returned (.agg #[.int .i64 k, .int .i64 v]) ∧ Below w.heap.size w w' := by
  go_enter Mo.func53, Tryz.ntmps53
  go_wp2
  refine bodyPost_ret (v := .agg #[.int .i64 k, .int .i64 v]) (by simp [results, Tryz.results53, go_sem]) rfl ⟨rfl, ?_⟩
  go_grown
set_option maxHeartbeats 400000 in
theorem eqUpdate_same (k v : Int) (w : World) :
    Calls Mo.prog 83 #[.agg #[.int .i64 k, .int .i64 v], .agg #[.int .i64 k, .int .i64 v]] w fun e w' => e = .returned (.bool true) ∧ Below w.heap.size w w' := by
  go_enter Mo.func83, Tryz.ntmps83
  go_wp2
  go_ret
  exact ⟨rfl, by go_grown⟩
end Go.Proofs.YtemgilofjbnoaaaGreatDoor
namespace Go.Proofs.YtemgilofjbnoaaaGreatDoor
open Go.RowKit
set_option maxHeartbeats 400000 in
theorem szUpdateS_any (A : Option Addr) (n c : Nat) (left : Int) (w : World) (h0 : 0 ≤ left) (h1 : left ≤ 1048576) (hn : n ≤ 9223372036854775807) :
    Calls Mo.prog 103 #[.slice A n c, .int .i64 left] w fun e w' => e = .returned (.int .i64 (if (n : Int) ≤ left then left - n else -1)) ∧ w = w' := by
  by_cases hl : (n : Int) ≤ left
  all_goals
    go_enter Mo.func103, Tryz.ntmps103
    go_wp2
    go_ret
    exact ⟨ret_int (by simp), rfl⟩
set_option maxHeartbeats 400000 in
theorem szNode_any (id done : Int) (A : Option Addr) (n c : Nat) (left : Int) (w : World) (h0 : 0 ≤ left) (h1 : left ≤ 1048576) (hn : n ≤ 9223372036854775807) :
    Calls Mo.prog 80 #[.agg #[.int .i64 id, .slice A n c, .int .i64 done], .int .i64 left] w fun e w' => e = .returned (.int .i64 (if (n : Int) ≤ left then left - n else -1)) ∧ Below w.heap.size w w' := by
  by_cases hl : (n : Int) ≤ left
  · have hif : (if (n : Int) ≤ left then left - n else -1) = left - n := if_pos hl
    rw [hif]
    have HI := Lib.hid hif
    clear hif
    have hnn : 0 ≤ left - (n : Int) := by omega
    go_enter Mo.func80, Tryz.ntmps80
    go_wp2_with (go_at_call 103; refine (szUpdateS_any _ _ _ _ _ h0 h1 hn).mono ?_; rintro e w' ⟨rfl, rfl⟩; rw [HI.out])
    go_ret
    exact ⟨rfl, (Below.refl _ _).alloc (Nat.le_refl _) _⟩
  · have hif : (if (n : Int) ≤ left then left - n else -1) = -1 := if_neg hl
    rw [hif]
    have HI := Lib.hid hif
    clear hif
    go_enter Mo.func80, Tryz.ntmps80
    go_wp2_with (go_at_call 103; refine (szUpdateS_any _ _ _ _ _ h0 h1 hn).mono ?_; rintro e w' ⟨rfl, rfl⟩; rw [HI.out])
    go_ret
    exact ⟨rfl, (Below.refl _ _).alloc (Nat.le_refl _) _⟩
set_option maxHeartbeats 1000000 in
theorem toUpdateS_any (A : Option Addr) (n c : Nat) (l : List Upd) (w : World) (h : Flat Upd.enc 2 w 0 w.heap.size A n c l) (hn : n ≤ 1048576) :
    Calls Mo.prog 104 #[.slice A n c] w (LogCopied w n l) := by
  have hlen := h.len
  obtain ⟨i0, hi, hz0, hz1, hz2⟩ := info_parts infoUpd
  have hmk := fun W => make_rows (P := Mo.prog) 76 28 i0 _ Mo.underlying76 hi hz0 n (by rw [hz2]; omega) (by omega) W
  rw [hz1] at hmk
  have H := Lib.hid h
  have HL := Lib.hid hlen
  clear h hlen hi hz0 hz1 hz2
  obtain ⟨Z, hZ⟩ : ∃ Z, Z = madeCells (Value.agg #[.int .i64 0, .int .i64 0]).cells (n * 2) := ⟨_, rfl⟩
  rw [← hZ] at hmk
  have hZs : Z.size = n * 2 := by rw [hZ]; exact size_madeCells _ _
  have HZ := Lib.hid hZs
  clear hZs hZ
  go_enter Mo.func104, Tryz.ntmps104
  go_wp2
  clear hmk
  go_loopw [4] (fun i wr => ∃ k : Nat, k ≤ n ∧ i = .int .i64 k ∧ Hid (∃ cs, wr.heap[w.heap.size]? = some (.cells cs 28 (0, 0)) ∧ Filled Upd.enc 2 cs l k) ∧ Below w.heap.size w wr)
    (fun i _ => n - (intOf i).toNat)
  case atStart => exact ⟨0, Nat.zero_le _, rfl, ⟨Z, heap_alloc_new _ _, Filled.zero (by rw [HZ.out, HL.out])⟩, (Below.refl _ _).alloc (Nat.le_refl _) _⟩
  case round =>
    obtain ⟨k, hk, rfl, hfill, hB⟩ := hrel
    have HW := Lib.hid (H.out.below hB (Nat.le_refl _))
    have HB := Lib.hid hB
    have hsz := hB.size
    clear hB H
    by_cases hlt : k < n
    · obtain ⟨b, off, x, rfl, _, hbB, hx, c0, c1⟩ := HW.out.upd hlt
      have Hx := Lib.hid hx
      clear hx
      obtain ⟨cs, hg, hf⟩ := hfill.out
      have Hg := Lib.hid hg
      have Hf := Lib.hid hf
      have hgs := lt_of_block hg
      have hfs := hf.1
      clear hg hf hfill
      have hlen := HL.out
      have hfs' : k * 2 + 2 ≤ cs.size := by omega
      clear hlen hfs
      go_wp2_with (go_at_call 53; refine (toUpdate_any _ _ _).mono ?_; rintro e w1 ⟨rfl, hb1⟩; have Hb1 := Lib.hid hb1; have hg1 := (hb1.block w.heap.size hgs).trans Hg.out; have Hg1 := Lib.hid hg1; obtain ⟨v0, q0⟩ := row_cell (i := k * 2) hg1 (by omega); obtain ⟨v1, q1⟩ := row_cell (i := k * 2 + 1) hg1 (by omega); have f0 := row_free hg1 (k * 2); have f1 := row_free hg1 (k * 2 + 1); clear hb1 hg1)
      go_roundw
      case rel =>
        refine ⟨k + 1, by omega, by go_num, ⟨_, heap_setCell_at (heap_setCell_at Hg1.out _) _, Filled.step Upd.len Hf.out Hx.out⟩, ?_⟩
        exact (HB.out.trans (Hb1.out.mono hsz)).setCell (Nat.le_refl _) _ |>.setCell (Nat.le_refl _) _
      case measure => simp [intOf]; omega
    · obtain rfl : n = k := by omega
      obtain ⟨cs, hg, hf⟩ := hfill.out
      have Hg := Lib.hid hg
      have Hf := Lib.hid hf
      clear hg hf hfill
      go_wp2
      go_ret
      exact ⟨rfl, Filled.own Upd.len (by omega) Hf.out HL.out Hg.out (Nat.le_refl _) (by unfold maxLen; omega), HB.out⟩
set_option maxHeartbeats 1000000 in
theorem eqUpdateS_same (A B : Option Addr) (n c d : Nat) (l : List Upd) (w : World) (h : Flat Upd.enc 2 w 0 w.heap.size A n c l) (h' : Flat Upd.enc 2 w 0 w.heap.size B n d l) (hn : n ≤ 1048576) :
    Calls Mo.prog 105 #[.slice A n c, .slice B n d] w fun e w' => e = .returned (.bool true) ∧ Below w.heap.size w w' := by
  have H := Lib.hid h
  have H' := Lib.hid h'
  clear h h'
  go_enter Mo.func105, Tryz.ntmps105
  go_wp2
  go_loopw [5] (fun i wr => ∃ k : Nat, k ≤ n ∧ i = .int .i64 k ∧ Below w.heap.size w wr) (fun i _ => n - (intOf i).toNat)
  case atStart => exact ⟨0, Nat.zero_le _, rfl, Below.refl _ _⟩
  case round =>
    obtain ⟨k, hk, rfl, hB⟩ := hrel
    have HW := Lib.hid (H.out.below hB (Nat.le_refl _))
    have HW' := Lib.hid (H'.out.below hB (Nat.le_refl _))
    have HB := Lib.hid hB
    have hsz := hB.size
    clear hB H H'
    by_cases hlt : k < n
    · obtain ⟨b, off, x, rfl, _, _, hx, c0, c1⟩ := HW.out.upd hlt
      obtain ⟨b', off', x', rfl, _, _, hx', c0', c1'⟩ := HW'.out.upd hlt
      obtain rfl : x = x' := by rw [hx] at hx'; injection hx'
      clear hx hx'
      have d0 := cell_regrown c0
      have d1 := cell_regrown c1
      have d0' := cell_regrown c0'
      have d1' := cell_regrown c1'
      have hk0 : (0 : Int) ≤ (k : Int) := by omega
      have hkn : (k : Int) < (n : Int) := by omega
      go_wp2_with fail
      refine wp_region_quiet_below (by kernel_rfl) (by kernel_rfl) ?_
      repeat (go_big_quiet_step ((go_at_call 83; exact Calls.regrown_of (eqUpdate_same _ _ _))))
      refine wpQuiet_nil ?_
      intro w2 hw2
      have hb2 := Lib.hid (below_of_regrown hw2)
      clear hw2 d0 d1 d0' d1'
      go_wp2
      go_roundw
      case rel => exact ⟨k + 1, by omega, by go_num, HB.out.trans (hb2.out.mono hsz)⟩
      case measure => simp [intOf]; omega
    · go_wp2
      go_ret
      exact ⟨rfl, HB.out⟩
set_option maxHeartbeats 2000000 in
theorem toNode_any (x : Nod) (A : Option Addr) (n c : Nat) (w : World) (h : Flat Upd.enc 2 w 0 w.heap.size A n c x.log) (hn : n ≤ 1048576) :
    Calls Mo.prog 81 #[.agg #[.int .i64 x.id, .slice A n c, .int .i64 x.done]] w (NodeCopied w x n) := by
  have HL := Lib.hid h.len
  have H := Lib.hid h
  clear h
  go_enter Mo.func81, Tryz.ntmps81
  go_wp2_with fail
  have F0 := Lib.hid (((H.out.box (.cells #[.int .i64 x.id, .slice A n c, .int .i64 x.done] 109)).box (.cells #[.int .i64 0, .slice none 0 0, .int .i64 0] 78)).box (.cells #[.int .i64 x.id, .slice none 0 0, .int .i64 0] 78))
  have KB := Lib.hid (((Blk.new w #[.int .i64 x.id, .slice A n c, .int .i64 x.done] 109).alloc (.cells #[.int .i64 0, .slice none 0 0, .int .i64 0] 78)).alloc (.cells #[.int .i64 x.id, .slice none 0 0, .int .i64 0] 78))
  have KR := Lib.hid ((Blk.new (w.alloc (.cells #[.int .i64 x.id, .slice A n c, .int .i64 x.done] 109)) #[.int .i64 0, .slice none 0 0, .int .i64 0] 78).alloc (.cells #[.int .i64 x.id, .slice none 0 0, .int .i64 0] 78))
  have KS := Lib.hid (Blk.new ((w.alloc (.cells #[.int .i64 x.id, .slice A n c, .int .i64 x.done] 109)).alloc (.cells #[.int .i64 0, .slice none 0 0, .int .i64 0] 78)) #[.int .i64 x.id, .slice none 0 0, .int .i64 0] 78)
  refine (toUpdateS_any _ _ _ x.log _ F0.out hn).mono ?_
  rintro e w1 ⟨rfl, hown1, hb1⟩
  have B1 := Lib.hid (below_box (below_box' (below_box' hb1)))
  have kb := KB.out.below hb1
  have kr := KR.out.below hb1
  have ks := KS.out.below hb1
  simp only [World.size_alloc] at kr ks hown1
  have b2 := kb.cell (i := 2) rfl
  have s0 := ks.cell (i := 0) rfl
  have s1 := ks.cell (i := 1) rfl
  have s2 := ks.cell (i := 2) rfl
  have t1 := ks.free 1
  have t2 := ks.free 2
  have z0 := kr.cell (i := 0) rfl
  have z1 := kr.cell (i := 1) rfl
  have z2 := kr.cell (i := 2) rfl
  have y0 := kr.free 0
  have y1 := kr.free 1
  have y2 := kr.free 2
  have r1 := kr.far (a := ⟨w.heap.size + 1 + 1, 1, none⟩) (show w.heap.size + 1 ≠ w.heap.size + 1 + 1 by omega) (.slice (some ⟨w.heap.size + 1 + 1 + 1, 0, none⟩) n n)
  have r2 := r1.far (a := ⟨w.heap.size + 1 + 1, 2, none⟩) (show w.heap.size + 1 ≠ w.heap.size + 1 + 1 by omega) (.int .i64 x.done)
  obtain ⟨e0, e1, e2⟩ := three_stores _ (w.heap.size + 1) (r2.cell (i := 0) rfl) (r2.cell (i := 1) rfl) (r2.cell (i := 2) rfl)
  have E := Lib.hid (And.intro e0 (And.intro e1 e2))
  have O1 := Lib.hid hown1
  clear hb1 hown1 kb kr ks r1 r2 e0 e1 e2
  go_wp2
  obtain ⟨e0, e1, e2⟩ := E.out
  refine bodyPost_ret (v := .agg #[.int .i64 x.id, .slice (some ⟨w.heap.size + 1 + 1 + 1, 0, none⟩) n n, .int .i64 x.done]) (by simp [results, Tryz.results81, go_sem, e0, e1, e2]) rfl ⟨w.heap.size + 1 + 1 + 1, rfl, ?_, ?_⟩
  · refine own_keep (O1.out.mono (by omega)) (fun q hq => ?_)
    have : w.heap.size + 1 + 1 + 1 = q := by simpa [Value.ownBlock] using hq
    have hr : q ≠ w.heap.size + 1 := by omega
    have hs : q ≠ w.heap.size + 1 + 1 := by omega
    rw [Below.heap_setCell _ _ _ _ hr, Below.heap_setCell _ _ _ _ hr, Below.heap_setCell _ _ _ _ hr, Below.heap_setCell _ _ _ _ hs, Below.heap_setCell _ _ _ _ hs]
  · have hr : w.heap.size ≤ w.heap.size + 1 := by omega
    have hs : w.heap.size ≤ w.heap.size + 1 + 1 := by omega
    exact ((((B1.out.setCell (p := ⟨w.heap.size + 1 + 1, 1, none⟩) hs _).setCell (p := ⟨w.heap.size + 1 + 1, 2, none⟩) hs _).setCell (p := ⟨w.heap.size + 1, 0, none⟩) hr _).setCell (p := ⟨w.heap.size + 1, 1, none⟩) hr _).setCell (p := ⟨w.heap.size + 1, 2, none⟩) hr _
set_option maxHeartbeats 2000000 in
theorem eqNode_same (x : Nod) (A B : Option Addr) (n c d : Nat) (w : World) (h : Flat Upd.enc 2 w 0 w.heap.size A n c x.log) (h' : Flat Upd.enc 2 w 0 w.heap.size B n d x.log) (hn : n ≤ 1048576) :
    Calls Mo.prog 82 #[.agg #[.int .i64 x.id, .slice A n c, .int .i64 x.done], .agg #[.int .i64 x.id, .slice B n d, .int .i64 x.done]] w fun e w' => e = .returned (.bool true) ∧ Below w.heap.size w w' := by
  have H := Lib.hid h
  have H' := Lib.hid h'
  have H0 := Lib.hid ((h.box (.cells #[.int .i64 x.id, .slice A n c, .int .i64 x.done] 78)).box (.cells #[.int .i64 x.id, .slice B n d, .int .i64 x.done] 78))
  have H0' := Lib.hid ((h'.box (.cells #[.int .i64 x.id, .slice A n c, .int .i64 x.done] 78)).box (.cells #[.int .i64 x.id, .slice B n d, .int .i64 x.done] 78))
  clear h h'
  go_enter Mo.func82, Tryz.ntmps82
  go_wp2_with (go_at_call 105; refine (eqUpdateS_same _ _ _ _ _ x.log _ H0.out H0'.out hn).mono ?_; rintro e w1 ⟨rfl, hb1⟩; have B1 := Lib.hid (below_box (below_box' hb1)); have q2 := (two_box hb1).1 2; have r2 := (two_box hb1).2.1 2; clear hb1)
  go_ret
  exact ⟨rfl, B1.out⟩
end Go.Proofs.YtemgilofjbnoaaaGreatDoor
namespace Go.Proofs.YtemgilofjbnoaaaGreatDoor
open Go.RowKit Go.Sort
def SizeLeft (w : World) (left : Int) (n : Nat) (l : List Nod) (e : Ending) (w' : World) : Prop :=
  ∃ v : Int, e = .returned (.int .i64 v) ∧ (v < 0 ∨ (0 ≤ v ∧ v ≤ left ∧ (n : Int) ≤ left ∧ ∀ x ∈ l, (x.log.length : Int) ≤ left)) ∧ Below w.heap.size w w'
set_option maxHeartbeats 1000000 in
theorem szNodeS_any (A : Option Addr) (n c : Nat) (l : List Nod) (left : Int) (w : World) (h : Nods w 0 w.heap.size A n c l) (h0 : 0 ≤ left) (h1 : left ≤ 1048576) :
    Calls Mo.prog 51 #[.slice A n c, .int .i64 left] w (SizeLeft w left n l) := by
  have hnc : n ≤ 9223372036854775807 := by have := h.cap; unfold maxLen at this; omega
  have HL := Lib.hid h.len
  have H := Lib.hid h
  clear h
  by_cases hle : (n : Int) ≤ left
  case neg =>
    go_enter Mo.func51, Tryz.ntmps51
    go_wp2
    go_ret
    exact ⟨-1, rfl, .inl (by omega), Below.refl _ _⟩
  case pos =>
  go_enter Mo.func51, Tryz.ntmps51
  go_wp2_with fail
  go_loopw [1, 5] (fun q i wr => ∃ (k : Nat) (v : Int), k ≤ n ∧ i = .int .i64 k ∧ q = .int .i64 v ∧ 0 ≤ v ∧ v ≤ left ∧ Hid (∀ (j : Nat) (x : Nod), j < k → l[j]? = some x → (x.log.length : Int) ≤ left) ∧ Below w.heap.size w wr)
    (fun _ i _ => n - (intOf i).toNat)
  case atStart => exact ⟨0, left - n, Nat.zero_le _, rfl, rfl, by omega, by omega, fun _ _ h => absurd h (by omega), Below.refl _ _⟩
  case round =>
    obtain ⟨k, v, hk, rfl, rfl, hv0, hv1, hall, hB⟩ := hrel
    have HW := Lib.hid (H.out.below hB (Nat.le_refl _))
    have HB := Lib.hid hB
    have hsz := hB.size
    clear hB H
    by_cases hlt : k < n
    · obtain ⟨b, off, x, A', m, d, rfl, _, hbB, hx, c0, c1, c2, hf⟩ := HW.out.nod hlt
      have hm : m ≤ 9223372036854775807 := by have := hf.2.1; have := hf.2.2.1; unfold maxLen at *; omega
      have HM := Lib.hid hf.len
      have Hx := Lib.hid hx
      clear hx hf
      by_cases hmv : (m : Int) ≤ v
      · have hif : (if (m : Int) ≤ v then v - m else -1) = v - m := if_pos hmv
        have HI := Lib.hid hif
        have hnn : 0 ≤ v - (m : Int) := by omega
        clear hif
        go_wp2_with (go_at_call 80; refine (szNode_any _ _ _ _ _ _ _ hv0 (by omega) hm).mono ?_; rintro e w1 ⟨rfl, hb1⟩; rw [HI.out]; have B1 := Lib.hid (HB.out.trans (hb1.mono hsz)); clear hb1)
        go_roundw
        case rel =>
          refine ⟨k + 1, v - m, by omega, by go_num, rfl, by omega, by omega, ?_, B1.out⟩
          intro j y hj hy
          by_cases e : j = k
          · subst e
            have := Hx.out
            rw [this] at hy; injection hy with hy; subst hy
            have := HM.out; omega
          · exact hall.out j y (by omega) hy
        case measure => simp [intOf]; omega
      · have hif : (if (m : Int) ≤ v then v - m else -1) = -1 := if_neg hmv
        have HI := Lib.hid hif
        clear hif
        go_wp2_with (go_at_call 80; refine (szNode_any _ _ _ _ _ _ _ hv0 (by omega) hm).mono ?_; rintro e w1 ⟨rfl, hb1⟩; rw [HI.out]; have B1 := Lib.hid (HB.out.trans (hb1.mono hsz)); clear hb1)
        go_ret
        exact ⟨-1, rfl, .inl (by omega), B1.out⟩
    · obtain rfl : n = k := by omega
      go_wp2
      go_ret
      refine ⟨v, rfl, .inr ⟨hv0, hv1, hle, fun x hx => ?_⟩, HB.out⟩
      obtain ⟨j, hj⟩ := List.getElem?_of_mem hx
      exact hall.out j x (by have := (List.getElem?_eq_some_iff.1 hj).1; have := HL.out; omega) hj
set_option maxHeartbeats 1000000 in
theorem szChain_any (view : Int) (A : Option Addr) (n c : Nat) (l : List Nod) (left : Int) (w : World) (h : Nods w 0 w.heap.size A n c l) (h0 : 0 ≤ left) (h1 : left ≤ 1048576) :
    Calls Mo.prog 17 #[.agg #[.int .i64 view, .slice A n c], .int .i64 left] w (SizeLeft w left n l) := by
  have H := Lib.hid (h.box (.cells #[.int .i64 view, .slice A n c] 44))
  clear h
  go_enter Mo.func17, Tryz.ntmps17
  go_wp2_with fail
  refine (szNodeS_any _ _ _ l _ _ H.out h0 h1).mono ?_
  rintro e w1 ⟨v, rfl, hv, hb1⟩
  have HV := Lib.hid hv
  have B1 := Lib.hid (below_box hb1)
  clear hv hb1
  by_cases hv0 : v < 0
  · go_wp2
    go_ret
    exact ⟨-1, rfl, .inl (by omega), B1.out⟩
  · go_wp2
    go_ret
    exact ⟨v, rfl, HV.out, B1.out⟩
set_option maxHeartbeats 2000000 in
theorem toNodeS_any (A : Option Addr) (n c : Nat) (l : List Nod) (w : World) (h : Nods w 0 w.heap.size A n c l) (hn : n ≤ 1048576) (hlog : ∀ x ∈ l, x.log.length ≤ 1048576) :
    Calls Mo.prog 52 #[.slice A n c] w fun e w' => e = .returned (.slice (some ⟨w.heap.size, 0, none⟩) n n) ∧ NodRow w' w.heap.size w'.heap.size (.slice (some ⟨w.heap.size, 0, none⟩) n n) l ∧ Below w.heap.size w w' := by
  have hlen := h.len
  obtain ⟨i0, hi, hz0, hz1, hz2⟩ := info_parts infoNode
  have hmk := fun W => make_rows (P := Mo.prog) 23 78 i0 _ Mo.underlying23 hi hz0 n (by rw [hz2]; omega) (by omega) W
  rw [hz1] at hmk
  have H := Lib.hid h
  have HL := Lib.hid hlen
  have HG := Lib.hid hlog
  clear h hlen hlog hi hz0 hz1 hz2
  obtain ⟨Z, hZ⟩ : ∃ Z, Z = madeCells (Value.agg #[.int .i64 0, .slice none 0 0, .int .i64 0]).cells (n * 3) := ⟨_, rfl⟩
  rw [← hZ] at hmk
  have hZs : Z.size = n * 3 := by rw [hZ]; exact size_madeCells _ _
  have HZ := Lib.hid hZs
  clear hZs hZ
  go_enter Mo.func52, Tryz.ntmps52
  go_wp2
  clear hmk
  go_loopw [4] (fun i wr => ∃ k : Nat, k ≤ n ∧ i = .int .i64 k ∧ RowTo wr w.heap.size w.heap.size n l k ∧ Below w.heap.size w wr)
    (fun i _ => n - (intOf i).toNat)
  case atStart => exact ⟨0, Nat.zero_le _, rfl, RowTo.zero (heap_alloc_new _ _) HZ.out (Nat.le_refl _), (Below.refl _ _).alloc (Nat.le_refl _) _⟩
  case round =>
    obtain ⟨k, hk, rfl, hrow, hB⟩ := hrel
    have HW := Lib.hid (H.out.below hB (Nat.le_refl _))
    have HB := Lib.hid hB
    have HR := Lib.hid hrow
    have hsz := hB.size
    clear hB hrow
    by_cases hlt : k < n
    · obtain ⟨b, off, x, A', m, d, rfl, _, hbB, hx, c0, c1, c2, hf⟩ := HW.out.nod hlt
      have hm : m ≤ 1048576 := by have := hf.len; have := HG.out x (List.mem_of_getElem? hx); omega
      have HM := Lib.hid hf.len
      have Hx := Lib.hid hx
      have HF := Lib.hid (hf.mono (Nat.zero_le _) hsz)
      obtain ⟨cs, hg, hcs⟩ := HR.out.block
      have hgs := lt_of_block hg
      have Hg := Lib.hid hg
      have hfs' : k * 3 + 3 ≤ cs.size := by rw [hcs]; omega
      clear hx hf hg hcs
      go_wp2_with (go_at_call 81; refine (toNode_any x _ _ _ _ HF.out hm).mono ?_; rintro e w1 ⟨g1, rfl, hown1, hb1⟩; have Hb1 := Lib.hid hb1; have O1 := Lib.hid hown1; have hg1 := (hb1.block w.heap.size hgs).trans Hg.out; obtain ⟨v0, q0⟩ := row_cell (i := k * 3) hg1 (by omega); obtain ⟨v1, q1⟩ := row_cell (i := k * 3 + 1) hg1 (by omega); obtain ⟨v2, q2⟩ := row_cell (i := k * 3 + 2) hg1 (by omega); have f0 := row_free hg1 (k * 3); have f1 := row_free hg1 (k * 3 + 1); have f2 := row_free hg1 (k * 3 + 2); clear hb1 hg1 hown1)
      go_roundw
      case rel =>
        refine ⟨k + 1, by omega, by go_num, HR.out.step (r := ⟨x.id, some ⟨g1, 0, none⟩, m, m, x.done⟩) Hb1.out Hx.out ⟨rfl, rfl, HM.out⟩ hlt O1.out, ?_⟩
        exact (HB.out.trans (Hb1.out.mono hsz)).setCell (Nat.le_refl _) _ |>.setCell (Nat.le_refl _) _ |>.setCell (Nat.le_refl _) _
      case measure => simp [intOf]; omega
    · obtain rfl : n = k := by omega
      go_wp2
      go_ret
      exact ⟨rfl, HR.out.done HL.out (by unfold maxLen; omega), HB.out⟩
set_option maxHeartbeats 2000000 in
theorem toChain_any (view : Int) (A : Option Addr) (n c : Nat) (l : List Nod) (w : World) (h : Nods w 0 w.heap.size A n c l) (hn : n ≤ 1048576) (hlog : ∀ x ∈ l, x.log.length ≤ 1048576) :
    Calls Mo.prog 19 #[.agg #[.int .i64 view, .slice A n c]] w (ChainLeft w view l) := by
  have HL := Lib.hid h.len
  have HG := Lib.hid hlog
  have H := Lib.hid h
  clear h hlog
  go_enter Mo.func19, Tryz.ntmps19
  go_wp2_with fail
  have F0 := Lib.hid (((H.out.box (.cells #[.int .i64 view, .slice A n c] 44)).box (.cells #[.int .i64 0, .slice none 0 0] 25)).box (.cells #[.int .i64 view, .slice none 0 0] 25))
  have KR := Lib.hid ((Blk.new (w.alloc (.cells #[.int .i64 view, .slice A n c] 44)) #[.int .i64 0, .slice none 0 0] 25).alloc (.cells #[.int .i64 view, .slice none 0 0] 25))
  have KS := Lib.hid (Blk.new ((w.alloc (.cells #[.int .i64 view, .slice A n c] 44)).alloc (.cells #[.int .i64 0, .slice none 0 0] 25)) #[.int .i64 view, .slice none 0 0] 25)
  refine (toNodeS_any _ _ _ l _ F0.out hn HG.out).mono ?_
  rintro e w1 ⟨rfl, hrow1, hb1⟩
  have B1 := Lib.hid (below_box (below_box (below_box hb1)))
  have kr := KR.out.below hb1
  have ks := KS.out.below hb1
  simp only [World.size_alloc] at kr ks hrow1
  have s0 := ks.cell (i := 0) (v := .int .i64 view) rfl
  have s1 := ks.cell (i := 1) (v := .slice none 0 0) rfl
  have t1 := ks.free 1
  have z0 := kr.cell (i := 0) (v := .int .i64 0) rfl
  have z1 := kr.cell (i := 1) (v := .slice none 0 0) rfl
  have y0 := kr.free 0
  have y1 := kr.free 1
  have r1 := kr.far (a := ⟨w.heap.size + 1 + 1, 1, none⟩) (show w.heap.size + 1 ≠ w.heap.size + 1 + 1 by omega) (.slice (some ⟨w.heap.size + 1 + 1 + 1, 0, none⟩) n n)
  obtain ⟨e0, e1⟩ := two_stores _ (w.heap.size + 1) (r1.cell (i := 0) rfl) (r1.cell (i := 1) rfl)
  have E := Lib.hid (And.intro e0 e1)
  have R1 := Lib.hid hrow1
  clear hb1 hrow1 kr ks r1 e0 e1
  go_wp2
  obtain ⟨e0, e1⟩ := E.out
  refine bodyPost_ret (v := .agg #[.int .i64 view, .slice (some ⟨w.heap.size + 1 + 1 + 1, 0, none⟩) n n]) (by simp [results, Tryz.results19, go_sem, e0, e1]) rfl ⟨_, n, n, rfl, HL.out, ?_, ?_⟩
  · refine (R1.out.keep (w' := _) (fun q hq _ => ?_)).lower (by omega) |>.mono (by simp [World.setCell])
    have hr : q ≠ w.heap.size + 1 := by omega
    have hs : q ≠ w.heap.size + 1 + 1 := by omega
    rw [Below.heap_setCell _ _ _ _ hr, Below.heap_setCell _ _ _ _ hr, Below.heap_setCell _ _ _ _ hs]
  · have hr : w.heap.size ≤ w.heap.size + 1 := by omega
    have hs : w.heap.size ≤ w.heap.size + 1 + 1 := by omega
    exact ((B1.out.setCell (p := ⟨w.heap.size + 1 + 1, 1, none⟩) hs _).setCell (p := ⟨w.heap.size + 1, 0, none⟩) hr _).setCell (p := ⟨w.heap.size + 1, 1, none⟩) hr _
set_option maxHeartbeats 2000000 in
theorem eqNodeS_same (A B : Option Addr) (n c d : Nat) (l : List Nod) (w : World) (h : Nods w 0 w.heap.size A n c l) (h' : Nods w 0 w.heap.size B n d l) (hn : n ≤ 1048576) (hlog : ∀ x ∈ l, x.log.length ≤ 1048576) :
    Calls Mo.prog 54 #[.slice A n c, .slice B n d] w fun e w' => e = .returned (.bool true) ∧ Below w.heap.size w w' := by
  have H := Lib.hid h
  have H' := Lib.hid h'
  have HG := Lib.hid hlog
  clear h h' hlog
  go_enter Mo.func54, Tryz.ntmps54
  go_wp2
  go_loopw [5] (fun i wr => ∃ k : Nat, k ≤ n ∧ i = .int .i64 k ∧ Below w.heap.size w wr) (fun i _ => n - (intOf i).toNat)
  case atStart => exact ⟨0, Nat.zero_le _, rfl, Below.refl _ _⟩
  case round =>
    obtain ⟨k, hk, rfl, hB⟩ := hrel
    have HW := Lib.hid (H.out.below hB (Nat.le_refl _))
    have HW' := Lib.hid (H'.out.below hB (Nat.le_refl _))
    have HB := Lib.hid hB
    have hsz := hB.size
    clear hB H H'
    by_cases hlt : k < n
    · obtain ⟨b, off, x, A1, m, d1, rfl, _, _, hx, c0, c1, c2, hf⟩ := HW.out.nod hlt
      obtain ⟨b', off', x', A2, m', d2, rfl, _, _, hx', c0', c1', c2', hf'⟩ := HW'.out.nod hlt
      obtain rfl : x = x' := by rw [hx] at hx'; injection hx'
      have hmm : m' = m := by rw [← hf.len, ← hf'.len]
      have hm : m ≤ 1048576 := by have := hf.len; have := HG.out x (List.mem_of_getElem? hx); omega
      subst hmm
      have F := Lib.hid (hf.mono (Nat.zero_le _) hsz)
      have F' := Lib.hid (hf'.mono (Nat.zero_le _) hsz)
      clear hx hx' hf hf'
      have e0 := cell_regrown c0
      have e1 := cell_regrown c1
      have e2 := cell_regrown c2
      have e0' := cell_regrown c0'
      have e1' := cell_regrown c1'
      have e2' := cell_regrown c2'
      have hk0 : (0 : Int) ≤ (k : Int) := by omega
      have hkn : (k : Int) < (n : Int) := by omega
      go_wp2_with fail
      refine wp_region_quiet_below (by kernel_rfl) (by kernel_rfl) ?_
      repeat (go_big_quiet_step ((go_at_call 82; exact Calls.regrown_of (eqNode_same x _ _ _ _ _ _ (F.out.on (below_regrown _ _ _)) (F'.out.on (below_regrown _ _ _)) hm))))
      refine wpQuiet_nil ?_
      intro w2 hw2
      have hb2 := Lib.hid (below_of_regrown hw2)
      clear hw2 e0 e1 e2 e0' e1' e2'
      go_wp2
      go_roundw
      case rel => exact ⟨k + 1, by omega, by go_num, HB.out.trans (hb2.out.mono hsz)⟩
      case measure => simp [intOf]; omega
    · go_wp2
      go_ret
      exact ⟨rfl, HB.out⟩
set_option maxHeartbeats 1000000 in
theorem eqChain_same (view : Int) (A B : Option Addr) (n c d : Nat) (l : List Nod) (w : World) (h : Nods w 0 w.heap.size A n c l) (h' : Nods w 0 w.heap.size B n d l) (hn : n ≤ 1048576) (hlog : ∀ x ∈ l, x.log.length ≤ 1048576) :
    Calls Mo.prog 22 #[.agg #[.int .i64 view, .slice A n c], .agg #[.int .i64 view, .slice B n d]] w fun e w' => e = .returned (.bool true) ∧ Below w.heap.size w w' := by
  have H0 := Lib.hid ((h.box (.cells #[.int .i64 view, .slice A n c] 25)).box (.cells #[.int .i64 view, .slice B n d] 25))
  have H0' := Lib.hid ((h'.box (.cells #[.int .i64 view, .slice A n c] 25)).box (.cells #[.int .i64 view, .slice B n d] 25))
  have HG := Lib.hid hlog
  clear h h' hlog
  go_enter Mo.func22, Tryz.ntmps22
  go_wp2_with (go_at_call 54; refine (eqNodeS_same _ _ _ _ _ l _ H0.out H0'.out hn HG.out).mono ?_; rintro e w1 ⟨rfl, hb1⟩; have B1 := Lib.hid (below_box (below_box hb1)); clear hb1)
  go_ret
  exact ⟨rfl, B1.out⟩
end Go.Proofs.YtemgilofjbnoaaaGreatDoor
