/- The texts NodeF CopyC ChainA ChainB ChainV ChainW AddCost DropRole Lost Good Take ConvA ConvU ConvN Settle, joined. -/
import Derived.Deep.RegionLaw
import Derived.Deep.DeepCutAuto
import Derived.Deep.CutRange
import Derived.Lib.QuietBelow
import Derived.Test.YtcomppiglhibkaaGreatDoorB1
/- What is pending at a node; the numbers of a key's updates; telling a node what is everywhere. -/
namespace Go.Proofs.YtcomppiglhibkaaGreatDoor
open Go.RowKit

theorem Flat.empty {α : Type} (enc : α → List Value) (sz : Nat) (w : World) (lo hi : Nat) (A : Option Addr) (c : Nat) (hc : c ≤ maxLen) : Flat enc sz w lo hi A 0 c [] := ⟨rfl, Nat.zero_le _, hc, fun h => absurd h (by omega)⟩

def pending (x : Nod) : List Upd := if nodeOk x then x.log.drop x.done.toNat else []
/-- a log in new memory -/
def LogLeft (w : World) (l : List Upd) (e : Ending) (w' : World) : Prop :=
  ∃ A m c, e = .returned (.slice A m c) ∧ l.length = m ∧ w'.ownsRow w.heap.size 27 2 (.slice A m c) m (l.flatMap Upd.enc) ∧ Below w.heap.size w w'

theorem logLeft_nil {w w1 : World} (hb : Below w.heap.size w w1) : LogLeft w [] (.returned (.slice (some ⟨w1.heap.size, 0, none⟩) 0 0)) (w1.alloc (.cells #[] 27)) :=
  ⟨_, 0, 0, rfl, rfl, (World.ownsRow_made w1 #[] 0 (Nat.le_refl _) (Nat.zero_le _) (by simp)).mono hb.size, hb.alloc hb.size _⟩


/-- what the numbers of a key's updates leave -/
def KeysLeft (w : World) (l : List Upd) (key : Int) (e : Ending) (w' : World) : Prop :=
  ∃ A m c, e = .returned (.slice A m c) ∧ (logOk l = true → (m = 0 ↔ keyIn l key = false)) ∧ m ≤ 12 ∧ Below w.heap.size w w'

theorem new_cellsN (N : Nat) (w : World) (t : TypeId) (xs : Array Value) (zs : List Value) (hN : N = w.heap.size) (h : xs.toList = zs) : ∀ j u, zs[j]? = some u → (w.alloc (.cells xs t)).cell? ((⟨N, 0, none⟩ : Addr).add j) = some u := by
  subst hN; exact new_cells w xs t zs h
theorem three_cells (w : World) (g : Nat) {a b c : Value} (h0 : w.cell? ⟨g, 0, none⟩ = some a) (h1 : w.cell? ⟨g, 1, none⟩ = some b) (h2 : w.cell? ⟨g, 2, none⟩ = some c) (u v x : Value) :
    (((w.setCell ⟨g, 0, none⟩ u).setCell ⟨g, 1, none⟩ v).setCell ⟨g, 2, none⟩ x).cell? ⟨g, 0, none⟩ = some u ∧ (((w.setCell ⟨g, 0, none⟩ u).setCell ⟨g, 1, none⟩ v).setCell ⟨g, 2, none⟩ x).cell? ⟨g, 1, none⟩ = some v ∧
    (((w.setCell ⟨g, 0, none⟩ u).setCell ⟨g, 1, none⟩ v).setCell ⟨g, 2, none⟩ x).cell? ⟨g, 2, none⟩ = some x := by
  obtain ⟨e0, e1, e2⟩ := three_stores w g h0 h1 h2
  refine ⟨?_, ?_, e2 u v x⟩
  · rw [World.cell?_setCell_other _ _ _ _ (by simp), World.cell?_setCell_other _ _ _ _ (by simp)]; exact e0 u
  · rw [World.cell?_setCell_other _ _ _ _ (by simp)]; exact e1 u v
theorem below_box' {w w1 : World} {o p : Obj} (hb : Below ((w.alloc o).alloc p).heap.size ((w.alloc o).alloc p) w1) : Below (w.alloc o).heap.size (w.alloc o) w1 := below_box hb
theorem two_box {w w1 : World} {cs ds : Array Value} {t u : TypeId} (hb : Below ((w.alloc (.cells cs t)).alloc (.cells ds u)).heap.size ((w.alloc (.cells cs t)).alloc (.cells ds u)) w1) :
    (∀ i, w1.cell? ⟨w.heap.size, i, none⟩ = cs[i]?) ∧ (∀ i, w1.cell? ⟨w.heap.size + 1, i, none⟩ = ds[i]?) ∧ (∀ i, w1.frozen? ⟨w.heap.size + 1, i, none⟩ = false) :=
  ⟨fun i => (hb.cell (p := ⟨w.heap.size, i, none⟩) (by simp; omega)).trans (World.cell?_alloc_box w _ _ _ _ i),
   fun i => (hb.cell (p := ⟨w.heap.size + 1, i, none⟩) (by simp)).trans (World.cell?_alloc_top w _ _ _ _ i),
   fun i => (hb.frozen (p := ⟨w.heap.size + 1, i, none⟩) (by simp)).trans (World.frozen?_alloc_top w _ _ _ _ i)⟩


/-- what telling a node leaves -/
def NodeTold (w : World) (x : Nod) (k : Nat) (e : Ending) (w' : World) : Prop :=
  ∃ A n c, e = .returned (.tuple #[.agg #[.int .i64 x.id, .slice A n c, .int .i64 k], .bool true]) ∧ x.log.length = n ∧ w'.ownsRow w.heap.size 27 2 (.slice A n c) n (x.log.flatMap Upd.enc) ∧ Below w.heap.size w w'

end Go.Proofs.YtcomppiglhibkaaGreatDoor
/- Copies of nodes and chains by the reference: spec.l3Copy, spec.l4Copy. -/
namespace Go.Proofs.YtcomppiglhibkaaGreatDoor
open Go.RowKit

theorem made0 (w : World) (N lo : Nat) (t : TypeId) (sz : Nat) (hN : N = w.heap.size) (hlo : lo ≤ N) : (w.alloc (.cells #[] t)).ownsRow lo t sz (.slice (some ⟨N, 0, none⟩) 0 0) 0 [] := by
  subst hN
  exact (World.ownsRow_made (base := w.heap.size) (e := t) (size := sz) w #[] 0 (Nat.le_refl _) (Nat.zero_le _) (by simp)).mono hlo

set_option maxRecDepth 100000 in
set_option maxHeartbeats 2000000 in
theorem l3Copy_any (x : Nod) (A : Option Addr) (n c : Nat) (w : World) (h : Flat Upd.enc 2 w 0 w.heap.size A n c x.log) (hn : n ≤ 1048576) :
    Calls Mo.prog 67 #[.agg #[.int .i64 x.id, .slice A n c, .int .i64 x.done]] w (NodeMade w x) := by
  obtain ⟨i0, hi, hz0, hz1, hz2⟩ := info_parts infoUpd
  have HL := Lib.hid h.len
  obtain ⟨W, hW⟩ : ∃ W, W = (w.alloc (.cells #[.int .i64 x.id, .slice A n c, .int .i64 x.done] 38)).alloc (.cells #[.int .i64 0, .slice none 0 0, .int .i64 0] 38) := ⟨_, rfl⟩
  have hWs : W.heap.size = w.heap.size + 1 + 1 := by rw [hW]; simp
  have B0 : Below w.heap.size w W := by rw [hW]; exact ((Below.refl _ _).alloc (Nat.le_refl _) _).alloc (by simp) _
  have K0 : Blk W w.heap.size #[.int .i64 x.id, .slice A n c, .int .i64 x.done] 38 := by rw [hW]; exact (Blk.new w _ _).alloc _
  have K1 : Blk W (w.heap.size + 1) #[.int .i64 0, .slice none 0 0, .int .i64 0] 38 := by
    rw [hW]; have := Blk.new (w.alloc (.cells #[.int .i64 x.id, .slice A n c, .int .i64 x.done] 38)) #[.int .i64 0, .slice none 0 0, .int .i64 0] 38
    simpa using this
  have O0 := Lib.hid (made0 W (w.heap.size + 1 + 1) w.heap.size 27 2 hWs.symm (by omega))
  have S0 := Lib.hid (flat_src Upd.len (by omega) ((h.on B0).box (.cells #[] 27)))
  have L0 := Lib.hid (K0.alloc (.cells #[] 27))
  have L1 := Lib.hid (K1.alloc (.cells #[] 27))
  have HB := Lib.hid (B0.alloc (by rw [hWs]; omega) (.cells #[] 27))
  have HWs := Lib.hid hWs
  have q1 := L0.out.cell (i := 1) (v := .slice A n c) rfl
  clear h B0 K0 K1 hWs
  have hsz : W.heap.size = w.heap.size + 1 + 1 := HWs.out
  clear hsz
  subst hW
  go_enter Mo.func67, Tryz.ntmps67
  go_wp2_with (at_builtin; go_loud (refine wpList_append_src _ rfl (.tmp 3) (.tmp 5) 36 rfl w.heap.size 27 i0 _ 2 16 Mo.underlying36 hi hz0 hz1 hz2 rfl (by omega) (.slice (some ⟨w.heap.size + 1 + 1, 0, none⟩) 0 0) 0 [] rfl O0.out A n c _ rfl S0.out (one_enc Upd.one _) (by unfold maxLen; omega) (by omega) (by simp only [World.size_alloc]; omega) ?_; intro v3 w3 hown3 hg3; rw [Nat.zero_add, List.nil_append] at hown3; obtain ⟨A3, c3, rfl, _⟩ := own_flat Upd.len hown3 HL.out; have O3 := Lib.hid hown3; have G3 := Lib.hid hg3; have M0 := Lib.hid (L0.out.grown hg3 (by intro e; simp [Value.ownBlock] at e; try omega)); have M1 := Lib.hid (L1.out.grown hg3 (by intro e; simp [Value.ownBlock] at e; try omega)); have m0 := M0.out.cell (i := 0) (v := .int .i64 x.id) rfl; have m1 := M0.out.cell (i := 1) (v := .slice A n c) rfl; have m2 := M0.out.cell (i := 2) (v := .int .i64 x.done) rfl; have p0 := M1.out.cell (i := 0) (v := .int .i64 0) rfl; have p1 := M1.out.cell (i := 1) (v := .slice none 0 0) rfl; have p2 := M1.out.cell (i := 2) (v := .int .i64 0) rfl; have f0 := M0.out.free 1; have f1 := M1.out.free 0; have f2 := M1.out.free 1; have f3 := M1.out.free 2; clear hown3 hg3))
  obtain ⟨W, hW⟩ : ∃ W, W = w3.setCell ⟨w.heap.size, 1, none⟩ (.slice A3 n c3) := ⟨_, rfl⟩
  have N1 : Blk W (w.heap.size + 1) #[.int .i64 0, .slice none 0 0, .int .i64 0] 38 := by rw [hW]; exact M1.out.far (a := ⟨w.heap.size, 1, none⟩) (by show w.heap.size + 1 ≠ w.heap.size; omega) _
  obtain ⟨e0, e1, e2⟩ := three_cells W (w.heap.size + 1) (N1.cell (i := 0) rfl) (N1.cell (i := 1) rfl) (N1.cell (i := 2) rfl) (.int .i64 x.id) (.slice A3 n c3) (.int .i64 x.done)
  rw [← hW]
  refine bodyPost_ret (v := .agg #[.int .i64 x.id, .slice A3 n c3, .int .i64 x.done]) (by simp [results, Tryz.results67, go_sem, e0, e1, e2]) rfl ⟨A3, n, c3, rfl, HL.out, ?_, ?_⟩
  · refine own_keep O3.out (fun g hg => ?_)
    obtain ⟨ds, hd⟩ := own_blk O3.out hg
    have h0 : g ≠ w.heap.size := by rintro rfl; exact absurd (blk_type hd M0.out) (by decide)
    have h1 : g ≠ w.heap.size + 1 := by rintro rfl; exact absurd (blk_type hd M1.out) (by decide)
    rw [Below.heap_setCell _ _ _ _ h1, Below.heap_setCell _ _ _ _ h1, Below.heap_setCell _ _ _ _ h1, hW, Below.heap_setCell _ _ _ _ h0]
  · have hb : Below w.heap.size w w3 := HB.out.grown G3.out (by simp only [World.size_alloc]; omega) (fun k e => by simp [Value.ownBlock] at e; omega)
    have hr : w.heap.size ≤ w.heap.size + 1 := by omega
    rw [hW]
    exact (((hb.setCell (p := ⟨w.heap.size, 1, none⟩) (Nat.le_refl _) _).setCell (p := ⟨w.heap.size + 1, 0, none⟩) hr _).setCell (p := ⟨w.heap.size + 1, 1, none⟩) hr _).setCell (p := ⟨w.heap.size + 1, 2, none⟩) hr _

theorem src_row (w : World) (cs : Array Value) (t : TypeId) (sz N : Nat) (hN : N = w.heap.size) (hs : cs.size = sz) : Src (w.alloc (.cells cs t)) sz (some ⟨N, 0, none⟩) 1 cs.toList := by
  subst hN
  refine ⟨by rw [Array.length_toList, hs]; omega, (fun e => by cases e), fun ad e j u hu => ?_⟩
  injection e with e; subst e
  exact new_cells w cs t _ rfl j u hu

set_option maxRecDepth 100000 in
set_option maxHeartbeats 8000000 in
theorem l4Copy_any (view : Int) (A : Option Addr) (n c : Nat) (l : List Nod) (w : World) (h : Nods w 0 w.heap.size A n c l) (hn : n ≤ 1048576) (hlog : ∀ x ∈ l, x.log.length ≤ 1048576) :
    Calls Mo.prog 41 #[.agg #[.int .i64 view, .slice A n c]] w (ChainLeft w view l) := by
  obtain ⟨j0, hj, hy0, hy1, hy2⟩ := info_parts infoNode
  have HL := Lib.hid h.len
  have HG := Lib.hid hlog
  have H := Lib.hid h
  clear h hlog
  obtain ⟨L, hL⟩ : ∃ L, L = [(w.heap.size, #[Value.int .i64 view, Value.slice A n c], 25), (w.heap.size + 1, #[Value.int .i64 0, Value.slice none 0 0], 25)] := ⟨_, rfl⟩
  have hC : CB w (((w.alloc (.cells #[.int .i64 view, .slice A n c] 25)).alloc (.cells #[.int .i64 0, .slice none 0 0] 25)).alloc (.cells #[.int .i64 view, .slice none 0 0] 25)) (w.heap.size + 1 + 1) view (.slice none 0 0) [] (w.heap.size + 1 + 1 + 1) L := by
    have k0 := (Blk.new w #[.int .i64 view, .slice A n c] 25).alloc (.cells #[.int .i64 0, .slice none 0 0] 25)
    have k1 := Blk.new (w.alloc (.cells #[.int .i64 view, .slice A n c] 25)) #[.int .i64 0, .slice none 0 0] 25
    simp only [World.size_alloc] at k1
    have := CB.new (w0 := w) (L := L) (((Below.refl w.heap.size w).alloc (Nat.le_refl _) (.cells #[.int .i64 view, .slice A n c] 25)).alloc (by simp) (.cells #[.int .i64 0, .slice none 0 0] 25)) view (by rw [hL]; exact ((Oth.nil _ _).cons k1 (by simp) (by decide)).cons k0 (by simp; omega) (by decide))
    simpa only [World.size_alloc] using this
  have C0 := Lib.hid hC
  have L0 := Lib.hid (show (w.heap.size, #[Value.int .i64 view, Value.slice A n c], 25) ∈ L by rw [hL]; simp)
  have L1 := Lib.hid (show (w.heap.size + 1, #[Value.int .i64 0, Value.slice none 0 0], 25) ∈ L by rw [hL]; simp)
  clear hC hL
  go_enter Mo.func41, Tryz.ntmps41
  go_wp2_with fail
  go_loopw [4] (fun i wr => ∃ (k : Nat) (nv : Value) (hi : Nat) (lk : List Nod), k ≤ n ∧ i = .int .i64 k ∧ Hid (lk = l.take k) ∧ CB w wr (w.heap.size + 1 + 1) view nv lk hi L) (fun i _ => n - (intOf i).toNat)
  case atStart => exact ⟨0, _, _, _, Nat.zero_le _, rfl, rfl, C0.out⟩
  case round =>
    obtain ⟨k, nv, hi', lk, hk, rfl, HK, hcb⟩ := hrel
    have SC := Lib.hid hcb
    clear hcb C0
    have b1 := (SC.out.blk L0.out).cell (i := 1) (v := .slice A n c) rfl
    have q1 := SC.out.chn.cell (i := 1) (v := nv) rfl
    by_cases hlt : k < n
    · obtain ⟨b, off, x, A', m, d, rfl, _, hbB, hx, c0, c1, c2, hf⟩ := (H.out.below SC.out.bel (Nat.le_refl _)).nod hlt
      have hm : m ≤ 1048576 := by have := hf.len; have := HG.out x (List.mem_of_getElem? hx); omega
      have hxm := Lib.hid hf.len
      have Fx := Lib.hid (show Flat Upd.enc 2 wr.drew 0 wr.drew.heap.size A' m d x.log from (hf.mono (Nat.le_refl _) SC.out.bel.size).below (Below.refl wr.heap.size wr).drew (Nat.le_refl _))
      have E4 := Lib.hid SC.out.raise.drew
      have hws : w.heap.size ≤ wr.heap.size := SC.out.bel.size
      have hss : w.heap.size + 1 + 1 < wr.heap.size := SC.out.size
      have htk := Lib.hid (show lk ++ [x] = l.take (k + 1) by rw [HK.out, List.take_add_one, hx]; rfl)
      have hlk : lk.length ≤ 1048576 := by rw [HK.out, List.length_take]; omega
      clear hx hf
      go_wp2_with fail
      go_region_law ((first
          | (refine step_append_src _ (by rfl) (.tmp 16) (.tmp 23) 23 (by rfl) w.heap.size 38 j0 _ 3 40 Mo.underlying23 hj hy0 hy1 hy2 rfl (by omega) nv lk.length (rs.flatMap RN.enc) (by rfl) (hat.1.alloc _) _ 1 1 _ (by rfl) (src_row _ #[.int .i64 x.id, .slice A6 m6 c6, .int .i64 x.done] 38 3 _ rfl rfl) (RN.one ⟨x.id, A6, m6, c6, x.done⟩) (by unfold maxLen; omega) (by omega) (by simp; omega) ?_; intro v8 w8 hown8 hg8; obtain ⟨g8, c8, rfl, _⟩ := own_form hown8 (by omega)
             have K8 := Z.out.chnAfter hat hg8; have d1 := K8.cell (i := 1) (v := nv) rfl; have f1 := K8.free 1; have Y := Lib.hid (Z.out.appended (x := x) (r := ⟨x.id, A6, m6, c6, x.done⟩) hat ⟨rfl, rfl, hl6.out⟩ (OZ.out.mono hws) hnew6.out hown8 hg8); clear hown8 hg8 K8)
          | (rw [if_pos (by rfl)]; go_simp; go_at_call 67; (with_reducible refine (l3Copy_any x A' m d _ Fx.out hm).mono ?_); rintro e w6 ⟨A6, m6, c6, rfl, hlen6, hown6, hb6⟩
             have Z := Lib.hid (E4.out.below hb6); have hl6 := Lib.hid hlen6; have OZ := Lib.hid hown6; have hnew6 := Lib.hid (fun (g : Nat) (e : (Value.slice A6 m6 c6).ownBlock = some g) => (hown6.lt g e).1); have d1 := Z.out.chn.cell (i := 1) (v := nv) rfl; have hz6 : w.heap.size ≤ w6.heap.size := Z.out.bel.size; have hz7 : w.heap.size + 1 + 1 < w6.heap.size := Z.out.size; obtain ⟨rs, hat⟩ := Z.out.row; clear hown6 hb6 hlen6)))
      all_goals
        go_wp2_with fail
        go_roundw
        case rel => exact ⟨k + 1, _, _, _, by omega, by go_num, htk.out, Y.out⟩
        case measure => simp [intOf]; omega
    · obtain rfl : n = k := by omega
      have hlk : lk = l := by rw [HK.out, List.take_of_length_le (by rw [HL.out]; exact Nat.le_refl _)]
      subst hlk
      obtain ⟨A2, c2, rfl, _⟩ := SC.out.row.nods
      have z0 := (SC.out.blk L1.out).cell (i := 0) (v := .int .i64 0) rfl
      have z1 := (SC.out.blk L1.out).cell (i := 1) (v := .slice none 0 0) rfl
      have y0 := (SC.out.blk L1.out).free 0
      have y1 := (SC.out.blk L1.out).free 1
      have q0 := SC.out.chn.cell (i := 0) (v := .int .i64 view) rfl
      obtain ⟨e0, e1⟩ := two_stores _ (w.heap.size + 1) z0 z1
      have E := Lib.hid (And.intro e0 e1)
      have O := Lib.hid (SC.out.out (u := .int .i64 view) (v := .slice A2 lk.length c2) (SC.out.blk L1.out) (by omega))
      clear e0 e1
      go_wp2
      obtain ⟨e0, e1⟩ := E.out
      exact bodyPost_ret (v := .agg #[.int .i64 view, .slice A2 lk.length c2]) (by simp [results, Tryz.results41, go_sem, e0, e1]) rfl ⟨A2, lk.length, c2, rfl, rfl, O.out.1, O.out.2⟩
end Go.Proofs.YtcomppiglhibkaaGreatDoor
/- Chains: the place of an id, what two logs have in common, the tail: the program's and the reference's walks. -/
namespace Go.Proofs.YtcomppiglhibkaaGreatDoor
open Go.RowKit

theorem Nods.box {w : World} {n c : Nat} {A : Option Addr} {l : List Nod} (h : Nods w 0 w.heap.size A n c l) (o : Obj) : Nods (w.alloc o) 0 (w.alloc o).heap.size A n c l :=
  (h.below ((Below.refl _ _).alloc (Nat.le_refl _) _) (Nat.le_refl _)).mono (Nat.zero_le _) (by simp)
theorem Nods.on {w w' : World} {n c : Nat} {A : Option Addr} {l : List Nod} (h : Nods w 0 w.heap.size A n c l) (hb : Below w.heap.size w w') : Nods w' 0 w'.heap.size A n c l :=
  (h.below hb (Nat.le_refl _)).mono (Nat.zero_le _) hb.size

/-- no node ahead of place k has the id -/
def noneHas (l : List Nod) (k : Nat) (id : Int) : Prop := ∀ (i : Nat) (y : Nod), i < k → l[i]? = some y → y.id ≠ id
theorem noneHas_succ {l : List Nod} {k : Nat} {x : Nod} {id : Int} (h : noneHas l k id) (hx : l[k]? = some x) (hne : x.id ≠ id) : noneHas l (k + 1) id := by
  intro i y hi hy
  by_cases e : i = k
  · subst e; rw [hx] at hy; injection hy with hy; subst hy; exact hne
  · exact h i y (by omega) hy
theorem noneHas_end {l : List Nod} {n : Nat} {id : Int} (hl : l.length = n) (h : noneHas l n id) : placeOf l id = none :=
  placeOf_none fun i x hx => h i x (by have := (List.getElem?_eq_some_iff.1 hx).1; omega) hx

set_option maxHeartbeats 1000000 in
theorem chainPlace_any (view : Int) (A : Option Addr) (n c : Nat) (l : List Nod) (id : Int) (w : World) (h : Nods w 0 w.heap.size A n c l) (hn : n ≤ 1048576) :
    Calls Mo.prog 45 #[.agg #[.int .i64 view, .slice A n c], .int .i64 id] w fun e w' => e = .returned (.int .i64 (placeI (placeOf l id))) ∧ Below w.heap.size w w' := by
  have HL := Lib.hid h.len
  have H := Lib.hid h
  clear h
  go_enter Mo.func45, Tryz.ntmps45
  go_wp2_with fail
  go_loopw [10] (fun i wr => ∃ k : Nat, k ≤ n ∧ i = .int .i64 k ∧ Hid (noneHas l k id) ∧ Below w.heap.size w wr)
    (fun i _ => n - (intOf i).toNat)
  case atStart => exact ⟨0, Nat.zero_le _, rfl, fun _ _ h => absurd h (by omega), (Below.refl _ _).alloc (Nat.le_refl _) _⟩
  case round =>
    obtain ⟨k, hk, rfl, hall, hB⟩ := hrel
    have HW := Lib.hid (H.out.below hB (Nat.le_refl _))
    have HB := Lib.hid hB
    have hsz := hB.size
    clear hB H
    by_cases hlt : k < n
    · obtain ⟨b, off, x, A', m, d, rfl, _, hbB, hx, c0, c1, c2, hf⟩ := HW.out.nod hlt
      have Hx := Lib.hid hx
      clear hx hf
      by_cases hid : x.id = id
      · have HK := Lib.hid hid
        rw [hid] at c0
        clear hid
        go_wp2
        go_ret
        exact ⟨ret_int (by rw [placeOf_at Hx.out HK.out hall.out]; rfl), HB.out.alloc hsz _⟩
      · have hne : (x.id == id) = false := by simp [hid]
        have HK := Lib.hid hid
        clear hid
        go_wp2
        go_roundw
        case rel => exact ⟨k + 1, by omega, by go_num, noneHas_succ hall.out Hx.out HK.out, HB.out.alloc hsz _⟩
        case measure => simp [intOf]; omega
    · obtain rfl : n = k := by omega
      go_wp2
      go_ret
      exact ⟨ret_int (by rw [noneHas_end HL.out hall.out]; rfl), HB.out⟩


set_option maxHeartbeats 1000000 in
theorem l4Has_any (A : Option Addr) (n c : Nat) (l : List Nod) (id : Int) (w : World) (h : Nods w 0 w.heap.size A n c l) (hn : n ≤ 1048576) :
    Calls Mo.prog 63 #[.slice A n c, .int .i64 id] w fun e w' => e = .returned (.bool (placeOf l id).isSome) ∧ w = w' := by
  have HL := Lib.hid h.len
  have H := Lib.hid h
  clear h
  go_enter Mo.func63, Tryz.ntmps63
  go_wp2_with fail
  go_loop [5] (fun i => ∃ k : Nat, k ≤ n ∧ i = .int .i64 k ∧ Hid (noneHas l k id)) (fun i => n - (intOf i).toNat)
  case atStart => exact ⟨0, Nat.zero_le _, rfl, fun _ _ h => absurd h (by omega)⟩
  case round =>
    obtain ⟨k, hk, rfl, hall⟩ := hrel
    by_cases hlt : k < n
    · obtain ⟨b, off, x, A', m, d, rfl, _, hbB, hx, c0, c1, c2, hf⟩ := H.out.nod hlt
      have Hx := Lib.hid hx
      clear hx hf
      by_cases hid : x.id = id
      · have HK := Lib.hid hid
        rw [hid] at c0
        clear hid
        go_wp2
        go_ret
        exact ⟨ret_bool (by rw [placeOf_at Hx.out HK.out hall.out]; rfl), rfl⟩
      · have hne : (x.id == id) = false := by simp [hid]
        have HK := Lib.hid hid
        clear hid
        go_wp2
        go_round
        case rel => exact ⟨k + 1, by omega, by go_num, noneHas_succ hall.out Hx.out HK.out⟩
        case measure => simp [intOf]; omega
    · obtain rfl : n = k := by omega
      go_wp2
      go_ret
      exact ⟨ret_bool (by rw [noneHas_end HL.out hall.out]; rfl), rfl⟩

set_option maxHeartbeats 2000000 in
theorem l1Common_any (A B : Option Addr) (n c m d : Nat) (a b : List Upd) (w : World) (h : Flat Upd.enc 2 w 0 w.heap.size A n c a) (h' : Flat Upd.enc 2 w 0 w.heap.size B m d b) (hn : n ≤ 1048576) (_ : m ≤ 1048576) :
    Calls Mo.prog 64 #[.slice A n c, .slice B m d] w fun e w' => e = .returned (.int .i64 (common a b : Nat)) ∧ Below w.heap.size w w' := by
  have HL := Lib.hid h.len
  have HL' := Lib.hid h'.len
  have H := Lib.hid h
  have H' := Lib.hid h'
  clear h h'
  go_enter Mo.func64, Tryz.ntmps64
  go_wp2_with fail
  go_loopw [5] (fun i wr => ∃ k : Nat, k ≤ n ∧ k ≤ m ∧ i = .int .i64 k ∧ Hid (common a b = k + common (a.drop k) (b.drop k)) ∧ Below w.heap.size w wr) (fun i _ => n - (intOf i).toNat)
  case atStart => exact ⟨0, Nat.zero_le _, Nat.zero_le _, rfl, by simp [Hid], Below.refl _ _⟩
  case round =>
    obtain ⟨k, hk, hk', rfl, hall, hB⟩ := hrel
    have W1 := Lib.hid (H.out.below hB (Nat.le_refl _))
    have W2 := Lib.hid (H'.out.below hB (Nat.le_refl _))
    have HB := Lib.hid hB
    clear hB
    have k0 : (0 : Int) ≤ (k : Int) := by omega
    by_cases hlt : k < n
    · have kn : (k : Int) < (n : Int) := by omega
      by_cases hlt' : k < m
      · have km : (k : Int) < (m : Int) := by omega
        obtain ⟨b1, off1, x, rfl, _, _, hx, c0, c1⟩ := W1.out.upd hlt
        obtain ⟨b2, off2, y, rfl, _, _, hy, d0, d1⟩ := W2.out.upd hlt'
        have Hx := Lib.hid hx
        have Hy := Lib.hid hy
        clear hx hy
        cases hs : x.same y
        · have HS := Lib.hid hs
          have hpart : (x.key == y.key) = false ∨ ((x.key == y.key) = true ∧ (x.value == y.value) = false) := by
            by_cases e1 : x.key = y.key
            · by_cases e2 : x.value = y.value
              · simp [Upd.same, e1, e2] at hs
              · exact .inr ⟨by simp [e1], by simp [e2]⟩
            · exact .inl (by simp [e1])
          clear hs
          rcases hpart with p1 | ⟨p1, p2⟩
          all_goals
            go_wp2_with fail
            go_quiet (fail)
            go_wp2
            go_ret
            exact ⟨ret_int (by rw [hall.out, common_part Hx.out Hy.out HS.out]; rfl), below_drewN HB.out _⟩
        · have HS := Lib.hid hs
          obtain rfl := Upd.same_iff.1 hs
          clear hs
          go_wp2_with fail
          go_quiet (fail)
          go_wp2
          go_roundw
          case rel => exact ⟨k + 1, by omega, by omega, by go_num, by rw [hall.out, common_step Hx.out Hy.out HS.out]; show _ = _; omega, below_drewN HB.out _⟩
          case measure => simp [intOf]; omega
      · have km : decide ((k : Int) < (m : Int)) = false := by simp; omega
        have kz : common (a.drop k) (b.drop k) = 0 := common_end (.inr (by rw [HL'.out]; omega))
        have KZ := Lib.hid kz
        clear kz
        go_wp2_with fail
        go_quiet (fail)
        go_wp2
        go_ret
        exact ⟨ret_int (by rw [hall.out, KZ.out]; rfl), below_drewN HB.out _⟩
    · have kn : decide ((k : Int) < (n : Int)) = false := by simp; omega
      have kz : common (a.drop k) (b.drop k) = 0 := common_end (.inl (by rw [HL.out]; omega))
      have KZ := Lib.hid kz
      clear kz
      go_wp2_with fail
      go_quiet (fail)
      go_wp2
      go_ret
      exact ⟨ret_int (by rw [hall.out, KZ.out]; rfl), below_drewN HB.out _⟩
end Go.Proofs.YtcomppiglhibkaaGreatDoor
/- Chains: what two logs have in common, the beginning of a log, the tail: the program's walks. -/
namespace Go.Proofs.YtcomppiglhibkaaGreatDoor
open Go.RowKit

set_option maxHeartbeats 2000000 in
theorem logCommon_any (A B : Option Addr) (n c m d : Nat) (a b : List Upd) (w : World) (h : Flat Upd.enc 2 w 0 w.heap.size A n c a) (h' : Flat Upd.enc 2 w 0 w.heap.size B m d b) (hn : n ≤ 1048576) (hm : m ≤ 1048576) :
    Calls Mo.prog 73 #[.slice A n c, .slice B m d] w fun e w' => e = .returned (.int .i64 (logCommon a b)) ∧ Below w.heap.size w w' := by
  have HL := Lib.hid h.len
  have HL' := Lib.hid h'.len
  have H := Lib.hid h
  have H' := Lib.hid h'
  clear h h'
  cases hoa : logOk a
  · have e0 : logCommon a b = -1 := by simp [logCommon, hoa]
    rw [e0]; clear e0
    go_enter Mo.func73, Tryz.ntmps73
    go_wp2_with (go_at_call 72; refine (logValid_any _ _ _ a _ H.out hn).mono ?_; rintro e w1 ⟨rfl, hb1⟩; rw [hoa]; have B1 := Lib.hid hb1; clear hb1)
    go_ret
    exact ⟨rfl, B1.out⟩
  have HA := Lib.hid hoa
  clear hoa
  cases hob : logOk b
  · have e0 : logCommon a b = -1 := by simp [logCommon, hob]
    rw [e0]; clear e0
    go_enter Mo.func73, Tryz.ntmps73
    go_wp2_with fail
    refine (logValid_any _ _ _ a _ H.out hn).mono ?_
    rintro e w1 ⟨rfl, hb1⟩
    rw [HA.out]
    have B1 := Lib.hid hb1
    have F1 := Lib.hid (H'.out.on hb1)
    clear hb1
    go_wp2_with (go_at_call 72; refine (logValid_any _ _ _ b _ F1.out hm).mono ?_; rintro e w2 ⟨rfl, hb2⟩; rw [hob]; have B2 := Lib.hid (B1.out.trans (hb2.mono B1.out.size)); clear hb2)
    go_ret
    exact ⟨rfl, B2.out⟩
  have HO := Lib.hid hob
  have e0 : logCommon a b = (common a b : Nat) := by simp [logCommon, HA.out, hob]
  rw [e0]
  clear e0 hob
  go_enter Mo.func73, Tryz.ntmps73
  go_wp2_with fail
  refine (logValid_any _ _ _ a _ H.out hn).mono ?_
  rintro e w1 ⟨rfl, hb1⟩
  rw [HA.out]
  have B1 := Lib.hid hb1
  have F1 := Lib.hid (H'.out.on hb1)
  clear hb1
  go_wp2_with fail
  refine (logValid_any _ _ _ b _ F1.out hm).mono ?_
  rintro e w2 ⟨rfl, hb2⟩
  rw [HO.out]
  have B2 := Lib.hid (B1.out.trans (hb2.mono B1.out.size))
  clear hb2
  go_wp2_with fail
  go_loopw [5] (fun i wr => ∃ k : Nat, k ≤ n ∧ k ≤ m ∧ i = .int .i64 k ∧ Hid (common a b = k + common (a.drop k) (b.drop k)) ∧ Below w.heap.size w wr) (fun i _ => n - (intOf i).toNat)
  case atStart => exact ⟨0, Nat.zero_le _, Nat.zero_le _, rfl, by simp [Hid], B2.out⟩
  case round =>
    obtain ⟨k, hk, hk', rfl, hall, hB⟩ := hrel
    have W1 := Lib.hid (H.out.below hB (Nat.le_refl _))
    have W2 := Lib.hid (H'.out.below hB (Nat.le_refl _))
    have HB := Lib.hid hB
    clear hB
    have k0 : (0 : Int) ≤ (k : Int) := by omega
    by_cases hlt : k < n
    · have kn : (k : Int) < (n : Int) := by omega
      by_cases hlt' : k < m
      · have km : (k : Int) < (m : Int) := by omega
        obtain ⟨b1, off1, x, rfl, _, _, hx, c0, c1⟩ := W1.out.upd hlt
        obtain ⟨b2, off2, y, rfl, _, _, hy, d0, d1⟩ := W2.out.upd hlt'
        have Hx := Lib.hid hx
        have Hy := Lib.hid hy
        clear hx hy
        cases hs : x.same y
        · have HS := Lib.hid hs
          have hpart : (x.key == y.key) = false ∨ ((x.key == y.key) = true ∧ (x.value == y.value) = false) := by
            by_cases e1 : x.key = y.key
            · by_cases e2 : x.value = y.value
              · simp [Upd.same, e1, e2] at hs
              · exact .inr ⟨by simp [e1], by simp [e2]⟩
            · exact .inl (by simp [e1])
          clear hs
          rcases hpart with p1 | ⟨p1, p2⟩
          all_goals
            go_wp2_with fail
            go_quiet (fail)
            go_wp2
            go_ret
            exact ⟨ret_int (by rw [hall.out, common_part Hx.out Hy.out HS.out]; rfl), below_drewN HB.out _⟩
        · have HS := Lib.hid hs
          obtain rfl := Upd.same_iff.1 hs
          clear hs
          go_wp2_with fail
          go_quiet (fail)
          go_wp2
          go_roundw
          case rel => exact ⟨k + 1, by omega, by omega, by go_num, by rw [hall.out, common_step Hx.out Hy.out HS.out]; show _ = _; omega, below_drewN HB.out _⟩
          case measure => simp [intOf]; omega
      · have km : decide ((k : Int) < (m : Int)) = false := by simp; omega
        have kz : common (a.drop k) (b.drop k) = 0 := common_end (.inr (by rw [HL'.out]; omega))
        have KZ := Lib.hid kz
        clear kz
        go_wp2_with fail
        go_quiet (fail)
        go_wp2
        go_ret
        exact ⟨ret_int (by rw [hall.out, KZ.out]; rfl), below_drewN HB.out _⟩
    · have kn : decide ((k : Int) < (n : Int)) = false := by simp; omega
      have kz : common (a.drop k) (b.drop k) = 0 := common_end (.inl (by rw [HL.out]; omega))
      have KZ := Lib.hid kz
      clear kz
      go_wp2_with fail
      go_quiet (fail)
      go_wp2
      go_ret
      exact ⟨ret_int (by rw [hall.out, KZ.out]; rfl), below_drewN HB.out _⟩

set_option maxHeartbeats 1000000 in
theorem logBegins_any (A B : Option Addr) (n c m d : Nat) (a b : List Upd) (w : World) (h : Flat Upd.enc 2 w 0 w.heap.size A n c a) (h' : Flat Upd.enc 2 w 0 w.heap.size B m d b) (hn : n ≤ 1048576) (hm : m ≤ 1048576) :
    Calls Mo.prog 46 #[.slice A n c, .slice B m d] w fun e w' => e = .returned (.bool (logBegins a b)) ∧ Below w.heap.size w w' := by
  have HL := Lib.hid h.len
  have H := Lib.hid h
  have H' := Lib.hid h'
  clear h h'
  cases hoa : logOk a
  · have e0 : logBegins a b = false := by simp [logBegins, hoa]
    rw [e0]; clear e0
    go_enter Mo.func46, Tryz.ntmps46
    go_wp2_with (go_at_call 72; refine (logValid_any _ _ _ a _ H.out hn).mono ?_; rintro e w1 ⟨rfl, hb1⟩; rw [hoa]; have B1 := Lib.hid hb1; clear hb1)
    go_ret
    exact ⟨rfl, B1.out⟩
  have HA := Lib.hid hoa
  clear hoa
  obtain ⟨v, hv⟩ : ∃ v, logCommon a b = v := ⟨_, rfl⟩
  have e0 : logBegins a b = (v == (n : Int)) := by
    have hl := HL.out
    have hle := (common_le a b).1
    rw [← hv]
    unfold logBegins logCommon
    rw [HA.out]
    cases logOk b
    · simp; try omega
    · rw [Bool.eq_iff_iff]; simp; try omega
  rw [e0]
  have HV := Lib.hid hv
  clear hv e0
  go_enter Mo.func46, Tryz.ntmps46
  go_wp2_with fail
  refine (logValid_any _ _ _ a _ H.out hn).mono ?_
  rintro e w1 ⟨rfl, hb1⟩
  rw [HA.out]
  have B1 := Lib.hid hb1
  have F1 := Lib.hid (H.out.on hb1)
  have G1 := Lib.hid (H'.out.on hb1)
  clear hb1
  go_wp2_with (go_at_call 73; refine (logCommon_any _ _ _ _ _ _ a b _ F1.out G1.out hn hm).mono ?_; rintro e w2 ⟨rfl, hb2⟩; rw [HV.out]; have B2 := Lib.hid (B1.out.trans (hb2.mono B1.out.size)); clear hb2)
  go_ret
  exact ⟨rfl, B2.out⟩

theorem node_field0 (i j : Int) (A : Option Addr) (m d : Nat) (W : World) : (Instr.field 38 (.agg #[.int .i64 i, .slice A m d, .int .i64 j]) 0).run Mo.prog W = .ok (.int .i64 i) W := by kernel_rfl
theorem node_field1 (i j : Int) (A : Option Addr) (m d : Nat) (W : World) : (Instr.field 38 (.agg #[.int .i64 i, .slice A m d, .int .i64 j]) 1).run Mo.prog W = .ok (.slice A m d) W := by kernel_rfl

/-- what handing out the tail leaves: the last node, its log as it lay -/
def TailLeft (w : World) (l : List Nod) (n : Nat) (e : Ending) (w' : World) : Prop :=
  ∃ (x : Nod) (A' : Option Addr) (m d : Nat), l[n - 1]? = some x ∧ e = .returned (.agg #[.int .i64 x.id, .slice A' m d, .int .i64 x.done]) ∧ Flat Upd.enc 2 w 0 w.heap.size A' m d x.log ∧ Below w.heap.size w w'

set_option maxHeartbeats 1000000 in
theorem tailOf_any (view : Int) (A : Option Addr) (n c : Nat) (l : List Nod) (w : World) (h : Nods w 0 w.heap.size A n c l) (hn : n ≤ 1048576) (hpos : 0 < n) :
    Calls Mo.prog 26 #[.agg #[.int .i64 view, .slice A n c]] w (TailLeft w l n) := by
  obtain ⟨b, off, x, A', m, d, rfl, _, hbB, hx, c0, c1, c2, hf⟩ := h.nod (show n - 1 < n by omega)
  have Hx := Lib.hid hx
  have HF := Lib.hid hf
  clear hx hf h
  have hne : b ≠ w.heap.size := by omega
  have hne' : b ≠ w.heap.size + 1 := by omega
  have h1 : (1 : Int) ≤ (n : Int) := by omega
  go_enter Mo.func26, Tryz.ntmps26
  go_wp2_with fail
  exact bodyPost_ret (v := .agg #[.int .i64 x.id, .slice A' m d, .int .i64 x.done]) (by simp [results, Tryz.results26, go_sem]) rfl ⟨x, A', m, d, Hx.out, rfl, HF.out, ((Below.refl _ _).alloc (Nat.le_refl _) _).alloc (by simp) _⟩

end Go.Proofs.YtcomppiglhibkaaGreatDoor
/- Chains are valid: the program's walk. -/
namespace Go.Proofs.YtcomppiglhibkaaGreatDoor
open Go.RowKit

theorem chainOk_ends {v : Int} {l : List Nod} (h : ¬ (0 ≤ v ∧ v ≤ 999 ∧ 1 ≤ l.length ∧ l.length ≤ 5)) : chainOk v l = false := by
  cases hc : chainOk v l
  · rfl
  · exfalso; apply h
    unfold chainOk inB at hc
    simp only [Bool.and_eq_true, decide_eq_true_eq] at hc
    exact ⟨hc.1.1.1.1.1, hc.1.1.1.1.2, hc.1.1.1.2, hc.1.1.2⟩
theorem chainOk_mk {v : Int} {l : List Nod} (h0 : 0 ≤ v) (h1 : v ≤ 999) (h2 : 1 ≤ l.length) (h3 : l.length ≤ 5) (h : (List.range l.length).all (nodAt l) = true) : chainOk v l = tailOk l := by
  unfold chainOk inB; rw [h]; simp [h0, h1, h2, h3]
theorem tailOk_at {l : List Nod} {x : Nod} {n : Nat} (hl : l.length = n) (hx : l[n - 1]? = some x) : tailOk l = decide (x.done = x.log.length) := by
  unfold tailOk; rw [hl, hx]
theorem mem_len {l : List Nod} {k : Nat} {x : Nod} (h : ∀ x ∈ l, x.log.length ≤ 1048576) (hx : l[k]? = some x) : x.log.length ≤ 1048576 := h x (List.mem_of_getElem? hx)

set_option maxHeartbeats 4000000 in
theorem chainValid_any (view : Int) (A : Option Addr) (n c : Nat) (l : List Nod) (w : World) (h : Nods w 0 w.heap.size A n c l) (hn : n ≤ 1048576) (hlog : ∀ x ∈ l, x.log.length ≤ 1048576) :
    Calls Mo.prog 23 #[.agg #[.int .i64 view, .slice A n c]] w fun e w' => e = .returned (.bool (chainOk view l)) ∧ Below w.heap.size w w' := by
  have HL := Lib.hid h.len
  have HG := Lib.hid hlog
  have H := Lib.hid h
  clear h hlog
  by_cases hin : 0 ≤ view ∧ view ≤ 999 ∧ 1 ≤ n ∧ n ≤ 5
  case neg =>
    rw [chainOk_ends (by rw [HL.out]; exact hin)]
    by_cases h0 : 0 ≤ view
    case neg =>
      clear hin
      go_enter Mo.func23, Tryz.ntmps23
      go_wp2
      go_ret
      exact ⟨rfl, (Below.refl _ _).alloc (Nat.le_refl _) _⟩
    by_cases h1 : view ≤ 999
    case neg =>
      clear hin
      go_enter Mo.func23, Tryz.ntmps23
      go_wp2
      go_ret
      exact ⟨rfl, (Below.refl _ _).alloc (Nat.le_refl _) _⟩
    by_cases h2 : 1 ≤ n
    case neg =>
      clear hin
      obtain rfl : n = 0 := by omega
      go_enter Mo.func23, Tryz.ntmps23
      go_wp2
      go_ret
      exact ⟨rfl, (Below.refl _ _).alloc (Nat.le_refl _) _⟩
    have h3 : ¬ n ≤ 5 := fun h3 => hin ⟨h0, h1, h2, h3⟩
    clear hin
    go_enter Mo.func23, Tryz.ntmps23
    go_wp2
    go_ret
    exact ⟨rfl, (Below.refl _ _).alloc (Nat.le_refl _) _⟩
  obtain ⟨h0, h1, h2, h3⟩ := hin
  have h2' : (1 : Int) ≤ (n : Int) := by omega
  have h3' : (n : Int) ≤ 5 := by omega
  obtain ⟨W0, hW0⟩ : ∃ W0, W0 = w.alloc (.cells #[.int .i64 view, .slice A n c] 25) := ⟨_, rfl⟩
  have K0 := Lib.hid (show Blk W0 w.heap.size #[.int .i64 view, .slice A n c] 25 by rw [hW0]; exact Blk.new _ _ _)
  have B0 := Lib.hid (show Below w.heap.size w W0 by rw [hW0]; exact (Below.refl _ _).alloc (Nat.le_refl _) _)
  have s0 : w.heap.size < W0.heap.size := by rw [hW0]; simp
  have HW0 := Lib.hid hW0
  clear hW0
  go_enter Mo.func23, Tryz.ntmps23
  go_wp2_with fail
  go_loopw [30] (fun i wr => ∃ k : Nat, k ≤ n ∧ i = .int .i64 k ∧ Hid ((List.range k).all (nodAt l) = true) ∧ Below W0.heap.size W0 wr)
    (fun i _ => n - (intOf i).toNat)
  case atStart => exact ⟨0, Nat.zero_le _, rfl, rfl, by rw [HW0.out]; exact Below.refl _ _⟩
  case round =>
    obtain ⟨k, hk, rfl, hall, hB⟩ := hrel
    have HK := Lib.hid (K0.out.below hB)
    have HB := Lib.hid (B0.out.trans (hB.mono (Nat.le_of_lt s0)))
    have HB0 := Lib.hid hB
    have HW := Lib.hid (H.out.on HB.out)
    have hsz : w.heap.size < wr.heap.size := Nat.lt_of_lt_of_le s0 hB.size
    have hsz0 := hB.size
    clear hB
    have b0 := HK.out.cell (i := 0) (v := .int .i64 view) rfl
    have b1 := HK.out.cell (i := 1) (v := .slice A n c) rfl
    by_cases hlt : k < n
    · obtain ⟨b, off, x, A', m, d, rfl, _, hbB, hx, c0, c1, c2, hf⟩ := HW.out.nod hlt
      have hm : m ≤ 1048576 := by have := hf.len; have := mem_len HG.out hx; omega
      have Hx := Lib.hid hx
      have HF := Lib.hid (hf.box (.cells #[.int .i64 x.id, .slice A' m d, .int .i64 x.done] 38))
      have X0 := Lib.hid (Blk.new wr #[.int .i64 x.id, .slice A' m d, .int .i64 x.done] 38)
      have K1 := Lib.hid (HK.out.alloc (.cells #[.int .i64 x.id, .slice A' m d, .int .i64 x.done] 38))
      clear hx hf
      cases hok : nodeOk x
      · go_wp2_with (go_at_call 44; refine (nodeValid_any x _ _ _ _ HF.out hm).mono ?_; rintro e w1 ⟨rfl, hb1⟩; rw [hok]; have B1 := Lib.hid (below_box hb1); clear hb1)
        go_ret
        exact ⟨ret_bool (chainOk_bad (nodAt_node Hx.out hok) (by have := HL.out; omega)).symm, HB.out.trans (B1.out.mono (by omega))⟩
      have HO := Lib.hid hok
      clear hok
      obtain ⟨pl, hpl⟩ : ∃ pl, placeI (placeOf l x.id) = pl := ⟨_, rfl⟩
      by_cases hp : placeOf l x.id = some k
      case neg =>
        have hne : (pl != (k : Int)) = true := by
          rw [← hpl]
          cases he : placeOf l x.id with
          | none => simp [placeI]; try omega
          | some j => rw [he] at hp; simp [placeI]; intro e; exact hp (by rw [show j = k by omega])
        have HP := Lib.hid hp
        have HPL := Lib.hid hpl
        clear hp hpl
        go_wp2_with fail
        refine (nodeValid_any x _ _ _ _ HF.out hm).mono ?_
        rintro e w1 ⟨rfl, hb1⟩
        rw [HO.out]
        have B1 := Lib.hid (below_box hb1)
        have k1 := K1.out.below hb1
        have x1 := X0.out.below hb1
        have q0 := k1.cell (i := 0) (v := .int .i64 view) rfl
        have q1 := k1.cell (i := 1) (v := .slice (some ⟨b, off, none⟩) n c) rfl
        have r0 := x1.cell (i := 0) (v := .int .i64 x.id) rfl
        have F1 := Lib.hid (HW.out.on B1.out)
        clear hb1 k1 x1
        go_wp2_with (go_at_call 45; refine (chainPlace_any _ _ _ _ l _ _ F1.out hn).mono ?_; rintro e w2 ⟨rfl, hb2⟩; rw [HPL.out]; have B2 := Lib.hid (B1.out.trans (hb2.mono B1.out.size)); clear hb2)
        go_ret
        exact ⟨ret_bool (chainOk_bad (nodAt_place Hx.out HP.out) (by have := HL.out; omega)).symm, HB.out.trans (B2.out.mono (by omega))⟩
      have hne : (pl != (k : Int)) = false := by rw [← hpl, hp]; simp [placeI]
      have HP := Lib.hid hp
      have HPL := Lib.hid hpl
      clear hp hpl
      by_cases hk0 : k = 0
      · have hz : ((k : Int) == 0) = true := by simp [hk0]
        have HK0 := Lib.hid hk0
        clear hk0
        go_wp2_with fail
        refine (nodeValid_any x _ _ _ _ HF.out hm).mono ?_
        rintro e w1 ⟨rfl, hb1⟩
        rw [HO.out]
        have B1 := Lib.hid (below_box hb1)
        have k1 := K1.out.below hb1
        have x1 := X0.out.below hb1
        have q0 := k1.cell (i := 0) (v := .int .i64 view) rfl
        have q1 := k1.cell (i := 1) (v := .slice (some ⟨b, off, none⟩) n c) rfl
        have r0 := x1.cell (i := 0) (v := .int .i64 x.id) rfl
        have F1 := Lib.hid (HW.out.on B1.out)
        clear hb1 k1 x1
        go_wp2_with (go_at_call 45; refine (chainPlace_any _ _ _ _ l _ _ F1.out hn).mono ?_; rintro e w2 ⟨rfl, hb2⟩; rw [HPL.out]; have B2 := Lib.hid (B1.out.trans (hb2.mono B1.out.size)); clear hb2)
        go_roundw
        case rel =>
          refine ⟨k + 1, by omega, by go_num, all_range_succ hall.out ?_, HB0.out.trans (B2.out.mono hsz0)⟩
          have e := HK0.out
          have hx0 := Hx.out
          have hp0 := HP.out
          rw [e] at hx0 hp0 ⊢
          rw [nodAt_zero hx0, HO.out, hp0]; simp
        case measure => simp [intOf]; omega
      have hz : ((k : Int) == 0) = false := by simp [hk0]
      obtain ⟨b', off', y, A'', m', d', e', _, _, hy, y0, y1, y2, hfy⟩ := HW.out.nod (show k - 1 < n by omega)
      obtain ⟨rfl, rfl⟩ : b = b' ∧ off = off' := by injection e' with e'; injection e' with e1 e2; exact ⟨e1, e2⟩
      have hm' : m' ≤ 1048576 := by have := hfy.len; have := mem_len HG.out hy; omega
      have Hy := Lib.hid hy
      have HFy := Lib.hid hfy
      have hbr : b < wr.heap.size := by omega
      have hk1 : (1 : Int) ≤ (k : Int) := by omega
      have HK0 := Lib.hid hk0
      clear hk0 hy hfy e'
      obtain ⟨lb, hlb⟩ : ∃ lb, logBegins x.log y.log = lb := ⟨_, rfl⟩
      have HLB := Lib.hid hlb
      clear hlb
      have ahead : nodAt l k = (lb && decide (y.done ≤ x.done)) := by
        have hx0 := Hx.out
        have hy0 := Hy.out
        have hp0 := HP.out
        have hk' := HK0.out
        obtain ⟨j, rfl⟩ : ∃ j, k = j + 1 := ⟨k - 1, by omega⟩
        rw [nodAt_succ hx0 hy0, HO.out, hp0, HLB.out]; simp
      have HA := Lib.hid ahead
      clear ahead
      go_wp2_with fail
      refine (nodeValid_any x _ _ _ _ HF.out hm).mono ?_
      rintro e w1 ⟨rfl, hb1⟩
      rw [HO.out]
      have B1 := Lib.hid (below_box hb1)
      have k1 := K1.out.below hb1
      have x1 := X0.out.below hb1
      have q0 := k1.cell (i := 0) (v := .int .i64 view) rfl
      have q1 := k1.cell (i := 1) (v := .slice (some ⟨b, off, none⟩) n c) rfl
      have r0 := x1.cell (i := 0) (v := .int .i64 x.id) rfl
      have KK1 := Lib.hid k1
      have XX1 := Lib.hid x1
      have F1 := Lib.hid (HW.out.on B1.out)
      have s1 : wr.heap.size < w1.heap.size := x1.lt
      clear hb1 k1 x1
      go_wp2_with fail
      refine (chainPlace_any _ _ _ _ l _ _ F1.out hn).mono ?_
      rintro e w2 ⟨rfl, hb2⟩
      rw [HPL.out]
      have B2 := Lib.hid (B1.out.trans (hb2.mono B1.out.size))
      have k2 := KK1.out.below hb2
      have x2 := XX1.out.below hb2
      have q0 := k2.cell (i := 0) (v := .int .i64 view) rfl
      have q1 := k2.cell (i := 1) (v := .slice (some ⟨b, off, none⟩) n c) rfl
      have r0 := x2.cell (i := 0) (v := .int .i64 x.id) rfl
      have r1 := x2.cell (i := 1) (v := .slice A' m d) rfl
      have r2 := x2.cell (i := 2) (v := .int .i64 x.done) rfl
      have yy0 := (B2.out.cell (p := ⟨b, off + (k - 1) * 3, none⟩) hbr).trans y0
      have yy1 := (B2.out.cell (p := ⟨b, off + (k - 1) * 3 + 1, none⟩) hbr).trans y1
      have yy2 := (B2.out.cell (p := ⟨b, off + (k - 1) * 3 + 2, none⟩) hbr).trans y2
      have s2 : w1.heap.size ≤ w2.heap.size := hb2.size
      have XX2 := Lib.hid (x2.alloc (.cells #[.int .i64 y.id, .slice A'' m' d', .int .i64 y.done] 38))
      have YY2 := Lib.hid (Blk.new w2 #[.int .i64 y.id, .slice A'' m' d', .int .i64 y.done] 38)
      have Fx := Lib.hid (((HF.out.on (show Below (wr.alloc (.cells #[.int .i64 x.id, .slice A' m d, .int .i64 x.done] 38)).heap.size _ w2 from ⟨B2.out.os, B2.out.tape, B2.out.output, by simp; omega, fun q hq => by
        by_cases e : q < wr.heap.size
        · exact (B2.out.block q e).trans (Below.heap_alloc _ _ _ e).symm
        · simp at hq
          obtain rfl : q = wr.heap.size := by omega
          exact (show w2.heap[wr.heap.size]? = _ from x2).trans (heap_alloc_new wr _).symm⟩))).box (.cells #[.int .i64 y.id, .slice A'' m' d', .int .i64 y.done] 38))
      have Fy := Lib.hid ((HFy.out.on B2.out).box (.cells #[.int .i64 y.id, .slice A'' m' d', .int .i64 y.done] 38))
      have hnn : wr.heap.size ≠ w2.heap.size := by omega
      have hnl : wr.heap.size < w2.heap.size := by omega
      have hnl' : w.heap.size < w2.heap.size := by omega
      have hnb : b ≠ w2.heap.size := by omega
      clear hb2 k2 x2
      go_wp2_with fail
      refine (logBegins_any _ _ _ _ _ _ x.log y.log _ Fx.out Fy.out hm hm').mono ?_
      rintro e w3 ⟨rfl, hb3⟩
      rw [HLB.out]
      have B3 := Lib.hid (B2.out.trans ((below_box hb3).mono B2.out.size))
      have x3 := (XX2.out.below hb3).cell (i := 2) (v := .int .i64 x.done) rfl
      have y3 := (YY2.out.below hb3).cell (i := 2) (v := .int .i64 y.done) rfl
      clear hb3 HF X0 K1 KK1 XX1 F1 XX2 YY2 Fx Fy HFy q0 q1 r0 r1 r2 yy0 yy1 yy2
      cases lb
      · go_wp2
        go_ret
        exact ⟨ret_bool (chainOk_bad (by rw [HA.out]; rfl) (by have := HL.out; omega)).symm, HB.out.trans (B3.out.mono (by omega))⟩
      · by_cases hd : x.done < y.done
        · go_wp2
          go_ret
          exact ⟨ret_bool (chainOk_bad (by rw [HA.out]; simp; omega) (by have := HL.out; omega)).symm, HB.out.trans (B3.out.mono (by omega))⟩
        · go_wp2
          go_roundw
          case rel => exact ⟨k + 1, by omega, by go_num, all_range_succ hall.out (by rw [HA.out]; simp; omega), HB0.out.trans (B3.out.mono hsz0)⟩
          case measure => simp [intOf]; omega
    · obtain rfl : n = k := by omega
      go_wp2_with fail
      refine (tailOf_any _ _ _ _ l _ HW.out hn (by omega)).mono ?_
      rintro e w1 ⟨x, A', m, d, hx, rfl, hf, hb1⟩
      have B1 := Lib.hid (HB.out.trans (hb1.mono (by omega)))
      have hml : x.log.length = m := hf.len
      have hT := tailOk_at HL.out hx
      have hC := chainOk_mk h0 h1 (by rw [HL.out]; exact h2) (by rw [HL.out]; exact h3) (by rw [HL.out]; exact hall.out)
      have HC := Lib.hid (hC.trans hT)
      have HML := Lib.hid hml
      clear hb1 hf hx hml hT hC
      have s1 := B1.out.size
      go_wp2
      go_ret
      exact ⟨ret_bool (by rw [HC.out, HML.out, Bool.eq_iff_iff]; simp), B1.out.alloc s1 _⟩
end Go.Proofs.YtcomppiglhibkaaGreatDoor
/- Chains are valid: the reference's walk. -/
namespace Go.Proofs.YtcomppiglhibkaaGreatDoor
open Go.RowKit Go.Sort

theorem placeOf_take {l : List Nod} {k : Nat} {x : Nod} (hx : l[k]? = some x) : (placeOf (l.take k) x.id).isSome = !decide (placeOf l x.id = some k) := by
  cases h : placeOf (l.take k) x.id with
  | none =>
    have : placeOf l x.id = some k := placeOf_at hx rfl fun i y hi hy e => by
      have hy' : (l.take k)[i]? = some y := by rw [List.getElem?_take, if_pos hi]; exact hy
      have : placeOf (l.take k) x.id ≠ none := by
        unfold placeOf
        rw [ne_eq, List.findIdx?_eq_none_iff]
        intro hall
        have := hall y (List.mem_of_getElem? hy')
        simp [e] at this
      exact this h
    simp [this]
  | some j =>
    obtain ⟨y, hy, he, hb⟩ := placeOf_some h
    have hj := placeOf_lt h
    rw [List.length_take] at hj
    have hy' : l[j]? = some y := by rw [List.getElem?_take, if_pos (by omega)] at hy; exact hy
    have : placeOf l x.id = some j := placeOf_at hy' he fun i z hi hz => hb i z hi (by rw [List.getElem?_take, if_pos (by omega)]; exact hz)
    rw [this]; simp; omega
theorem nodeOk_lg {x : Nod} (h : nodeOk x = true) : logOk x.log = true := by simp only [nodeOk, Bool.and_eq_true] at h; exact h.1.2
theorem nodAt_ok {l : List Nod} {i : Nat} {x : Nod} (hx : l[i]? = some x) (h : nodAt l i = true) : nodeOk x = true := by
  unfold nodAt at h; rw [hx] at h; simp only [Bool.and_eq_true] at h; exact h.1.1
theorem chainOk_tail {v : Int} {l : List Nod} (h : tailOk l = false) : chainOk v l = false := by unfold chainOk; rw [h]; simp
theorem chainOk_last {v : Int} {l : List Nod} {n : Nat} (hl : l.length = n) (h : (List.range n).all (nodAt l) = true) (ht : n ≠ 0 → tailOk l = true) : chainOk v l = (inB n 1 5 && inB v 0 999) := by
  subst hl
  unfold chainOk
  rw [h]
  by_cases h0 : l.length = 0
  · simp [h0, inB]
  · rw [ht h0, Bool.eq_iff_iff]
    simp [inB]
    omega

theorem l4Has_below (A : Option Addr) (n c : Nat) (l : List Nod) (id : Int) (w : World) (h : Nods w 0 w.heap.size A n c l) (hn : n ≤ 1048576) :
    Calls Mo.prog 63 #[.slice A n c, .int .i64 id] w fun e w' => e = .returned (.bool (placeOf l id).isSome) ∧ Below w.heap.size w w' :=
  (l4Has_any A n c l id w h hn).mono fun e w' ⟨h1, h2⟩ => ⟨h1, by subst h2; exact Below.refl _ _⟩

set_option maxHeartbeats 8000000 in
theorem specChainValid_any (view : Int) (A : Option Addr) (n c : Nat) (l : List Nod) (w : World) (h : Nods w 0 w.heap.size A n c l) (hn : n ≤ 1048576) (hlog : ∀ x ∈ l, x.log.length ≤ 1048576) :
    Calls Mo.prog 39 #[.agg #[.int .i64 view, .slice A n c]] w fun e w' => e = .returned (.bool (chainOk view l)) ∧ Below w.heap.size w w' := by
  have HL := Lib.hid h.len
  have HG := Lib.hid hlog
  have H := Lib.hid h
  have hnc := h.cap.1
  have hcm := h.cap.2
  unfold maxLen at hcm
  clear h hlog
  obtain ⟨W0, hW0⟩ : ∃ W0, W0 = w.alloc (.cells #[.int .i64 view, .slice A n c] 25) := ⟨_, rfl⟩
  have K0 := Lib.hid (show Blk W0 w.heap.size #[.int .i64 view, .slice A n c] 25 by rw [hW0]; exact Blk.new _ _ _)
  have B0 := Lib.hid (show Below w.heap.size w W0 by rw [hW0]; exact (Below.refl _ _).alloc (Nat.le_refl _) _)
  have s0 : w.heap.size < W0.heap.size := by rw [hW0]; simp
  have HW0 := Lib.hid hW0
  clear hW0
  go_enter Mo.func39, Tryz.ntmps39
  go_wp2_with fail
  go_loopw [3] (fun i wr => ∃ k : Nat, k ≤ n ∧ i = .int .i64 k ∧ Hid ((List.range k).all (nodAt l) = true) ∧ Hid (k = n → n ≠ 0 → tailOk l = true) ∧ Below W0.heap.size W0 wr)
    (fun i _ => n - (intOf i).toNat)
  case atStart => exact ⟨0, Nat.zero_le _, rfl, rfl, (fun e h => absurd e.symm h), by rw [HW0.out]; exact Below.refl _ _⟩
  case round =>
    obtain ⟨k, hk, rfl, hall, htl, hB⟩ := hrel
    have HK := Lib.hid (K0.out.below hB)
    have HB := Lib.hid (B0.out.trans (hB.mono (Nat.le_of_lt s0)))
    have HB0 := Lib.hid hB
    have HW := Lib.hid (H.out.on HB.out)
    have hsz : w.heap.size < wr.heap.size := Nat.lt_of_lt_of_le s0 hB.size
    have hsz0 := hB.size
    clear hB
    have b0 := HK.out.cell (i := 0) (v := .int .i64 view) rfl
    have b1 := HK.out.cell (i := 1) (v := .slice A n c) rfl
    by_cases hlt : k < n
    · obtain ⟨b, off, x, A', m, d, rfl, _, hbB, hx, c0, c1, c2, hf⟩ := HW.out.nod hlt
      have hm : m ≤ 1048576 := by have := hf.len; have := mem_len HG.out hx; omega
      have hml : x.log.length = m := hf.len
      have HML := Lib.hid hml
      have Hx := Lib.hid hx
      obtain ⟨W, hW⟩ : ∃ W, W = wr.alloc (.cells #[.int .i64 x.id, .slice A' m d, .int .i64 x.done] 38) := ⟨_, rfl⟩
      have hbW : Below wr.heap.size wr W := by rw [hW]; exact (Below.refl _ _).alloc (Nat.le_refl _) _
      have X0 := Lib.hid (show Blk W wr.heap.size #[.int .i64 x.id, .slice A' m d, .int .i64 x.done] 38 by rw [hW]; exact Blk.new _ _ _)
      have K1 := Lib.hid (HK.out.below hbW)
      have HF := Lib.hid (hf.on hbW)
      have HN := Lib.hid ((HW.out.on hbW).take_ (Nat.le_of_lt hlt))
      have BW := Lib.hid hbW
      have HWE := Lib.hid hW
      clear hx hf hml hbW hW
      have d0 := cell_regrown (X0.out.cell (i := 0) (v := .int .i64 x.id) rfl)
      have d1 := cell_regrown (X0.out.cell (i := 1) (v := .slice A' m d) rfl)
      have d2 := cell_regrown (X0.out.cell (i := 2) (v := .int .i64 x.done) rfl)
      have d3 := cell_regrown (K1.out.cell (i := 1) (v := .slice (some ⟨b, off, none⟩) n c) rfl)
      have hkc : (k : Int) ≤ (c : Int) := by omega
      have hk0 : (0 : Int) ≤ (k : Int) := by omega
      cases hok : nodeOk x
      · go_wp2_with fail
        rw [← HWE.out]
        refine wp_region_quiet_below (by kernel_rfl) (by kernel_rfl) ?_
        repeat (go_big_quiet_step ((go_at_call 62; exact Calls.regrown_of (specNodeValid_any x _ _ _ _ (HF.out.on (below_regrown _ _ _)) hm))))
        refine wpQuiet_nil ?_
        intro w2 hw2
        have hb2 := Lib.hid (below_of_regrown hw2)
        clear hw2 d0 d1 d2 d3
        go_wp2
        go_ret
        exact ⟨ret_bool (chainOk_bad (nodAt_node Hx.out hok) (by have := HL.out; omega)).symm, HB.out.trans ((BW.out.mono (by omega)).trans (hb2.out.mono (by have := BW.out.size; omega)))⟩
      have hps := placeOf_take Hx.out
      have HPS := Lib.hid hps
      clear hps
      cases hhas : (placeOf (l.take k) x.id).isSome
      case true =>
        go_wp2_with fail
        rw [← HWE.out]
        refine wp_region_quiet_below (by kernel_rfl) (by kernel_rfl) ?_
        repeat (go_big_quiet_step ((first | (go_at_call 62; exact Calls.regrown_of (specNodeValid_any x _ _ _ _ (HF.out.on (below_regrown _ _ _)) hm)) | (go_at_call 63; exact Calls.regrown_of (l4Has_below _ _ _ (l.take k) _ _ (HN.out.on (below_regrown _ _ _)) (by omega))))))
        refine wpQuiet_nil ?_
        intro w2 hw2
        have hb2 := Lib.hid (below_of_regrown hw2)
        clear hw2 d0 d1 d2 d3
        go_wp2
        go_ret
        refine ⟨ret_bool (chainOk_bad (nodAt_place Hx.out ?_) (by have := HL.out; omega)).symm, HB.out.trans ((BW.out.mono (by omega)).trans (hb2.out.mono (by have := BW.out.size; omega)))⟩
        have := HPS.out
        rw [hhas] at this
        intro e; rw [e] at this; simp at this
      case false =>
      have hpl : placeOf l x.id = some k := by
        have := HPS.out
        rw [hhas] at this
        simpa using this
      have HPL := Lib.hid hpl
      clear hpl
      go_wp2_with fail
      rw [← HWE.out]
      refine wp_region_quiet_below (by kernel_rfl) (by kernel_rfl) ?_
      repeat (go_big_quiet_step ((first | (go_at_call 62; exact Calls.regrown_of (specNodeValid_any x _ _ _ _ (HF.out.on (below_regrown _ _ _)) hm)) | (go_at_call 63; exact Calls.regrown_of (l4Has_below _ _ _ (l.take k) _ _ (HN.out.on (below_regrown _ _ _)) (by omega))))))
      refine wpQuiet_nil ?_
      intro w2 hw2
      have hb2 := below_of_regrown hw2
      have B2 := Lib.hid (HB.out.trans ((BW.out.mono (by omega)).trans (hb2.mono (by have := BW.out.size; omega))))
      have B20 := Lib.hid (HB0.out.trans ((BW.out.mono hsz0).trans (hb2.mono (by have := BW.out.size; omega))))
      have BR := Lib.hid (BW.out.trans (hb2.mono BW.out.size))
      have X2 := Lib.hid (X0.out.below hb2)
      have K2 := Lib.hid (K1.out.below hb2)
      have F2 := Lib.hid (HF.out.on hb2)
      have s2 : wr.heap.size < w2.heap.size := X2.out.lt
      clear hw2 d0 d1 d2 d3 hb2
      have HO := Lib.hid hok
      have HH := Lib.hid hhas
      clear hok hhas
      have r0 := X2.out.cell (i := 0) (v := .int .i64 x.id) rfl
      have r1 := X2.out.cell (i := 1) (v := .slice A' m d) rfl
      have r2 := X2.out.cell (i := 2) (v := .int .i64 x.done) rfl
      have t1 := K2.out.cell (i := 1) (v := .slice (some ⟨b, off, none⟩) n c) rfl
      rcases Nat.eq_zero_or_pos k with hkz | hkp
      · have na : nodAt l k = true := by
          have hx0 := Hx.out
          have hp0 := HPL.out
          rw [hkz] at hx0 hp0 ⊢
          rw [nodAt_zero hx0, HO.out, hp0]; simp
        have NA := Lib.hid na
        have hg : decide ((0 : Int) < (k : Int)) = false := by simp; omega
        have hgn : decide (0 < k) = false := by simp; omega
        clear na hkz
        go_wp2_with fail
        refine wp_region_quiet_below (by kernel_rfl) (by kernel_rfl) ?_
        repeat (go_big_quiet_step (fail))
        refine wpQuiet_nil ?_
        intro w3 hw3
        have hb3 := below_of_regrown hw3
        have B3 := Lib.hid (B2.out.trans (hb3.mono B2.out.size))
        have B30 := Lib.hid (B20.out.trans (hb3.mono B20.out.size))
        have X3 := Lib.hid (X2.out.below hb3)
        have K3 := Lib.hid (K2.out.below hb3)
        clear hw3 hb3 r0 r1 r2 t1
        have r2 := X3.out.cell (i := 2) (v := .int .i64 x.done) rfl
        have r1 := X3.out.cell (i := 1) (v := .slice A' m d) rfl
        have t1 := K3.out.cell (i := 1) (v := .slice (some ⟨b, off, none⟩) n c) rfl
        by_cases hlast : k + 1 = n
        · have hl1 : (((k : Int) + 1) == (n : Int)) = true := by simp; omega
          by_cases hdone : x.done = (m : Int)
          · have hd1 : (x.done != (m : Int)) = false := by simp [hdone]
            have HD := Lib.hid hdone
            have HLA := Lib.hid hlast
            clear hdone hlast
            go_wp2
            go_roundw
            case rel => exact ⟨k + 1, by omega, by go_num, all_range_succ hall.out NA.out, (fun _ _ => by rw [tailOk_at HL.out (by rw [← HLA.out]; exact Hx.out), HD.out, HML.out]; simp), B30.out⟩
            case measure => simp [intOf]; omega
          · have hd1 : (x.done != (m : Int)) = true := by simp [hdone]
            have HD := Lib.hid hdone
            have HLA := Lib.hid hlast
            clear hdone hlast
            go_wp2
            go_ret
            exact ⟨ret_bool (chainOk_tail (by rw [tailOk_at HL.out (by rw [← HLA.out]; exact Hx.out), HML.out]; simp; exact HD.out)).symm, B3.out⟩
        · have hl1 : (((k : Int) + 1) == (n : Int)) = false := by simp; omega
          have HLA := Lib.hid hlast
          clear hlast
          go_wp2
          go_roundw
          case rel => exact ⟨k + 1, by omega, by go_num, all_range_succ hall.out NA.out, (fun e _ => absurd e HLA.out), B30.out⟩
          case measure => simp [intOf]; omega
      · obtain ⟨b', off', y, A'', m', d', e', _, _, hy, y0, y1, y2, hfy⟩ := HW.out.nod (show k - 1 < n by omega)
        obtain ⟨rfl, rfl⟩ : b = b' ∧ off = off' := by injection e' with e'; injection e' with e1 e2; exact ⟨e1, e2⟩
        have hm' : m' ≤ 1048576 := by have := hfy.len; have := mem_len HG.out hy; omega
        have hyo := nodAt_ok hy (all_range_at hall.out (show k - 1 < k by omega))
        have Hy := Lib.hid hy
        have HFy := Lib.hid (hfy.on BR.out)
        have hbr : b < wr.heap.size := by omega
        have hk1 : (1 : Int) ≤ (k : Int) := by omega
        have hk1' : (0 : Int) ≤ (k : Int) - 1 := by omega
        have hkn1 : (k : Int) - 1 < (n : Int) := by omega
        have hg : decide ((0 : Int) < (k : Int)) = true := by simp; omega
        have hgn : decide (0 < k) = true := by simp; omega
        have wr1 : IntKind.i64.wrap ((k : Int) - 1) = (k : Int) - 1 := IntWalk.i64_in _ (by omega)
        have wr2 : ((k : Int) - 1).toNat = k - 1 := by omega
        have e0 := cell_regrown (X2.out.cell (i := 0) (v := .int .i64 x.id) rfl)
        have e1 := cell_regrown (X2.out.cell (i := 1) (v := .slice A' m d) rfl)
        have e2 := cell_regrown (X2.out.cell (i := 2) (v := .int .i64 x.done) rfl)
        have e3 := cell_regrown (K2.out.cell (i := 1) (v := .slice (some ⟨b, off, none⟩) n c) rfl)
        have e4 := cell_regrown ((BR.out.cell (p := ⟨b, off + (k - 1) * 3 + 1, none⟩) hbr).trans y1)
        have e5 := cell_regrown ((BR.out.cell (p := ⟨b, off + (k - 1) * 3 + 2, none⟩) hbr).trans y2)
        obtain ⟨cm, hcm'⟩ : ∃ cm, common x.log y.log = cm := ⟨_, rfl⟩
        have ahead : nodAt l k = (decide (cm = m) && decide (y.done ≤ x.done)) := by
          have hx0 := Hx.out
          have hy0 := hy
          have hp0 := HPL.out
          obtain ⟨j, rfl⟩ : ∃ j, k = j + 1 := ⟨k - 1, by omega⟩
          have hl1 := nodeOk_lg HO.out
          have hl2 := nodeOk_lg hyo
          rw [nodAt_succ hx0 hy0, HO.out, hp0]
          unfold logBegins
          rw [hl1, hl2, hcm', HML.out]; simp
        have HA := Lib.hid ahead
        have hle : cm ≤ m := by have := (common_le x.log y.log).1; have := HML.out; omega
        have HC := Lib.hid (show ∀ (q : Nat) (os : Array Obj), Calls Mo.prog 64 #[.slice A' m d, .slice A'' m' d'] (grow (redrawn w2 q) os) fun e w' => e = .returned (.int .i64 (cm : Int)) ∧ Below (grow (redrawn w2 q) os).heap.size (grow (redrawn w2 q) os) w' from fun q os => by
          have hc := l1Common_any A' A'' m d m' d' x.log y.log (grow (redrawn w2 q) os) (F2.out.on (below_regrown _ _ _)) (HFy.out.on (below_regrown _ _ _)) hm hm'
          rwa [hcm'] at hc)
        clear hy hfy e' hyo hcm' ahead y0 y1 y2 c0 c1 c2
        by_cases hcl : cm < m
        · have hcl' : decide ((cm : Int) < (m : Int)) = true := by simp; omega
          go_wp2_with fail
          refine wp_region_quiet_below (by kernel_rfl) (by kernel_rfl) ?_
          repeat (go_big_quiet_step ((go_at_call 64; exact Calls.regrown_of (HC.out _ _))))
          refine wpQuiet_nil ?_
          intro w3 hw3
          have hb3 := below_of_regrown hw3
          have B3 := Lib.hid (B2.out.trans (hb3.mono B2.out.size))
          clear hw3 hb3 r0 r1 r2 t1 e0 e1 e2 e3 e4 e5 wr1 wr2
          go_wp2
          go_ret
          exact ⟨ret_bool (chainOk_bad (by rw [HA.out]; simp; omega) (by have := HL.out; omega)).symm, B3.out⟩
        · obtain rfl : cm = m := by omega
          have hcl' : decide ((cm : Int) < (cm : Int)) = false := by simp
          have hcln : decide (cm < cm) = false := by simp
          by_cases hd : x.done < y.done
          · have hd' : decide (x.done < y.done) = true := by simp [hd]
            go_wp2_with fail
            refine wp_region_quiet_below (by kernel_rfl) (by kernel_rfl) ?_
            repeat (go_big_quiet_step ((go_at_call 64; exact Calls.regrown_of (HC.out _ _))))
            refine wpQuiet_nil ?_
            intro w3 hw3
            have hb3 := below_of_regrown hw3
            have B3 := Lib.hid (B2.out.trans (hb3.mono B2.out.size))
            clear hw3 hb3 r0 r1 r2 t1 e0 e1 e2 e3 e4 e5 wr1 wr2
            go_wp2
            go_ret
            exact ⟨ret_bool (chainOk_bad (by rw [HA.out]; simp; omega) (by have := HL.out; omega)).symm, B3.out⟩
          · have hd' : decide (x.done < y.done) = false := by simp; omega
            have NA := Lib.hid (show nodAt l k = true by rw [HA.out]; simp; omega)
            have HDD := Lib.hid hd
            clear hd
            go_wp2_with fail
            refine wp_region_quiet_below (by kernel_rfl) (by kernel_rfl) ?_
            repeat (go_big_quiet_step ((go_at_call 64; exact Calls.regrown_of (HC.out _ _))))
            refine wpQuiet_nil ?_
            intro w3 hw3
            have hb3 := below_of_regrown hw3
            have B3 := Lib.hid (B2.out.trans (hb3.mono B2.out.size))
            have B30 := Lib.hid (B20.out.trans (hb3.mono B20.out.size))
            have X3 := Lib.hid (X2.out.below hb3)
            have K3 := Lib.hid (K2.out.below hb3)
            clear hw3 hb3 r0 r1 r2 t1 e0 e1 e2 e3 e4 e5 wr1 wr2 hd'
            have r2 := X3.out.cell (i := 2) (v := .int .i64 x.done) rfl
            have r1 := X3.out.cell (i := 1) (v := .slice A' cm d) rfl
            have t1 := K3.out.cell (i := 1) (v := .slice (some ⟨b, off, none⟩) n c) rfl
            by_cases hlast : k + 1 = n
            · have hl1 : (((k : Int) + 1) == (n : Int)) = true := by simp; omega
              by_cases hdone : x.done = (cm : Int)
              · have hd1 : (x.done != (cm : Int)) = false := by simp [hdone]
                have HD := Lib.hid hdone
                have HLA := Lib.hid hlast
                clear hdone hlast
                go_wp2
                go_roundw
                case rel => exact ⟨k + 1, by omega, by go_num, all_range_succ hall.out NA.out, (fun _ _ => by rw [tailOk_at HL.out (by rw [← HLA.out]; exact Hx.out), HD.out, HML.out]; simp), B30.out⟩
                case measure => simp [intOf]; omega
              · have hd1 : (x.done != (cm : Int)) = true := by simp [hdone]
                have HD := Lib.hid hdone
                have HLA := Lib.hid hlast
                clear hdone hlast
                go_wp2
                go_ret
                exact ⟨ret_bool (chainOk_tail (by rw [tailOk_at HL.out (by rw [← HLA.out]; exact Hx.out), HML.out]; simp; exact HD.out)).symm, B3.out⟩
            · have hl1 : (((k : Int) + 1) == (n : Int)) = false := by simp; omega
              have HLA := Lib.hid hlast
              clear hlast
              go_wp2
              go_roundw
              case rel => exact ⟨k + 1, by omega, by go_num, all_range_succ hall.out NA.out, (fun e _ => absurd e HLA.out), B30.out⟩
              case measure => simp [intOf]; omega
    · obtain rfl : n = k := by omega
      have hC := chainOk_last (v := view) HL.out hall.out (htl.out rfl)
      have HC := Lib.hid hC
      clear hC
      by_cases hn0 : inB n 1 5 = true
      all_goals
        go_wp2_with (go_at_call 65; refine (l6In_any _ _ _ _).mono ?_; rintro e w' ⟨rfl, rfl⟩)
        go_ret
        exact ⟨ret_bool (by rw [HC.out]; simp_all), HB.out⟩
end Go.Proofs.YtcomppiglhibkaaGreatDoor
/- How many updates a new node must get: the plain function, the program's and the reference's walks. -/
namespace Go.Proofs.YtcomppiglhibkaaGreatDoor
open Go.RowKit

def addCost (v : Int) (l : List Nod) : Int := if chainOk v l then (match l[l.length - 1]? with | some x => (x.log.length : Int) | none => 0) else -1
theorem chainOk_len {v : Int} {l : List Nod} (h : chainOk v l = true) : 1 ≤ l.length ∧ l.length ≤ 5 := by
  unfold chainOk at h; simp only [Bool.and_eq_true, decide_eq_true_eq] at h; exact ⟨h.1.1.1.2, h.1.1.2⟩
theorem addCost_ok {v : Int} {l : List Nod} {n : Nat} {x : Nod} (h : chainOk v l = true) (hl : l.length = n) (hx : l[n - 1]? = some x) : addCost v l = x.log.length := by
  unfold addCost; rw [h, hl, hx]; rfl


end Go.Proofs.YtcomppiglhibkaaGreatDoor
/- The role of a node: the plain function, the program's and the reference's walks. -/
namespace Go.Proofs.YtcomppiglhibkaaGreatDoor
open Go.RowKit Go.Sort

def roleOf (at_ many : Int) : Int := if at_ < 0 ∨ many ≤ at_ then 0 else if many = 1 then 4 else if at_ = 0 then 1 else if at_ = many - 1 then 3 else 2
def dropRole (v : Int) (l : List Nod) (id : Int) : Int := if chainOk v l then roleOf (placeI (placeOf l id)) l.length else 0
theorem placeI_lt {l : List Nod} {id : Int} : placeI (placeOf l id) < l.length ∨ l.length = 0 := by
  cases h : placeOf l id with
  | none => unfold placeI; simp; omega
  | some k => have := placeOf_lt h; left; simp [placeI]; exact this


theorem roleOf_cases (a m : Int) : roleOf a m = 0 ∨ roleOf a m = 1 ∨ roleOf a m = 2 ∨ roleOf a m = 3 ∨ roleOf a m = 4 := by
  unfold roleOf
  split
  · exact .inl rfl
  · split
    · exact .inr (.inr (.inr (.inr rfl)))
    · split
      · exact .inr (.inl rfl)
      · split
        · exact .inr (.inr (.inr (.inl rfl)))
        · exact .inr (.inr (.inl rfl))


theorem roleOf4 {a m : Int} (h0 : ¬ a < 0) (h1 : a < m) (h2 : m = 1) : roleOf a m = 4 := by unfold roleOf; rw [if_neg (by omega), if_pos h2]
theorem roleOf1 {a m : Int} (_ : ¬ a < 0) (h1 : a < m) (h2 : m ≠ 1) (h3 : a = 0) : roleOf a m = 1 := by unfold roleOf; rw [if_neg (by omega), if_neg h2, if_pos h3]
theorem roleOf3 {a m : Int} (h0 : ¬ a < 0) (_ : a < m) (h2 : m ≠ 1) (h3 : a ≠ 0) (h4 : a + 1 = m) : roleOf a m = 3 := by unfold roleOf; rw [if_neg (by omega), if_neg h2, if_neg h3, if_pos (by omega)]
theorem roleOf2 {a m : Int} (h0 : ¬ a < 0) (h1 : a < m) (h2 : m ≠ 1) (h3 : a ≠ 0) (h4 : a + 1 ≠ m) : roleOf a m = 2 := by unfold roleOf; rw [if_neg (by omega), if_neg h2, if_neg h3, if_neg (by omega)]
theorem dropRole_ok {v : Int} {l : List Nod} {id : Int} {n : Nat} (h : chainOk v l = true) (hl : l.length = n) : dropRole v l id = roleOf (placeI (placeOf l id)) n := by
  unfold dropRole; rw [h, hl]; rfl
theorem placeI_ge (p : Option Nat) : -1 ≤ placeI p := by cases p <;> simp [placeI] <;> omega


end Go.Proofs.YtcomppiglhibkaaGreatDoor
/- What dropping a node loses: the model, in plain Lean. -/
namespace Go.Proofs.YtcomppiglhibkaaGreatDoor
open Go.RowKit

/-- the head's updates that the next node has not: lost when the head of two or more is dropped -/
def lost (v : Int) (l : List Nod) (id : Int) : List Upd :=
  if dropRole v l id = 1 then (match l[0]?, l[1]? with | some x, some y => x.log.drop y.log.length | _, _ => []) else []
theorem lost_not {v : Int} {l : List Nod} {id : Int} (h : dropRole v l id ≠ 1) : lost v l id = [] := by simp [lost, h]
theorem lost_head {v : Int} {l : List Nod} {id : Int} {x y : Nod} (h : dropRole v l id = 1) (hx : l[0]? = some x) (hy : l[1]? = some y) : lost v l id = x.log.drop y.log.length := by simp [lost, h, hx, hy]
/-- a head's role: the chain is valid and has two nodes or more, the next node's log begins the head's, and its done is no smaller than.. -/
theorem head_of {v : Int} {l : List Nod} {id : Int} (h : dropRole v l id = 1) : chainOk v l = true ∧ placeI (placeOf l id) = 0 ∧ 1 < l.length := by
  unfold dropRole at h
  split at h
  · rename_i hok
    refine ⟨hok, ?_⟩
    unfold roleOf at h
    split at h
    · omega
    split at h
    · omega
    split at h
    · rename_i h1 h2 h3
      have := placeI_lt (l := l) (id := id)
      have := chainOk_len hok
      exact ⟨h3, by omega⟩
    split at h <;> omega
  · omega
theorem head_logs {v : Int} {l : List Nod} {x y : Nod} (h : chainOk v l = true) (hx : l[0]? = some x) (hy : l[1]? = some y) : nodeOk x = true ∧ y.log <+: x.log ∧ x.done ≤ y.done ∧ nodeOk y = true := by
  have hl := (List.getElem?_eq_some_iff.1 hy).1
  unfold chainOk at h
  simp only [Bool.and_eq_true, List.all_eq_true, List.mem_range] at h
  have h0 := h.1.2 0 (by omega)
  have h1 := h.1.2 1 hl
  rw [nodAt_zero hx] at h0
  rw [nodAt_succ (j := 0) hy hx] at h1
  simp only [Bool.and_eq_true, decide_eq_true_eq, logBegins_iff] at h0 h1
  exact ⟨h0.1, h1.2.1.2.2, h1.2.2, h1.1.1⟩
theorem lost_len {v : Int} {l : List Nod} {x y : Nod} (h : chainOk v l = true) (hx : l[0]? = some x) (hy : l[1]? = some y) : y.log.length ≤ x.log.length := (head_logs h hx hy).2.1.length_le
end Go.Proofs.YtcomppiglhibkaaGreatDoor
/- Valid chains, and what dropping and adding a node make of them: plain Lean, no program in sight. -/
namespace Go.Proofs.YtcomppiglhibkaaGreatDoor
open Go.RowKit
/-- one node and one behind it -/
def Ahead (y x : Nod) : Prop := y.id ≠ x.id ∧ x.log <+: y.log ∧ y.done ≤ x.done
theorem Ahead.trans {a b c : Nod} (h : Ahead a b) (h' : Ahead b c) (hne : a.id ≠ c.id) : Ahead a c := ⟨hne, h'.2.1.trans h.2.1, Int.le_trans h.2.2 h'.2.2⟩
theorem nodeOk_log' {x : Nod} (h : nodeOk x = true) : logOk x.log = true := by unfold nodeOk at h; simp only [Bool.and_eq_true] at h; exact h.1.2
theorem nodeOk_iff {x : Nod} : nodeOk x = true ↔ 1 ≤ x.id ∧ x.id ≤ 99 ∧ logOk x.log = true ∧ 0 ≤ x.done ∧ x.done ≤ x.log.length := by
  unfold nodeOk inB; simp only [Bool.and_eq_true, decide_eq_true_eq]; constructor
  · rintro ⟨⟨⟨a, b⟩, c⟩, d, e⟩; exact ⟨a, b, c, d, e⟩
  · rintro ⟨a, b, c, d, e⟩; exact ⟨⟨⟨a, b⟩, c⟩, d, e⟩
/-- what a valid chain is -/
def Good (v : Int) (l : List Nod) : Prop := 0 ≤ v ∧ v ≤ 999 ∧ 1 ≤ l.length ∧ l.length ≤ 5 ∧ (∀ x ∈ l, nodeOk x = true) ∧ l.Pairwise Ahead ∧ tailOk l = true
theorem placeOf_iff {l : List Nod} {x : Nod} {i : Nat} (hx : l[i]? = some x) : placeOf l x.id = some i ↔ ∀ (j : Nat) (y : Nod), j < i → l[j]? = some y → y.id ≠ x.id := by
  constructor
  · intro h
    obtain ⟨z, hz, _, hb⟩ := placeOf_some h
    exact hb
  · intro h; exact placeOf_at hx rfl h
theorem nodAt_iff {l : List Nod} {i : Nat} {x : Nod} (hx : l[i]? = some x) : nodAt l i = true ↔ nodeOk x = true ∧ (∀ (j : Nat) (y : Nod), j < i → l[j]? = some y → y.id ≠ x.id) ∧ (∀ y, 0 < i → l[i - 1]? = some y → logOk y.log = true ∧ logOk x.log = true ∧ x.log <+: y.log ∧ y.done ≤ x.done) := by
  cases i with
  | zero => rw [nodAt_zero hx]; simp [placeOf_iff hx]
  | succ j =>
    have hj : j < l.length := by have := (List.getElem?_eq_some_iff.1 hx).1; omega
    have hy : l[j]? = some l[j] := List.getElem?_eq_getElem hj
    rw [nodAt_succ hx hy]
    simp only [Bool.and_eq_true, decide_eq_true_eq, placeOf_iff hx, logBegins_iff]
    constructor
    · rintro ⟨⟨a, b⟩, ⟨c, d, e⟩, f⟩
      refine ⟨a, b, fun y _ h => ?_⟩
      simp only [Nat.add_sub_cancel] at h
      rw [hy] at h; injection h with h; subst h
      exact ⟨d, c, e, f⟩
    · rintro ⟨a, b, c⟩
      obtain ⟨d, e, f, g⟩ := c l[j] (by omega) (by simp [hy])
      exact ⟨⟨a, b⟩, ⟨e, d, f⟩, g⟩
theorem good_iff {v : Int} {l : List Nod} : chainOk v l = true ↔ Good v l := by
  unfold chainOk Good
  simp only [Bool.and_eq_true, decide_eq_true_eq, List.all_eq_true, List.mem_range, inB]
  constructor
  · rintro ⟨⟨⟨⟨⟨a, b⟩, c⟩, d⟩, h⟩, t⟩
    refine ⟨a, b, c, d, fun x hx => ?_, ?_, t⟩
    · obtain ⟨i, hi⟩ := List.getElem?_of_mem hx
      exact ((nodAt_iff hi).1 (h i (List.getElem?_eq_some_iff.1 hi).1)).1
    · rw [List.pairwise_iff_getElem]
      intro i j hi hj hij
      induction j with
      | zero => omega
      | succ j ih =>
        have hx : l[j + 1]? = some l[j + 1] := List.getElem?_eq_getElem hj
        have n := (nodAt_iff hx).1 (h (j + 1) hj)
        have hjl : j < l.length := by omega
        obtain ⟨_, _, p, q⟩ := n.2.2 l[j] (by omega) (by simp)
        have one : Ahead l[j] l[j + 1] := ⟨n.2.1 j _ (by omega) (List.getElem?_eq_getElem hjl), p, q⟩
        by_cases e : i = j
        · subst e; exact one
        · exact (ih hjl (by omega)).trans one (n.2.1 i _ hij (List.getElem?_eq_getElem hi))
  · rintro ⟨a, b, c, d, ok, pw, t⟩
    refine ⟨⟨⟨⟨⟨a, b⟩, c⟩, d⟩, fun i hi => ?_⟩, t⟩
    rw [List.pairwise_iff_getElem] at pw
    have hx : l[i]? = some l[i] := List.getElem?_eq_getElem hi
    refine (nodAt_iff hx).2 ⟨ok _ (List.getElem_mem hi), fun j y hj hy => ?_, fun y h0 hy => ?_⟩
    · obtain ⟨hjl, rfl⟩ := List.getElem?_eq_some_iff.1 hy
      exact (pw j i hjl hi hj).1
    · obtain ⟨hjl, rfl⟩ := List.getElem?_eq_some_iff.1 hy
      have := pw (i - 1) i hjl hi (by omega)
      exact ⟨nodeOk_log' (ok _ (List.getElem_mem hjl)), nodeOk_log' (ok _ (List.getElem_mem hi)), this.2.1, this.2.2⟩

/-- the last node is told that all it has is everywhere -/
def fixTail (l : List Nod) : List Nod := match l[l.length - 1]? with | some x => l.set (l.length - 1) { x with done := x.log.length } | none => l
theorem fixTail_snoc (l : List Nod) (x : Nod) : fixTail (l ++ [x]) = l ++ [{ x with done := x.log.length }] := by
  unfold fixTail
  have : (l ++ [x])[(l ++ [x]).length - 1]? = some x := by simp
  rw [this]; simp
theorem fixTail_nil : fixTail [] = [] := rfl
theorem fixTail_length (l : List Nod) : (fixTail l).length = l.length := by unfold fixTail; split <;> simp
theorem snoc_of {l : List Nod} (h : 1 ≤ l.length) : ∃ (a : List Nod) (x : Nod), l = a ++ [x] :=
  ⟨l.dropLast, l.getLast (by intro e; subst e; simp at h), (List.dropLast_concat_getLast _).symm⟩
theorem tailOk_snoc (l : List Nod) (x : Nod) : tailOk (l ++ [x]) = decide (x.done = x.log.length) := by
  unfold tailOk
  have : (l ++ [x])[(l ++ [x]).length - 1]? = some x := by simp
  rw [this]
/-- a part of a valid chain, with its tail told, is valid -/
theorem good_part {v u : Int} {l r : List Nod} (h : Good v l) (hs : r.Sublist l) (hr : 1 ≤ r.length) (h0 : 0 ≤ u) (h9 : u ≤ 999) : Good u (fixTail r) := by
  obtain ⟨_, _, _, h4, ok, pw, _⟩ := h
  have pr := pw.sublist hs
  have hl := hs.length_le
  have okr : ∀ x ∈ r, nodeOk x = true := fun x hx => ok x (hs.subset hx)
  obtain ⟨a, x, rfl⟩ := snoc_of hr
  rw [fixTail_snoc]
  rw [List.pairwise_append] at pr
  refine ⟨h0, h9, by simp, by simp at hl ⊢; omega, fun y hy => ?_, ?_, by rw [tailOk_snoc]; simp⟩
  · rcases List.mem_append.1 hy with hy | hy
    · exact okr y (List.mem_append_left _ hy)
    · simp at hy; subst hy
      have := nodeOk_iff.1 (okr x (by simp))
      exact nodeOk_iff.2 ⟨this.1, this.2.1, this.2.2.1, by show (0:Int) ≤ (x.log.length : Int); omega, Int.le_refl _⟩
  · rw [List.pairwise_append]
    refine ⟨pr.1, List.pairwise_singleton _ _, fun y hy z hz => ?_⟩
    simp at hz; subst hz
    have := pr.2.2 y hy x (by simp)
    have hx := nodeOk_iff.1 (okr x (by simp))
    exact ⟨this.1, this.2.1, Int.le_trans this.2.2 hx.2.2.2.2⟩
theorem good_view {v u : Int} {l : List Nod} (h : Good v l) (h0 : 0 ≤ u) (h9 : u ≤ 999) : Good u l := ⟨h0, h9, h.2.2⟩

/-! ### Dropping -/
def dropped (l : List Nod) (k : Nat) : List Nod := fixTail (l.eraseIdx k)
def dropM (v : Int) (l : List Nod) (id : Int) : Option (Int × List Nod) :=
  if chainOk v l then match placeOf l id with
    | some k => if chainOk (v + 1) (dropped l k) then some (v + 1, dropped l k) else none
    | none => none
  else none
theorem dropM_bad {v : Int} {l : List Nod} {id : Int} (h : chainOk v l = false) : dropM v l id = none := by simp [dropM, h]
theorem dropM_none {v : Int} {l : List Nod} {id : Int} (h : placeOf l id = none) : dropM v l id = none := by simp [dropM, h]
theorem dropM_at {v : Int} {l : List Nod} {id : Int} {k : Nat} (h : chainOk v l = true) (hk : placeOf l id = some k) : dropM v l id = if chainOk (v + 1) (dropped l k) then some (v + 1, dropped l k) else none := by simp [dropM, h, hk]
theorem chainOk_nil {v : Int} : chainOk v [] = false := by simp [chainOk]
theorem dropM_one {v : Int} {l : List Nod} {id : Int} (h : l.length = 1) : dropM v l id = none := by
  unfold dropM
  split
  · split
    · rename_i k hk
      have := placeOf_lt hk
      have e : dropped l k = [] := by
        apply List.eq_nil_of_length_eq_zero
        rw [dropped, fixTail_length, List.length_eraseIdx]; split <;> omega
      rw [e, chainOk_nil]; simp
    · rfl
  · rfl
/-- a drop from a valid chain of two or more, the view not at its end, gives a valid chain -/
theorem dropped_good {v : Int} {l : List Nod} {k : Nat} (h : Good v l) (hk : k < l.length) (h2 : 2 ≤ l.length) (hv : v < 999) : Good (v + 1) (dropped l k) :=
  good_part h (List.eraseIdx_sublist _ _) (by rw [List.length_eraseIdx]; split <;> omega) (by have := h.1; omega) (by omega)
theorem dropM_yes {v : Int} {l : List Nod} {id : Int} {k : Nat} (h : Good v l) (hk : placeOf l id = some k) (h2 : 2 ≤ l.length) (hv : v < 999) : dropM v l id = some (v + 1, dropped l k) := by
  rw [dropM_at (good_iff.2 h) hk, if_pos (good_iff.2 (dropped_good h (placeOf_lt hk) h2 hv))]
theorem dropM_some {v u : Int} {l r : List Nod} {id : Int} (h : dropM v l id = some (u, r)) : Good v l ∧ u = v + 1 ∧ v < 999 ∧ 2 ≤ l.length ∧ ∃ k, placeOf l id = some k ∧ r = dropped l k ∧ Good (v + 1) r ∧ r.length + 1 = l.length := by
  unfold dropM at h
  split at h
  · rename_i hok
    split at h
    · rename_i k hk
      split at h
      · rename_i hr
        injection h with h; injection h with e1 e2
        subst e1; subst e2
        have g := good_iff.1 hr
        have hkl := placeOf_lt hk
        have hlen : (dropped l k).length + 1 = l.length := by rw [dropped, fixTail_length, List.length_eraseIdx]; split <;> omega
        have := g.2.2.1
        exact ⟨good_iff.1 hok, rfl, by have := g.2.1; omega, by omega, k, hk, rfl, g, hlen⟩
      · cases h
    · cases h
  · cases h

/-! ### Adding -/
def added (l : List Nod) (id : Int) : List Nod := match l[l.length - 1]? with | some x => l ++ [⟨id, x.log, x.log.length⟩] | none => l
def addM (v : Int) (l : List Nod) (id : Int) : Option (Int × List Nod) :=
  if chainOk v l then (if chainOk (v + 1) (added l id) then some (v + 1, added l id) else none) else none
def swapM (v : Int) (l : List Nod) (old id : Int) : Option (Int × List Nod) := match dropM v l old with | some (u, r) => addM u r id | none => none
theorem added_snoc (l : List Nod) (x : Nod) (id : Int) : added (l ++ [x]) id = l ++ [x] ++ [⟨id, x.log, x.log.length⟩] := by
  unfold added
  have : (l ++ [x])[(l ++ [x]).length - 1]? = some x := by simp
  rw [this]
theorem addM_some {v u : Int} {l r : List Nod} {id : Int} (h : addM v l id = some (u, r)) : Good v l ∧ u = v + 1 ∧ v < 999 ∧ r = added l id ∧ Good (v + 1) r ∧ r.length = l.length + 1 := by
  unfold addM at h
  split at h
  · rename_i hok
    split at h
    · rename_i hr
      injection h with h; injection h with e1 e2
      subst e1; subst e2
      have g := good_iff.1 hr
      have gl := good_iff.1 hok
      refine ⟨gl, rfl, by have := g.2.1; omega, rfl, g, ?_⟩
      obtain ⟨a, x, rfl⟩ := snoc_of gl.2.2.1
      rw [added_snoc]; simp
    · cases h
  · cases h
theorem fixTail_get {l : List Nod} {i : Nat} {x : Nod} (h : l[i]? = some x) : (fixTail l)[i]? = some (if i + 1 = l.length then { x with done := x.log.length } else x) := by
  have hi := (List.getElem?_eq_some_iff.1 h).1
  obtain ⟨a, y, rfl⟩ := snoc_of (l := l) (by omega)
  rw [fixTail_snoc]
  simp only [List.length_append, List.length_singleton] at hi ⊢
  by_cases e : i = a.length
  · subst e
    simp at h; subst h
    simp
  · rw [List.getElem?_append_left (by omega)] at h ⊢
    rw [h, if_neg (by omega)]
theorem fixTail_mem {l : List Nod} {y : Nod} (h : y ∈ fixTail l) : ∃ x ∈ l, y.id = x.id ∧ y.log = x.log := by
  by_cases h1 : 1 ≤ l.length
  · obtain ⟨a, x, rfl⟩ := snoc_of h1
    rw [fixTail_snoc] at h
    rcases List.mem_append.1 h with h | h
    · exact ⟨y, List.mem_append_left _ h, rfl, rfl⟩
    · simp at h; subst h
      exact ⟨x, by simp, rfl, rfl⟩
  · have : l = [] := List.eq_nil_of_length_eq_zero (by omega)
    subst this; simp [fixTail] at h
theorem fixTail_idem (l : List Nod) : fixTail (fixTail l) = fixTail l := by
  by_cases h1 : 1 ≤ l.length
  · obtain ⟨a, x, rfl⟩ := snoc_of h1
    rw [fixTail_snoc, fixTail_snoc]
  · have : l = [] := List.eq_nil_of_length_eq_zero (by omega)
    subst this; rfl
theorem fixTail_cons {x : Nod} {l : List Nod} (h : 1 ≤ l.length) : fixTail (x :: l) = x :: fixTail l := by
  obtain ⟨a, y, rfl⟩ := snoc_of h
  rw [← List.cons_append, fixTail_snoc, fixTail_snoc]; rfl
theorem fixTail_ok {l : List Nod} (h : tailOk l = true) (h1 : 1 ≤ l.length) : fixTail l = l := by
  obtain ⟨a, x, rfl⟩ := snoc_of h1
  rw [tailOk_snoc, decide_eq_true_eq] at h
  rw [fixTail_snoc, ← h]
theorem place_get {l : List Nod} {id : Int} {k : Nat} (h : placeOf l id = some k) : ∃ x, l[k]? = some x ∧ x.id = id := by obtain ⟨x, h1, h2, _⟩ := placeOf_some h; exact ⟨x, h1, h2⟩
theorem good_ids {v : Int} {l : List Nod} (h : Good v l) {i j : Nat} {x y : Nod} (hx : l[i]? = some x) (hy : l[j]? = some y) (hij : i ≠ j) : x.id ≠ y.id := by
  have pw := h.2.2.2.2.2.1
  rw [List.pairwise_iff_getElem] at pw
  obtain ⟨hi, rfl⟩ := List.getElem?_eq_some_iff.1 hx
  obtain ⟨hj, rfl⟩ := List.getElem?_eq_some_iff.1 hy
  rcases Nat.lt_or_gt_of_ne hij with e | e
  · exact (pw i j hi hj e).1
  · exact fun e' => (pw j i hj hi e).1 e'.symm
theorem good_place {v : Int} {l : List Nod} (h : Good v l) {i : Nat} {x : Nod} (hx : l[i]? = some x) : placeOf l x.id = some i :=
  placeOf_at hx rfl fun j _ hj hy => good_ids h hy hx (by omega)
/-- where the other nodes are behind a drop -/
theorem dropped_get {l : List Nod} {k i : Nat} {x : Nod} (hx : l[i]? = some x) (hne : i ≠ k) :
    ∃ y, (dropped l k)[if i < k then i else i - 1]? = some y ∧ y.id = x.id ∧ y.log = x.log ∧ (y.done = x.done ∨ y.done = x.log.length) := by
  have e : (l.eraseIdx k)[if i < k then i else i - 1]? = some x := by
    rw [List.getElem?_eraseIdx]
    by_cases h : i < k
    · rw [if_pos h, if_pos h, hx]
    · rw [if_neg h, if_neg (by omega), show i - 1 + 1 = i by omega, hx]
  obtain ⟨j, hj⟩ : ∃ j, j = if i < k then i else i - 1 := ⟨_, rfl⟩
  rw [← hj] at e ⊢
  have := fixTail_get e
  refine ⟨_, this, ?_⟩
  by_cases h : j + 1 = (l.eraseIdx k).length
  · rw [if_pos h]; exact ⟨rfl, rfl, .inr rfl⟩
  · rw [if_neg h]; exact ⟨rfl, rfl, .inl rfl⟩
/-- and whence each comes -/
theorem dropped_from {l : List Nod} {k j : Nat} {y : Nod} (hy : (dropped l k)[j]? = some y) : ∃ (i : Nat) (x : Nod), l[i]? = some x ∧ i ≠ k ∧ y.id = x.id ∧ y.log = x.log ∧ (y.done = x.done ∨ y.done = x.log.length) ∧ j = (if i < k then i else i - 1) := by
  have hj := (List.getElem?_eq_some_iff.1 hy).1
  rw [dropped, fixTail_length] at hj
  have hg : (l.eraseIdx k)[j]? = some (l.eraseIdx k)[j] := List.getElem?_eq_getElem hj
  have h2 := fixTail_get hg
  have hy' : (fixTail (l.eraseIdx k))[j]? = some y := hy
  rw [hy'] at h2
  injection h2 with h2
  rw [List.getElem?_eraseIdx] at hg
  obtain ⟨z, hz⟩ : ∃ z, z = (l.eraseIdx k)[j] := ⟨_, rfl⟩
  rw [← hz] at hg h2
  have parts : y.id = z.id ∧ y.log = z.log ∧ (y.done = z.done ∨ y.done = z.log.length) := by
    rw [h2]
    by_cases e : j + 1 = (l.eraseIdx k).length
    · rw [if_pos e]; exact ⟨rfl, rfl, .inr rfl⟩
    · rw [if_neg e]; exact ⟨rfl, rfl, .inl rfl⟩
  by_cases h : j < k
  · rw [if_pos h] at hg
    exact ⟨j, z, hg, by omega, parts.1, parts.2.1, parts.2.2, (if_pos h).symm⟩
  · rw [if_neg h] at hg
    exact ⟨j + 1, z, hg, by omega, parts.1, parts.2.1, parts.2.2, by rw [if_neg (by omega)]; rfl⟩
theorem dropped_gone {v : Int} {l : List Nod} {id : Int} {k : Nat} (h : Good v l) (hk : placeOf l id = some k) : ∀ y ∈ dropped l k, y.id ≠ id := by
  intro y hy
  obtain ⟨j, hj⟩ := List.getElem?_of_mem hy
  obtain ⟨i, x, hx, hne, e, _⟩ := dropped_from hj
  obtain ⟨z, hz, rfl⟩ := place_get hk
  rw [e]
  exact good_ids h hx hz hne
theorem placeOf_no {l : List Nod} {id : Int} (h : ∀ y ∈ l, y.id ≠ id) : placeOf l id = none := placeOf_none fun _ x hx => h x (List.mem_of_getElem? hx)
/-- the tail: behind all, with all it has -/
theorem good_tail {v : Int} {l : List Nod} (h : Good v l) : ∃ (a : List Nod) (t : Nod), l = a ++ [t] ∧ t.done = t.log.length ∧ ∀ x ∈ l, t.log <+: x.log ∧ x.done ≤ t.log.length := by
  obtain ⟨_, _, h1, _, ok, pw, ht⟩ := h
  obtain ⟨a, t, rfl⟩ := snoc_of h1
  rw [tailOk_snoc, decide_eq_true_eq] at ht
  refine ⟨a, t, rfl, ht, fun x hx => ?_⟩
  rcases List.mem_append.1 hx with hx | hx
  · rw [List.pairwise_append] at pw
    have := pw.2.2 x hx t (by simp)
    exact ⟨this.2.1, by rw [← ht]; exact this.2.2⟩
  · simp at hx; subst hx
    exact ⟨List.prefix_rfl, by omega⟩
theorem take_prefix {a b : List Upd} {n : Nat} (h : a <+: b) (hn : n ≤ a.length) : b.take n = a.take n := by
  obtain ⟨c, rfl⟩ := h
  rw [List.take_append_of_le_length hn]
/-- what is everywhere: the first updates of any two nodes -/
theorem good_done {v : Int} {l : List Nod} (h : Good v l) {x y : Nod} (hx : x ∈ l) (hy : y ∈ l) : x.done ≤ y.log.length ∧ y.log.take x.done.toNat = x.log.take x.done.toNat := by
  obtain ⟨a, t, _, _, ht⟩ := good_tail h
  have h1 := ht x hx
  have h2 := ht y hy
  have := h2.1.length_le
  refine ⟨by omega, ?_⟩
  rw [take_prefix h2.1 (by omega), take_prefix h1.1 (by omega)]
theorem drop_done {v u : Int} {l r : List Nod} {id : Int} (h : dropM v l id = some (u, r)) {x y : Nod} (hx : x ∈ l) (hy : y ∈ r) : x.done ≤ y.log.length ∧ y.log.take x.done.toNat = x.log.take x.done.toNat := by
  obtain ⟨g, _, _, _, k, _, rfl, _⟩ := dropM_some h
  obtain ⟨z, hz, _, e⟩ := fixTail_mem hy
  rw [e]
  exact good_done g hx ((List.eraseIdx_sublist l k).subset hz)
theorem drop_again {v u : Int} {l r : List Nod} {id : Int} (h : dropM v l id = some (u, r)) : dropM u r id = none := by
  obtain ⟨g, _, _, _, k, hk, rfl, _⟩ := dropM_some h
  exact dropM_none (placeOf_no (dropped_gone g hk))
theorem good_tl {v : Int} {a : Nod} {l : List Nod} (h : Good v (a :: l)) (h1 : 1 ≤ l.length) (u : Int) (h0 : 0 ≤ u) (h9 : u ≤ 999) : Good u l ∧ fixTail l = l := by
  have ht : tailOk l = true := by
    obtain ⟨b, t, rfl⟩ := snoc_of h1
    have := h.2.2.2.2.2.2
    rw [← List.cons_append, tailOk_snoc] at this
    rw [tailOk_snoc]; exact this
  have e := fixTail_ok ht h1
  exact ⟨e ▸ good_part h (List.sublist_cons_self a l) h1 h0 h9, e⟩
/-- the order of two drops does not count, if the head is one of both -/
theorem drop_two {v u u2 : Int} {a : Nod} {l r x : List Nod} {id : Int} (h : dropM v (a :: l) id = some (u, r)) (hne : a.id ≠ id) (h2 : dropM u r a.id = some (u2, x)) :
    ∃ y, dropM v (a :: l) a.id = some (u, y) ∧ dropM u y id = some (u2, x) := by
  obtain ⟨g, rfl, hv, hl, k, hk, rfl, g1, hlen⟩ := dropM_some h
  obtain ⟨_, rfl, hv2, hl2, k2, hk2, rfl, g2, hlen2⟩ := dropM_some h2
  obtain ⟨z, hz, hzid⟩ := place_get hk
  cases k with
  | zero => simp at hz; subst hz; exact absurd hzid hne
  | succ k =>
    have hkl := placeOf_lt hk
    simp only [List.length_cons] at hl hlen hkl
    have e1 : dropped (a :: l) (k + 1) = a :: fixTail (l.eraseIdx k) := by
      rw [dropped, List.eraseIdx_cons_succ, fixTail_cons (by rw [List.length_eraseIdx]; split <;> omega)]
    rw [e1] at hk2 g1 h2 hl2 hlen hlen2 g2 ⊢
    have hk0 : k2 = 0 := by
      have := good_place g1 (i := 0) (x := a) rfl
      rw [hk2] at this; injection this
    subst hk0
    have e2 : dropped (a :: fixTail (l.eraseIdx k)) 0 = fixTail (l.eraseIdx k) := by rw [dropped, List.eraseIdx_cons_zero, fixTail_idem]
    rw [e2] at g2 ⊢
    simp only [List.length_cons] at hl2
    obtain ⟨gl, el⟩ := good_tl g (by omega) (v + 1) (by have := g.1; omega) (by omega)
    have hz' : l[k]? = some z := by simpa using hz
    have hp : placeOf l id = some k := by rw [← hzid]; exact good_place gl hz'
    refine ⟨l, ?_, ?_⟩
    · rw [dropM_yes g (good_place g (i := 0) (x := a) rfl) (by simp; omega) (by omega), dropped, List.eraseIdx_cons_zero, el]
    · rw [fixTail_length, List.length_eraseIdx] at hl2
      rw [dropM_yes gl hp (by split at hl2 <;> omega) (by omega)]; rfl
theorem drop_two' {v u u2 : Int} {l r x : List Nod} {id : Int} {a : Nod} (ha : l[0]? = some a) (h : dropM v l id = some (u, r)) (hne : a.id ≠ id) (h2 : dropM u r a.id = some (u2, x)) :
    ∃ y, dropM v l a.id = some (u, y) ∧ dropM u y id = some (u2, x) := by
  cases l with
  | nil => simp at ha
  | cons b l => simp at ha; subst ha; exact drop_two h hne h2
/-- who is alone stays, anyone else can go -/
theorem drop_place {v : Int} {l : List Nod} {id : Int} (h : Good v l) (hv : v ≠ 999) : (dropM v l id).isSome = (decide (2 ≤ l.length) && (placeOf l id).isSome) := by
  cases hp : placeOf l id with
  | none => rw [dropM_none hp]; simp
  | some k =>
    by_cases h2 : 2 ≤ l.length
    · rw [dropM_yes h hp h2 (by have := h.2.1; omega)]; simp [h2]
    · rw [dropM_one (by have := h.2.2.1; omega)]; simp [h2]
/-- the tail's log begins the new tail's -/
theorem drop_tail {v u : Int} {l r : List Nod} {id : Int} {t t' : Nod} (h : dropM v l id = some (u, r)) (ht : l[l.length - 1]? = some t) (ht' : r[r.length - 1]? = some t') : t.log <+: t'.log ∧ (t.id ≠ id → t'.log = t.log) := by
  obtain ⟨g, rfl, hv, hl, k, hk, rfl, g1, hlen⟩ := dropM_some h
  obtain ⟨i, x, hx, hne, _, e, _, hj⟩ := dropped_from ht'
  obtain ⟨a, t2, rfl, _, hall⟩ := good_tail g
  simp at ht; subst ht
  have hxm := List.mem_of_getElem? hx
  refine ⟨by rw [e]; exact (hall x hxm).1, fun hid => ?_⟩
  have hkl := placeOf_lt hk
  have hil := (List.getElem?_eq_some_iff.1 hx).1
  simp only [List.length_append, List.length_singleton] at hlen hkl hil
  have hka : k ≠ a.length := by
    rintro rfl
    obtain ⟨z, hz, hzid⟩ := place_get hk
    simp at hz; subst hz; exact hid hzid
  have : i = a.length := by split at hj <;> omega
  subst this
  simp at hx; subst hx
  rw [e]
theorem added_get {l : List Nod} {t : Nod} (ht : l[l.length - 1]? = some t) (id : Int) : added l id = l ++ [⟨id, t.log, t.log.length⟩] := by unfold added; rw [ht]
theorem add_tail {v u : Int} {l r : List Nod} {id : Int} {t : Nod} (h : addM v l id = some (u, r)) (ht : l[l.length - 1]? = some t) : r = l ++ [⟨id, t.log, t.log.length⟩] := by
  obtain ⟨_, _, _, rfl, _⟩ := addM_some h
  exact added_get ht id
theorem add_again {v u : Int} {l r : List Nod} {id : Int} (h : addM v l id = some (u, r)) : addM u r id = none := by
  obtain ⟨g, rfl, _, rfl, g1, hlen⟩ := addM_some h
  obtain ⟨a, x, rfl⟩ := snoc_of g.2.2.1
  rw [added_snoc] at g1 ⊢
  unfold addM
  rw [added_snoc]
  cases hc : chainOk (v + 1 + 1) (a ++ [x] ++ [⟨id, x.log, x.log.length⟩] ++ [⟨id, x.log, (x.log.length : Nat)⟩])
  · simp
  · exfalso
    have gg := good_iff.1 hc
    exact good_ids gg (i := a.length + 1) (j := a.length + 2) (x := ⟨id, x.log, x.log.length⟩) (y := ⟨id, x.log, x.log.length⟩) (by simp) (by simp) (by omega) rfl
theorem add_drop {v u u2 : Int} {l r x : List Nod} {id : Int} (h : addM v l id = some (u, r)) (h2 : dropM u r id = some (u2, x)) : x = l ∧ u2 = v + 2 := by
  obtain ⟨g, rfl, _, rfl, g1, hlen⟩ := addM_some h
  obtain ⟨_, rfl, _, _, k, hk, rfl, _⟩ := dropM_some h2
  refine ⟨?_, by omega⟩
  obtain ⟨a, y, rfl⟩ := snoc_of g.2.2.1
  rw [added_snoc] at g1 hk ⊢
  have : placeOf (a ++ [y] ++ [⟨id, y.log, y.log.length⟩]) id = some (a.length + 1) := good_place g1 (x := ⟨id, y.log, y.log.length⟩) (by simp)
  rw [hk] at this; injection this with this; subst this
  rw [dropped, List.eraseIdx_append_of_length_le (by simp)]
  simp
  exact fixTail_ok g.2.2.2.2.2.2 (by simp)

/-- what is lost, told by what is left -/
theorem drop_lost {v u : Int} {l r : List Nod} {id : Int} {a b : Nod} (h : dropM v l id = some (u, r)) (ha : l[0]? = some a) (hb : r[0]? = some b) : a.log.drop b.log.length = lost v l id ∧ (a.id = id ∨ lost v l id = []) := by
  obtain ⟨g, rfl, hv, hl, k, hk, rfl, g1, hlen⟩ := dropM_some h
  have hd := dropRole_ok (v := v) (id := id) (n := l.length) (good_iff.2 g) rfl
  rw [hk] at hd
  have hkl := placeOf_lt hk
  obtain ⟨z, hz, hzid⟩ := place_get hk
  by_cases h0 : k = 0
  · subst h0
    rw [ha] at hz; injection hz with hz; subst hz
    have r1 : dropRole v l id = 1 := by rw [hd]; exact roleOf1 (by simp [placeI]) (by simp [placeI]; omega) (by omega) rfl
    have hy : l[1]? = some l[1] := List.getElem?_eq_getElem (by omega)
    obtain ⟨y, hy', _, e, _⟩ := dropped_get (k := 0) hy (by omega)
    simp at hy'
    rw [hb] at hy'; injection hy' with hy'; subst hy'
    rw [lost_head r1 ha hy, e]
    exact ⟨rfl, .inl hzid⟩
  · have r1 : dropRole v l id ≠ 1 := by
      rw [hd]; intro e
      have hp : placeI (some k) = (k : Int) := rfl
      rw [hp] at e
      by_cases h4 : k + 1 = l.length
      · rw [roleOf3 (by omega) (by omega) (by omega) (by omega) (by omega)] at e; omega
      · rw [roleOf2 (by omega) (by omega) (by omega) (by omega) (by omega)] at e; omega
    obtain ⟨y, hy', _, e, _⟩ := dropped_get (k := k) ha (by omega)
    rw [if_pos (by omega), hb] at hy'; injection hy' with hy'; subst hy'
    rw [lost_not r1, e]
    exact ⟨List.drop_eq_nil_of_le (Nat.le_refl _), .inr rfl⟩
/-- who has a role and is not alone can be dropped -/
theorem drop_role {v : Int} {l : List Nod} {id r : Int} (h : Good v l) (hv : v ≠ 999) (hr : dropRole v l id = r) : (dropM v l id).isSome = ((r != 0) && (r != 4)) := by
  rw [drop_place h hv]
  rw [dropRole_ok (good_iff.2 h) rfl] at hr
  have h1 := h.2.2.1
  cases hp : placeOf l id with
  | none =>
    rw [hp] at hr
    have : r = 0 := by rw [← hr]; simp [placeI, roleOf]
    subst this; simp
  | some k =>
    have hk := placeOf_lt hp
    have e : placeI (some k) = (k : Int) := rfl
    rw [hp, e] at hr
    by_cases h2 : l.length = 1
    · rw [roleOf4 (by omega) (by omega) (by omega)] at hr; subst hr; simp [h2]
    · have h22 : 2 ≤ l.length := by omega
      by_cases h3 : k = 0
      · rw [roleOf1 (by omega) (by omega) (by omega) (by omega)] at hr; subst hr; simp [h22]
      · by_cases h4 : k + 1 = l.length
        · rw [roleOf3 (by omega) (by omega) (by omega) (by omega) (by omega)] at hr; subst hr; simp [h22]
        · rw [roleOf2 (by omega) (by omega) (by omega) (by omega) (by omega)] at hr; subst hr; simp [h22]
/-- what the head of what is lost holds pending -/
theorem lost_pending {v : Int} {l : List Nod} {id : Int} {a b : Nod} (h : dropRole v l id = 1) (ha : l[0]? = some a) (hb : l[1]? = some b) :
    lost v l id = a.log.drop b.log.length ∧ b.log.length ≤ a.log.length ∧ a.done ≤ b.log.length ∧ nodeOk a = true := by
  obtain ⟨hok, _, _⟩ := head_of h
  obtain ⟨h1, h2, h3, h4⟩ := head_logs hok ha hb
  exact ⟨lost_head h ha hb, h2.length_le, Int.le_trans h3 (nodeOk_iff.1 h4).2.2.2.2, h1⟩
end Go.Proofs.YtcomppiglhibkaaGreatDoor
/- Taking an update: spec.NodeTake. -/
namespace Go.Proofs.YtcomppiglhibkaaGreatDoor
open Go.RowKit Go.Sort

/-- a node that takes an update -/
def takeM (x : Nod) (u : Upd) : Option Nod := if nodeOk x = true ∧ updOk u.key u.value = true ∧ x.log.length ≠ 12 then some ⟨x.id, x.log ++ [u], x.done⟩ else none
def NodeRes (w : World) (o : Option Nod) (e : Ending) (w' : World) : Prop :=
  ∃ (x : Nod) (A : Option Addr) (m c : Nat), x = o.getD ⟨0, [], 0⟩ ∧ e = .returned (.tuple #[.agg #[.int .i64 x.id, .slice A m c, .int .i64 x.done], .bool o.isSome]) ∧ x.log.length = m ∧ w'.ownsRow w.heap.size 27 2 (.slice A m c) m (x.log.flatMap Upd.enc) ∧ Below w.heap.size w w'
theorem takeM_none {x : Nod} {u : Upd} (h : ¬ (nodeOk x = true ∧ updOk u.key u.value = true ∧ x.log.length ≠ 12)) : takeM x u = none := if_neg h
theorem takeM_some {x : Nod} {u : Upd} (h1 : nodeOk x = true) (h2 : updOk u.key u.value = true) (h3 : x.log.length ≠ 12) : takeM x u = some ⟨x.id, x.log ++ [u], x.done⟩ := if_pos ⟨h1, h2, h3⟩
/-- a result's block gets a node: its cells before, and what lies there behind -/
theorem res_three {w w1 : World} {s : Nat} {u v t a b c : Value} (hk : Blk w1 s #[u, v, t] 38) (hs : w.heap.size ≤ s) (hb : Below w.heap.size w w1) :
    (w1.cell? ⟨s, 0, none⟩ = some u ∧ w1.cell? ⟨s, 1, none⟩ = some v ∧ w1.cell? ⟨s, 2, none⟩ = some t ∧ w1.frozen? ⟨s, 0, none⟩ = false ∧ w1.frozen? ⟨s, 1, none⟩ = false ∧ w1.frozen? ⟨s, 2, none⟩ = false) ∧
    ((((w1.setCell ⟨s, 0, none⟩ a).setCell ⟨s, 1, none⟩ b).setCell ⟨s, 2, none⟩ c).cell? ⟨s, 0, none⟩ = some a ∧ (((w1.setCell ⟨s, 0, none⟩ a).setCell ⟨s, 1, none⟩ b).setCell ⟨s, 2, none⟩ c).cell? ⟨s, 1, none⟩ = some b ∧ (((w1.setCell ⟨s, 0, none⟩ a).setCell ⟨s, 1, none⟩ b).setCell ⟨s, 2, none⟩ c).cell? ⟨s, 2, none⟩ = some c) ∧
    Below w.heap.size w (((w1.setCell ⟨s, 0, none⟩ a).setCell ⟨s, 1, none⟩ b).setCell ⟨s, 2, none⟩ c) ∧
    ∀ {lo n : Nat} {r : Value} {xs : List Value}, w1.ownsRow lo 27 2 r n xs → (((w1.setCell ⟨s, 0, none⟩ a).setCell ⟨s, 1, none⟩ b).setCell ⟨s, 2, none⟩ c).ownsRow lo 27 2 r n xs :=
  have h2 := ((hk.set 0 a).set 1 b).set 2 c
  ⟨⟨hk.cell (i := 0) rfl, hk.cell (i := 1) rfl, hk.cell (i := 2) rfl, hk.free 0, hk.free 1, hk.free 2⟩, ⟨h2.cell (i := 0) rfl, h2.cell (i := 1) rfl, h2.cell (i := 2) rfl⟩, ((hb.setCell (p := ⟨s, 0, none⟩) hs _).setCell (p := ⟨s, 1, none⟩) hs _).setCell (p := ⟨s, 2, none⟩) hs _,
    fun ho => own_keep ho (fun g e => by
      have hne : g ≠ s := by
        rintro rfl
        obtain ⟨ds, hd⟩ := own_blk ho e
        exact absurd (blk_type hd hk) (by decide)
      rw [Below.heap_setCell _ _ _ _ hne, Below.heap_setCell _ _ _ _ hne, Below.heap_setCell _ _ _ _ hne])⟩
theorem NodeRes.none_ {w w1 : World} (hb : Below w.heap.size w w1) : NodeRes w none (.returned (.tuple #[.agg #[.int .i64 0, .slice none 0 0, .int .i64 0], .bool false])) w1 :=
  ⟨_, none, 0, 0, rfl, rfl, rfl, World.ownsRow_nil _ _ _ _, hb⟩
set_option maxRecDepth 100000 in
set_option maxHeartbeats 4000000 in
theorem specNodeTake_any (x : Nod) (u : Upd) (A : Option Addr) (n c : Nat) (w : World) (h : Flat Upd.enc 2 w 0 w.heap.size A n c x.log) (hn : n ≤ 1048576) :
    Calls Mo.prog 66 #[.agg #[.int .i64 x.id, .slice A n c, .int .i64 x.done], .agg #[.int .i64 u.key, .int .i64 u.value]] w (NodeRes w (takeM x u)) := by
  obtain ⟨i0, hi, hz0, hz1, hz2⟩ := info_parts infoUpd
  have HL := Lib.hid h.len
  have H := Lib.hid h
  have H0 := Lib.hid (((h.box (.cells #[.int .i64 x.id, .slice A n c, .int .i64 x.done] 38)).box (.cells #[.int .i64 u.key, .int .i64 u.value] 27)).box (.cells #[.int .i64 0, .slice none 0 0, .int .i64 0] 38))
  have K := Lib.hid (show ∀ w1 : World, Below (((w.alloc (.cells #[.int .i64 x.id, .slice A n c, .int .i64 x.done] 38)).alloc (.cells #[.int .i64 u.key, .int .i64 u.value] 27)).alloc (.cells #[.int .i64 0, .slice none 0 0, .int .i64 0] 38)).heap.size (((w.alloc (.cells #[.int .i64 x.id, .slice A n c, .int .i64 x.done] 38)).alloc (.cells #[.int .i64 u.key, .int .i64 u.value] 27)).alloc (.cells #[.int .i64 0, .slice none 0 0, .int .i64 0] 38)) w1 →
      Blk w1 w.heap.size #[.int .i64 x.id, .slice A n c, .int .i64 x.done] 38 ∧ Blk w1 (w.heap.size + 1) #[.int .i64 u.key, .int .i64 u.value] 27 ∧ Blk w1 (w.heap.size + 1 + 1) #[.int .i64 0, .slice none 0 0, .int .i64 0] 38 ∧ Below w.heap.size w w1 from fun w1 hb => by
    have a := ((((Blk.new w #[.int .i64 x.id, .slice A n c, .int .i64 x.done] 38).alloc (.cells #[.int .i64 u.key, .int .i64 u.value] 27)).alloc (.cells #[.int .i64 0, .slice none 0 0, .int .i64 0] 38))).below hb
    have b := ((Blk.new (w.alloc (.cells #[.int .i64 x.id, .slice A n c, .int .i64 x.done] 38)) #[.int .i64 u.key, .int .i64 u.value] 27).alloc (.cells #[.int .i64 0, .slice none 0 0, .int .i64 0] 38)).below hb
    have d := (Blk.new ((w.alloc (.cells #[.int .i64 x.id, .slice A n c, .int .i64 x.done] 38)).alloc (.cells #[.int .i64 u.key, .int .i64 u.value] 27)) #[.int .i64 0, .slice none 0 0, .int .i64 0] 38).below hb
    simp only [World.size_alloc] at a b d
    exact ⟨a, b, d, below_box (below_box (below_box hb))⟩)
  clear h
  cases hok : nodeOk x
  · have HT := Lib.hid (takeM_none (x := x) (u := u) (by simp [hok]))
    have HO := Lib.hid hok
    clear hok
    go_enter Mo.func66, Tryz.ntmps66
    go_wp2_with fail
    refine (specNodeValid_any x A n c _ H0.out hn).mono ?_
    rintro e w1 ⟨rfl, hb1⟩
    rw [HO.out]
    obtain ⟨_, _, k2, b1⟩ := K.out _ hb1
    have FF := Lib.hid (res_three (a := .int .i64 0) (b := .slice none 0 0) (c := .int .i64 0) k2 (by omega) b1)
    obtain ⟨z0, z1, z2, y0, y1, y2⟩ := FF.out.1
    clear hb1 k2 b1
    go_wp2
    exact bodyPost_ret (v := .tuple #[.agg #[.int .i64 0, .slice none 0 0, .int .i64 0], .bool false]) (by simp [results, Tryz.results66, go_sem, FF.out.2.1.1, FF.out.2.1.2.1, FF.out.2.1.2.2]) rfl (by rw [HT.out]; exact NodeRes.none_ FF.out.2.2.1)
  · have HO := Lib.hid hok
    have hl12 : x.log.length ≤ 12 := by
      have := (nodeOk_log' hok)
      unfold logOk at this
      simp only [Bool.and_eq_true, decide_eq_true_eq] at this
      exact this.1
    rw [HL.out] at hl12
    cases hu : updOk u.key u.value
    · have HT := Lib.hid (takeM_none (x := x) (u := u) (by simp [hu]))
      have HU := Lib.hid hu
      clear hu hok
      go_enter Mo.func66, Tryz.ntmps66
      go_wp2_with fail
      refine (specNodeValid_any x A n c _ H0.out hn).mono ?_
      rintro e w1 ⟨rfl, hb1⟩
      rw [HO.out]
      obtain ⟨_, k1, k2, b1⟩ := K.out _ hb1
      have u0 := k1.cell (i := 0) (v := .int .i64 u.key) rfl
      have u1 := k1.cell (i := 1) (v := .int .i64 u.value) rfl
      have K2 := Lib.hid k2
      have B1 := Lib.hid b1
      clear hb1 k1 k2 b1
      go_wp2_with fail
      refine (specUpdateValid_any _ _ _).mono ?_
      rintro e w2 ⟨rfl, hb2⟩
      rw [HU.out]
      have FF := Lib.hid (res_three (a := .int .i64 0) (b := .slice none 0 0) (c := .int .i64 0) (K2.out.below hb2) (show w.heap.size ≤ w.heap.size + 1 + 1 by omega) (B1.out.trans (hb2.mono B1.out.size)))
      obtain ⟨z0, z1, z2, y0, y1, y2⟩ := FF.out.1
      clear hb2 u0 u1
      go_wp2
      exact bodyPost_ret (v := .tuple #[.agg #[.int .i64 0, .slice none 0 0, .int .i64 0], .bool false]) (by simp [results, Tryz.results66, go_sem, FF.out.2.1.1, FF.out.2.1.2.1, FF.out.2.1.2.2]) rfl (by rw [HT.out]; exact NodeRes.none_ FF.out.2.2.1)
    · have HU := Lib.hid hu
      by_cases h12 : n = 12
      · have HT := Lib.hid (takeM_none (x := x) (u := u) (by simp [HL.out, h12]))
        have hq : ((n : Int) == 12) = true := by simp [h12]
        clear hu hok h12
        go_enter Mo.func66, Tryz.ntmps66
        go_wp2_with fail
        refine (specNodeValid_any x A n c _ H0.out hn).mono ?_
        rintro e w1 ⟨rfl, hb1⟩
        rw [HO.out]
        obtain ⟨k0, k1, k2, b1⟩ := K.out _ hb1
        have u0 := k1.cell (i := 0) (v := .int .i64 u.key) rfl
        have u1 := k1.cell (i := 1) (v := .int .i64 u.value) rfl
        have K0 := Lib.hid k0
        have K2 := Lib.hid k2
        have B1 := Lib.hid b1
        clear hb1 k1 k2 b1 k0
        go_wp2_with fail
        refine (specUpdateValid_any _ _ _).mono ?_
        rintro e w2 ⟨rfl, hb2⟩
        rw [HU.out]
        have a1 := (K0.out.below hb2).cell (i := 1) (v := .slice A n c) rfl
        have FF := Lib.hid (res_three (a := .int .i64 0) (b := .slice none 0 0) (c := .int .i64 0) (K2.out.below hb2) (show w.heap.size ≤ w.heap.size + 1 + 1 by omega) (B1.out.trans (hb2.mono B1.out.size)))
        obtain ⟨z0, z1, z2, y0, y1, y2⟩ := FF.out.1
        clear hb2 u0 u1
        go_wp2
        exact bodyPost_ret (v := .tuple #[.agg #[.int .i64 0, .slice none 0 0, .int .i64 0], .bool false]) (by simp [results, Tryz.results66, go_sem, FF.out.2.1.1, FF.out.2.1.2.1, FF.out.2.1.2.2]) rfl (by rw [HT.out]; exact NodeRes.none_ FF.out.2.2.1)
      · have HT := Lib.hid (takeM_some (x := x) (u := u) hok hu (by rw [HL.out]; exact h12))
        have hq : ((n : Int) == 12) = false := by simp; omega
        have hpn : (x.log ++ [u]).length = n + 1 := by simp [HL.out]
        have HPN := Lib.hid hpn
        clear hu hok h12 hpn
        go_enter Mo.func66, Tryz.ntmps66
        go_wp2_with fail
        refine (specNodeValid_any x A n c _ H0.out hn).mono ?_
        rintro e w1 ⟨rfl, hb1⟩
        rw [HO.out]
        obtain ⟨k0, k1, k2, b1⟩ := K.out _ hb1
        have u0 := k1.cell (i := 0) (v := .int .i64 u.key) rfl
        have u1 := k1.cell (i := 1) (v := .int .i64 u.value) rfl
        have K0 := Lib.hid k0
        have K1 := Lib.hid k1
        have K2 := Lib.hid k2
        have B1 := Lib.hid b1
        clear hb1 k1 k2 b1 k0
        go_wp2_with fail
        refine (specUpdateValid_any _ _ _).mono ?_
        rintro e w2 ⟨rfl, hb2⟩
        rw [HU.out]
        have a0 := (K0.out.below hb2).cell (i := 0) (v := .int .i64 x.id) rfl
        have a1 := (K0.out.below hb2).cell (i := 1) (v := .slice A n c) rfl
        have a2 := (K0.out.below hb2).cell (i := 2) (v := .int .i64 x.done) rfl
        have B2 := Lib.hid (B1.out.trans (hb2.mono B1.out.size))
        have K1' := Lib.hid (K1.out.below hb2)
        have K2' := Lib.hid (K2.out.below hb2)
        have F2 := Lib.hid (H.out.on B2.out)
        have hs2 := B2.out.size
        clear hb2 u0 u1
        go_wp2_with fail
        refine (l3Copy_any x A n c _ F2.out hn).mono ?_
        rintro e w3 ⟨A3, m3, c3, rfl, hm3, hown3, hb3⟩
        obtain rfl : m3 = n := by rw [← hm3]; exact HL.out
        obtain ⟨w4, hw4⟩ : ∃ w4 : World, w3.alloc (.cells #[.int .i64 x.id, .slice A3 m3 c3, .int .i64 x.done] 38) = w4 := ⟨_, rfl⟩
        have nb := Blk.new w3 #[.int .i64 x.id, .slice A3 m3 c3, .int .i64 x.done] 38
        have O4 := (hown3.mono hs2).alloc (.cells #[.int .i64 x.id, .slice A3 m3 c3, .int .i64 x.done] 38)
        have B4 := (B2.out.trans (hb3.mono hs2)).alloc (B2.out.trans (hb3.mono hs2)).size (.cells #[.int .i64 x.id, .slice A3 m3 c3, .int .i64 x.done] 38)
        have K14 := (K1'.out.below hb3).alloc (.cells #[.int .i64 x.id, .slice A3 m3 c3, .int .i64 x.done] 38)
        have K24 := (K2'.out.below hb3).alloc (.cells #[.int .i64 x.id, .slice A3 m3 c3, .int .i64 x.done] 38)
        rw [hw4] at nb O4 B4 K14 K24
        have v1 := nb.cell (i := 1) (v := .slice A3 m3 c3) rfl
        have u0 := K14.cell (i := 0) (v := .int .i64 u.key) rfl
        have u1 := K14.cell (i := 1) (v := .int .i64 u.value) rfl
        have NB := Lib.hid nb
        have HO4 := Lib.hid O4
        have HB4 := Lib.hid B4
        have HK24 := Lib.hid K24
        have hs3 : w.heap.size ≤ w3.heap.size := Nat.le_trans hs2 hb3.size
        have hs23 := hb3.size
        have hs22 := K2'.out.lt
        have hs4 : w3.heap.size < w4.heap.size := nb.lt
        clear a0 a1 a2 hown3 hb3 nb O4 B4 K14 K24
        go_wp2_with (at_builtin; go_loud (refine wpList_append_src _ rfl (.tmp 25) (.tmp 27) 36 rfl w.heap.size 27 i0 _ 2 16 Mo.underlying36 hi hz0 hz1 hz2 rfl (by omega) (.slice A3 m3 c3) m3 (x.log.flatMap Upd.enc) rfl (HO4.out.alloc _) (some ⟨_, 0, none⟩) 1 1 u.enc rfl (src_row _ #[.int .i64 u.key, .int .i64 u.value] 27 2 _ rfl rfl) (Upd.one u) (by unfold maxLen; omega) (by omega) (by simp; omega) ?_; intro v6 w6 hown6 hg6; rw [show x.log.flatMap Upd.enc ++ u.enc = (x.log ++ [u]).flatMap Upd.enc by simp] at hown6; obtain ⟨A6, c6, rfl, _⟩ := own_flat Upd.len hown6 HPN.out; have nb6 := (NB.out.alloc _).grown hg6 (fun e => by obtain ⟨ds, hd⟩ := own_blk HO4.out e.symm; exact absurd (blk_type NB.out hd) (by decide)); have rb6 := (HK24.out.alloc _).grown hg6 (fun e => by obtain ⟨ds, hd⟩ := own_blk HO4.out e.symm; exact absurd (blk_type HK24.out hd) (by decide)); have B6 := (HB4.out.alloc HB4.out.size (.cells #[.int .i64 u.key, .int .i64 u.value] 27)).grown hg6 (by simp; omega) (fun k e => (HO4.out.lt k e).1); have t1 := nb6.cell (i := 1) (v := .slice A3 m3 c3) rfl; have f1 := nb6.free 1; have nb7 := nb6.set 1 (.slice A6 (m3 + 1) c6); have rb7 := rb6.far (a := ⟨w3.heap.size, 1, none⟩) (by show w.heap.size + 1 + 1 ≠ w3.heap.size; omega) (.slice A6 (m3 + 1) c6); have B7 := B6.setCell (p := ⟨w3.heap.size, 1, none⟩) hs3 (.slice A6 (m3 + 1) c6); have O7 := own_keep hown6 (W' := w6.setCell ⟨w3.heap.size, 1, none⟩ (.slice A6 (m3 + 1) c6)) (fun g e => Below.heap_setCell _ _ _ _ (by rintro rfl; obtain ⟨ds, hd⟩ := own_blk hown6 e; exact absurd (blk_type hd nb6) (by decide))); obtain ⟨w7, hw7⟩ : ∃ w7 : World, w6.setCell ⟨w3.heap.size, 1, none⟩ (.slice A6 (m3 + 1) c6) = w7 := ⟨_, rfl⟩; rw [hw7] at nb7 rb7 B7 O7; have r0 := nb7.cell (i := 0) (v := .int .i64 x.id) rfl; have r1 := nb7.cell (i := 1) (v := .slice A6 (m3 + 1) c6) rfl; have r2 := nb7.cell (i := 2) (v := .int .i64 x.done) rfl; have FF := Lib.hid (res_three (a := .int .i64 x.id) (b := .slice A6 (m3 + 1) c6) (c := .int .i64 x.done) rb7 (show w.heap.size ≤ w.heap.size + 1 + 1 by omega) B7); obtain ⟨z0, z1, z2, y0, y1, y2⟩ := FF.out.1; have HO7 := Lib.hid O7; clear hown6 hg6 nb6 rb6 B6 nb7 rb7 B7 O7))
        exact bodyPost_ret (v := .tuple #[.agg #[.int .i64 x.id, .slice A6 (m3 + 1) c6, .int .i64 x.done], .bool true]) (by simp [results, Tryz.results66, go_sem, FF.out.2.1.1, FF.out.2.1.2.1, FF.out.2.1.2.2]) rfl ⟨⟨x.id, x.log ++ [u], x.done⟩, A6, m3 + 1, c6, by rw [HT.out]; rfl, by rw [HT.out]; rfl, HPN.out, FF.out.2.2.2 HO7.out, FF.out.2.2.1⟩
end Go.Proofs.YtcomppiglhibkaaGreatDoor
/- The exact statements' own helpers for calls: sizes, copies, comparisons. -/
namespace Go.Proofs.YtcomppiglhibkaaGreatDoor
open Go.RowKit


set_option maxHeartbeats 400000 in
theorem toUpdate_any (k v : Int) (w : World) :
    Calls Mo.prog 13 #[.agg #[.int .i64 k, .int .i64 v]] w fun e w' => e = .returned (.agg #[.int .i64 k, .int .i64 v]) ∧ Below w.heap.size w w' := by
  go_enter Mo.func13, Tryz.ntmps13
  go_wp2
  refine bodyPost_ret (v := .agg #[.int .i64 k, .int .i64 v]) (by simp [results, Tryz.results13, go_sem]) rfl ⟨rfl, ?_⟩
  go_grown
set_option maxHeartbeats 400000 in
theorem eqUpdate_same (k v : Int) (w : World) :
    Calls Mo.prog 88 #[.agg #[.int .i64 k, .int .i64 v], .agg #[.int .i64 k, .int .i64 v]] w fun e w' => e = .returned (.bool true) ∧ Below w.heap.size w w' := by
  go_enter Mo.func88, Tryz.ntmps88
  go_wp2
  go_ret
  exact ⟨rfl, by go_grown⟩
end Go.Proofs.YtcomppiglhibkaaGreatDoor
/- The exact statements' own helpers for logs and nodes: sizes, copies, comparisons. -/
namespace Go.Proofs.YtcomppiglhibkaaGreatDoor
open Go.RowKit

set_option maxHeartbeats 400000 in
theorem szUpdateS_any (A : Option Addr) (n c : Nat) (left : Int) (w : World) (h0 : 0 ≤ left) (h1 : left ≤ 1048576) (hn : n ≤ 9223372036854775807) :
    Calls Mo.prog 77 #[.slice A n c, .int .i64 left] w fun e w' => e = .returned (.int .i64 (if (n : Int) ≤ left then left - n else -1)) ∧ w = w' := by
  by_cases hl : (n : Int) ≤ left
  all_goals
    go_enter Mo.func77, Tryz.ntmps77
    go_wp2
    go_ret
    exact ⟨ret_int (by simp), rfl⟩

set_option maxHeartbeats 400000 in
theorem szNode_any (id done : Int) (A : Option Addr) (n c : Nat) (left : Int) (w : World) (h0 : 0 ≤ left) (h1 : left ≤ 1048576) (hn : n ≤ 9223372036854775807) :
    Calls Mo.prog 48 #[.agg #[.int .i64 id, .slice A n c, .int .i64 done], .int .i64 left] w fun e w' => e = .returned (.int .i64 (if (n : Int) ≤ left then left - n else -1)) ∧ Below w.heap.size w w' := by
  by_cases hl : (n : Int) ≤ left
  · have hif : (if (n : Int) ≤ left then left - n else -1) = left - n := if_pos hl
    rw [hif]
    have HI := Lib.hid hif
    clear hif
    have hnn : 0 ≤ left - (n : Int) := by omega
    go_enter Mo.func48, Tryz.ntmps48
    go_wp2_with (go_at_call 77; refine (szUpdateS_any _ _ _ _ _ h0 h1 hn).mono ?_; rintro e w' ⟨rfl, rfl⟩; rw [HI.out])
    go_ret
    exact ⟨rfl, (Below.refl _ _).alloc (Nat.le_refl _) _⟩
  · have hif : (if (n : Int) ≤ left then left - n else -1) = -1 := if_neg hl
    rw [hif]
    have HI := Lib.hid hif
    clear hif
    go_enter Mo.func48, Tryz.ntmps48
    go_wp2_with (go_at_call 77; refine (szUpdateS_any _ _ _ _ _ h0 h1 hn).mono ?_; rintro e w' ⟨rfl, rfl⟩; rw [HI.out])
    go_ret
    exact ⟨rfl, (Below.refl _ _).alloc (Nat.le_refl _) _⟩

set_option maxHeartbeats 1000000 in
theorem toUpdateS_any (A : Option Addr) (n c : Nat) (l : List Upd) (w : World) (h : Flat Upd.enc 2 w 0 w.heap.size A n c l) (hn : n ≤ 1048576) :
    Calls Mo.prog 78 #[.slice A n c] w (LogCopied w n l) := by
  have hlen := h.len
  obtain ⟨i0, hi, hz0, hz1, hz2⟩ := info_parts infoUpd
  have hmk := fun W => make_rows (P := Mo.prog) 36 27 i0 _ Mo.underlying36 hi hz0 n (by rw [hz2]; omega) (by omega) W
  rw [hz1] at hmk
  have H := Lib.hid h
  have HL := Lib.hid hlen
  clear h hlen hi hz0 hz1 hz2
  obtain ⟨Z, hZ⟩ : ∃ Z, Z = madeCells (Value.agg #[.int .i64 0, .int .i64 0]).cells (n * 2) := ⟨_, rfl⟩
  rw [← hZ] at hmk
  have hZs : Z.size = n * 2 := by rw [hZ]; exact size_madeCells _ _
  have HZ := Lib.hid hZs
  clear hZs hZ
  go_enter Mo.func78, Tryz.ntmps78
  go_wp2
  clear hmk
  go_loopw [4] (fun i wr => ∃ k : Nat, k ≤ n ∧ i = .int .i64 k ∧ Hid (∃ cs, wr.heap[w.heap.size]? = some (.cells cs 27 (0, 0)) ∧ Filled Upd.enc 2 cs l k) ∧ Below w.heap.size w wr)
    (fun i _ => n - (intOf i).toNat)
  case atStart => exact ⟨0, Nat.zero_le _, rfl, ⟨Z, heap_alloc_new _ _, Filled.zero (by rw [HZ.out, HL.out])⟩, (Below.refl _ _).alloc (Nat.le_refl _) _⟩
  case round =>
    obtain ⟨k, hk, rfl, hfill, hB⟩ := hrel
    have HW := Lib.hid (H.out.below hB (Nat.le_refl _))
    have HB := Lib.hid hB
    have hsz := hB.size
    clear hB H
    by_cases hlt : k < n
    · obtain ⟨b, off, x, rfl, _, hbB, hx, c0, c1⟩ := HW.out.upd hlt
      have Hx := Lib.hid hx
      clear hx
      obtain ⟨cs, hg, hf⟩ := hfill.out
      have Hg := Lib.hid hg
      have Hf := Lib.hid hf
      have hgs := lt_of_block hg
      have hfs := hf.1
      clear hg hf hfill
      have hlen := HL.out
      have hfs' : k * 2 + 2 ≤ cs.size := by omega
      clear hlen hfs
      go_wp2_with (go_at_call 13; refine (toUpdate_any _ _ _).mono ?_; rintro e w1 ⟨rfl, hb1⟩; have Hb1 := Lib.hid hb1; have hg1 := (hb1.block w.heap.size hgs).trans Hg.out; have Hg1 := Lib.hid hg1; obtain ⟨v0, q0⟩ := row_cell (i := k * 2) hg1 (by omega); obtain ⟨v1, q1⟩ := row_cell (i := k * 2 + 1) hg1 (by omega); have f0 := row_free hg1 (k * 2); have f1 := row_free hg1 (k * 2 + 1); clear hb1 hg1)
      go_roundw
      case rel =>
        refine ⟨k + 1, by omega, by go_num, ⟨_, heap_setCell_at (heap_setCell_at Hg1.out _) _, Filled.step Upd.len Hf.out Hx.out⟩, ?_⟩
        exact (HB.out.trans (Hb1.out.mono hsz)).setCell (Nat.le_refl _) _ |>.setCell (Nat.le_refl _) _
      case measure => simp [intOf]; omega
    · obtain rfl : n = k := by omega
      obtain ⟨cs, hg, hf⟩ := hfill.out
      have Hg := Lib.hid hg
      have Hf := Lib.hid hf
      clear hg hf hfill
      go_wp2
      go_ret
      exact ⟨rfl, Filled.own Upd.len (by omega) Hf.out HL.out Hg.out (Nat.le_refl _) (by unfold maxLen; omega), HB.out⟩

set_option maxHeartbeats 1000000 in
theorem eqUpdateS_same (A B : Option Addr) (n c d : Nat) (l : List Upd) (w : World) (h : Flat Upd.enc 2 w 0 w.heap.size A n c l) (h' : Flat Upd.enc 2 w 0 w.heap.size B n d l) (hn : n ≤ 1048576) :
    Calls Mo.prog 79 #[.slice A n c, .slice B n d] w fun e w' => e = .returned (.bool true) ∧ Below w.heap.size w w' := by
  have H := Lib.hid h
  have H' := Lib.hid h'
  clear h h'
  go_enter Mo.func79, Tryz.ntmps79
  go_wp2
  go_loopw [5] (fun i wr => ∃ k : Nat, k ≤ n ∧ i = .int .i64 k ∧ Below w.heap.size w wr) (fun i _ => n - (intOf i).toNat)
  case atStart => exact ⟨0, Nat.zero_le _, rfl, Below.refl _ _⟩
  case round =>
    obtain ⟨k, hk, rfl, hB⟩ := hrel
    have HW := Lib.hid (H.out.below hB (Nat.le_refl _))
    have HW' := Lib.hid (H'.out.below hB (Nat.le_refl _))
    have HB := Lib.hid hB
    have hsz := hB.size
    clear hB H H'
    by_cases hlt : k < n
    · obtain ⟨b, off, x, rfl, _, _, hx, c0, c1⟩ := HW.out.upd hlt
      obtain ⟨b', off', x', rfl, _, _, hx', c0', c1'⟩ := HW'.out.upd hlt
      obtain rfl : x = x' := by rw [hx] at hx'; injection hx'
      clear hx hx'
      have d0 := cell_regrown c0
      have d1 := cell_regrown c1
      have d0' := cell_regrown c0'
      have d1' := cell_regrown c1'
      have hk0 : (0 : Int) ≤ (k : Int) := by omega
      have hkn : (k : Int) < (n : Int) := by omega
      go_wp2_with fail
      refine wp_region_quiet_below (by kernel_rfl) (by kernel_rfl) ?_
      repeat (go_big_quiet_step ((go_at_call 88; exact Calls.regrown_of (eqUpdate_same _ _ _))))
      refine wpQuiet_nil ?_
      intro w2 hw2
      have hb2 := Lib.hid (below_of_regrown hw2)
      clear hw2 d0 d1 d0' d1'
      go_wp2
      go_roundw
      case rel => exact ⟨k + 1, by omega, by go_num, HB.out.trans (hb2.out.mono hsz)⟩
      case measure => simp [intOf]; omega
    · go_wp2
      go_ret
      exact ⟨rfl, HB.out⟩

set_option maxHeartbeats 2000000 in
theorem toNode_any (x : Nod) (A : Option Addr) (n c : Nat) (w : World) (h : Flat Upd.enc 2 w 0 w.heap.size A n c x.log) (hn : n ≤ 1048576) :
    Calls Mo.prog 49 #[.agg #[.int .i64 x.id, .slice A n c, .int .i64 x.done]] w (NodeCopied w x n) := by
  have HL := Lib.hid h.len
  have H := Lib.hid h
  clear h
  go_enter Mo.func49, Tryz.ntmps49
  go_wp2_with fail
  have F0 := Lib.hid (((H.out.box (.cells #[.int .i64 x.id, .slice A n c, .int .i64 x.done] 79)).box (.cells #[.int .i64 0, .slice none 0 0, .int .i64 0] 38)).box (.cells #[.int .i64 x.id, .slice none 0 0, .int .i64 0] 38))
  have KB := Lib.hid (((Blk.new w #[.int .i64 x.id, .slice A n c, .int .i64 x.done] 79).alloc (.cells #[.int .i64 0, .slice none 0 0, .int .i64 0] 38)).alloc (.cells #[.int .i64 x.id, .slice none 0 0, .int .i64 0] 38))
  have KR := Lib.hid ((Blk.new (w.alloc (.cells #[.int .i64 x.id, .slice A n c, .int .i64 x.done] 79)) #[.int .i64 0, .slice none 0 0, .int .i64 0] 38).alloc (.cells #[.int .i64 x.id, .slice none 0 0, .int .i64 0] 38))
  have KS := Lib.hid (Blk.new ((w.alloc (.cells #[.int .i64 x.id, .slice A n c, .int .i64 x.done] 79)).alloc (.cells #[.int .i64 0, .slice none 0 0, .int .i64 0] 38)) #[.int .i64 x.id, .slice none 0 0, .int .i64 0] 38)
  refine (toUpdateS_any _ _ _ x.log _ F0.out hn).mono ?_
  rintro e w1 ⟨rfl, hown1, hb1⟩
  have B1 := Lib.hid (below_box (below_box' (below_box' hb1)))
  have kb := KB.out.below hb1
  have kr := KR.out.below hb1
  have ks := KS.out.below hb1
  simp only [World.size_alloc] at kr ks hown1
  have b2 := kb.cell (i := 2) rfl
  have s0 := ks.cell (i := 0) rfl
  have s1 := ks.cell (i := 1) rfl
  have s2 := ks.cell (i := 2) rfl
  have t1 := ks.free 1
  have t2 := ks.free 2
  have z0 := kr.cell (i := 0) rfl
  have z1 := kr.cell (i := 1) rfl
  have z2 := kr.cell (i := 2) rfl
  have y0 := kr.free 0
  have y1 := kr.free 1
  have y2 := kr.free 2
  have r1 := kr.far (a := ⟨w.heap.size + 1 + 1, 1, none⟩) (show w.heap.size + 1 ≠ w.heap.size + 1 + 1 by omega) (.slice (some ⟨w.heap.size + 1 + 1 + 1, 0, none⟩) n n)
  have r2 := r1.far (a := ⟨w.heap.size + 1 + 1, 2, none⟩) (show w.heap.size + 1 ≠ w.heap.size + 1 + 1 by omega) (.int .i64 x.done)
  obtain ⟨e0, e1, e2⟩ := three_stores _ (w.heap.size + 1) (r2.cell (i := 0) rfl) (r2.cell (i := 1) rfl) (r2.cell (i := 2) rfl)
  have E := Lib.hid (And.intro e0 (And.intro e1 e2))
  have O1 := Lib.hid hown1
  clear hb1 hown1 kb kr ks r1 r2 e0 e1 e2
  go_wp2
  obtain ⟨e0, e1, e2⟩ := E.out
  refine bodyPost_ret (v := .agg #[.int .i64 x.id, .slice (some ⟨w.heap.size + 1 + 1 + 1, 0, none⟩) n n, .int .i64 x.done]) (by simp [results, Tryz.results49, go_sem, e0, e1, e2]) rfl ⟨w.heap.size + 1 + 1 + 1, rfl, ?_, ?_⟩
  · refine own_keep (O1.out.mono (by omega)) (fun q hq => ?_)
    have : w.heap.size + 1 + 1 + 1 = q := by simpa [Value.ownBlock] using hq
    have hr : q ≠ w.heap.size + 1 := by omega
    have hs : q ≠ w.heap.size + 1 + 1 := by omega
    rw [Below.heap_setCell _ _ _ _ hr, Below.heap_setCell _ _ _ _ hr, Below.heap_setCell _ _ _ _ hr, Below.heap_setCell _ _ _ _ hs, Below.heap_setCell _ _ _ _ hs]
  · have hr : w.heap.size ≤ w.heap.size + 1 := by omega
    have hs : w.heap.size ≤ w.heap.size + 1 + 1 := by omega
    exact ((((B1.out.setCell (p := ⟨w.heap.size + 1 + 1, 1, none⟩) hs _).setCell (p := ⟨w.heap.size + 1 + 1, 2, none⟩) hs _).setCell (p := ⟨w.heap.size + 1, 0, none⟩) hr _).setCell (p := ⟨w.heap.size + 1, 1, none⟩) hr _).setCell (p := ⟨w.heap.size + 1, 2, none⟩) hr _

set_option maxHeartbeats 2000000 in
theorem eqNode_same (x : Nod) (A B : Option Addr) (n c d : Nat) (w : World) (h : Flat Upd.enc 2 w 0 w.heap.size A n c x.log) (h' : Flat Upd.enc 2 w 0 w.heap.size B n d x.log) (hn : n ≤ 1048576) :
    Calls Mo.prog 50 #[.agg #[.int .i64 x.id, .slice A n c, .int .i64 x.done], .agg #[.int .i64 x.id, .slice B n d, .int .i64 x.done]] w fun e w' => e = .returned (.bool true) ∧ Below w.heap.size w w' := by
  have H := Lib.hid h
  have H' := Lib.hid h'
  have H0 := Lib.hid ((h.box (.cells #[.int .i64 x.id, .slice A n c, .int .i64 x.done] 38)).box (.cells #[.int .i64 x.id, .slice B n d, .int .i64 x.done] 38))
  have H0' := Lib.hid ((h'.box (.cells #[.int .i64 x.id, .slice A n c, .int .i64 x.done] 38)).box (.cells #[.int .i64 x.id, .slice B n d, .int .i64 x.done] 38))
  clear h h'
  go_enter Mo.func50, Tryz.ntmps50
  go_wp2_with (go_at_call 79; refine (eqUpdateS_same _ _ _ _ _ x.log _ H0.out H0'.out hn).mono ?_; rintro e w1 ⟨rfl, hb1⟩; have B1 := Lib.hid (below_box (below_box' hb1)); have q2 := (two_box hb1).1 2; have r2 := (two_box hb1).2.1 2; clear hb1)
  go_ret
  exact ⟨rfl, B1.out⟩
end Go.Proofs.YtcomppiglhibkaaGreatDoor
/- The exact statements' own helpers for chains: sizes, copies, comparisons. -/
namespace Go.Proofs.YtcomppiglhibkaaGreatDoor
open Go.RowKit Go.Sort

/-- what reckoning the size leaves: -1, or all is small -/
def SizeLeft (w : World) (left : Int) (n : Nat) (l : List Nod) (e : Ending) (w' : World) : Prop :=
  ∃ v : Int, e = .returned (.int .i64 v) ∧ (v < 0 ∨ (0 ≤ v ∧ v ≤ left ∧ (n : Int) ≤ left ∧ ∀ x ∈ l, (x.log.length : Int) ≤ left)) ∧ Below w.heap.size w w'

set_option maxHeartbeats 1000000 in
theorem szNodeS_any (A : Option Addr) (n c : Nat) (l : List Nod) (left : Int) (w : World) (h : Nods w 0 w.heap.size A n c l) (h0 : 0 ≤ left) (h1 : left ≤ 1048576) :
    Calls Mo.prog 27 #[.slice A n c, .int .i64 left] w (SizeLeft w left n l) := by
  have hnc : n ≤ 9223372036854775807 := by have := h.cap; unfold maxLen at this; omega
  have HL := Lib.hid h.len
  have H := Lib.hid h
  clear h
  by_cases hle : (n : Int) ≤ left
  case neg =>
    go_enter Mo.func27, Tryz.ntmps27
    go_wp2
    go_ret
    exact ⟨-1, rfl, .inl (by omega), Below.refl _ _⟩
  case pos =>
  go_enter Mo.func27, Tryz.ntmps27
  go_wp2_with fail
  go_loopw [1, 5] (fun q i wr => ∃ (k : Nat) (v : Int), k ≤ n ∧ i = .int .i64 k ∧ q = .int .i64 v ∧ 0 ≤ v ∧ v ≤ left ∧ Hid (∀ (j : Nat) (x : Nod), j < k → l[j]? = some x → (x.log.length : Int) ≤ left) ∧ Below w.heap.size w wr)
    (fun _ i _ => n - (intOf i).toNat)
  case atStart => exact ⟨0, left - n, Nat.zero_le _, rfl, rfl, by omega, by omega, fun _ _ h => absurd h (by omega), Below.refl _ _⟩
  case round =>
    obtain ⟨k, v, hk, rfl, rfl, hv0, hv1, hall, hB⟩ := hrel
    have HW := Lib.hid (H.out.below hB (Nat.le_refl _))
    have HB := Lib.hid hB
    have hsz := hB.size
    clear hB H
    by_cases hlt : k < n
    · obtain ⟨b, off, x, A', m, d, rfl, _, hbB, hx, c0, c1, c2, hf⟩ := HW.out.nod hlt
      have hm : m ≤ 9223372036854775807 := by have := hf.2.1; have := hf.2.2.1; unfold maxLen at *; omega
      have HM := Lib.hid hf.len
      have Hx := Lib.hid hx
      clear hx hf
      by_cases hmv : (m : Int) ≤ v
      · have hif : (if (m : Int) ≤ v then v - m else -1) = v - m := if_pos hmv
        have HI := Lib.hid hif
        have hnn : 0 ≤ v - (m : Int) := by omega
        clear hif
        go_wp2_with (go_at_call 48; refine (szNode_any _ _ _ _ _ _ _ hv0 (by omega) hm).mono ?_; rintro e w1 ⟨rfl, hb1⟩; rw [HI.out]; have B1 := Lib.hid (HB.out.trans (hb1.mono hsz)); clear hb1)
        go_roundw
        case rel =>
          refine ⟨k + 1, v - m, by omega, by go_num, rfl, by omega, by omega, ?_, B1.out⟩
          intro j y hj hy
          by_cases e : j = k
          · subst e
            have := Hx.out
            rw [this] at hy; injection hy with hy; subst hy
            have := HM.out; omega
          · exact hall.out j y (by omega) hy
        case measure => simp [intOf]; omega
      · have hif : (if (m : Int) ≤ v then v - m else -1) = -1 := if_neg hmv
        have HI := Lib.hid hif
        clear hif
        go_wp2_with (go_at_call 48; refine (szNode_any _ _ _ _ _ _ _ hv0 (by omega) hm).mono ?_; rintro e w1 ⟨rfl, hb1⟩; rw [HI.out]; have B1 := Lib.hid (HB.out.trans (hb1.mono hsz)); clear hb1)
        go_ret
        exact ⟨-1, rfl, .inl (by omega), B1.out⟩
    · obtain rfl : n = k := by omega
      go_wp2
      go_ret
      refine ⟨v, rfl, .inr ⟨hv0, hv1, hle, fun x hx => ?_⟩, HB.out⟩
      obtain ⟨j, hj⟩ := List.getElem?_of_mem hx
      exact hall.out j x (by have := (List.getElem?_eq_some_iff.1 hj).1; have := HL.out; omega) hj

set_option maxHeartbeats 1000000 in
theorem szChain_any (view : Int) (A : Option Addr) (n c : Nat) (l : List Nod) (left : Int) (w : World) (h : Nods w 0 w.heap.size A n c l) (h0 : 0 ≤ left) (h1 : left ≤ 1048576) :
    Calls Mo.prog 11 #[.agg #[.int .i64 view, .slice A n c], .int .i64 left] w (SizeLeft w left n l) := by
  have H := Lib.hid (h.box (.cells #[.int .i64 view, .slice A n c] 42))
  clear h
  go_enter Mo.func11, Tryz.ntmps11
  go_wp2_with fail
  refine (szNodeS_any _ _ _ l _ _ H.out h0 h1).mono ?_
  rintro e w1 ⟨v, rfl, hv, hb1⟩
  have HV := Lib.hid hv
  have B1 := Lib.hid (below_box hb1)
  clear hv hb1
  by_cases hv0 : v < 0
  · go_wp2
    go_ret
    exact ⟨-1, rfl, .inl (by omega), B1.out⟩
  · go_wp2
    go_ret
    exact ⟨v, rfl, HV.out, B1.out⟩

set_option maxHeartbeats 2000000 in
theorem toNodeS_any (A : Option Addr) (n c : Nat) (l : List Nod) (w : World) (h : Nods w 0 w.heap.size A n c l) (hn : n ≤ 1048576) (hlog : ∀ x ∈ l, x.log.length ≤ 1048576) :
    Calls Mo.prog 28 #[.slice A n c] w fun e w' => e = .returned (.slice (some ⟨w.heap.size, 0, none⟩) n n) ∧ NodRow w' w.heap.size w'.heap.size (.slice (some ⟨w.heap.size, 0, none⟩) n n) l ∧ Below w.heap.size w w' := by
  have hlen := h.len
  obtain ⟨i0, hi, hz0, hz1, hz2⟩ := info_parts infoNode
  have hmk := fun W => make_rows (P := Mo.prog) 23 38 i0 _ Mo.underlying23 hi hz0 n (by rw [hz2]; omega) (by omega) W
  rw [hz1] at hmk
  have H := Lib.hid h
  have HL := Lib.hid hlen
  have HG := Lib.hid hlog
  clear h hlen hlog hi hz0 hz1 hz2
  obtain ⟨Z, hZ⟩ : ∃ Z, Z = madeCells (Value.agg #[.int .i64 0, .slice none 0 0, .int .i64 0]).cells (n * 3) := ⟨_, rfl⟩
  rw [← hZ] at hmk
  have hZs : Z.size = n * 3 := by rw [hZ]; exact size_madeCells _ _
  have HZ := Lib.hid hZs
  clear hZs hZ
  go_enter Mo.func28, Tryz.ntmps28
  go_wp2
  clear hmk
  go_loopw [4] (fun i wr => ∃ k : Nat, k ≤ n ∧ i = .int .i64 k ∧ RowTo wr w.heap.size w.heap.size n l k ∧ Below w.heap.size w wr)
    (fun i _ => n - (intOf i).toNat)
  case atStart => exact ⟨0, Nat.zero_le _, rfl, RowTo.zero (heap_alloc_new _ _) HZ.out (Nat.le_refl _), (Below.refl _ _).alloc (Nat.le_refl _) _⟩
  case round =>
    obtain ⟨k, hk, rfl, hrow, hB⟩ := hrel
    have HW := Lib.hid (H.out.below hB (Nat.le_refl _))
    have HB := Lib.hid hB
    have HR := Lib.hid hrow
    have hsz := hB.size
    clear hB hrow
    by_cases hlt : k < n
    · obtain ⟨b, off, x, A', m, d, rfl, _, hbB, hx, c0, c1, c2, hf⟩ := HW.out.nod hlt
      have hm : m ≤ 1048576 := by have := hf.len; have := HG.out x (List.mem_of_getElem? hx); omega
      have HM := Lib.hid hf.len
      have Hx := Lib.hid hx
      have HF := Lib.hid (hf.mono (Nat.zero_le _) hsz)
      obtain ⟨cs, hg, hcs⟩ := HR.out.block
      have hgs := lt_of_block hg
      have Hg := Lib.hid hg
      have hfs' : k * 3 + 3 ≤ cs.size := by rw [hcs]; omega
      clear hx hf hg hcs
      go_wp2_with (go_at_call 49; refine (toNode_any x _ _ _ _ HF.out hm).mono ?_; rintro e w1 ⟨g1, rfl, hown1, hb1⟩; have Hb1 := Lib.hid hb1; have O1 := Lib.hid hown1; have hg1 := (hb1.block w.heap.size hgs).trans Hg.out; obtain ⟨v0, q0⟩ := row_cell (i := k * 3) hg1 (by omega); obtain ⟨v1, q1⟩ := row_cell (i := k * 3 + 1) hg1 (by omega); obtain ⟨v2, q2⟩ := row_cell (i := k * 3 + 2) hg1 (by omega); have f0 := row_free hg1 (k * 3); have f1 := row_free hg1 (k * 3 + 1); have f2 := row_free hg1 (k * 3 + 2); clear hb1 hg1 hown1)
      go_roundw
      case rel =>
        refine ⟨k + 1, by omega, by go_num, HR.out.step (r := ⟨x.id, some ⟨g1, 0, none⟩, m, m, x.done⟩) Hb1.out Hx.out ⟨rfl, rfl, HM.out⟩ hlt O1.out, ?_⟩
        exact (HB.out.trans (Hb1.out.mono hsz)).setCell (Nat.le_refl _) _ |>.setCell (Nat.le_refl _) _ |>.setCell (Nat.le_refl _) _
      case measure => simp [intOf]; omega
    · obtain rfl : n = k := by omega
      go_wp2
      go_ret
      exact ⟨rfl, HR.out.done HL.out (by unfold maxLen; omega), HB.out⟩

theorem two_cells (w : World) (g : Nat) {a b : Value} (h0 : w.cell? ⟨g, 0, none⟩ = some a) (h1 : w.cell? ⟨g, 1, none⟩ = some b) (u v : Value) :
    ((w.setCell ⟨g, 0, none⟩ u).setCell ⟨g, 1, none⟩ v).cell? ⟨g, 0, none⟩ = some u ∧ ((w.setCell ⟨g, 0, none⟩ u).setCell ⟨g, 1, none⟩ v).cell? ⟨g, 1, none⟩ = some v := by
  obtain ⟨e0, e1⟩ := two_stores w g h0 h1
  refine ⟨?_, e1 u v⟩
  rw [World.cell?_setCell_other _ _ _ _ (by simp)]; exact e0 u

set_option maxHeartbeats 2000000 in
theorem toChain_any (view : Int) (A : Option Addr) (n c : Nat) (l : List Nod) (w : World) (h : Nods w 0 w.heap.size A n c l) (hn : n ≤ 1048576) (hlog : ∀ x ∈ l, x.log.length ≤ 1048576) :
    Calls Mo.prog 12 #[.agg #[.int .i64 view, .slice A n c]] w (ChainLeft w view l) := by
  have HL := Lib.hid h.len
  have HG := Lib.hid hlog
  have H := Lib.hid h
  clear h hlog
  go_enter Mo.func12, Tryz.ntmps12
  go_wp2_with fail
  have F0 := Lib.hid (((H.out.box (.cells #[.int .i64 view, .slice A n c] 42)).box (.cells #[.int .i64 0, .slice none 0 0] 25)).box (.cells #[.int .i64 view, .slice none 0 0] 25))
  have KR := Lib.hid ((Blk.new (w.alloc (.cells #[.int .i64 view, .slice A n c] 42)) #[.int .i64 0, .slice none 0 0] 25).alloc (.cells #[.int .i64 view, .slice none 0 0] 25))
  have KS := Lib.hid (Blk.new ((w.alloc (.cells #[.int .i64 view, .slice A n c] 42)).alloc (.cells #[.int .i64 0, .slice none 0 0] 25)) #[.int .i64 view, .slice none 0 0] 25)
  refine (toNodeS_any _ _ _ l _ F0.out hn HG.out).mono ?_
  rintro e w1 ⟨rfl, hrow1, hb1⟩
  have B1 := Lib.hid (below_box (below_box (below_box hb1)))
  have kr := KR.out.below hb1
  have ks := KS.out.below hb1
  simp only [World.size_alloc] at kr ks hrow1
  have s0 := ks.cell (i := 0) (v := .int .i64 view) rfl
  have s1 := ks.cell (i := 1) (v := .slice none 0 0) rfl
  have t1 := ks.free 1
  have z0 := kr.cell (i := 0) (v := .int .i64 0) rfl
  have z1 := kr.cell (i := 1) (v := .slice none 0 0) rfl
  have y0 := kr.free 0
  have y1 := kr.free 1
  have r1 := kr.far (a := ⟨w.heap.size + 1 + 1, 1, none⟩) (show w.heap.size + 1 ≠ w.heap.size + 1 + 1 by omega) (.slice (some ⟨w.heap.size + 1 + 1 + 1, 0, none⟩) n n)
  obtain ⟨e0, e1⟩ := two_stores _ (w.heap.size + 1) (r1.cell (i := 0) rfl) (r1.cell (i := 1) rfl)
  have E := Lib.hid (And.intro e0 e1)
  have R1 := Lib.hid hrow1
  clear hb1 hrow1 kr ks r1 e0 e1
  go_wp2
  obtain ⟨e0, e1⟩ := E.out
  refine bodyPost_ret (v := .agg #[.int .i64 view, .slice (some ⟨w.heap.size + 1 + 1 + 1, 0, none⟩) n n]) (by simp [results, Tryz.results12, go_sem, e0, e1]) rfl ⟨_, n, n, rfl, HL.out, ?_, ?_⟩
  · refine (R1.out.keep (w' := _) (fun q hq _ => ?_)).lower (by omega) |>.mono (by simp [World.setCell])
    have hr : q ≠ w.heap.size + 1 := by omega
    have hs : q ≠ w.heap.size + 1 + 1 := by omega
    rw [Below.heap_setCell _ _ _ _ hr, Below.heap_setCell _ _ _ _ hr, Below.heap_setCell _ _ _ _ hs]
  · have hr : w.heap.size ≤ w.heap.size + 1 := by omega
    have hs : w.heap.size ≤ w.heap.size + 1 + 1 := by omega
    exact ((B1.out.setCell (p := ⟨w.heap.size + 1 + 1, 1, none⟩) hs _).setCell (p := ⟨w.heap.size + 1, 0, none⟩) hr _).setCell (p := ⟨w.heap.size + 1, 1, none⟩) hr _

set_option maxHeartbeats 2000000 in
theorem eqNodeS_same (A B : Option Addr) (n c d : Nat) (l : List Nod) (w : World) (h : Nods w 0 w.heap.size A n c l) (h' : Nods w 0 w.heap.size B n d l) (hn : n ≤ 1048576) (hlog : ∀ x ∈ l, x.log.length ≤ 1048576) :
    Calls Mo.prog 29 #[.slice A n c, .slice B n d] w fun e w' => e = .returned (.bool true) ∧ Below w.heap.size w w' := by
  have H := Lib.hid h
  have H' := Lib.hid h'
  have HG := Lib.hid hlog
  clear h h' hlog
  go_enter Mo.func29, Tryz.ntmps29
  go_wp2
  go_loopw [5] (fun i wr => ∃ k : Nat, k ≤ n ∧ i = .int .i64 k ∧ Below w.heap.size w wr) (fun i _ => n - (intOf i).toNat)
  case atStart => exact ⟨0, Nat.zero_le _, rfl, Below.refl _ _⟩
  case round =>
    obtain ⟨k, hk, rfl, hB⟩ := hrel
    have HW := Lib.hid (H.out.below hB (Nat.le_refl _))
    have HW' := Lib.hid (H'.out.below hB (Nat.le_refl _))
    have HB := Lib.hid hB
    have hsz := hB.size
    clear hB H H'
    by_cases hlt : k < n
    · obtain ⟨b, off, x, A1, m, d1, rfl, _, _, hx, c0, c1, c2, hf⟩ := HW.out.nod hlt
      obtain ⟨b', off', x', A2, m', d2, rfl, _, _, hx', c0', c1', c2', hf'⟩ := HW'.out.nod hlt
      obtain rfl : x = x' := by rw [hx] at hx'; injection hx'
      have hmm : m' = m := by rw [← hf.len, ← hf'.len]
      have hm : m ≤ 1048576 := by have := hf.len; have := HG.out x (List.mem_of_getElem? hx); omega
      subst hmm
      have F := Lib.hid (hf.mono (Nat.zero_le _) hsz)
      have F' := Lib.hid (hf'.mono (Nat.zero_le _) hsz)
      clear hx hx' hf hf'
      have e0 := cell_regrown c0
      have e1 := cell_regrown c1
      have e2 := cell_regrown c2
      have e0' := cell_regrown c0'
      have e1' := cell_regrown c1'
      have e2' := cell_regrown c2'
      have hk0 : (0 : Int) ≤ (k : Int) := by omega
      have hkn : (k : Int) < (n : Int) := by omega
      go_wp2_with fail
      refine wp_region_quiet_below (by kernel_rfl) (by kernel_rfl) ?_
      repeat (go_big_quiet_step ((go_at_call 50; exact Calls.regrown_of (eqNode_same x _ _ _ _ _ _ (F.out.on (below_regrown _ _ _)) (F'.out.on (below_regrown _ _ _)) hm))))
      refine wpQuiet_nil ?_
      intro w2 hw2
      have hb2 := Lib.hid (below_of_regrown hw2)
      clear hw2 e0 e1 e2 e0' e1' e2'
      go_wp2
      go_roundw
      case rel => exact ⟨k + 1, by omega, by go_num, HB.out.trans (hb2.out.mono hsz)⟩
      case measure => simp [intOf]; omega
    · go_wp2
      go_ret
      exact ⟨rfl, HB.out⟩

set_option maxHeartbeats 1000000 in
theorem eqChain_same (view : Int) (A B : Option Addr) (n c d : Nat) (l : List Nod) (w : World) (h : Nods w 0 w.heap.size A n c l) (h' : Nods w 0 w.heap.size B n d l) (hn : n ≤ 1048576) (hlog : ∀ x ∈ l, x.log.length ≤ 1048576) :
    Calls Mo.prog 14 #[.agg #[.int .i64 view, .slice A n c], .agg #[.int .i64 view, .slice B n d]] w fun e w' => e = .returned (.bool true) ∧ Below w.heap.size w w' := by
  have H0 := Lib.hid ((h.box (.cells #[.int .i64 view, .slice A n c] 25)).box (.cells #[.int .i64 view, .slice B n d] 25))
  have H0' := Lib.hid ((h'.box (.cells #[.int .i64 view, .slice A n c] 25)).box (.cells #[.int .i64 view, .slice B n d] 25))
  have HG := Lib.hid hlog
  clear h h' hlog
  go_enter Mo.func14, Tryz.ntmps14
  go_wp2_with (go_at_call 29; refine (eqNodeS_same _ _ _ _ _ l _ H0.out H0'.out hn HG.out).mono ?_; rintro e w1 ⟨rfl, hb1⟩; have B1 := Lib.hid (below_box (below_box hb1)); clear hb1)
  go_ret
  exact ⟨rfl, B1.out⟩
end Go.Proofs.YtcomppiglhibkaaGreatDoor
/- Settling, plain Lean: passing and telling on lists of nodes; no program in sight. -/
namespace Go.Proofs.YtcomppiglhibkaaGreatDoor
open Go.RowKit

/-- the node behind gets the next update; the tail knows all of it to be everywhere -/
def passed (l : List Nod) (x y : Nod) (i : Nat) : Nod := ⟨y.id, x.log.take (y.log.length + 1), if i + 2 = l.length then ((y.log.length + 1 : Nat) : Int) else y.done⟩
def passAt (l : List Nod) (i : Nat) : Option (List Nod) :=
  match l[i]?, l[i + 1]? with
  | some x, some y => if y.log.length = x.log.length then none else some (l.set (i + 1) (passed l x y i))
  | _, _ => none
/-- the node ahead is told what the one behind knows to be everywhere -/
def tellAt (l : List Nod) (i : Nat) : Option (List Nod) :=
  match l[i]?, l[i + 1]? with
  | some x, some y => if x.done = y.done then none else some (l.set i ⟨x.id, x.log, y.done⟩)
  | _, _ => none
def firstPass (l : List Nod) : Option (List Nod) := (List.range (l.length - 1)).findSome? (passAt l)
def lastTell (l : List Nod) : Option (List Nod) := (List.range (l.length - 1)).reverse.findSome? (tellAt l)
def stepL (l : List Nod) : Option (List Nod) := match firstPass l with | some r => some r | none => lastTell l

theorem passAt_some {l r : List Nod} {i : Nat} (h : passAt l i = some r) : ∃ x y, l[i]? = some x ∧ l[i + 1]? = some y ∧ y.log.length ≠ x.log.length ∧ r = l.set (i + 1) (passed l x y i) := by
  unfold passAt at h
  split at h
  · rename_i x y hx hy
    split at h
    · cases h
    · rename_i hne
      injection h with h
      exact ⟨x, y, hx, hy, hne, h.symm⟩
  · cases h
theorem tellAt_some {l r : List Nod} {i : Nat} (h : tellAt l i = some r) : ∃ x y, l[i]? = some x ∧ l[i + 1]? = some y ∧ x.done ≠ y.done ∧ r = l.set i ⟨x.id, x.log, y.done⟩ := by
  unfold tellAt at h
  split at h
  · rename_i x y hx hy
    split at h
    · cases h
    · rename_i hne
      injection h with h
      exact ⟨x, y, hx, hy, hne, h.symm⟩
  · cases h
theorem good_at {v : Int} {l : List Nod} (h : Good v l) {i j : Nat} {x y : Nod} (hx : l[i]? = some x) (hy : l[j]? = some y) (hij : i < j) : Ahead x y := by
  obtain ⟨hi, rfl⟩ := List.getElem?_eq_some_iff.1 hx
  obtain ⟨hj, rfl⟩ := List.getElem?_eq_some_iff.1 hy
  exact (List.pairwise_iff_getElem.1 h.2.2.2.2.2.1) i j hi hj hij
theorem goodl_ok {v : Int} {l : List Nod} (h : Good v l) {i : Nat} {x : Nod} (hx : l[i]? = some x) : nodeOk x = true := h.2.2.2.2.1 x (List.mem_of_getElem? hx)
/-- a node is set: the chain stays valid if the node fits in -/
theorem good_set {v : Int} {l : List Nod} (h : Good v l) {k : Nat} {y : Nod} (hk : k < l.length) (hok : nodeOk y = true) (hb : ∀ (j : Nat) (x : Nod), j < k → l[j]? = some x → Ahead x y) (ha : ∀ (j : Nat) (x : Nod), k < j → l[j]? = some x → Ahead y x) (ht : k + 1 = l.length → y.done = y.log.length) : Good v (l.set k y) := by
  obtain ⟨h1, h2, h3, h4, h5, h6, h7⟩ := id h
  refine ⟨h1, h2, by simpa using h3, by simpa using h4, fun x hx => ?_, ?_, ?_⟩
  · rcases List.mem_or_eq_of_mem_set hx with hx | rfl
    · exact h5 x hx
    · exact hok
  · rw [List.pairwise_iff_getElem]
    intro i j hi hj hij
    simp only [List.length_set] at hi hj
    simp only [List.getElem_set]
    have gi := List.getElem?_eq_getElem hi
    have gj := List.getElem?_eq_getElem hj
    by_cases ei : k = i
    · subst ei
      have : ¬ k = j := by omega
      simp only [if_true, this, if_false]
      exact ha j _ hij gj
    · by_cases ej : k = j
      · subst ej
        simp only [ei, if_false, if_true]
        exact hb i _ hij gi
      · simp only [ei, ej, if_false]
        exact (List.pairwise_iff_getElem.1 h6) i j hi hj hij
  · unfold tailOk
    simp only [List.length_set]
    by_cases e : k + 1 = l.length
    · have e' : l.length - 1 = k := by omega
      rw [e', List.getElem?_set_self hk]
      simpa using ht e
    · rw [List.getElem?_set_ne (by omega)]
      unfold tailOk at h7
      exact h7
theorem take_le_prefix {α : Type} {l : List α} {m n : Nat} (h : m ≤ n) : l.take m <+: l.take n := by
  have : l.take m = (l.take n).take m := by rw [List.take_take, Nat.min_eq_left h]
  rw [this]
  exact List.take_prefix _ _
theorem prefix_take {α : Type} {a b : List α} (h : a <+: b) : a = b.take a.length := (List.prefix_iff_eq_take.1 h)
theorem logOk_take {l : List Upd} (h : logOk l = true) (n : Nat) : logOk (l.take n) = true := by
  unfold logOk at h ⊢
  simp only [Bool.and_eq_true, decide_eq_true_eq, List.all_eq_true] at h ⊢
  exact ⟨by rw [List.length_take]; omega, fun u hu => h.2 u (List.mem_of_mem_take hu)⟩
theorem good_pass {v : Int} {l r : List Nod} {i : Nat} (h : Good v l) (hp : passAt l i = some r) : Good v r := by
  obtain ⟨x, y, hx, hy, hne, rfl⟩ := passAt_some hp
  have hxy := good_at h hx hy (by omega)
  have hl := hxy.2.1.length_le
  have hyk := nodeOk_iff.1 (goodl_ok h hy)
  have hxk := nodeOk_iff.1 (goodl_ok h hx)
  have hi : i + 1 < l.length := (List.getElem?_eq_some_iff.1 hy).1
  have htl : (x.log.take (y.log.length + 1)).length = y.log.length + 1 := by rw [List.length_take]; omega
  have hd : y.done ≤ (passed l x y i).done := by
    show y.done ≤ if i + 2 = l.length then ((y.log.length + 1 : Nat) : Int) else y.done
    split <;> omega
  have hpre : y.log <+: x.log.take (y.log.length + 1) := by
    conv => lhs; rw [prefix_take hxy.2.1]
    exact take_le_prefix (by omega)
  refine good_set h hi (nodeOk_iff.2 ⟨hyk.1, hyk.2.1, logOk_take hxk.2.2.1 _, ?_, ?_⟩) (fun j z hj hz => ?_) (fun j z hj hz => ?_) (fun e => ?_)
  · have := hyk.2.2.2.1; omega
  · show (if i + 2 = l.length then ((y.log.length + 1 : Nat) : Int) else y.done) ≤ ((x.log.take (y.log.length + 1)).length : Int)
    rw [htl]
    split <;> omega
  · have hzy := good_at h hz hy hj
    refine ⟨hzy.1, ?_, Int.le_trans hzy.2.2 hd⟩
    show x.log.take (y.log.length + 1) <+: z.log
    refine (List.take_prefix _ _).trans ?_
    by_cases e : j = i
    · subst e; rw [hx] at hz; injection hz with hz; subst hz; exact List.prefix_rfl
    · exact (good_at h hz hx (by omega)).2.1
  · have hyz := good_at h hy hz (by omega)
    have hjl : j < l.length := (List.getElem?_eq_some_iff.1 hz).1
    refine ⟨hyz.1, hyz.2.1.trans hpre, ?_⟩
    show (if i + 2 = l.length then ((y.log.length + 1 : Nat) : Int) else y.done) ≤ z.done
    rw [if_neg (by omega)]
    exact hyz.2.2
  · show (if i + 2 = l.length then ((y.log.length + 1 : Nat) : Int) else y.done) = ((x.log.take (y.log.length + 1)).length : Int)
    rw [if_pos (by omega), htl]
theorem good_tell {v : Int} {l r : List Nod} {i : Nat} (h : Good v l) (hp : tellAt l i = some r) : Good v r := by
  obtain ⟨x, y, hx, hy, hne, rfl⟩ := tellAt_some hp
  have hxy := good_at h hx hy (by omega)
  have hl := hxy.2.1.length_le
  have hyk := nodeOk_iff.1 (goodl_ok h hy)
  have hxk := nodeOk_iff.1 (goodl_ok h hx)
  have hi : i + 1 < l.length := (List.getElem?_eq_some_iff.1 hy).1
  refine good_set h (by omega) (nodeOk_iff.2 ⟨hxk.1, hxk.2.1, hxk.2.2.1, hyk.2.2.2.1, by show y.done ≤ (x.log.length : Int); omega⟩) (fun j z hj hz => ?_) (fun j z hj hz => ?_) (fun e => by omega)
  · have hzx := good_at h hz hx hj
    exact ⟨hzx.1, hzx.2.1, Int.le_trans hzx.2.2 hxy.2.2⟩
  · have hxz := good_at h hx hz (by omega)
    refine ⟨hxz.1, hxz.2.1, ?_⟩
    show y.done ≤ z.done
    by_cases e : j = i + 1
    · subst e; rw [hy] at hz; injection hz with hz; subst hz; exact Int.le_refl _
    · exact (good_at h hy hz (by omega)).2.2
end Go.Proofs.YtcomppiglhibkaaGreatDoor
