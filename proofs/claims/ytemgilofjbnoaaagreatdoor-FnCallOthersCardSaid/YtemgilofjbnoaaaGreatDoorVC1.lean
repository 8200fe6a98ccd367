/- Texts of this claim, joined: DrawO DrawQ DrawR DrawI DrawK DrawL DrawJ Same SameC. -/
import Derived.Deep.RegionLaw
import Derived.Deep.DeepCutAuto
import Derived.Deep.CutRange
import Derived.Lib.QuietBelow
import Derived.Test.YtemgilofjbnoaaaGreatDoorVB1
namespace Go.Proofs.YtemgilofjbnoaaaGreatDoor
open Go.RowKit
def Opened (w : World) (e : Ending) (w' : World) : Prop :=
  ∃ rb, e = .returned (.pointer (some ⟨rb, 0, none⟩)) ∧ w.heap.size ≤ rb ∧ Rd w' rb w.heap.size 0 ∧ Below w.heap.size w w'
end Go.Proofs.YtemgilofjbnoaaaGreatDoor
namespace Go.Proofs.YtemgilofjbnoaaaGreatDoor
open Go.RowKit
structure DC (w0 w : World) (rb B p s : Nat) (view : Int) (A : Option Addr) (m c : Nat) (lg : List Upd) (nv : Value) (l : List Nod) (hi : Nat) : Prop where
  rd : Rd w rb B p
  rb0 : rb < w0.heap.size
  grown : w0.grownBy w (some rb)
  res : Blk w w0.heap.size #[.int .i64 0, .slice none 0 0] 25
  chn : Blk w s #[.int .i64 view, nv] 25
  s0 : w0.heap.size < s
  s1 : s < hi
  his : hi ≤ w.heap.size
  log : w.ownsRow w0.heap.size 28 2 (.slice A m c) m (lg.flatMap Upd.enc)
  logh : ∀ g, (Value.slice A m c).ownBlock = some g → g < hi
  row : NodRow w w0.heap.size hi nv l
section
variable {w0 w w' : World} {rb B p p' s : Nat} {view : Int} {A : Option Addr} {m c : Nat} {lg : List Upd} {nv : Value} {l : List Nod} {hi : Nat}
theorem rd_block {w : World} {rb B p : Nat} (h : Rd w rb B p) : ∃ cs, w.heap[rb]? = some (.cells cs 90 (0, 0)) := by obtain ⟨_, A, n, c, l, hg, _⟩ := h; exact ⟨_, hg⟩
theorem DC.go (h : DC w0 w rb B p s view A m c lg nv l hi) (hr : Rd w' rb B p') (hg : w0.grownBy w' (some rb)) (hsz : w.heap.size ≤ w'.heap.size) (hk : ∀ k, k < hi → k ≠ rb → w'.heap[k]? = w.heap[k]?) : DC w0 w' rb B p' s view A m c lg nv l hi := by
  have hrb := h.rb0
  have hs0 := h.s0
  have hs1 := h.s1
  exact ⟨hr, h.rb0, hg, (hk _ (by omega) (by omega)).trans h.res, (hk _ hs1 (by omega)).trans h.chn, h.s0, h.s1, Nat.le_trans h.his hsz,
    own_keep h.log (fun g e => hk g (h.logh g e) (by have := (h.log.lt g e).1; omega)), h.logh,
    h.row.keep (fun k h1 h2 => hk k h2 (by omega))⟩
theorem DC.picked (h : DC w0 w rb B p s view A m c lg nv l hi) (hr : Rd w' rb B p') (hg : w.grownBy w' (some rb)) : DC w0 w' rb B p' s view A m c lg nv l hi :=
  h.go hr (only_trans h.grown hg) hg.size (fun k hk hne => hg.block k (Nat.lt_of_lt_of_le hk h.his) (fun e => hne (by injection e)))
theorem DC.below (h : DC w0 w rb B p s view A m c lg nv l hi) (hb : Below w.heap.size w w') : DC w0 w' rb B p s view A m c lg nv l hi :=
  h.go (h.rd.below hb) (only_trans h.grown (only_of_below hb)) hb.size (fun k hk _ => hb.block k (Nat.lt_of_lt_of_le hk h.his))
theorem DC.beside {row : Option Nat} (h : DC w0 w rb B p s view A m c lg nv l hi) (hg : w.grownBy w' row) (hr : ∀ g, row = some g → hi ≤ g) : DC w0 w' rb B p s view A m c lg nv l hi := by
  have hs1 := h.s1
  have hs0 := h.s0
  have hrb := h.rb0
  have blk : ∀ k, k < hi → w'.heap[k]? = w.heap[k]? := fun k hk => hg.block k (Nat.lt_of_lt_of_le hk h.his) (fun e => by have := hr k e.symm; omega)
  exact h.go (h.rd.keep (fun k hk => blk k (by omega))) ⟨hg.os.trans h.grown.os, hg.tape.trans h.grown.tape, hg.output.trans h.grown.output, Nat.le_trans h.grown.size hg.size, fun k hk hn => (blk k (by omega)).trans (h.grown.block k hk hn)⟩ hg.size (fun k hk _ => blk k hk)
theorem DC.alloc (h : DC w0 w rb B p s view A m c lg nv l hi) (o : Obj) : DC w0 (w.alloc o) rb B p s view A m c lg nv l hi := h.below ((Below.refl _ _).alloc (Nat.le_refl _) _)
theorem DC.drew (h : DC w0 w rb B p s view A m c lg nv l hi) : DC w0 w.drew rb B p s view A m c lg nv l hi := h.below (Below.refl _ _).drew
theorem DC.raise (h : DC w0 w rb B p s view A m c lg nv l hi) : DC w0 w rb B p s view A m c lg nv l w.heap.size :=
  ⟨h.rd, h.rb0, h.grown, h.res, h.chn, h.s0, Nat.lt_of_lt_of_le h.s1 h.his, Nat.le_refl _, h.log, fun g e => Nat.lt_of_lt_of_le (h.logh g e) h.his, h.row.mono h.his⟩
theorem DC.src (h : DC w0 w rb B p s view A m c lg nv l hi) (hm : lg.length = m) {k : Nat} (hk : k ≤ m) : Src w 2 A k ((lg.take k).flatMap Upd.enc) :=
  flat_src Upd.len (by omega) ((own_flat' Upd.len h.log hm).take_ hk)
theorem DC.setView (h : DC w0 w rb B p s view A m c lg nv l hi) (u : Int) : DC w0 (w.setCell ⟨s, 0, none⟩ (.int .i64 u)) rb B p s u A m c lg nv l hi := by
  have hs := h.s0
  have hrb := h.rb0
  have hc : w.heap[s]? = some (.cells #[.int .i64 view, nv] 25 (0, 0)) := h.chn
  exact ⟨h.rd.far (a := ⟨s, 0, none⟩) (by show rb < s; omega) _, h.rb0, only_set h.grown (a := ⟨s, 0, none⟩) (Nat.le_of_lt hs) _, h.res.far (a := ⟨s, 0, none⟩) (by show w0.heap.size ≠ s; omega) _, h.chn.set 0 _, hs, h.s1, by simpa [World.setCell] using h.his,
    own_keep h.log (fun g e => Below.heap_setCell _ _ _ _ (by
      rintro rfl
      obtain ⟨cs, hb⟩ := own_blk h.log e
      exact absurd (blk_type hb hc) (by decide))), h.logh,
    (h.row.keepT (fun k cs t hk ht => Below.heap_setCell _ _ _ _ (by
      rintro rfl
      have := blk_type hk hc
      rcases ht with rfl | rfl <;> exact absurd this (by decide))))⟩
theorem DC.appended {w1 : World} {nv' : Value} {x : Nod} {r : RN} {o : Obj} {rs : List RN} (h : DC w0 w rb B p s view A m c lg nv l hi) (hat : NodRowAt w w0.heap.size hi nv l rs) (hr : r.id = x.id ∧ r.done = x.done ∧ x.log.length = r.n)
    (hlog : w.ownsRow w0.heap.size 28 2 (.slice r.A r.n r.c) r.n (x.log.flatMap Upd.enc)) (hnew : ∀ g, (Value.slice r.A r.n r.c).ownBlock = some g → hi ≤ g)
    (ho' : w1.ownsRow w0.heap.size 78 3 nv' (l.length + 1) (rs.flatMap RN.enc ++ r.enc)) (hg : (w.alloc o).grownBy w1 nv.ownBlock) :
    DC w0 (w1.setCell ⟨s, 1, none⟩ nv') rb B p s view A m c lg nv' (l ++ [x]) w1.heap.size := by
  have hs := h.s0
  have hs1 := h.s1
  have hhi := h.his
  have hrb := h.rb0
  have hsz : w.heap.size ≤ w1.heap.size := Nat.le_trans (by simp) hg.size
  have hrow := hat.appended (hi' := w1.heap.size) hr hlog hnew (Nat.le_refl _) hhi ho' hg
  have blk : ∀ (k : Nat) (cs : Array Value) (t : TypeId), w.heap[k]? = some (.cells cs t (0, 0)) → t ≠ 78 → w1.heap[k]? = w.heap[k]? := fun k cs t hk ht =>
    (hg.block k (by have := lt_of_block hk; simp; omega) (fun e => by
      obtain ⟨ds, hd⟩ := own_blk hat.1 e.symm
      exact ht (blk_type hk hd))).trans (Below.heap_alloc _ _ _ (lt_of_block hk))
  have low : ∀ k, k < w0.heap.size → w1.heap[k]? = w.heap[k]? := fun k hk =>
    (hg.block k (by have := h.grown.size; simp; omega) (fun e => by have := (hat.1.lt k e.symm).1; omega)).trans (Below.heap_alloc _ _ _ (by have := h.grown.size; omega))
  have hc : w1.heap[s]? = some (.cells #[.int .i64 view, nv] 25 (0, 0)) := (blk s _ _ h.chn (by decide)).trans h.chn
  have hres : Blk w1 w0.heap.size #[.int .i64 0, .slice none 0 0] 25 := (blk _ _ _ h.res (by decide)).trans h.res
  have hchn : Blk w1 s #[.int .i64 view, nv] 25 := hc
  have hrd : Rd w1 rb B p := h.rd.keep (fun k hk => low k (by omega))
  have hlg : w1.ownsRow w0.heap.size 28 2 (.slice A m c) m (lg.flatMap Upd.enc) := own_keep h.log (fun g e => by obtain ⟨cs, hk⟩ := own_blk h.log e; exact blk g _ _ hk (by decide))
  have hgr : w0.grownBy w1 (some rb) := ⟨hg.os.trans h.grown.os, hg.tape.trans h.grown.tape, hg.output.trans h.grown.output, Nat.le_trans h.grown.size hsz, fun k hk hn => (low k hk).trans (h.grown.block k hk hn)⟩
  exact ⟨hrd.far (a := ⟨s, 1, none⟩) (by show rb < s; omega) _, h.rb0, only_set hgr (a := ⟨s, 1, none⟩) (Nat.le_of_lt hs) _, hres.far (a := ⟨s, 1, none⟩) (by show w0.heap.size ≠ s; omega) _, hchn.set 1 _, hs, by omega, by simp [World.setCell],
    own_keep hlg (fun g e => Below.heap_setCell _ _ _ _ (by
      rintro rfl
      obtain ⟨cs, hk⟩ := own_blk hlg e
      exact absurd (blk_type hk hc) (by decide))), fun g e => by have := h.logh g e; omega,
    (hrow.keepT (fun k cs t hk ht => Below.heap_setCell _ _ _ _ (by
      rintro rfl
      have := blk_type hk hc
      rcases ht with rfl | rfl <;> exact absurd this (by decide))))⟩
theorem DC.setNode {g n cc i j : Nat} {u : Value} {l' : List Nod} (h : DC w0 w rb B p s view A m c lg (.slice (some ⟨g, 0, none⟩) n cc) l hi) (hrow : NodRow (w.setCell ⟨g, i * 3 + j, none⟩ u) w0.heap.size hi (.slice (some ⟨g, 0, none⟩) n cc) l') :
    DC w0 (w.setCell ⟨g, i * 3 + j, none⟩ u) rb B p s view A m c lg (.slice (some ⟨g, 0, none⟩) n cc) l' hi := by
  have hs := h.s0
  have hrb := h.rb0
  obtain ⟨rs, ho, _⟩ := h.row
  obtain ⟨cs, hg⟩ := own_blk ho rfl
  have hlo := (ho.lt g rfl).1
  have off : ∀ {k : Nat} {ds : Array Value} {t : TypeId}, w.heap[k]? = some (.cells ds t (0, 0)) → t ≠ 78 → k ≠ g := fun hk ht e => by subst e; exact ht (blk_type hk hg)
  refine ⟨h.rd.far (a := ⟨g, i * 3 + j, none⟩) (by show rb < g; omega) _, h.rb0, only_set h.grown (a := ⟨g, i * 3 + j, none⟩) hlo _, h.res.far (a := ⟨g, i * 3 + j, none⟩) (off h.res (by decide)) _, h.chn.far (a := ⟨g, i * 3 + j, none⟩) (off h.chn (by decide)) _, hs, h.s1, by simpa [World.setCell] using h.his,
    own_keep h.log (fun q e => Below.heap_setCell _ _ _ _ ?_), h.logh, hrow⟩
  obtain ⟨ds, hk⟩ := own_blk h.log e
  exact off hk (by decide)
theorem DC.done (h : DC w0 w rb B p s view A m c lg nv l hi) (a b : Value) : Rd ((w.setCell ⟨w0.heap.size, 0, none⟩ a).setCell ⟨w0.heap.size, 1, none⟩ b) rb B p ∧
    NodRow ((w.setCell ⟨w0.heap.size, 0, none⟩ a).setCell ⟨w0.heap.size, 1, none⟩ b) w0.heap.size ((w.setCell ⟨w0.heap.size, 0, none⟩ a).setCell ⟨w0.heap.size, 1, none⟩ b).heap.size nv l ∧
    w0.grownBy ((w.setCell ⟨w0.heap.size, 0, none⟩ a).setCell ⟨w0.heap.size, 1, none⟩ b) (some rb) := by
  have hrb := h.rb0
  have hc : w.heap[w0.heap.size]? = some (.cells #[.int .i64 0, .slice none 0 0] 25 (0, 0)) := h.res
  refine ⟨(h.rd.far (a := ⟨w0.heap.size, 0, none⟩) hrb _).far (a := ⟨w0.heap.size, 1, none⟩) hrb _, (h.row.keepT (fun k cs t hk ht => ?_)).mono (by simpa [World.setCell] using h.his), only_set (only_set h.grown (a := ⟨w0.heap.size, 0, none⟩) (Nat.le_refl _) _) (a := ⟨w0.heap.size, 1, none⟩) (Nat.le_refl _) _⟩
  have hne : k ≠ w0.heap.size := by
    rintro rfl
    have := blk_type hk hc
    rcases ht with rfl | rfl <;> exact absurd this (by decide)
  rw [Below.heap_setCell _ _ _ _ hne, Below.heap_setCell _ _ _ _ hne]
end
def DrewChain (w : World) (rb B p : Nat) (e : Ending) (w' : World) : Prop :=
  ∃ (view : Int) (A : Option Addr) (n c p' : Nat) (l : List Nod), e = .returned (.agg #[.int .i64 view, .slice A n c]) ∧ l.length = n ∧ 1 ≤ n ∧ n ≤ 5 ∧ (∀ x ∈ l, x.log.length ≤ 13) ∧ p' ≤ p + 160 ∧ Rd w' rb B p' ∧
    NodRow w' w.heap.size w'.heap.size (.slice A n c) l ∧ w.grownBy w' (some rb)
end Go.Proofs.YtemgilofjbnoaaaGreatDoor
namespace Go.Proofs.YtemgilofjbnoaaaGreatDoor
open Go.RowKit
theorem own_lit {w : World} {lo : Nat} {t : TypeId} {sz n : Nat} (cs : Array Value) (hs : cs.size = n * sz) (hlo : lo ≤ w.heap.size) (hn : n ≤ maxLen) :
    (w.alloc (.cells cs t)).ownsRow lo t sz (.slice (some ⟨w.heap.size, 0, none⟩) n n) n cs.toList :=
  ⟨by rw [Array.length_toList]; exact hs, .inr ⟨w.heap.size, n, cs, rfl, hlo, heap_alloc_new w _, Nat.le_refl _, hn, hs, by rw [← hs, ← Array.length_toList, List.take_length]⟩⟩
theorem src_new (w : World) (cs : Array Value) (t : TypeId) (sz N : Nat) (hN : N = w.heap.size) (hs : cs.size = sz) : Src (w.alloc (.cells cs t)) sz (some ⟨N, 0, none⟩) 1 cs.toList := by
  subst hN
  refine ⟨by rw [Array.length_toList, hs]; omega, (fun e => by cases e), fun ad e j u hu => ?_⟩
  injection e with e; subst e
  exact new_cells w cs t _ rfl j u hu
theorem DC.chnAfter {w0 w w1 : World} {rb B p s : Nat} {view : Int} {A : Option Addr} {m c : Nat} {lg : List Upd} {nv : Value} {l : List Nod} {hi : Nat} {rs : List RN} {o : Obj} (h : DC w0 w rb B p s view A m c lg nv l hi) (hat : NodRowAt w w0.heap.size hi nv l rs)
    (hg : (w.alloc o).grownBy w1 nv.ownBlock) : Blk w1 s #[.int .i64 view, nv] 25 := by
  have hc : w.heap[s]? = some (.cells #[.int .i64 view, nv] 25 (0, 0)) := h.chn
  refine ((hg.block s (by have := lt_of_block hc; simp; omega) (fun e => ?_)).trans (Below.heap_alloc _ _ _ (lt_of_block hc))).trans hc
  obtain ⟨ds, hd⟩ := own_blk hat.1 e.symm
  exact absurd (blk_type hc hd) (by decide)
def DL (w0 w : World) (rb B p : Nat) (A : Option Addr) (m c : Nat) (lg : List Upd) : Prop :=
  Rd w rb B p ∧ rb < w0.heap.size ∧ w0.grownBy w (some rb) ∧ Blk w w0.heap.size #[.int .i64 0, .slice none 0 0] 25 ∧ w.ownsRow w0.heap.size 28 2 (.slice A m c) m (lg.flatMap Upd.enc) ∧ lg.length = m ∧ m ≤ 13 ∧ m ≤ c ∧ c ≤ 9223372036854775807
section
variable {w0 w w' : World} {rb B p p' : Nat} {A : Option Addr} {m c : Nat} {lg : List Upd}
theorem DL.picked (h : DL w0 w rb B p A m c lg) (hr : Rd w' rb B p') (hg : w.grownBy w' (some rb)) : DL w0 w' rb B p' A m c lg := by
  obtain ⟨h1, h2, h3, h4, h5, h6⟩ := h
  exact ⟨hr, h2, only_trans h3 hg, h4.pick hg (by omega), own_keep h5 (fun g e => hg.block g (h5.lt g e).2 (fun e' => by injection e' with e'; have := (h5.lt g e).1; omega)), h6⟩
theorem DL.below (h : DL w0 w rb B p A m c lg) (hb : Below w.heap.size w w') : DL w0 w' rb B p A m c lg := by
  obtain ⟨h1, h2, h3, h4, h5, h6⟩ := h
  exact ⟨h1.below hb, h2, only_trans h3 (only_of_below hb), h4.below hb, own_keep h5 (fun g e => hb.block g (h5.lt g e).2), h6⟩
theorem DL.other {A' : Option Addr} {m' c' : Nat} {lg' : List Upd} (h : DL w0 w rb B p A m c lg) (ho : w.ownsRow w0.heap.size 28 2 (.slice A' m' c') m' (lg'.flatMap Upd.enc)) (h1 : lg'.length = m' ∧ m' ≤ 13 ∧ m' ≤ c' ∧ c' ≤ 9223372036854775807) : DL w0 w rb B p A' m' c' lg' :=
  ⟨h.1, h.2.1, h.2.2.1, h.2.2.2.1, ho, h1⟩
theorem DL.chain (h : DL w0 w rb B p A m c lg) (view : Int) : DC w0 (w.alloc (.cells #[.int .i64 view, .slice none 0 0] 25)) rb B p w.heap.size view A m c lg (.slice none 0 0) [] (w.heap.size + 1) := by
  obtain ⟨h1, h2, h3, h4, h5, h6⟩ := h
  exact ⟨h1.alloc _, h2, only_alloc h3 _, h4.alloc _, Blk.new w _ _, h4.lt, by omega, by simp, h5.alloc _, fun g e => by have := (h5.lt g e).2; omega, NodRow.nil_ _ _ _⟩
end
theorem drew_post {w0 w : World} {rb B p : Nat} {nv : Value} {l : List Nod} (h : Rd w rb B p ∧ NodRow w w0.heap.size w.heap.size nv l ∧ w0.grownBy w (some rb)) :
    Rd w.drew rb B p ∧ NodRow w.drew w0.heap.size w.drew.heap.size nv l ∧ w0.grownBy w.drew (some rb) :=
  ⟨h.1.below (Below.refl w.heap.size w).drew, h.2.1.below (Below.refl w.heap.size w).drew (Nat.le_refl _), only_trans h.2.2 (only_of_below (Below.refl w.heap.size w).drew)⟩
set_option maxRecDepth 100000 in
set_option maxHeartbeats 16000000 in
theorem l91Chain_any (rb B p : Nat) (w : World) (h : Rd w rb B p) (hp : p ≤ 68719476736) :
    Calls Mo.prog 30 #[.pointer (some ⟨rb, 0, none⟩)] w (DrewChain w rb B p) := by
  obtain ⟨i0, hi, hz0, hz1, hz2⟩ := info_parts infoUpd
  obtain ⟨j0, hj, hy0, hy1, hy2⟩ := info_parts infoNode
  have hrb := h.lt
  have R0 := Lib.hid (h.alloc (.cells #[.int .i64 0, .slice none 0 0] 25))
  have K0 := Lib.hid (Blk.new w #[.int .i64 0, .slice none 0 0] 25)
  have G0 := Lib.hid (only_alloc (only_refl w rb) (.cells #[.int .i64 0, .slice none 0 0] 25))
  clear h
  go_enter Mo.func30, Tryz.ntmps30
  go_wp2_with fail
  refine (l91Log_any rb B _ _ R0.out (by omega)).mono ?_
  rintro e w1 ⟨v, lg, p1, rfl, hl13, hp1, hdr⟩
  obtain ⟨A, c, hv, hf⟩ := own_flat Upd.len hdr.2.1 rfl
  obtain ⟨m, hm⟩ : ∃ m, m = lg.length := ⟨_, rfl⟩
  rw [hv]
  have hown := hdr.2.1
  rw [hv] at hown
  have hD : DL w w1 rb B p1 A m c lg := by
    rw [hm]
    exact ⟨hdr.1, hrb, only_trans G0.out hdr.2.2.1, K0.out.pick hdr.2.2.1 (by omega), hown.mono (by simp), rfl, hl13, hf.2.1, by have := hf.2.2.1; unfold maxLen at this; exact this⟩
  have D1 := Lib.hid hD
  have F1 := Lib.hid (hf.mono (Nat.zero_le _) (Nat.le_refl _))
  rw [← hm] at F1 hl13 ⊢
  clear hv hown hD hdr hf hm K0 G0 R0
  go_upto_region 2 with fail
  go_cut [20] (fun s20 wx => ∃ (b : Bool) (p' : Nat), s20 = .bool b ∧ p' ≤ p + 81 ∧ DL w wx rb B p' A m c lg)
  case first =>
    go_wp2_with fail
    refine (specLogValid_any _ _ _ lg _ F1.out (by omega)).mono ?_
    rintro e w2 ⟨rfl, hb2⟩
    have D2 := Lib.hid (D1.out.below hb2)
    clear hb2 D1 F1 hl13
    obtain ⟨ok, hok⟩ : ∃ ok, logOk lg = ok := ⟨_, rfl⟩
    rw [hok]
    clear hok
    cases ok
    · go_wp2_with fail
      refine (pick_any rb B _ _ _ D2.out.1 (by omega)).mono ?_
      rintro e w3 ⟨v4, rfl, _, _, _, hr3, hg3⟩
      have E3 := Lib.hid (D2.out.picked hr3 hg3)
      clear hr3 hg3
      go_wp2_with fail
      go_meet
      case rel => exact ⟨_, _, rfl, by omega, E3.out⟩
    · go_wp2_with fail
      go_meet
      case rel => exact ⟨_, _, rfl, by omega, D2.out⟩
  case rest =>
  obtain ⟨b, p2, rfl, hp2, hD⟩ := hcut
  have D2 := Lib.hid hD
  clear hD D1 F1 hl13 hp1
  obtain ⟨w2, rfl⟩ : ∃ w2 : World, w2 = wc := ⟨_, rfl⟩
  go_upto_if 20 with fail
  go_cut [3] (fun s3 wx => ∃ (A' : Option Addr) (m' c' : Nat) (lg' : List Upd), s3 = .slice A' m' c' ∧ DL w wx rb B p2 A' m' c' lg')
  case first =>
    cases b
    · go_wp2_with fail
      go_meet
      case rel => exact ⟨_, _, _, _, rfl, D2.out⟩
    · have X3 := Lib.hid ((D2.out.below ((Below.refl w2.heap.size w2).alloc (Nat.le_refl _) (.cells #[.int .i64 1, .int .i64 5, .int .i64 2, .int .i64 6] 28))).other (lg' := [⟨1, 5⟩, ⟨2, 6⟩]) (own_lit (w := w2) (lo := w.heap.size) (t := 28) (sz := 2) (n := 2) #[.int .i64 1, .int .i64 5, .int .i64 2, .int .i64 6] rfl (by have := D2.out.2.2.1.size; omega) (by unfold maxLen; omega)) ⟨rfl, by omega, by omega, by omega⟩)
      go_wp2_with fail
      go_meet
      case rel => exact ⟨_, _, _, _, rfl, X3.out⟩
  case rest =>
  obtain ⟨A', m', c', lg', rfl, hD⟩ := hcut
  clear D2
  have D3 := Lib.hid hD
  obtain ⟨hlg, hm13, hmc, hc9⟩ := hD.2.2.2.2.2
  have HLG := Lib.hid hlg
  clear hD hlg
  obtain ⟨w3, rfl⟩ : ∃ w3 : World, w3 = wc := ⟨_, rfl⟩
  go_wp2_with fail
  refine (pick_any rb B _ _ _ D3.out.1 (by omega)).mono ?_
  rintro e w4 ⟨view, rfl, _, _, _, hr4, hg4⟩
  have C4 := Lib.hid ((D3.out.picked hr4 hg4).chain view)
  clear hr4 hg4 D3
  go_wp2_with fail
  refine (pick_any rb B _ _ _ C4.out.rd (by omega)).mono ?_
  rintro e w5 ⟨v5, rfl, hv0, hv1, _, hr5, hg5⟩
  have hv5 := hv1 (by omega)
  have C5 := Lib.hid (C4.out.picked hr5 hg5)
  clear hr5 hg5 C4 hv1
  obtain ⟨nn, hnn⟩ : ∃ nn : Nat, 1 + v5 = (nn : Int) := ⟨(1 + v5).toNat, by omega⟩
  have hn1 : 1 ≤ nn := by omega
  have hn5 : nn ≤ 5 := by omega
  go_wp2_with fail
  clear hnn
  go_loopw [6, 7] (fun h i wr => ∃ (k hh : Nat) (l : List Nod) (p' : Nat) (nv : Value) (hi : Nat), i = .int .i64 k ∧ h = .int .i64 hh ∧ k ≤ nn ∧ hh ≤ m' ∧ Hid (l.length = k) ∧ Hid (∀ x ∈ l, x.log.length ≤ 13) ∧ p' ≤ p + 83 + 3 * k ∧ DC w wr rb B p' w4.heap.size view A' m' c' lg' nv l hi)
    (fun _ i _ => 5 - (intOf i).toNat)
  case atStart => exact ⟨0, m', [], _, _, _, rfl, rfl, by omega, Nat.le_refl _, rfl, (fun _ h => by cases h), (by omega : p2 + 1 + 1 ≤ _), C5.out⟩
  case round =>
    obtain ⟨k, hh, l, p', nv, hi', rfl, rfl, hk, hhm, hlen, hall, hpp, hdc⟩ := hrel
    have SC := Lib.hid hdc
    clear hdc C5
    by_cases hlt : k < nn
    · have hh0 : (0 : Int) ≤ (hh : Int) := by omega
      have hhc : (hh : Int) ≤ (c' : Int) := by omega
      have hp9 : p' ≤ 1099511627776 := by omega
      have hs4 : w4.heap.size < wr.heap.size := Nat.lt_of_lt_of_le SC.out.s1 SC.out.his
      have hw0 : w.heap.size ≤ wr.heap.size := SC.out.grown.size
      have hrb4 := SC.out.rb0
      go_upto_region 10 with fail
      go_cut [] from 32 to 62 (fun wx => ∃ (x : Nod) (nv' : Value) (hi'' : Nat), x.log.length ≤ 13 ∧ DC w wx rb B (p' + 1) w4.heap.size view A' m' c' lg' nv' (l ++ [x]) hi'')
      case first =>
        have q1 := SC.out.chn.cell (i := 1) (v := nv) rfl
        have E4 := Lib.hid SC.out.raise.drew
        have T4 := Lib.hid (SC.out.raise.alloc (.cells #[] 28)).drew
        have HO := Lib.hid (World.ownsRow_made (base := wr.heap.size) (e := 28) (size := 2) wr #[] 0 (Nat.le_refl _) (Nat.zero_le _) (by simp)).drew
        have hb63 : 0 + hh ≤ maxLen := by unfold maxLen; omega
        have hlt6 : (lg'.take hh).length = hh := by rw [List.length_take, HLG.out]; omega
        have hlt13 : (lg'.take hh).length ≤ 13 := by rw [hlt6]; omega
        have hlk : l.length ≤ 5 := by have := hlen.out; omega
        go_region_law ((first
            | (refine step_append_src _ (by rfl) (.tmp 38) (.tmp 51) 23 (by rfl) w.heap.size 78 j0 _ 3 40 Mo.underlying23 hj hy0 hy1 hy2 rfl (by omega) nv l.length (rs.flatMap RN.enc) (by rfl) (hat.1.alloc _) _ 1 1 _ (by rfl) (src_new _ #[.int .i64 _, .slice A6 hh c6, .int .i64 0] 78 3 _ rfl rfl) (RN.one ⟨_, A6, hh, c6, 0⟩) (by unfold maxLen; omega) (by omega) (by simp; omega) ?_; intro v8 w8 hown8 hg8; obtain ⟨g8, c8, rfl, _⟩ := own_form hown8 (by omega)
               have K8 := Z.out.chnAfter hat hg8; have d1 := K8.cell (i := 1) (v := nv) rfl; have f1 := K8.free 1; have Y := Lib.hid (Z.out.appended (x := ⟨_, lg'.take hh, 0⟩) (r := ⟨_, A6, hh, c6, 0⟩) hat ⟨rfl, rfl, hlt6⟩ (OZ.out.mono hw0) hnew6.out hown8 hg8); clear hown8 hg8 K8)
            | (refine step_append_src _ (by rfl) (.tmp 45) (.tmp 48) 76 (by rfl) wr.heap.size 28 i0 _ 2 16 Mo.underlying76 hi hz0 hz1 hz2 rfl (by omega) (.slice (some ⟨wr.heap.size, 0, none⟩) 0 0) 0 [] (by rfl) O5.out A' hh c' _ (by rfl) (S5.out.src HLG.out hhm) (one_enc Upd.one _) hb63 (by omega) S5.out.his ?_; intro v6 w6 hown6 hg6
               simp only [Nat.zero_add, List.nil_append] at hown6; obtain ⟨A6, c6, rfl, _⟩ := own_flat Upd.len hown6 hlt6; have hnew6 := Lib.hid (fun (g : Nat) (e : (Value.slice A6 hh c6).ownBlock = some g) => (hown6.lt g e).1)
               have Z := Lib.hid (S5.out.beside hg6 (fun g e => by cases e; exact Nat.le_refl _)); have OZ := Lib.hid hown6; have d1 := Z.out.chn.cell (i := 1) (v := nv) rfl; have hzw : w.heap.size ≤ w6.heap.size := Z.out.grown.size; have hzs : w4.heap.size < w6.heap.size := Nat.lt_of_lt_of_le hs4 Z.out.his; obtain ⟨rs, hat⟩ := Z.out.row; clear hown6 hg6)
            | (refine step_append_src _ (by rfl) (.tmp 45) (.tmp 48) 76 (by rfl) wr.heap.size 28 i0 _ 2 16 Mo.underlying76 hi hz0 hz1 hz2 rfl (by omega) (.slice (some ⟨w5.heap.size, 0, none⟩) 0 0) 0 [] (by rfl) (World.ownsRow_made (base := wr.heap.size) w5 #[] 0 S5.out.his (Nat.zero_le _) (by simp)) A' hh c' _ (by rfl) ((S5.out.alloc (.cells #[] 28)).src HLG.out hhm) (one_enc Upd.one _) hb63 (by omega) (S5.out.alloc (.cells #[] 28)).his ?_; intro v6 w6 hown6 hg6
               simp only [Nat.zero_add, List.nil_append] at hown6; obtain ⟨A6, c6, rfl, _⟩ := own_flat Upd.len hown6 hlt6; have hnew6 := Lib.hid (fun (g : Nat) (e : (Value.slice A6 hh c6).ownBlock = some g) => (hown6.lt g e).1)
               have Z := Lib.hid ((S5.out.alloc (.cells #[] 28)).beside hg6 (fun g e => by cases e; exact S5.out.his)); have OZ := Lib.hid hown6; have d1 := Z.out.chn.cell (i := 1) (v := nv) rfl; have hzw : w.heap.size ≤ w6.heap.size := Z.out.grown.size; have hzs : w4.heap.size < w6.heap.size := Nat.lt_of_lt_of_le hs4 Z.out.his; obtain ⟨rs, hat⟩ := Z.out.row; clear hown6 hg6)
            | (refine step_append_src _ (by rfl) (.tmp 45) (.tmp 48) 76 (by rfl) wr.heap.size 28 i0 _ 2 16 Mo.underlying76 hi hz0 hz1 hz2 rfl (by omega) (.slice (some ⟨wr.heap.size, 0, none⟩) 0 0) 0 [] (by rfl) HO.out A' hh c' _ (by rfl) (T4.out.src HLG.out hhm) (one_enc Upd.one _) hb63 (by omega) T4.out.his ?_; intro v6 w6 hown6 hg6
               simp only [Nat.zero_add, List.nil_append] at hown6; obtain ⟨A6, c6, rfl, _⟩ := own_flat Upd.len hown6 hlt6; have hnew6 := Lib.hid (fun (g : Nat) (e : (Value.slice A6 hh c6).ownBlock = some g) => (hown6.lt g e).1)
               have S6 := Lib.hid (T4.out.beside hg6 (fun g e => by cases e; exact Nat.le_refl _)); have O6 := Lib.hid hown6; have d1 := S6.out.chn.cell (i := 1) (v := nv) rfl; clear hown6 hg6)
            | (rw [if_pos (by rfl)]; go_simp; go_at_call 32; (with_reducible refine (pick_any rb B p' 9 _ S6.out.rd hp9).mono ?_); rintro e w7 ⟨v9, rfl, _, _, _, hr7, hg7⟩; have Z := Lib.hid (S6.out.picked hr7 hg7)
               have OZ := Lib.hid (own_keep O6.out (fun g e => hg7.block g (O6.out.lt g e).2 (fun e' => by injection e' with e'; have := (O6.out.lt g e).1; omega)))
               have d1 := Z.out.chn.cell (i := 1) (v := nv) rfl; have hzw : w.heap.size ≤ w7.heap.size := Z.out.grown.size; have hzs : w4.heap.size < w7.heap.size := Nat.lt_of_lt_of_le hs4 Z.out.his; obtain ⟨rs, hat⟩ := Z.out.row; clear hr7 hg7)
            | (rw [if_pos (by rfl)]; go_simp; go_at_call 32; (with_reducible refine (pick_any rb B p' 9 _ E4.out.rd hp9).mono ?_); rintro e w5 ⟨v9, rfl, _, _, _, hr5, hg5⟩; have S5 := Lib.hid (E4.out.picked hr5 hg5); have d1 := S5.out.chn.cell (i := 1) (v := nv) rfl; have hs5 : w4.heap.size < w5.heap.size := Nat.lt_of_lt_of_le hs4 S5.out.his; have tok := E4; clear hr5 hg5)
            | (rw [if_pos (by rfl)]; go_simp; go_at_call 32; (with_reducible refine (pick_any rb B p' 9 _ T4.out.rd hp9).mono ?_); rintro e w5 ⟨v9, rfl, _, _, _, hr5, hg5⟩; have S5 := Lib.hid (T4.out.picked hr5 hg5); have O5 := Lib.hid (own_keep HO.out (fun g e => hg5.block g (HO.out.lt g e).2 (fun e' => by injection e' with e'; have := (HO.out.lt g e).1; omega))); have d1 := S5.out.chn.cell (i := 1) (v := nv) rfl; have hs5 : w4.heap.size < w5.heap.size := Nat.lt_of_lt_of_le hs4 S5.out.his; clear hr5 hg5)))
        all_goals
          go_wp2_with fail
          go_meet
          case rel => exact ⟨_, _, _, hlt13, Y.out⟩
      case rest =>
        obtain ⟨x, nv', hi'', hx13, hD⟩ := hcut
        have C6 := Lib.hid hD
        have HX := Lib.hid hx13
        clear hD SC hx13
        obtain ⟨w6, rfl⟩ : ∃ w6 : World, w6 = wc := ⟨_, rfl⟩
        have NL := Lib.hid (show (l ++ [x]).length = k + 1 by rw [List.length_append, hlen.out]; rfl)
        have NA := Lib.hid (show ∀ y ∈ l ++ [x], y.log.length ≤ 13 from fun y hy => by
          rcases List.mem_append.1 hy with h1 | h1
          · exact hall.out y h1
          · rw [List.mem_singleton] at h1; subst h1; exact HX.out)
        go_wp2_with fail
        refine (pick_any rb B _ _ _ C6.out.rd (by omega)).mono ?_
        rintro e w7 ⟨v2, rfl, _, _, _, hr7, hg7⟩
        have C7 := Lib.hid (C6.out.picked hr7 hg7)
        clear hr7 hg7 C6
        by_cases hz : v2 = 0
        · have hz' : (v2 == 0) = true := by simp [hz]
          clear hz
          go_wp2_with fail
          refine (pick_any rb B _ _ _ C7.out.rd (by omega)).mono ?_
          rintro e w8 ⟨v3, rfl, hv30, hv31, _, hr8, hg8⟩
          have hv32 := hv31 (by omega)
          have C8 := Lib.hid (C7.out.picked hr8 hg8)
          clear hr8 hg8 C7 hv31
          obtain ⟨d, rfl⟩ := Int.eq_ofNat_of_zero_le hv30
          go_wp2_with fail
          go_roundw
          case rel => exact ⟨k + 1, hh - d, l ++ [x], p' + 1 + 1 + 1, nv', hi'', by go_num, by rw [show ((hh - d : Nat) : Int) = (hh : Int) - d by omega], by omega, by omega, NL.out, NA.out, by omega, C8.out⟩
          case measure => simp [intOf]; omega
        · have hz' : (v2 == 0) = false := by simp [hz]
          clear hz
          go_wp2_with fail
          go_roundw
          case rel => exact ⟨k + 1, hh, l ++ [x], p' + 1 + 1, nv', hi'', by go_num, rfl, by omega, hhm, NL.out, NA.out, by omega, C7.out⟩
          case measure => simp [intOf]; omega
    · obtain rfl : k = nn := by omega
      have hl1 : 1 ≤ l.length := by have := hlen.out; omega
      have hl5 : l.length ≤ 5 := by have := hlen.out; omega
      have hlk : l.length = k := hlen.out
      have hp100 : p' ≤ p + 100 := by omega
      obtain ⟨g, cc, rfl, hg0, hgs, hcc⟩ := SC.out.row.form (by omega)
      have HLK := Lib.hid hlk
      have q1 := SC.out.chn.cell (i := 1) (v := .slice (some ⟨g, 0, none⟩) l.length cc) rfl
      obtain ⟨x0, A1, m1, d1, hx0, _, c1, _, hxl, _, _⟩ := SC.out.row.at_ (k := l.length - 1) (by omega)
      have hm1 : m1 ≤ 13 := by have := hall.out x0 (List.mem_of_getElem? hx0); omega
      have i1 : (1 : Int) ≤ (l.length : Int) := by omega
      have hlen' : Hid (l.length ≤ 5) := hl5
      clear hx0 hxl hlk hlt hlen
      go_wp2_with fail
      go_loopw [9, 10] (fun dn i wr => ∃ (j q : Nat) (l2 : List Nod) (p2 : Nat), i = .int .i64 ((j : Int) - 1) ∧ dn = .int .i64 q ∧ j ≤ l.length ∧ q ≤ 13 ∧ Hid (l2.length = l.length) ∧ Hid (∀ y ∈ l2, y.log.length ≤ 13) ∧ p2 + 2 * j ≤ p + 112 ∧ DC w wr rb B p2 w4.heap.size view A' m' c' lg' (.slice (some ⟨g, 0, none⟩) l.length cc) l2 hi')
        (fun _ i _ => (intOf i + 1).toNat)
      case atStart => exact ⟨l.length, m1, l, p', rfl, rfl, Nat.le_refl _, hm1, rfl, hall.out, by omega, SC.out⟩
      case round =>
        obtain ⟨j, q, l2, p2, rfl, rfl, hj, hq, hl2, hal2, hp2, hdc⟩ := hrel
        have S2 := Lib.hid hdc
        clear hdc SC q1 c1
        have q1 := S2.out.chn.cell (i := 1) (v := .slice (some ⟨g, 0, none⟩) l.length cc) rfl
        by_cases hj0 : 0 < j
        · have j1 : (1 : Int) ≤ (j : Int) := by omega
          have j2 : (j : Int) - 1 < (l.length : Int) := by omega
          obtain ⟨y, A2, m2, d2, hy, _, _, c2, _, _, fr⟩ := S2.out.row.at_ (k := j - 1) (by have := hl2.out; omega)
          have f2 := fr ((j - 1) * 3 + 2)
          have S3 := Lib.hid (S2.out.setNode (S2.out.row.setDone hy (q : Int)))
          have hl3 : Hid ((l2.set (j - 1) { y with done := (q : Int) }).length = l.length) := by show _ = _; rw [List.length_set]; exact hl2.out
          have hal3 : Hid (∀ z ∈ l2.set (j - 1) { y with done := (q : Int) }, z.log.length ≤ 13) := fun z hz => by
            rcases List.mem_or_eq_of_mem_set hz with h1 | h1
            · exact hal2.out z h1
            · rw [h1]; exact hal2.out y (List.mem_of_getElem? hy)
          clear hy fr
          go_wp2_with fail
          refine (pick_any rb B _ _ _ S3.out.rd (by omega)).mono ?_
          rintro e w7 ⟨v2, rfl, _, _, _, hr7, hg7⟩
          have C7 := Lib.hid (S3.out.picked hr7 hg7)
          clear hr7 hg7 S3 S2 q1 c2 f2
          by_cases hz : v2 = 0
          · have hz' : (v2 == 0) = true := by simp [hz]
            clear hz
            go_wp2_with fail
            refine (pick_any rb B _ _ _ C7.out.rd (by omega)).mono ?_
            rintro e w8 ⟨v3, rfl, hv30, hv31, _, hr8, hg8⟩
            have hv32 := hv31 (by omega)
            have C8 := Lib.hid (C7.out.picked hr8 hg8)
            clear hr8 hg8 C7 hv31
            obtain ⟨d, rfl⟩ := Int.eq_ofNat_of_zero_le hv30
            go_wp2_with fail
            go_roundw
            case rel => exact ⟨j - 1, q - d, _, p2 + 1 + 1, by rw [show ((j - 1 : Nat) : Int) = (j : Int) - 1 by omega], by rw [show ((q - d : Nat) : Int) = (q : Int) - d by omega], by omega, by omega, hl3, hal3, by omega, C8.out⟩
            case measure => simp [intOf]; omega
          · have hz' : (v2 == 0) = false := by simp [hz]
            clear hz
            go_wp2_with fail
            go_roundw
            case rel => exact ⟨j - 1, q, _, p2 + 1, by rw [show ((j - 1 : Nat) : Int) = (j : Int) - 1 by omega], rfl, by omega, hq, hl3, hal3, by omega, C7.out⟩
            case measure => simp [intOf]; omega
        · obtain rfl : j = 0 := by omega
          go_wp2_with fail
          refine (pick_any rb B _ _ _ S2.out.rd (by omega)).mono ?_
          rintro e w7 ⟨v40, rfl, _, _, _, hr7, hg7⟩
          have C7 := Lib.hid (S2.out.picked hr7 hg7)
          clear hr7 hg7 S2 q1
          have hr0 : w.heap.size < w4.heap.size := C7.out.s0
          have hne : w.heap.size ≠ w4.heap.size := by omega
          have hne' : w4.heap.size ≠ w.heap.size := by omega
          have hp3 : p2 ≤ p + 112 := by omega
          clear hp2
          by_cases h0 : v40 = 0
          · subst h0
            obtain ⟨y, A2, m2, d2, hy, _, _, c2, _, _, fr⟩ := C7.out.row.at_ (k := l.length - 1) (by have := hl2.out; omega)
            have f2 := fr ((l.length - 1) * 3 + 2)
            have yy0 := C7.out.res.free 0
            have yy1 := C7.out.res.free 1
            have q1 := C7.out.chn.cell (i := 1) (v := .slice (some ⟨g, 0, none⟩) l.length cc) rfl
            have i2 : (0 : Int) ≤ (l.length : Int) - 1 := by omega
            have i3 : (l.length : Int) - 1 < (l.length : Int) := by omega
            have i4 : ((l.length : Int) - 1).toNat = l.length - 1 := by omega
            obtain ⟨yd, hyd⟩ : ∃ yd, IntKind.i64.wrap (y.done - 1) = yd := ⟨_, rfl⟩
            have C8 := Lib.hid (C7.out.setNode (C7.out.row.setDone hy yd))
            have hl3 : Hid ((l2.set (l.length - 1) { y with done := yd }).length = l.length) := by show _ = _; rw [List.length_set]; exact hl2.out
            have hal3 : Hid (∀ z ∈ l2.set (l.length - 1) { y with done := yd }, z.log.length ≤ 13) := fun z hz => by
              rcases List.mem_or_eq_of_mem_set hz with h1 | h1
              · exact hal2.out z h1
              · rw [h1]; exact hal2.out y (List.mem_of_getElem? hy)
            clear hy fr
            go_wp2_with fail
            go_region
            all_goals
              have kk := C8.out.chn
              have jj := C8.out.res
              have d0 := kk.cell (i := 0) (v := .int .i64 view) rfl
              have d1 := kk.cell (i := 1) (v := .slice (some ⟨g, 0, none⟩) l.length cc) rfl
              have z0 := jj.cell (i := 0) (v := .int .i64 0) rfl
              have z1 := jj.cell (i := 1) (v := .slice none 0 0) rfl
              have y0 := jj.free 0
              have y1 := jj.free 1
              obtain ⟨e0, e1⟩ := two_stores _ w.heap.size z0 z1
              have D := Lib.hid (C8.out.done (.int .i64 view) (.slice (some ⟨g, 0, none⟩) l.length cc))
              have E := Lib.hid (And.intro e0 e1)
              clear kk jj e0 e1
              go_wp2
              obtain ⟨e0, e1⟩ := E.out
              exact bodyPost_ret (v := .agg #[.int .i64 view, .slice (some ⟨g, 0, none⟩) l.length cc]) (by simp [results, Tryz.results30, go_sem, e0, e1]) rfl ⟨view, some ⟨g, 0, none⟩, l.length, cc, p2 + 1, _, rfl, hl3.out, hl1, hl5, hal3.out, (by omega), drew_post D.out⟩
          by_cases h1 : v40 = 1
          · subst h1
            have hz0 : ((1 : Int) == 0) = false := by decide
            obtain ⟨y, A2, m2, d2, hy, c20, _, _, _, _, fr⟩ := C7.out.row.at_ (k := l.length - 1) (by have := hl2.out; omega)
            obtain ⟨x, A3, m3, d3, hx, c30, _, _, _, _, _⟩ := C7.out.row.at_ (k := 0) (by have := hl2.out; omega)
            have f2 := fr ((l.length - 1) * 3 + 0)
            have f3 := fr ((l.length - 1) * 3)
            have yy0 := C7.out.res.free 0
            have yy1 := C7.out.res.free 1
            have c31 : w7.cell? ⟨g, 0, none⟩ = some (.int .i64 x.id) := by simpa using c30
            have q1 := C7.out.chn.cell (i := 1) (v := .slice (some ⟨g, 0, none⟩) l.length cc) rfl
            have i0 : (0 : Int) < (l.length : Int) := by omega
            have i2 : (0 : Int) ≤ (l.length : Int) - 1 := by omega
            have i3 : (l.length : Int) - 1 < (l.length : Int) := by omega
            have i4 : ((l.length : Int) - 1).toNat = l.length - 1 := by omega
            have C8 := C7.out.setNode (C7.out.row.setId hy x.id)
            simp only [Nat.add_zero] at C8
            have C8 := Lib.hid C8
            have hl3 : Hid ((l2.set (l.length - 1) { y with id := x.id }).length = l.length) := by show _ = _; rw [List.length_set]; exact hl2.out
            have hal3 : Hid (∀ z ∈ l2.set (l.length - 1) { y with id := x.id }, z.log.length ≤ 13) := fun z hz => by
              rcases List.mem_or_eq_of_mem_set hz with h1 | h1
              · exact hal2.out z h1
              · rw [h1]; exact hal2.out y (List.mem_of_getElem? hy)
            clear hy fr hx h0
            go_wp2_with fail
            go_region
            all_goals
              have kk := C8.out.chn
              have jj := C8.out.res
              have d0 := kk.cell (i := 0) (v := .int .i64 view) rfl
              have d1 := kk.cell (i := 1) (v := .slice (some ⟨g, 0, none⟩) l.length cc) rfl
              have z0 := jj.cell (i := 0) (v := .int .i64 0) rfl
              have z1 := jj.cell (i := 1) (v := .slice none 0 0) rfl
              have y0 := jj.free 0
              have y1 := jj.free 1
              obtain ⟨e0, e1⟩ := two_stores _ w.heap.size z0 z1
              have D := Lib.hid (C8.out.done (.int .i64 view) (.slice (some ⟨g, 0, none⟩) l.length cc))
              have E := Lib.hid (And.intro e0 e1)
              clear kk jj e0 e1
              go_wp2
              obtain ⟨e0, e1⟩ := E.out
              exact bodyPost_ret (v := .agg #[.int .i64 view, .slice (some ⟨g, 0, none⟩) l.length cc]) (by simp [results, Tryz.results30, go_sem, e0, e1]) rfl ⟨view, some ⟨g, 0, none⟩, l.length, cc, p2 + 1, _, rfl, hl3.out, hl1, hl5, hal3.out, (by omega), drew_post D.out⟩
          by_cases h2 : v40 = 2
          · subst h2
            have hz0 : ((2 : Int) == 0) = false := by decide
            have hz1 : ((2 : Int) == 1) = false := by decide
            clear h0 h1
            go_wp2_with fail
            refine (pick_any rb B _ _ _ (C7.out.rd.alloc _) (by omega)).mono ?_
            rintro e w8 ⟨v8, rfl, hi0, hi1, _, hr8, hg8⟩
            obtain ⟨ix, rfl⟩ := Int.eq_ofNat_of_zero_le hi0
            have hix := hi1 (by omega)
            have hq : Blk w8 w7.heap.size #[.int .i64 (-1), .int .i64 999, .int .i64 1000] 3 := (Blk.new w7 _ _).pick hg8 (by have := C7.out.his; have := C7.out.s1; have := C7.out.rb0; omega)
            obtain ⟨x, hx⟩ : ∃ x, w8.cell? ⟨w7.heap.size, ix, none⟩ = some (.int .i64 x) := by
              have : ix = 0 ∨ ix = 1 ∨ ix = 2 := by omega
              rcases this with rfl | rfl | rfl <;> exact ⟨_, hq.cell rfl⟩
            have C9 := (C7.out.alloc (.cells #[.int .i64 (-1), .int .i64 999, .int .i64 1000] 3)).picked hr8 hg8
            have k0 := C9.chn.cell (i := 0) (v := .int .i64 view) rfl
            have k1 := C9.chn.free 0
            have yy0 := C9.res.free 0
            have yy1 := C9.res.free 1
            have C8 := Lib.hid (C9.setView x)
            clear hi1 hq hr8 hg8 C9 C7
            have kk := C8.out.chn
            have jj := C8.out.res
            have d0 := kk.cell (i := 0) (v := .int .i64 x) rfl
            have d1 := kk.cell (i := 1) (v := .slice (some ⟨g, 0, none⟩) l.length cc) rfl
            have z0 := jj.cell (i := 0) (v := .int .i64 0) rfl
            have z1 := jj.cell (i := 1) (v := .slice none 0 0) rfl
            have y0 := jj.free 0
            have y1 := jj.free 1
            obtain ⟨e0, e1⟩ := two_stores _ w.heap.size z0 z1
            have D := Lib.hid (C8.out.done (.int .i64 x) (.slice (some ⟨g, 0, none⟩) l.length cc))
            have E := Lib.hid (And.intro e0 e1)
            clear kk jj e0 e1
            go_wp2
            obtain ⟨e0, e1⟩ := E.out
            exact bodyPost_ret (v := .agg #[.int .i64 x, .slice (some ⟨g, 0, none⟩) l.length cc]) (by simp [results, Tryz.results30, go_sem, e0, e1]) rfl ⟨x, some ⟨g, 0, none⟩, l.length, cc, p2 + 1 + 1, l2, rfl, hl2.out, hl1, hl5, hal2.out, (by omega), D.out⟩
          · have hz0 : (v40 == 0) = false := by simp [h0]
            have hz1 : (v40 == 1) = false := by simp [h1]
            have hz2 : (v40 == 2) = false := by simp [h2]
            clear h0 h1 h2
            have kk := C7.out.chn
            have jj := C7.out.res
            have d0 := kk.cell (i := 0) (v := .int .i64 view) rfl
            have d1 := kk.cell (i := 1) (v := .slice (some ⟨g, 0, none⟩) l.length cc) rfl
            have z0 := jj.cell (i := 0) (v := .int .i64 0) rfl
            have z1 := jj.cell (i := 1) (v := .slice none 0 0) rfl
            have y0 := jj.free 0
            have y1 := jj.free 1
            obtain ⟨e0, e1⟩ := two_stores _ w.heap.size z0 z1
            have D := Lib.hid (C7.out.done (.int .i64 view) (.slice (some ⟨g, 0, none⟩) l.length cc))
            have E := Lib.hid (And.intro e0 e1)
            clear kk jj e0 e1
            go_wp2
            obtain ⟨e0, e1⟩ := E.out
            exact bodyPost_ret (v := .agg #[.int .i64 view, .slice (some ⟨g, 0, none⟩) l.length cc]) (by simp [results, Tryz.results30, go_sem, e0, e1]) rfl ⟨view, some ⟨g, 0, none⟩, l.length, cc, p2 + 1, l2, rfl, hl2.out, hl1, hl5, hal2.out, (by omega), D.out⟩
end Go.Proofs.YtemgilofjbnoaaaGreatDoor
namespace Go.Proofs.YtemgilofjbnoaaaGreatDoor
open Go.RowKit
structure DI (w0 w : World) (rb B p s : Nat) (cs : Array Value) (view : Int) (nv : Value) (l : List Nod) (hi : Nat) : Prop where
  rd : Rd w rb B p
  rb0 : rb < w0.heap.size
  grown : w0.grownBy w (some rb)
  res : Blk w w0.heap.size cs 25
  chn : Blk w s #[.int .i64 view, nv] 25
  s0 : w0.heap.size < s
  his : hi ≤ w.heap.size
  row : NodRow w w0.heap.size hi nv l
section
variable {w0 w w' : World} {rb B p p' s : Nat} {cs : Array Value} {view : Int} {nv : Value} {l : List Nod} {hi : Nat}
theorem DI.picked (h : DI w0 w rb B p s cs view nv l hi) (hr : Rd w' rb B p') (hg : w.grownBy w' (some rb)) : DI w0 w' rb B p' s cs view nv l hi := by
  have hrb := h.rb0
  have hs0 := h.s0
  exact ⟨hr, hrb, only_trans h.grown hg, h.res.pick hg (by omega), h.chn.pick hg (by omega), hs0, Nat.le_trans h.his hg.size,
    h.row.keep (fun k h1 h2 => hg.block k (Nat.lt_of_lt_of_le h2 h.his) (fun e => by injection e with e; omega))⟩
theorem DI.drew (h : DI w0 w rb B p s cs view nv l hi) : DI w0 w.drew rb B p s cs view nv l hi :=
  ⟨h.rd.below (Below.refl _ _).drew, h.rb0, only_trans h.grown (only_of_below (Below.refl w.heap.size w).drew), h.res, h.chn, h.s0, h.his, h.row.keep (fun _ _ _ => rfl)⟩
theorem DI.store {a b u v : Value} (h : DI w0 w rb B p s #[a, b] view nv l hi) : DI w0 ((w.setCell ⟨w0.heap.size, 0, none⟩ u).setCell ⟨w0.heap.size, 1, none⟩ v) rb B p s #[u, v] view nv l hi := by
  have hrb := h.rb0
  have hs0 := h.s0
  have hc : w.heap[w0.heap.size]? = some (.cells #[a, b] 25 (0, 0)) := h.res
  exact ⟨(h.rd.far (a := ⟨w0.heap.size, 0, none⟩) hrb _).far (a := ⟨w0.heap.size, 1, none⟩) hrb _, hrb, only_set (only_set h.grown (a := ⟨w0.heap.size, 0, none⟩) (Nat.le_refl _) _) (a := ⟨w0.heap.size, 1, none⟩) (Nat.le_refl _) _,
    (h.res.set 0 u).set 1 v, (h.chn.far (a := ⟨w0.heap.size, 0, none⟩) (by show s ≠ w0.heap.size; omega) _).far (a := ⟨w0.heap.size, 1, none⟩) (by show s ≠ w0.heap.size; omega) _, hs0, by simpa [World.setCell] using h.his,
    h.row.keepT (fun k cs t hk ht => by
      have hne : k ≠ w0.heap.size := by
        rintro rfl
        have := blk_type hk hc
        rcases ht with rfl | rfl <;> exact absurd this (by decide)
      rw [Below.heap_setCell _ _ _ _ hne, Below.heap_setCell _ _ _ _ hne])⟩
theorem DI.post (h : DI w0 w rb B p s cs view nv l hi) : Rd w rb B p ∧ NodRow w w0.heap.size w.heap.size nv l ∧ w0.grownBy w (some rb) := ⟨h.rd, h.row.mono h.his, h.grown⟩
end
def DrewChainId (w : World) (rb B p : Nat) (e : Ending) (w' : World) : Prop :=
  ∃ (view : Int) (A : Option Addr) (n c p' : Nat) (l : List Nod) (id : Int), e = .returned (.tuple #[.agg #[.int .i64 view, .slice A n c], .int .i64 id]) ∧ l.length = n ∧ 1 ≤ n ∧ n ≤ 5 ∧ (∀ x ∈ l, x.log.length ≤ 13) ∧ p' ≤ p + 170 ∧ Rd w' rb B p' ∧
    NodRow w' w.heap.size w'.heap.size (.slice A n c) l ∧ w.grownBy w' (some rb)
end Go.Proofs.YtemgilofjbnoaaaGreatDoor
namespace Go.Proofs.YtemgilofjbnoaaaGreatDoor
open Go.RowKit
def DrawnChain (w : World) (e : Ending) (w' : World) : Prop :=
  ∃ (view : Int) (A : Option Addr) (n c : Nat) (l : List Nod), e = .returned (.agg #[.int .i64 view, .slice A n c]) ∧ l.length = n ∧ 1 ≤ n ∧ n ≤ 5 ∧ (∀ x ∈ l, x.log.length ≤ 13) ∧ NodRow w' w.heap.size w'.heap.size (.slice A n c) l ∧ Below w.heap.size w w'
def DrawnChainId (w : World) (e : Ending) (w' : World) : Prop :=
  ∃ (view : Int) (A : Option Addr) (n c : Nat) (l : List Nod) (id : Int), e = .returned (.tuple #[.agg #[.int .i64 view, .slice A n c], .int .i64 id]) ∧ l.length = n ∧ 1 ≤ n ∧ n ≤ 5 ∧ (∀ x ∈ l, x.log.length ≤ 13) ∧ NodRow w' w.heap.size w'.heap.size (.slice A n c) l ∧ Below w.heap.size w w'
end Go.Proofs.YtemgilofjbnoaaaGreatDoor
namespace Go.Proofs.YtemgilofjbnoaaaGreatDoor
open Go.RowKit
end Go.Proofs.YtemgilofjbnoaaaGreatDoor
namespace Go.Proofs.YtemgilofjbnoaaaGreatDoor
open Go.RowKit
theorem Rd.keepB {w w' : World} {rb B p : Nat} (h : Rd w rb B p) (hk : ∀ k, k < B ∨ k = rb → w'.heap[k]? = w.heap[k]?) : Rd w' rb B p := by
  obtain ⟨hB, A, n, c, l, hg, hf, hb, hn⟩ := h
  exact ⟨hB, A, n, c, l, (hk rb (.inr rfl)).trans hg, hf.keep (fun k _ h2 => hk k (.inl h2)), hb, hn⟩
def OpenedLow (w : World) (B : Nat) (e : Ending) (w' : World) : Prop :=
  ∃ rb, e = .returned (.pointer (some ⟨rb, 0, none⟩)) ∧ w.heap.size ≤ rb ∧ Rd w' rb B 0 ∧ Below w.heap.size w w'
set_option maxHeartbeats 1000000 in
theorem openLow_any (A : Option Addr) (n c B : Nat) (l : List Int) (w : World) (h : Flat encU8 1 w 0 B A n c l) (hB : B ≤ w.heap.size) (hl : ∀ x ∈ l, 0 ≤ x ∧ x ≤ 255) :
    Calls Mo.prog 29 #[.slice A n c] w (OpenedLow w B) := by
  have hnc := h.2.1
  have hc : c ≤ 9223372036854775807 := by have := h.2.2.1; unfold maxLen at *; omega
  have H := Lib.hid h
  have HL := Lib.hid hl
  clear h hl
  by_cases hn : n ≤ 2000
  · go_enter Mo.func29, Tryz.ntmps29
    go_wp2
    go_ret
    refine ⟨w.heap.size, rfl, Nat.le_refl _, ⟨hB, A, n, c, l, heap_alloc_new _ _, H.out.below ((Below.refl _ _).alloc (Nat.le_refl _) _) hB, HL.out, hn⟩, (Below.refl _ _).alloc (Nat.le_refl _) _⟩
  · go_enter Mo.func29, Tryz.ntmps29
    go_wp2
    go_ret
    refine ⟨w.heap.size, rfl, Nat.le_refl _, ⟨hB, A, 2000, c, l.take 2000, heap_alloc_new _ _, (H.out.take_ (by omega)).below ((Below.refl _ _).alloc (Nat.le_refl _) _) hB, fun x hx => HL.out x (List.mem_of_mem_take hx), Nat.le_refl _⟩, (Below.refl _ _).alloc (Nat.le_refl _) _⟩
structure DJ (w0 w : World) (rb p s : Nat) (cs : Array Value) (view : Int) (nv : Value) (l : List Nod) (hi : Nat) : Prop where
  rd : Rd w rb w0.heap.size p
  bel : Below w0.heap.size w0 w
  res : Blk w w0.heap.size cs 25
  rb0 : w0.heap.size < rb
  chn : Blk w s #[.int .i64 view, nv] 25
  s0 : w0.heap.size < s
  his : hi ≤ w.heap.size
  row : NodRow w w0.heap.size hi nv l
section
variable {w0 w w' : World} {rb p p' s : Nat} {cs : Array Value} {view : Int} {nv : Value} {l : List Nod} {hi : Nat}
theorem DJ.picked (h : DJ w0 w rb p s cs view nv l hi) (hr : Rd w' rb w0.heap.size p') (hg : w.grownBy w' (some rb)) : DJ w0 w' rb p' s cs view nv l hi := by
  have hrb := h.rb0
  obtain ⟨ds, hd⟩ := rd_block h.rd
  have hsr : s ≠ rb := by rintro rfl; exact absurd (blk_type h.chn hd) (by decide)
  exact ⟨hr, h.bel.grown hg h.bel.size (fun k e => by cases e; omega), h.res.pick hg (by omega), hrb, h.chn.pick hg hsr, h.s0, Nat.le_trans h.his hg.size,
    h.row.keepT (fun k cs t hk ht => hg.block k (lt_of_block hk) (fun e => by
      injection e with e; subst e
      have := blk_type hk hd
      rcases ht with rfl | rfl <;> exact absurd this (by decide)))⟩
theorem DJ.drew (h : DJ w0 w rb p s cs view nv l hi) : DJ w0 w.drew rb p s cs view nv l hi :=
  ⟨h.rd.keep (fun _ _ => rfl), h.bel.drew, h.res, h.rb0, h.chn, h.s0, h.his, h.row.keep (fun _ _ _ => rfl)⟩
theorem DJ.store {a b u v : Value} (h : DJ w0 w rb p s #[a, b] view nv l hi) : DJ w0 ((w.setCell ⟨w0.heap.size, 0, none⟩ u).setCell ⟨w0.heap.size, 1, none⟩ v) rb p s #[u, v] view nv l hi := by
  have hrb := h.rb0
  have hs0 := h.s0
  have hc : w.heap[w0.heap.size]? = some (.cells #[a, b] 25 (0, 0)) := h.res
  have off : ∀ k, k ≠ w0.heap.size → ((w.setCell ⟨w0.heap.size, 0, none⟩ u).setCell ⟨w0.heap.size, 1, none⟩ v).heap[k]? = w.heap[k]? := fun k hk => by rw [Below.heap_setCell _ _ _ _ hk, Below.heap_setCell _ _ _ _ hk]
  exact ⟨h.rd.keepB (fun k hk => off k (by omega)), (h.bel.setCell (p := ⟨w0.heap.size, 0, none⟩) (Nat.le_refl _) _).setCell (p := ⟨w0.heap.size, 1, none⟩) (Nat.le_refl _) _, (h.res.set 0 u).set 1 v, hrb, (off s (by omega)).trans h.chn, hs0, by simpa [World.setCell] using h.his,
    h.row.keepT (fun k cs t hk ht => off k (by
      rintro rfl
      have := blk_type hk hc
      rcases ht with rfl | rfl <;> exact absurd this (by decide)))⟩
theorem DJ.post (h : DJ w0 w rb p s cs view nv l hi) : NodRow w w0.heap.size w.heap.size nv l ∧ Below w0.heap.size w0 w := ⟨h.row.mono h.his, h.bel⟩
theorem DJ.start {w1 w2 : World} {n c : Nat} {A : Option Addr} (hb : Below (w0.heap.size + 1) (w0.alloc (.cells #[.int .i64 0, .slice none 0 0] 25)) w1) (hrb : w0.heap.size + 1 ≤ rb) (hr : Rd w2 rb w0.heap.size p) (hg : w1.grownBy w2 (some rb))
    (hrow : NodRow w2 w1.heap.size w2.heap.size (.slice A n c) l) : DJ w0 (w2.alloc (.cells #[.int .i64 view, .slice A n c] 25)) rb p w2.heap.size #[.int .i64 0, .slice none 0 0] view (.slice A n c) l w2.heap.size := by
  have hs := hb.size
  simp only [World.size_alloc] at hs
  have hb' : Below (w0.alloc (.cells #[.int .i64 0, .slice none 0 0] 25)).heap.size (w0.alloc (.cells #[.int .i64 0, .slice none 0 0] 25)) w1 := by rw [World.size_alloc]; exact hb
  have hB : Below w0.heap.size w0 w1 := below_box hb'
  have hgs := hg.size
  have k1 : Blk w1 w0.heap.size #[.int .i64 0, .slice none 0 0] 25 := (Blk.new w0 _ _).below hb'
  have hB2 : Below w0.heap.size w0 w2 := hB.grown hg (by omega) (fun k e => by cases e; omega)
  exact ⟨hr.below ((Below.refl _ _).alloc (Nat.le_refl _) _), hB2.alloc (by omega) _, (k1.pick hg (by omega)).alloc _, by omega, Blk.new w2 _ _, by omega, by simp, (hrow.lower (by omega)).keep (fun _ _ h => Below.heap_alloc _ _ _ h)⟩
end
end Go.Proofs.YtemgilofjbnoaaaGreatDoor
namespace Go.Proofs.YtemgilofjbnoaaaGreatDoor
open Go.RowKit
set_option maxHeartbeats 1000000 in
theorem sameLog_same (A B : Option Addr) (n c d : Nat) (a : List Upd) (w : World) (h : Flat Upd.enc 2 w 0 w.heap.size A n c a) (h' : Flat Upd.enc 2 w 0 w.heap.size B n d a) (hn : n ≤ 1048576) :
    Calls Mo.prog 99 #[.slice A n c, .slice B n d] w fun e w' => e = .returned (.bool true) ∧ Below w.heap.size w w' := by
  have H := Lib.hid h
  have H' := Lib.hid h'
  clear h h'
  go_enter Mo.func99, Tryz.ntmps99
  go_wp2_with fail
  go_loopw [5] (fun i wr => ∃ k : Nat, k ≤ n ∧ i = .int .i64 k ∧ Below w.heap.size w wr) (fun i _ => n - (intOf i).toNat)
  case atStart => exact ⟨0, Nat.zero_le _, rfl, Below.refl _ _⟩
  case round =>
    obtain ⟨k, hk, rfl, hB⟩ := hrel
    have W1 := Lib.hid (H.out.below hB (Nat.le_refl _))
    have W2 := Lib.hid (H'.out.below hB (Nat.le_refl _))
    have HB := Lib.hid hB
    clear hB
    have k0 : (0 : Int) ≤ (k : Int) := by omega
    by_cases hlt : k < n
    · have kn : (k : Int) < (n : Int) := by omega
      obtain ⟨b1, off1, x, rfl, _, _, hx, c0, c1⟩ := W1.out.upd hlt
      obtain ⟨b2, off2, y, rfl, _, _, hy, d0, d1⟩ := W2.out.upd hlt
      rw [hx] at hy
      injection hy with hy
      subst hy
      clear hx
      go_wp2_with fail
      go_quiet (fail)
      go_wp2
      go_roundw
      case rel => exact ⟨k + 1, by omega, by go_num, below_drewN HB.out _⟩
      case measure => simp [intOf]; omega
    · obtain rfl : n = k := by omega
      go_wp2
      go_ret
      exact ⟨rfl, HB.out⟩
end Go.Proofs.YtemgilofjbnoaaaGreatDoor
namespace Go.Proofs.YtemgilofjbnoaaaGreatDoor
open Go.RowKit Go.Sort
set_option maxHeartbeats 1000000 in
theorem sameNode_same (x : Nod) (A B : Option Addr) (n c d : Nat) (w : World) (h : Flat Upd.enc 2 w 0 w.heap.size A n c x.log) (h' : Flat Upd.enc 2 w 0 w.heap.size B n d x.log) (hn : n ≤ 1048576) :
    Calls Mo.prog 78 #[.agg #[.int .i64 x.id, .slice A n c, .int .i64 x.done], .agg #[.int .i64 x.id, .slice B n d, .int .i64 x.done]] w fun e w' => e = .returned (.bool true) ∧ Below w.heap.size w w' := by
  have H0 := Lib.hid ((h.box (.cells #[.int .i64 x.id, .slice A n c, .int .i64 x.done] 78)).box (.cells #[.int .i64 x.id, .slice B n d, .int .i64 x.done] 78))
  have H0' := Lib.hid ((h'.box (.cells #[.int .i64 x.id, .slice A n c, .int .i64 x.done] 78)).box (.cells #[.int .i64 x.id, .slice B n d, .int .i64 x.done] 78))
  clear h h'
  have e1 : (x.id == x.id) = true := by simp
  have e2 : (x.done == x.done) = true := by simp
  go_enter Mo.func78, Tryz.ntmps78
  go_wp2_with (go_at_call 99; refine (sameLog_same _ _ _ _ _ x.log _ H0.out H0'.out hn).mono ?_; rintro e w1 ⟨rfl, hb1⟩; have B1 := Lib.hid (below_box (below_box hb1)); clear hb1)
  go_ret
  exact ⟨rfl, B1.out⟩
set_option maxHeartbeats 2000000 in
theorem sameNodes_same (A B : Option Addr) (n c d : Nat) (l : List Nod) (w : World) (h : Nods w 0 w.heap.size A n c l) (h' : Nods w 0 w.heap.size B n d l) (hn : n ≤ 1048576) (hlog : ∀ x ∈ l, x.log.length ≤ 1048576) :
    Calls Mo.prog 46 #[.slice A n c, .slice B n d] w fun e w' => e = .returned (.bool true) ∧ Below w.heap.size w w' := by
  have H := Lib.hid h
  have H' := Lib.hid h'
  have HG := Lib.hid hlog
  clear h h' hlog
  go_enter Mo.func46, Tryz.ntmps46
  go_wp2
  go_loopw [5] (fun i wr => ∃ k : Nat, k ≤ n ∧ i = .int .i64 k ∧ Below w.heap.size w wr) (fun i _ => n - (intOf i).toNat)
  case atStart => exact ⟨0, Nat.zero_le _, rfl, Below.refl _ _⟩
  case round =>
    obtain ⟨k, hk, rfl, hB⟩ := hrel
    have HW := Lib.hid (H.out.below hB (Nat.le_refl _))
    have HW' := Lib.hid (H'.out.below hB (Nat.le_refl _))
    have HB := Lib.hid hB
    have hsz := hB.size
    clear hB H H'
    by_cases hlt : k < n
    · obtain ⟨b, off, x, A1, m, d1, rfl, _, _, hx, c0, c1, c2, hf⟩ := HW.out.nod hlt
      obtain ⟨b', off', x', A2, m', d2, rfl, _, _, hx', c0', c1', c2', hf'⟩ := HW'.out.nod hlt
      obtain rfl : x = x' := by rw [hx] at hx'; injection hx'
      have hmm : m' = m := by rw [← hf.len, ← hf'.len]
      have hm : m ≤ 1048576 := by have := hf.len; have := HG.out x (List.mem_of_getElem? hx); omega
      subst hmm
      have F := Lib.hid (hf.mono (Nat.zero_le _) hsz)
      have F' := Lib.hid (hf'.mono (Nat.zero_le _) hsz)
      clear hx hx' hf hf'
      have e0 := cell_regrown c0
      have e1 := cell_regrown c1
      have e2 := cell_regrown c2
      have e0' := cell_regrown c0'
      have e1' := cell_regrown c1'
      have e2' := cell_regrown c2'
      have hk0 : (0 : Int) ≤ (k : Int) := by omega
      have hkn : (k : Int) < (n : Int) := by omega
      go_wp2_with fail
      refine wp_region_quiet_below (by kernel_rfl) (by kernel_rfl) ?_
      repeat (go_big_quiet_step ((go_at_call 78; exact Calls.regrown_of (sameNode_same x _ _ _ _ _ _ (F.out.on (below_regrown _ _ _)) (F'.out.on (below_regrown _ _ _)) hm))))
      refine wpQuiet_nil ?_
      intro w2 hw2
      have hb2 := Lib.hid (below_of_regrown hw2)
      clear hw2 e0 e1 e2 e0' e1' e2'
      go_wp2
      go_roundw
      case rel => exact ⟨k + 1, by omega, by go_num, HB.out.trans (hb2.out.mono hsz)⟩
      case measure => simp [intOf]; omega
    · go_wp2
      go_ret
      exact ⟨rfl, HB.out⟩
set_option maxHeartbeats 1000000 in
theorem sameChain_same (view : Int) (A B : Option Addr) (n c d : Nat) (l : List Nod) (w : World) (h : Nods w 0 w.heap.size A n c l) (h' : Nods w 0 w.heap.size B n d l) (hn : n ≤ 1048576) (hlog : ∀ x ∈ l, x.log.length ≤ 1048576) :
    Calls Mo.prog 13 #[.agg #[.int .i64 view, .slice A n c], .agg #[.int .i64 view, .slice B n d]] w fun e w' => e = .returned (.bool true) ∧ Below w.heap.size w w' := by
  have H0 := Lib.hid ((h.box (.cells #[.int .i64 view, .slice A n c] 25)).box (.cells #[.int .i64 view, .slice B n d] 25))
  have H0' := Lib.hid ((h'.box (.cells #[.int .i64 view, .slice A n c] 25)).box (.cells #[.int .i64 view, .slice B n d] 25))
  have HG := Lib.hid hlog
  clear h h' hlog
  go_enter Mo.func13, Tryz.ntmps13
  go_wp2_with (go_at_call 46; refine (sameNodes_same _ _ _ _ _ l _ H0.out H0'.out hn HG.out).mono ?_; rintro e w1 ⟨rfl, hb1⟩; have B1 := Lib.hid (below_box (below_box hb1)); clear hb1)
  go_ret
  exact ⟨rfl, B1.out⟩
end Go.Proofs.YtemgilofjbnoaaaGreatDoor
