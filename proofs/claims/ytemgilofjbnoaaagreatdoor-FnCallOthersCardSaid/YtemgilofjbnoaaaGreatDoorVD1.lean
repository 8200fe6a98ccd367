/- Texts of this claim, joined: DrawC DrawX. -/
import Derived.Deep.RegionLaw
import Derived.Test.YtemgilofjbnoaaaGreatDoorVC1
namespace Go.Proofs.YtemgilofjbnoaaaGreatDoor
open Go.RowKit
theorem infoCallD : (Mo.prog.info? 30).map (fun i => (i.zero, i.size, i.bytes)) = some (some (.agg #[.int .i64 0, .int .i64 0, .int .i64 0, .int .i64 0]), 4, 32) := by kernel_rfl
abbrev DrC (w0 w : World) (rb B p : Nat) (v : Value) (l : List Cll) : Prop := DrF Cll.enc 4 30 w0 w rb B p v l
def DrewCalls (w : World) (rb B p : Nat) (e : Ending) (w' : World) : Prop :=
  ∃ v l p', e = .returned v ∧ l.length ≤ 6 ∧ p' ≤ p + 40 ∧ DrC w w' rb B p' v l
set_option maxRecDepth 100000 in
set_option maxHeartbeats 2000000 in
theorem l92Calls_any (rb B p : Nat) (w : World) (h : Rd w rb B p) (hp : p ≤ 549755813888) :
    Calls Mo.prog 31 #[.pointer (some ⟨rb, 0, none⟩)] w (DrewCalls w rb B p) := by
  obtain ⟨i0, hi, hz0, hz1, hz2⟩ := info_parts infoCallD
  have h0 : DrC w (w.alloc (.cells #[] 30)) rb B p (.slice (some ⟨w.heap.size, 0, none⟩) 0 0) [] :=
    ⟨h.below ((Below.refl _ _).alloc (Nat.le_refl _) _), World.ownsRow_made w #[] 0 (Nat.le_refl _) (Nat.zero_le _) (by simp), only_of_below ((Below.refl _ _).alloc (Nat.le_refl _) _), h.lt⟩
  have H0 := Lib.hid h0
  clear h0 h
  go_enter Mo.func31, Tryz.ntmps31
  go_wp2_with fail
  refine (pick_any rb B p _ _ H0.out.1 (by omega)).mono ?_
  rintro e w1 ⟨n, rfl, hn0, hn1, _, hr1, hg1⟩
  have H1 := Lib.hid (H0.out.picked hr1 hg1)
  clear hr1 hg1 H0
  have hn5 := hn1 (by omega)
  clear hn1
  go_wp2_with fail
  refine (pick_any rb B _ _ _ H1.out.1 (by omega)).mono ?_
  rintro e w2 ⟨n12, rfl, _, _, _, hr2, hg2⟩
  have H2 := Lib.hid (H1.out.picked hr2 hg2)
  clear hr2 hg2 H1
  go_wp2_with fail
  all_goals
    first
      | (obtain ⟨m, hm, hm0, hm6⟩ : ∃ m : Int, (6 : Int) = m ∧ 0 ≤ m ∧ m ≤ 6 := ⟨6, rfl, by omega, by omega⟩; rw [hm]; clear hm)
      | (obtain ⟨m, hm, hm0, hm6⟩ : ∃ m : Int, n = m ∧ 0 ≤ m ∧ m ≤ 6 := ⟨n, rfl, by omega, by omega⟩; rw [hm]; clear hm)
    refine (pick_any rb B _ _ _ H2.out.1 (by omega)).mono ?_
    rintro e w3 ⟨cl, rfl, hc0, hc1, _, hr3, hg3⟩
    have H3 := Lib.hid (H2.out.picked hr3 hg3)
    clear hr3 hg3 H2
    have hc3 := hc1 (by omega)
    clear hc1
    go_wp2_with fail
    go_loopw [3, 5, 6] (fun v cl i wr => ∃ (k : Nat) (c : Int) (l : List Cll) (p' : Nat), i = .int .i64 k ∧ cl = .int .i64 c ∧ (k : Int) ≤ m ∧ 0 ≤ c ∧ c ≤ 3 + 2 * k ∧ Hid (l.length = k) ∧ p' ≤ p + 3 + 4 * k ∧ DrC w wr rb B p' v l)
      (fun _ _ i _ => 6 - (intOf i).toNat)
    case atStart => exact ⟨0, cl, [], p + 1 + 1 + 1, rfl, rfl, by omega, by omega, by omega, rfl, by omega, H3.out⟩
    case round =>
      obtain ⟨k, c, l, p', rfl, rfl, hkm, hcl0, hcl1, hlen, hpp, hdr⟩ := hrel
      have HD := Lib.hid hdr
      clear hdr H3
      by_cases hlt : (k : Int) < m
      · go_wp2_with fail
        refine (pick_any rb B _ _ _ HD.out.1 (by omega)).mono ?_
        rintro e w4 ⟨a, rfl, ha0, ha1, _, hr4, hg4⟩
        have H4 := Lib.hid (HD.out.picked hr4 hg4)
        have ha9 := ha1 (by omega)
        clear hr4 hg4 HD ha1
        go_wp2_with fail
        refine (pick_any rb B _ _ _ H4.out.1 (by omega)).mono ?_
        rintro e w5 ⟨ke, rfl, _, _, _, hr5, hg5⟩
        have H5 := Lib.hid (H4.out.picked hr5 hg5)
        clear hr5 hg5 H4
        go_wp2_with fail
        refine (pick_any rb B _ _ _ H5.out.1 (by omega)).mono ?_
        rintro e w6 ⟨va, rfl, _, _, _, hr6, hg6⟩
        have H6 := Lib.hid (H5.out.picked hr6 hg6)
        clear hr6 hg6 H5
        have hsz6 : w.heap.size ≤ w6.heap.size := H6.out.2.2.1.size
        have hl1 : l.length ≤ k := Nat.le_of_eq hlen.out
        have hl2 : k ≤ l.length := Nat.le_of_eq hlen.out.symm
        go_wp2_with (at_builtin; refine wpList_append_own _ rfl _ _ 26 rfl w.heap.size 30 i0 _ 4 32 Mo.underlying26 hi hz0 hz1 hz2 rfl (by decide) _ l.length (l.flatMap Cll.enc) rfl (H6.out.2.1.alloc _) ⟨w6.heap.size, 0, none⟩ 1 1 (Cll.enc ⟨c, 1 + a, ⟨ke, va⟩⟩) rfl rfl (new_cells _ _ _ _ rfl) (Cll.one _) (by unfold maxLen; omega) (by omega) (by simp; omega) ?_; intro v7 w7 hown7 hg7 _)
        have H7 := Lib.hid (H6.out.appended hown7 hg7)
        clear hown7 hg7 H6
        refine (pick_any rb B _ _ _ H7.out.1 (by omega)).mono ?_
        rintro e w8 ⟨st, rfl, hs0, hs1, _, hr8, hg8⟩
        have H8 := Lib.hid (H7.out.picked hr8 hg8)
        have hs2 := hs1 (by omega)
        clear hr8 hg8 H7 hs1
        go_wp2
        go_roundw
        case rel => exact ⟨k + 1, c + 1 + st, l ++ [⟨c, 1 + a, ⟨ke, va⟩⟩], p' + 1 + 1 + 1 + 1, by go_num, rfl, by omega, by omega, by omega, by simp [Hid]; omega, by omega, H8.out⟩
        case measure => simp [intOf]; omega
      · have hl1 : l.length ≤ k := Nat.le_of_eq hlen.out
        have hl2 : k ≤ l.length := Nat.le_of_eq hlen.out.symm
        by_cases hm : 0 < m
        · go_wp2_with fail
          refine (pick_any rb B _ _ _ HD.out.1 (by omega)).mono ?_
          rintro e w4 ⟨a, rfl, _, _, _, hr4, hg4⟩
          have H4 := Lib.hid (HD.out.picked hr4 hg4)
          clear hr4 hg4 HD
          obtain ⟨g, cap, hv, _, _⟩ := own_form H4.out.2.1 (by omega)
          rw [hv]
          rw [hv] at H4
          clear hv
          go_wp2_with fail
          · refine (pick_any rb B _ _ _ H4.out.1 (by omega)).mono ?_
            rintro e w5 ⟨ix, rfl, hi0, hi1, _, hr5, hg5⟩
            have H5 := Lib.hid ((H4.out.picked hr5 hg5).alloc (.cells #[.int .i64 0, .int .i64 9999, .int .i64 10000] 3))
            have hix := hi1 (by omega)
            have hrb5 := hr5.lt
            clear hr5 hg5 H4 hi1
            obtain ⟨ii, rfl⟩ := Int.eq_ofNat_of_zero_le hi0
            go_wp2_with fail
            refine (pick_any rb B _ _ _ H5.out.1 (by omega)).mono ?_
            rintro e w6 ⟨z, rfl, hz3, hz4, _, hr6, hg6⟩
            have H6 := Lib.hid (H5.out.picked hr6 hg6)
            have hz5 := hz4 (by omega)
            obtain ⟨zi, rfl⟩ := Int.eq_ofNat_of_zero_le hz3
            have hsz : rb < w5.heap.size := hrb5
            have hblk : w6.heap[w5.heap.size]? = some (.cells #[.int .i64 0, .int .i64 9999, .int .i64 10000] 3 (0, 0)) := (hg6.block _ (by simp) (fun e => by injection e with e; omega)).trans (heap_alloc_new _ _)
            obtain ⟨u0, hu0⟩ : ∃ u, w6.cell? ⟨w5.heap.size, zi, none⟩ = some (.int .i64 u) := by
              have : zi = 0 ∨ zi = 1 ∨ zi = 2 := by omega
              rcases this with rfl | rfl | rfl <;> exact ⟨_, by simp [World.cell?, hblk]; rfl⟩
            clear hr6 hg6 H5 hz4 hblk
            have hb4 : ii * 4 + 1 < l.length * 4 := by omega
            obtain ⟨x, hx⟩ : ∃ x, l[ii]? = some x := ⟨l[ii]'(by omega), List.getElem?_eq_getElem _⟩
            have hc1 := H6.out.2.1.cellAt (ii * 4 + 1) hb4
            rw [flatMap_get Cll.len l ii x hx 1 (.int .i64 x.number) rfl] at hc1
            have hf1 := H6.out.2.1.frozenAt (ii * 4 + 1)
            go_wp2
            go_ret
            exact ⟨_, l.set ii { x with number := u0 }, p' + 1 + 1 + 1, rfl, by simp; omega, by omega, H6.out.stored (x := x) (sz := 4) (j := 1) Cll.len rfl (by omega) hx⟩
          · go_wp2
            go_ret
            exact ⟨_, l, p' + 1, rfl, by omega, by omega, H4.out⟩
        · go_wp2
          go_ret
          exact ⟨_, l, p', rfl, by omega, by omega, HD.out⟩
def DrawnCalls (w : World) (e : Ending) (w' : World) : Prop :=
  ∃ A n c l, e = .returned (.slice A n c) ∧ n ≤ 6 ∧ Flat Cll.enc 4 w' w.heap.size w'.heap.size A n c l ∧ Below w.heap.size w w'
end Go.Proofs.YtemgilofjbnoaaaGreatDoor
namespace Go.Proofs.YtemgilofjbnoaaaGreatDoor
open Go.RowKit
set_option linter.unusedSimpArgs false
structure DK (w0 w : World) (rb p s lo hi : Nat) (view : Int) (nv : Value) (l : List Nod) (B : Option Addr) (m d : Nat) (ks : List Cll) : Prop where
  rd : Rd w rb w0.heap.size p
  bel : Below w0.heap.size w0 w
  res : Blk w w0.heap.size #[.int .i64 0, .slice none 0 0] 25
  upd : Blk w (w0.heap.size + 1) #[.int .i64 0, .int .i64 0, .int .i64 0, .int .i64 0] 30
  rb0 : w0.heap.size + 1 < rb
  chn : Blk w s #[.int .i64 view, nv] 25
  s0 : w0.heap.size + 1 < s
  row : NodRow w (w0.heap.size + 2) w.heap.size nv l
  fl : Flat Cll.enc 4 w lo hi B m d ks
  rlo : rb < lo
  hhi : hi ≤ w.heap.size
section
variable {w0 w w' : World} {rb p p' s lo hi : Nat} {view : Int} {nv : Value} {l : List Nod} {B : Option Addr} {m d : Nat} {ks : List Cll}
theorem DK.picked (h : DK w0 w rb p s lo hi view nv l B m d ks) (hr : Rd w' rb w0.heap.size p') (hg : w.grownBy w' (some rb)) : DK w0 w' rb p' s lo hi view nv l B m d ks := by
  have hrb := h.rb0
  have hlo := h.rlo
  obtain ⟨ds, hd⟩ := rd_block h.rd
  have hsr : s ≠ rb := by rintro rfl; exact absurd (blk_type h.chn hd) (by decide)
  exact ⟨hr, h.bel.grown hg h.bel.size (fun k e => by cases e; omega), h.res.pick hg (by omega), h.upd.pick hg (by omega), hrb, h.chn.pick hg hsr, h.s0,
    (h.row.keepT (fun k cs t hk ht => hg.block k (lt_of_block hk) (fun e => by
      injection e with e; subst e
      have := blk_type hk hd
      rcases ht with rfl | rfl <;> exact absurd this (by decide)))).mono hg.size, h.fl.grown hg h.hhi (fun g e => by injection e with e; omega), hlo, Nat.le_trans h.hhi hg.size⟩
theorem DK.below (h : DK w0 w rb p s lo hi view nv l B m d ks) (hb : Below w.heap.size w w') : DK w0 w' rb p s lo hi view nv l B m d ks := by
  have hrl := h.rd.lt
  have hs := h.bel.size
  exact ⟨h.rd.below hb, h.bel.trans (hb.mono hs), h.res.below hb, h.upd.below hb, h.rb0, h.chn.below hb, h.s0, (h.row.keep (fun k _ hk => hb.block k hk)).mono hb.size, h.fl.below hb h.hhi, h.rlo, Nat.le_trans h.hhi hb.size⟩
theorem DK.alloc (h : DK w0 w rb p s lo hi view nv l B m d ks) (o : Obj) : DK w0 (w.alloc o) rb p s lo hi view nv l B m d ks := h.below ((Below.refl _ _).alloc (Nat.le_refl _) _)
theorem DK.drew (h : DK w0 w rb p s lo hi view nv l B m d ks) : DK w0 w.drew rb p s lo hi view nv l B m d ks := h.below (Below.refl _ _).drew
theorem DK.calls {v : Value} {r : List Cll} (h : DK w0 w rb p s lo hi view nv l B m d ks) (hd : DrC w w' rb w0.heap.size p' v r) : ∃ A n c, v = .slice A n c ∧ r.length = n ∧ DK w0 w' rb p' s w.heap.size w'.heap.size view nv l A n c r := by
  obtain ⟨h1, h2, h3, h4⟩ := hd
  obtain ⟨A, c, hv, hf⟩ := own_flat Cll.len h2 rfl
  have h5 := h.picked h1 h3
  exact ⟨A, _, c, hv, rfl, h5.rd, h5.bel, h5.res, h5.upd, h5.rb0, h5.chn, h5.s0, h5.row, hf, h4, Nat.le_refl _⟩
theorem DK.setX {q i : Nat} {xs : Array Value} {u : Value} (h : DK w0 w rb p s lo hi view nv l B m d ks) (hq : Blk w q xs 30) (h1 : hi ≤ q) (h2 : w0.heap.size + 1 < q) : DK w0 (w.setCell ⟨q, i, none⟩ u) rb p s lo hi view nv l B m d ks := by
  obtain ⟨ds, hd⟩ := rd_block h.rd
  have hqr : rb ≠ q := by rintro rfl; exact absurd (blk_type hq hd) (by decide)
  have hqs : s ≠ q := by rintro rfl; exact absurd (blk_type hq h.chn) (by decide)
  have hB := h.rd.1
  have kp : ∀ k, k ≠ q → (w.setCell ⟨q, i, none⟩ u).heap[k]? = w.heap[k]? := fun k hk => Below.heap_setCell _ _ _ _ hk
  exact ⟨h.rd.keepB (fun k hk => kp k (by omega)), h.bel.setCell (p := ⟨q, i, none⟩) (by show w0.heap.size ≤ q; omega) _, h.res.far (a := ⟨q, i, none⟩) (by show w0.heap.size ≠ q; omega) _, h.upd.far (a := ⟨q, i, none⟩) (by show w0.heap.size + 1 ≠ q; omega) _, h.rb0,
    h.chn.far (a := ⟨q, i, none⟩) hqs _, h.s0, (h.row.keepT (fun k cs t hk ht => kp k (fun e => by
      subst e
      have := blk_type hk hq
      rcases ht with rfl | rfl <;> exact absurd this (by decide)))).mono (by simp [World.setCell]), h.fl.keep (fun k _ h4 => kp k (by omega)), h.rlo, by simpa [World.setCell] using h.hhi⟩
theorem DK.post {W : World} (h : DK w0 w rb p s lo hi view nv l B m d ks) (hk : ∀ k, k ≠ w0.heap.size → k ≠ w0.heap.size + 1 → W.heap[k]? = w.heap[k]?) (hs : W.heap.size = w.heap.size) :
    NodRow W w0.heap.size W.heap.size nv l ∧ Flat Cll.enc 4 W w0.heap.size W.heap.size B m d ks := by
  have hlo := h.rlo
  have hrb := h.rb0
  have hh := h.hhi
  refine ⟨((h.row.keep (fun k h1 _ => hk k (by omega) (by omega))).lower (by omega)).mono (by omega), (h.fl.keep (fun k h1 _ => hk k (by omega) (by omega))).mono (by omega) (by omega)⟩
theorem DK.start {w1 w2 : World} {A : Option Addr} {n c : Nat}
    (hb : Below ((w0.alloc (.cells #[.int .i64 0, .slice none 0 0] 25)).alloc (.cells #[.int .i64 0, .int .i64 0, .int .i64 0, .int .i64 0] 30)).heap.size ((w0.alloc (.cells #[.int .i64 0, .slice none 0 0] 25)).alloc (.cells #[.int .i64 0, .int .i64 0, .int .i64 0, .int .i64 0] 30)) w1) (hrb : w0.heap.size + 2 ≤ rb) (hr1 : rb < w1.heap.size)
    (hr : Rd w2 rb w0.heap.size p) (hg : w1.grownBy w2 (some rb)) (hrow : NodRow w2 w1.heap.size w2.heap.size (.slice A n c) l) :
    DK w0 (w2.alloc (.cells #[.int .i64 view, .slice A n c] 25)) rb p w2.heap.size (rb + 1) (rb + 1) view (.slice A n c) l none 0 0 [] := by
  have hs := hb.size
  simp only [World.size_alloc] at hs
  have k0 := ((Blk.new w0 #[.int .i64 0, .slice none 0 0] 25).alloc (.cells #[.int .i64 0, .int .i64 0, .int .i64 0, .int .i64 0] 30)).below hb
  have k1 := (Blk.new (w0.alloc (.cells #[.int .i64 0, .slice none 0 0] 25)) #[.int .i64 0, .int .i64 0, .int .i64 0, .int .i64 0] 30).below hb
  simp only [World.size_alloc] at k1
  have hB : Below w0.heap.size w0 w1 := below_box (below_box hb)
  have hB2 : Below w0.heap.size w0 w2 := hB.grown hg (by omega) (fun k e => by cases e; omega)
  have h12 := hg.size
  exact ⟨hr.keepB (fun k hk => Below.heap_alloc _ _ _ (by have := hr1; omega)), hB2.alloc hB2.size _, (k0.pick hg (by omega)).alloc _, (k1.pick hg (by omega)).alloc _, by omega, Blk.new w2 _ _, by omega,
    ((hrow.lower (by omega)).keep (fun k _ h2 => Below.heap_alloc _ _ _ h2)).mono (by simp), Flat.nil_ _ _ _ _ _, by omega, by simp; omega⟩
end
theorem six_a {w : World} {a : Nat} {u v x0 x1 x2 x3 : Value} {c0 c1 d0 d1 d2 d3 : Value} (hA : Blk w a #[c0, c1] 25) (hB : Blk w (a + 1) #[d0, d1, d2, d3] 30) :
    Blk ((((((w.setCell ⟨a, 0, none⟩ u).setCell ⟨a, 1, none⟩ v).setCell ⟨a + 1, 0, none⟩ x0).setCell ⟨a + 1, 1, none⟩ x1).setCell ⟨a + 1, 2, none⟩ x2).setCell ⟨a + 1, 3, none⟩ x3) a #[u, v] 25 ∧
    Blk ((((((w.setCell ⟨a, 0, none⟩ u).setCell ⟨a, 1, none⟩ v).setCell ⟨a + 1, 0, none⟩ x0).setCell ⟨a + 1, 1, none⟩ x1).setCell ⟨a + 1, 2, none⟩ x2).setCell ⟨a + 1, 3, none⟩ x3) (a + 1) #[x0, x1, x2, x3] 30 := by
  have n1 : a ≠ a + 1 := by omega
  have n2 : a + 1 ≠ a := by omega
  have q1 := ((((((hA.set 0 u).set 1 v).far (a := ⟨a + 1, 0, none⟩) n1 x0).far (a := ⟨a + 1, 1, none⟩) n1 x1).far (a := ⟨a + 1, 2, none⟩) n1 x2).far (a := ⟨a + 1, 3, none⟩) n1 x3)
  have q2 := ((((((hB.far (a := ⟨a, 0, none⟩) n2 u).far (a := ⟨a, 1, none⟩) n2 v).set 0 x0).set 1 x1).set 2 x2).set 3 x3)
  exact ⟨q1, q2⟩
def DrawnCallRun (w : World) (e : Ending) (w' : World) : Prop :=
  ∃ (view : Int) (A : Option Addr) (n c : Nat) (l : List Nod) (B : Option Addr) (m d : Nat) (ks : List Cll) (x : Cll), e = .returned (.tuple #[.agg #[.int .i64 view, .slice A n c], .slice B m d, .agg #[.int .i64 x.client, .int .i64 x.number, .int .i64 x.what.key, .int .i64 x.what.value]]) ∧ l.length = n ∧ n ≤ 5 ∧ (∀ x ∈ l, x.log.length ≤ 13) ∧ m ≤ 6 ∧
    NodRow w' w.heap.size w'.heap.size (.slice A n c) l ∧ Flat Cll.enc 4 w' w.heap.size w'.heap.size B m d ks ∧ Below w.heap.size w w'
theorem DK.ends {w0 w W : World} {rb p s lo hi : Nat} {view : Int} {A : Option Addr} {n c : Nat} {l : List Nod} {B : Option Addr} {m d : Nat} {ks : List Cll} {x : Cll} (h : DK w0 w rb p s lo hi view (.slice A n c) l B m d ks) (hl : l.length = n ∧ 1 ≤ n ∧ n ≤ 5 ∧ ∀ x ∈ l, x.log.length ≤ 13) (hm : m ≤ 6) (hk : ∀ k, k ≠ w0.heap.size → k ≠ w0.heap.size + 1 → W.heap[k]? = w.heap[k]?) (hs : W.heap.size = w.heap.size) (hb : Below w0.heap.size w0 W) :
    DrawnCallRun w0 (.returned (.tuple #[.agg #[.int .i64 view, .slice A n c], .slice B m d, .agg #[.int .i64 x.client, .int .i64 x.number, .int .i64 x.what.key, .int .i64 x.what.value]])) W := by
  obtain ⟨q1, q2⟩ := h.post hk hs
  exact ⟨view, A, n, c, l, B, m, d, ks, x, rfl, hl.1, hl.2.2.1, hl.2.2.2, hm, q1, q2, hb⟩
theorem six_keep {w : World} {a k : Nat} {u v x0 x1 x2 x3 : Value} (h1 : k ≠ a) (h2 : k ≠ a + 1) : ((((((w.setCell ⟨a, 0, none⟩ u).setCell ⟨a, 1, none⟩ v).setCell ⟨a + 1, 0, none⟩ x0).setCell ⟨a + 1, 1, none⟩ x1).setCell ⟨a + 1, 2, none⟩ x2).setCell ⟨a + 1, 3, none⟩ x3).heap[k]? = w.heap[k]? := by
  rw [Below.heap_setCell _ _ _ _ h2, Below.heap_setCell _ _ _ _ h2, Below.heap_setCell _ _ _ _ h2, Below.heap_setCell _ _ _ _ h2, Below.heap_setCell _ _ _ _ h1, Below.heap_setCell _ _ _ _ h1]
theorem six_size {w : World} {a : Nat} {u v x0 x1 x2 x3 : Value} : ((((((w.setCell ⟨a, 0, none⟩ u).setCell ⟨a, 1, none⟩ v).setCell ⟨a + 1, 0, none⟩ x0).setCell ⟨a + 1, 1, none⟩ x1).setCell ⟨a + 1, 2, none⟩ x2).setCell ⟨a + 1, 3, none⟩ x3).heap.size = w.heap.size := by simp [World.setCell]
theorem six_below {w0 w : World} {a : Nat} {u v x0 x1 x2 x3 : Value} (h : Below w0.heap.size w0 w) (ha : w0.heap.size ≤ a) : Below w0.heap.size w0 ((((((w.setCell ⟨a, 0, none⟩ u).setCell ⟨a, 1, none⟩ v).setCell ⟨a + 1, 0, none⟩ x0).setCell ⟨a + 1, 1, none⟩ x1).setCell ⟨a + 1, 2, none⟩ x2).setCell ⟨a + 1, 3, none⟩ x3) := by
  have g1 : w0.heap.size ≤ a + 1 := by omega
  exact (((((h.setCell (p := ⟨a, 0, none⟩) ha u).setCell (p := ⟨a, 1, none⟩) ha v).setCell (p := ⟨a + 1, 0, none⟩) g1 x0).setCell (p := ⟨a + 1, 1, none⟩) g1 x1).setCell (p := ⟨a + 1, 2, none⟩) g1 x2).setCell (p := ⟨a + 1, 3, none⟩) g1 x3
theorem DK.fin {w0 w W : World} {rb p s lo hi : Nat} {view : Int} {A : Option Addr} {n c : Nat} {l : List Nod} {B : Option Addr} {m d : Nat} {ks : List Cll} (h : DK w0 w rb p s lo hi view (.slice A n c) l B m d ks) (hl : l.length = n ∧ 1 ≤ n ∧ n ≤ 5 ∧ ∀ x ∈ l, x.log.length ≤ 13) (hm : m ≤ 6) (x : Cll)
    (hW : ((((((w.setCell ⟨w0.heap.size, 0, none⟩ (.int .i64 view)).setCell ⟨w0.heap.size, 1, none⟩ (.slice A n c)).setCell ⟨w0.heap.size + 1, 0, none⟩ (.int .i64 x.client)).setCell ⟨w0.heap.size + 1, 1, none⟩ (.int .i64 x.number)).setCell ⟨w0.heap.size + 1, 2, none⟩ (.int .i64 x.what.key)).setCell ⟨w0.heap.size + 1, 3, none⟩ (.int .i64 x.what.value)) = W) :
    (Blk W.drew w0.heap.size #[.int .i64 view, .slice A n c] 25 ∧ Blk W.drew (w0.heap.size + 1) #[.int .i64 x.client, .int .i64 x.number, .int .i64 x.what.key, .int .i64 x.what.value] 30) ∧
    DrawnCallRun w0 (.returned (.tuple #[.agg #[.int .i64 view, .slice A n c], .slice B m d, .agg #[.int .i64 x.client, .int .i64 x.number, .int .i64 x.what.key, .int .i64 x.what.value]])) W.drew := by
  have q := six_a (u := .int .i64 view) (v := .slice A n c) (x0 := .int .i64 x.client) (x1 := .int .i64 x.number) (x2 := .int .i64 x.what.key) (x3 := .int .i64 x.what.value) h.res h.upd
  have kp : ∀ k, k ≠ w0.heap.size → k ≠ w0.heap.size + 1 → ((((((w.setCell ⟨w0.heap.size, 0, none⟩ (.int .i64 view)).setCell ⟨w0.heap.size, 1, none⟩ (.slice A n c)).setCell ⟨w0.heap.size + 1, 0, none⟩ (.int .i64 x.client)).setCell ⟨w0.heap.size + 1, 1, none⟩ (.int .i64 x.number)).setCell ⟨w0.heap.size + 1, 2, none⟩ (.int .i64 x.what.key)).setCell ⟨w0.heap.size + 1, 3, none⟩ (.int .i64 x.what.value)).heap[k]? = w.heap[k]? := fun k h1 h2 => six_keep h1 h2
  have sz := six_size (w := w) (a := w0.heap.size) (u := .int .i64 view) (v := .slice A n c) (x0 := .int .i64 x.client) (x1 := .int .i64 x.number) (x2 := .int .i64 x.what.key) (x3 := .int .i64 x.what.value)
  have hb := six_below (u := .int .i64 view) (v := .slice A n c) (x0 := .int .i64 x.client) (x1 := .int .i64 x.number) (x2 := .int .i64 x.what.key) (x3 := .int .i64 x.what.value) h.bel (Nat.le_refl _)
  rw [hW] at q kp sz hb
  exact ⟨⟨q.1.drew, q.2.drew⟩, h.ends (W := W.drew) hl hm kp sz hb.drew⟩
set_option maxRecDepth 100000 in
set_option maxHeartbeats 8000000 in
theorem drawCallRun_any (A : Option Addr) (n c : Nat) (l : List Int) (w : World) (h : Flat encU8 1 w 0 w.heap.size A n c l) (hl : ∀ x ∈ l, 0 ≤ x ∧ x ≤ 255) :
    Calls Mo.prog 9 #[.slice A n c] w (DrawnCallRun w) := by
  have H := Lib.hid (h.below (((Below.refl w.heap.size w).alloc (Nat.le_refl _) (.cells #[.int .i64 0, .slice none 0 0] 25)).alloc (by simp) (.cells #[.int .i64 0, .int .i64 0, .int .i64 0, .int .i64 0] 30)) (Nat.le_refl _))
  have HL := Lib.hid hl
  clear h hl
  go_enter Mo.func9, Tryz.ntmps9
  go_wp2_with fail
  refine (openLow_any _ _ _ w.heap.size l _ H.out (by simp; omega) HL.out).mono ?_
  rintro e w1 ⟨rb, rfl, hrb, hr1, hb1⟩
  simp only [World.size_alloc] at hrb
  have R1 := Lib.hid hr1
  have B1 := Lib.hid hb1
  have hrl := hr1.lt
  clear hr1 hb1 H
  go_wp2_with fail
  refine (l91Chain_any rb _ _ _ R1.out (by omega)).mono ?_
  rintro e w2 ⟨view, A', n', c', p', l', rfl, h1, h2, h3, h4, hp, hr2, h6, h7⟩
  have D2 := Lib.hid (DK.start (view := view) B1.out hrb hrl hr2 h7 h6)
  have HL' := Lib.hid (And.intro h1 (And.intro h2 (And.intro h3 h4)))
  clear h1 h2 h3 h4 hr2 h6 h7 R1 B1 hrl
  go_wp2_with fail
  refine (l92Calls_any rb _ _ _ D2.out.rd (by omega)).mono ?_
  rintro e w3 ⟨v, ks, p3, rfl, hk6, hp3, hd⟩
  obtain ⟨B, m, d, rfl, hm, D3'⟩ := D2.out.calls hd
  have D3 := Lib.hid D3'
  have hm6 : m ≤ 6 := by omega
  have HM := Lib.hid hm
  clear hd D3' D2 hm hk6
  go_wp2_with fail
  refine (pick_any rb _ _ _ _ D3.out.rd (by omega)).mono ?_
  rintro e w4 ⟨cl, rfl, _, _, _, hr, hg⟩
  have D4 := Lib.hid (D3.out.picked hr hg)
  clear hr hg D3
  go_wp2_with fail
  refine (pick_any rb _ _ _ _ D4.out.rd (by omega)).mono ?_
  rintro e w5 ⟨nu, rfl, hn0, hn1, _, hr, hg⟩
  have hn2 := hn1 (by omega)
  have D5 := Lib.hid (D4.out.picked hr hg)
  clear hr hg D4 hn1
  go_wp2_with fail
  refine (l91Update_any rb _ _ _ D5.out.rd (by omega)).mono ?_
  rintro e w6 ⟨u, p6, rfl, hp6, hr, hg⟩
  have D6 := Lib.hid ((D5.out.picked hr hg).alloc (.cells #[.int .i64 cl, .int .i64 (1 + nu), .int .i64 u.key, .int .i64 u.value] 30))
  have hq6 := (D5.out.picked hr hg).hhi
  have hq7 : w.heap.size + 1 < w6.heap.size := by have := (D5.out.picked hr hg).chn.lt; have := D5.out.s0; omega
  have X6 := Lib.hid (Blk.new w6 #[.int .i64 cl, .int .i64 (1 + nu), .int .i64 u.key, .int .i64 u.value] 30)
  clear hr hg D5
  have x0 := X6.out.cell (i := 0) (v := .int .i64 cl) rfl
  have x1 := X6.out.cell (i := 1) (v := .int .i64 (1 + nu)) rfl
  have x2 := X6.out.cell (i := 2) (v := .int .i64 u.key) rfl
  have x3 := X6.out.cell (i := 3) (v := .int .i64 u.value) rfl
  by_cases hmp : 0 < m
  · have hmpi : (0 : Int) < (m : Int) := by omega
    go_wp2_with fail
    refine (pick_any rb _ _ _ _ D6.out.rd (by omega)).mono ?_
    rintro e w7 ⟨z, rfl, _, _, _, hr, hg⟩
    have hrx : w6.heap.size ≠ rb := by
      rintro rfl
      obtain ⟨ds, hd⟩ := rd_block D6.out.rd
      exact absurd (blk_type X6.out hd) (by decide)
    have D7 := Lib.hid (D6.out.picked hr hg)
    have X7 := Lib.hid (X6.out.pick hg hrx)
    clear hr hg x0 x1 x2 x3
    have x0 := X7.out.cell (i := 0) (v := .int .i64 cl) rfl
    have x1 := X7.out.cell (i := 1) (v := .int .i64 (1 + nu)) rfl
    have x2 := X7.out.cell (i := 2) (v := .int .i64 u.key) rfl
    have x3 := X7.out.cell (i := 3) (v := .int .i64 u.value) rfl
    by_cases hz : z = 0
    · subst hz
      go_wp2_with fail
      refine (pick_any rb _ _ _ _ D7.out.rd (by omega)).mono ?_
      rintro e w8 ⟨ix, rfl, hi0, hi1, _, hr, hg⟩
      have hi2 := hi1 (by omega)
      obtain ⟨k, rfl⟩ := Int.eq_ofNat_of_zero_le hi0
      have D8 := Lib.hid (D7.out.picked hr hg)
      have X8 := Lib.hid (X7.out.pick hg hrx)
      clear hr hg x0 x1 x2 x3 hi1
      obtain ⟨b, off, y, rfl, _, _, hy, e0, e1, e2, e3⟩ := D8.out.fl.cll (show k < m by omega)
      have hkn : (k : Int) < (m : Int) := by omega
      have hk0 : (0 : Int) ≤ (k : Int) := by omega
      have t0 := X8.out.free 0
      have t1 := X8.out.free 1
      have t2 := X8.out.free 2
      have t3 := X8.out.free 3
      have x0 := X8.out.cell (i := 0) (v := .int .i64 cl) rfl
      have x1 := X8.out.cell (i := 1) (v := .int .i64 (1 + nu)) rfl
      have x2 := X8.out.cell (i := 2) (v := .int .i64 u.key) rfl
      have x3 := X8.out.cell (i := 3) (v := .int .i64 u.value) rfl
      have E0 := D8.out.setX (i := 0) (u := .int .i64 y.client) X8.out hq6 hq7
      have Y0 := X8.out.set 0 (.int .i64 y.client)
      have E1 := E0.setX (i := 1) (u := .int .i64 y.number) Y0 hq6 hq7
      have Y1 := Y0.set 1 (.int .i64 y.number)
      have E2 := E1.setX (i := 2) (u := .int .i64 y.what.key) Y1 hq6 hq7
      have Y2 := Y1.set 2 (.int .i64 y.what.key)
      have D9 := Lib.hid (E2.setX (i := 3) (u := .int .i64 y.what.value) Y2 hq6 hq7)
      have X9 := Lib.hid (Y2.set 3 (.int .i64 y.what.value))
      clear E0 Y0 E1 Y1 E2 Y2 hy
      obtain ⟨w9, hw9⟩ : ∃ w9, (((w8.setCell ⟨w6.heap.size, 0, none⟩ (.int .i64 y.client)).setCell ⟨w6.heap.size, 1, none⟩ (.int .i64 y.number)).setCell ⟨w6.heap.size, 2, none⟩ (.int .i64 y.what.key)).setCell ⟨w6.heap.size, 3, none⟩ (.int .i64 y.what.value) = w9 := ⟨_, rfl⟩
      rw [hw9] at D9 X9
      have z0 : w9.cell? ⟨w6.heap.size, 0, none⟩ = some (.int .i64 y.client) := X9.out.cell (i := 0) rfl
      have z1 : w9.cell? ⟨w6.heap.size, 1, none⟩ = some (.int .i64 y.number) := X9.out.cell (i := 1) rfl
      have z2 : w9.cell? ⟨w6.heap.size, 2, none⟩ = some (.int .i64 y.what.key) := X9.out.cell (i := 2) rfl
      have z3 : w9.cell? ⟨w6.heap.size, 3, none⟩ = some (.int .i64 y.what.value) := X9.out.cell (i := 3) rfl
      have c0 := D9.out.chn.cell (i := 0) (v := .int .i64 view) rfl
      have c1 := D9.out.chn.cell (i := 1) (v := .slice A' n' c') rfl
      have r0 := D9.out.res.cell (i := 0) (v := .int .i64 0) rfl
      have r1 := D9.out.res.cell (i := 1) (v := .slice none 0 0) rfl
      have y0 := D9.out.res.free 0
      have y1 := D9.out.res.free 1
      have u0 := D9.out.upd.cell (i := 0) (v := .int .i64 0) rfl
      have u1 := D9.out.upd.cell (i := 1) (v := .int .i64 0) rfl
      have u2 := D9.out.upd.cell (i := 2) (v := .int .i64 0) rfl
      have u3 := D9.out.upd.cell (i := 3) (v := .int .i64 0) rfl
      have f0 := D9.out.upd.free 0
      have f1 := D9.out.upd.free 1
      have f2 := D9.out.upd.free 2
      have f3 := D9.out.upd.free 3
      have Z := Lib.hid (D9.out.fin HL'.out hm6 y rfl)
      go_wp2_with fail
      go_region_law (fail)
      all_goals
        go_wp2_with fail
        exact bodyPost_ret (v := .tuple #[.agg #[.int .i64 view, .slice A' n' c'], .slice (some ⟨b, off, none⟩) m d, .agg #[.int .i64 y.client, .int .i64 y.number, .int .i64 y.what.key, .int .i64 y.what.value]]) (by simp [results, Tryz.results9, go_sem, Z.out.1.1.cell (i := 0) (v := .int .i64 view) rfl, Z.out.1.1.cell (i := 1) (v := .slice A' n' c') rfl, Z.out.1.2.cell (i := 0) rfl, Z.out.1.2.cell (i := 1) rfl, Z.out.1.2.cell (i := 2) rfl, Z.out.1.2.cell (i := 3) rfl]) rfl Z.out.2
    · have hz' : (z == 0) = false := by simp [hz]
      have c0 := D7.out.chn.cell (i := 0) (v := .int .i64 view) rfl
      have c1 := D7.out.chn.cell (i := 1) (v := .slice A' n' c') rfl
      have r0 := D7.out.res.cell (i := 0) (v := .int .i64 0) rfl
      have r1 := D7.out.res.cell (i := 1) (v := .slice none 0 0) rfl
      have y0 := D7.out.res.free 0
      have y1 := D7.out.res.free 1
      have u0 := D7.out.upd.cell (i := 0) (v := .int .i64 0) rfl
      have u1 := D7.out.upd.cell (i := 1) (v := .int .i64 0) rfl
      have u2 := D7.out.upd.cell (i := 2) (v := .int .i64 0) rfl
      have u3 := D7.out.upd.cell (i := 3) (v := .int .i64 0) rfl
      have f0 := D7.out.upd.free 0
      have f1 := D7.out.upd.free 1
      have f2 := D7.out.upd.free 2
      have f3 := D7.out.upd.free 3
      have Z := Lib.hid (D7.out.fin HL'.out hm6 ⟨cl, 1 + nu, u⟩ rfl)
      go_wp2_with fail
      go_region_law (fail)
      all_goals
        go_wp2_with fail
        exact bodyPost_ret (v := .tuple #[.agg #[.int .i64 view, .slice A' n' c'], .slice B m d, .agg #[.int .i64 cl, .int .i64 (1 + nu), .int .i64 u.key, .int .i64 u.value]]) (by simp [results, Tryz.results9, go_sem, Z.out.1.1.cell (i := 0) (v := .int .i64 view) rfl, Z.out.1.1.cell (i := 1) (v := .slice A' n' c') rfl, Z.out.1.2.cell (i := 0) rfl, Z.out.1.2.cell (i := 1) rfl, Z.out.1.2.cell (i := 2) rfl, Z.out.1.2.cell (i := 3) rfl]) rfl Z.out.2
  · obtain rfl : m = 0 := by omega
    have c0 := D6.out.chn.cell (i := 0) (v := .int .i64 view) rfl
    have c1 := D6.out.chn.cell (i := 1) (v := .slice A' n' c') rfl
    have r0 := D6.out.res.cell (i := 0) (v := .int .i64 0) rfl
    have r1 := D6.out.res.cell (i := 1) (v := .slice none 0 0) rfl
    have y0 := D6.out.res.free 0
    have y1 := D6.out.res.free 1
    have u0 := D6.out.upd.cell (i := 0) (v := .int .i64 0) rfl
    have u1 := D6.out.upd.cell (i := 1) (v := .int .i64 0) rfl
    have u2 := D6.out.upd.cell (i := 2) (v := .int .i64 0) rfl
    have u3 := D6.out.upd.cell (i := 3) (v := .int .i64 0) rfl
    have f0 := D6.out.upd.free 0
    have f1 := D6.out.upd.free 1
    have f2 := D6.out.upd.free 2
    have f3 := D6.out.upd.free 3
    have Z := Lib.hid (D6.out.fin HL'.out hm6 ⟨cl, 1 + nu, u⟩ rfl)
    go_wp2_with fail
    go_region_law (fail)
    all_goals
      go_wp2_with fail
      exact bodyPost_ret (v := .tuple #[.agg #[.int .i64 view, .slice A' n' c'], .slice B 0 d, .agg #[.int .i64 cl, .int .i64 (1 + nu), .int .i64 u.key, .int .i64 u.value]]) (by simp [results, Tryz.results9, go_sem, Z.out.1.1.cell (i := 0) (v := .int .i64 view) rfl, Z.out.1.1.cell (i := 1) (v := .slice A' n' c') rfl, Z.out.1.2.cell (i := 0) rfl, Z.out.1.2.cell (i := 1) rfl, Z.out.1.2.cell (i := 2) rfl, Z.out.1.2.cell (i := 3) rfl]) rfl Z.out.2
end Go.Proofs.YtemgilofjbnoaaaGreatDoor
