/- Drawing calls: what a draw hands back lies in new memory; nothing that was there but the reader's place changes. -/
import Derived.Test.YtjcbhnbbhcfbiaaDrawO
namespace Go.Proofs.Ytjcbhnbbhcfbiaa
open Go.RowKit

theorem infoCallD : (Try.prog.info? 45).map (fun i => (i.zero, i.size, i.bytes)) = some (some (.agg #[.int .i64 0, .int .i64 0, .int .i64 0, .int .i64 0]), 4, 32) := by kernel_rfl

abbrev DrC (w0 w : World) (rb B p : Nat) (v : Value) (l : List Cll) : Prop := DrF Cll.enc 4 45 w0 w rb B p v l

/-- what drawing calls leaves -/
def DrewCalls (w : World) (rb B p : Nat) (e : Ending) (w' : World) : Prop :=
  ∃ v l p', e = .returned v ∧ l.length ≤ 6 ∧ p' ≤ p + 40 ∧ DrC w w' rb B p' v l

set_option maxHeartbeats 2000000 in
theorem l92Calls_any (rb B p : Nat) (w : World) (h : Rd w rb B p) (hp : p ≤ 549755813888) :
    Calls Try.prog 23 #[.pointer (some ⟨rb, 0, none⟩)] w (DrewCalls w rb B p) := by
  obtain ⟨i0, hi, hz0, hz1, hz2⟩ := info_parts infoCallD
  have h0 : DrC w (w.alloc (.cells #[] 45)) rb B p (.slice (some ⟨w.heap.size, 0, none⟩) 0 0) [] :=
    ⟨h.below ((Below.refl _ _).alloc (Nat.le_refl _) _), World.ownsRow_made w #[] 0 (Nat.le_refl _) (Nat.zero_le _) (by simp), only_of_below ((Below.refl _ _).alloc (Nat.le_refl _) _), h.lt⟩
  have H0 := Lib.hid h0
  clear h0 h
  go_enter Try.func23, Try.ntmps23
  go_wp2_with fail
  refine (pick_any rb B p _ _ H0.out.1 (by omega)).mono ?_
  rintro e w1 ⟨n, rfl, hn0, hn1, _, hr1, hg1⟩
  have H1 := Lib.hid (H0.out.picked hr1 hg1)
  clear hr1 hg1 H0
  have hn5 := hn1 (by omega)
  clear hn1
  go_wp2_with fail
  refine (pick_any rb B _ _ _ H1.out.1 (by omega)).mono ?_
  rintro e w2 ⟨n12, rfl, _, _, _, hr2, hg2⟩
  have H2 := Lib.hid (H1.out.picked hr2 hg2)
  clear hr2 hg2 H1
  go_wp2_with fail
  all_goals
    first
      | (obtain ⟨m, hm, hm0, hm6⟩ : ∃ m : Int, (6 : Int) = m ∧ 0 ≤ m ∧ m ≤ 6 := ⟨6, rfl, by omega, by omega⟩; rw [hm]; clear hm)
      | (obtain ⟨m, hm, hm0, hm6⟩ : ∃ m : Int, n = m ∧ 0 ≤ m ∧ m ≤ 6 := ⟨n, rfl, by omega, by omega⟩; rw [hm]; clear hm)
    refine (pick_any rb B _ _ _ H2.out.1 (by omega)).mono ?_
    rintro e w3 ⟨cl, rfl, hc0, hc1, _, hr3, hg3⟩
    have H3 := Lib.hid (H2.out.picked hr3 hg3)
    clear hr3 hg3 H2
    have hc3 := hc1 (by omega)
    clear hc1
    go_wp2_with fail
    go_loopw [3, 5, 6] (fun v cl i wr => ∃ (k : Nat) (c : Int) (l : List Cll) (p' : Nat), i = .int .i64 k ∧ cl = .int .i64 c ∧ (k : Int) ≤ m ∧ 0 ≤ c ∧ c ≤ 3 + 2 * k ∧ Hid (l.length = k) ∧ p' ≤ p + 3 + 4 * k ∧ DrC w wr rb B p' v l)
      (fun _ _ i _ => 6 - (intOf i).toNat)
    case atStart => exact ⟨0, cl, [], p + 1 + 1 + 1, rfl, rfl, by omega, by omega, by omega, rfl, by omega, H3.out⟩
    case round =>
      obtain ⟨k, c, l, p', rfl, rfl, hkm, hcl0, hcl1, hlen, hpp, hdr⟩ := hrel
      have HD := Lib.hid hdr
      clear hdr H3
      by_cases hlt : (k : Int) < m
      · go_wp2_with fail
        refine (pick_any rb B _ _ _ HD.out.1 (by omega)).mono ?_
        rintro e w4 ⟨a, rfl, ha0, ha1, _, hr4, hg4⟩
        have H4 := Lib.hid (HD.out.picked hr4 hg4)
        have ha9 := ha1 (by omega)
        clear hr4 hg4 HD ha1
        go_wp2_with fail
        refine (pick_any rb B _ _ _ H4.out.1 (by omega)).mono ?_
        rintro e w5 ⟨ke, rfl, _, _, _, hr5, hg5⟩
        have H5 := Lib.hid (H4.out.picked hr5 hg5)
        clear hr5 hg5 H4
        go_wp2_with fail
        refine (pick_any rb B _ _ _ H5.out.1 (by omega)).mono ?_
        rintro e w6 ⟨va, rfl, _, _, _, hr6, hg6⟩
        have H6 := Lib.hid (H5.out.picked hr6 hg6)
        clear hr6 hg6 H5
        have hsz6 : w.heap.size ≤ w6.heap.size := H6.out.2.2.1.size
        have hl1 : l.length ≤ k := Nat.le_of_eq hlen.out
        have hl2 : k ≤ l.length := Nat.le_of_eq hlen.out.symm
        go_wp2_with (at_builtin; refine wpList_append_own _ rfl _ _ 32 rfl w.heap.size 45 i0 _ 4 32 Try.underlying32 hi hz0 hz1 hz2 rfl (by decide) _ l.length (l.flatMap Cll.enc) rfl (H6.out.2.1.alloc _) ⟨w6.heap.size, 0, none⟩ 1 1 (Cll.enc ⟨c, 1 + a, ⟨ke, va⟩⟩) rfl rfl (new_cells _ _ _ _ rfl) (Cll.one _) (by unfold maxLen; omega) (by omega) (by simp; omega) ?_; intro v7 w7 hown7 hg7 _)
        have H7 := Lib.hid (H6.out.appended hown7 hg7)
        clear hown7 hg7 H6
        refine (pick_any rb B _ _ _ H7.out.1 (by omega)).mono ?_
        rintro e w8 ⟨st, rfl, hs0, hs1, _, hr8, hg8⟩
        have H8 := Lib.hid (H7.out.picked hr8 hg8)
        have hs2 := hs1 (by omega)
        clear hr8 hg8 H7 hs1
        go_wp2
        go_roundw
        case rel => exact ⟨k + 1, c + 1 + st, l ++ [⟨c, 1 + a, ⟨ke, va⟩⟩], p' + 1 + 1 + 1 + 1, by go_num, rfl, by omega, by omega, by omega, by simp [Hid]; omega, by omega, H8.out⟩
        case measure => simp [intOf]; omega
      · have hl1 : l.length ≤ k := Nat.le_of_eq hlen.out
        have hl2 : k ≤ l.length := Nat.le_of_eq hlen.out.symm
        by_cases hm : 0 < m
        · go_wp2_with fail
          refine (pick_any rb B _ _ _ HD.out.1 (by omega)).mono ?_
          rintro e w4 ⟨a, rfl, _, _, _, hr4, hg4⟩
          have H4 := Lib.hid (HD.out.picked hr4 hg4)
          clear hr4 hg4 HD
          obtain ⟨g, cap, hv, _, _⟩ := own_form H4.out.2.1 (by omega)
          rw [hv]
          rw [hv] at H4
          clear hv
          go_wp2_with fail
          · refine (pick_any rb B _ _ _ H4.out.1 (by omega)).mono ?_
            rintro e w5 ⟨ix, rfl, hi0, hi1, _, hr5, hg5⟩
            have H5 := Lib.hid ((H4.out.picked hr5 hg5).alloc (.cells #[.int .i64 0, .int .i64 9999, .int .i64 10000] 3))
            have hix := hi1 (by omega)
            have hrb5 := hr5.lt
            clear hr5 hg5 H4 hi1
            obtain ⟨ii, rfl⟩ := Int.eq_ofNat_of_zero_le hi0
            go_wp2_with fail
            refine (pick_any rb B _ _ _ H5.out.1 (by omega)).mono ?_
            rintro e w6 ⟨z, rfl, hz3, hz4, _, hr6, hg6⟩
            have H6 := Lib.hid (H5.out.picked hr6 hg6)
            have hz5 := hz4 (by omega)
            obtain ⟨zi, rfl⟩ := Int.eq_ofNat_of_zero_le hz3
            have hsz : rb < w5.heap.size := hrb5
            have hblk : w6.heap[w5.heap.size]? = some (.cells #[.int .i64 0, .int .i64 9999, .int .i64 10000] 3 (0, 0)) := (hg6.block _ (by simp) (fun e => by injection e with e; omega)).trans (heap_alloc_new _ _)
            obtain ⟨u0, hu0⟩ : ∃ u, w6.cell? ⟨w5.heap.size, zi, none⟩ = some (.int .i64 u) := by
              have : zi = 0 ∨ zi = 1 ∨ zi = 2 := by omega
              rcases this with rfl | rfl | rfl <;> exact ⟨_, by simp [World.cell?, hblk]; rfl⟩
            clear hr6 hg6 H5 hz4 hblk
            have hb4 : ii * 4 + 1 < l.length * 4 := by omega
            obtain ⟨x, hx⟩ : ∃ x, l[ii]? = some x := ⟨l[ii]'(by omega), List.getElem?_eq_getElem _⟩
            have hc1 := H6.out.2.1.cellAt (ii * 4 + 1) hb4
            rw [flatMap_get Cll.len l ii x hx 1 (.int .i64 x.number) rfl] at hc1
            have hf1 := H6.out.2.1.frozenAt (ii * 4 + 1)
            go_wp2
            go_ret
            exact ⟨_, l.set ii { x with number := u0 }, p' + 1 + 1 + 1, rfl, by simp; omega, by omega, H6.out.stored (x := x) (sz := 4) (j := 1) Cll.len rfl (by omega) hx⟩
          · go_wp2
            go_ret
            exact ⟨_, l, p' + 1, rfl, by omega, by omega, H4.out⟩
        · go_wp2
          go_ret
          exact ⟨_, l, p', rfl, by omega, by omega, HD.out⟩

/-- what 'DrawCalls..' leaves -/
def DrawnCalls (w : World) (e : Ending) (w' : World) : Prop :=
  ∃ A n c l, e = .returned (.slice A n c) ∧ n ≤ 6 ∧ Flat Cll.enc 4 w' w.heap.size w'.heap.size A n c l ∧ Below w.heap.size w w'

theorem drawn_of_drew {w w1 w2 : World} {rb p' : Nat} {v : Value} {l : List Cll} (hb : Below w.heap.size w w1) (hrb : w.heap.size ≤ rb) (hlt : rb < w1.heap.size) (hl : l.length ≤ 6) (h : DrC w1 w2 rb w.heap.size p' v l) :
    ∃ A n c, v = .slice A n c ∧ l.length = n ∧ n ≤ 6 ∧ Flat Cll.enc 4 w2 w.heap.size w2.heap.size A n c l ∧ Below w.heap.size w w2 := by
  obtain ⟨_, h2, h3, _⟩ := h
  obtain ⟨A, c, hv, hf⟩ := own_flat Cll.len h2 rfl
  exact ⟨A, _, c, hv, rfl, hl, hf.mono hb.size (Nat.le_refl _), hb.trans (only_to_below h3 hrb hlt)⟩

set_option maxHeartbeats 1000000 in
theorem drawCallsValid_any (A : Option Addr) (n c : Nat) (l : List Int) (w : World) (h : Flat encU8 1 w 0 w.heap.size A n c l) (hl : ∀ x ∈ l, 0 ≤ x ∧ x ≤ 255) :
    Calls Try.prog 14 #[.slice A n c] w (DrawnCalls w) := by
  have H := Lib.hid h
  have HL := Lib.hid hl
  clear h hl
  go_enter Try.func14, Try.ntmps14
  go_wp2_with fail
  refine (open_any _ _ _ l _ H.out HL.out).mono ?_
  rintro e w1 ⟨rb, rfl, hrb, hr1, hb1⟩
  have R1 := Lib.hid hr1
  have B1 := Lib.hid hb1
  clear hr1 hb1
  go_wp2_with fail
  refine (l92Calls_any rb _ _ _ R1.out (by omega)).mono ?_
  rintro e w2 ⟨v, l', p', rfl, hl6, _, hd⟩
  obtain ⟨A', n', c', hv, hn', h6, hf', hb'⟩ := drawn_of_drew B1.out hrb R1.out.lt hl6 hd
  rw [hv]
  have F2 := Lib.hid hf'
  have B2 := Lib.hid hb'
  clear hf' hb' hd hv
  go_wp2
  go_ret
  exact ⟨A', n', c', l', rfl, h6, F2.out, B2.out⟩
end Go.Proofs.Ytjcbhnbbhcfbiaa
