/- The texts SettleI SStep SSettle Reads, joined. -/
import Derived.Test.YtcomppiglhibkaaGreatDoorRows
import Derived.ProofKit
import Derived.OpenShut
import Derived.ChangeOld
import Derived.Below
import Derived.Deep.Slices
import Derived.Test.YtcomppiglhibkaaGreatDoorB3
import Derived.Test.YtcomppiglhibkaaGreatDoorB1
/- Settling: impl.ChainSettle. -/
namespace Go.Proofs.YtcomppiglhibkaaGreatDoor
open Go.RowKit Go.Sort

/-- what settling answers -/
def settleM (v : Int) (l : List Nod) : (Int × List Nod) × Int := if chainOk v l then ((v, settledM l), (pot l : Int)) else ((0, []), -1)
def SetRes (w : World) (r : (Int × List Nod) × Int) (e : Ending) (w' : World) : Prop :=
  ∃ (view : Int) (A : Option Addr) (n c : Nat) (l : List Nod), (view, l) = r.1 ∧ e = .returned (.tuple #[.agg #[.int .i64 view, .slice A n c], .int .i64 r.2]) ∧ l.length = n ∧ NodRow w' w.heap.size w'.heap.size (.slice A n c) l ∧ Below w.heap.size w w'
/-- another chain is stored into the chain's block -/
theorem CB.restored {w0 w : World} {s : Nat} {view v1 : Int} {nv nv1 : Value} {l l1 : List Nod} {hi lo1 : Nat} {L : List (Nat × Array Value × TypeId)} (h : CB w0 w s view nv l hi L) (hrow : NodRow w lo1 w.heap.size nv1 l1) (h01 : w0.heap.size ≤ lo1) :
    CB w0 ((w.setCell ⟨s, 0, none⟩ (.int .i64 v1)).setCell ⟨s, 1, none⟩ nv1) s v1 nv1 l1 w.heap.size L := by
  have hc : w.heap[s]? = some (.cells #[.int .i64 view, nv] 25 (0, 0)) := h.chn
  have off : ∀ k, k ≠ s → ((w.setCell ⟨s, 0, none⟩ (.int .i64 v1)).setCell ⟨s, 1, none⟩ nv1).heap[k]? = w.heap[k]? := fun k hk => by rw [Below.heap_setCell _ _ _ _ hk, Below.heap_setCell _ _ _ _ hk]
  exact ⟨(h.bel.setCell (p := ⟨s, 0, none⟩) h.s0 _).setCell (p := ⟨s, 1, none⟩) h.s0 _, (h.chn.set 0 _).set 1 _, h.s0, h.size, by simp [World.setCell], (hrow.lower h01).keepT (fun k cs t hk ht => off k (by
      rintro rfl
      have := blk_type hk hc
      rcases ht with rfl | rfl <;> exact absurd this (by decide))), h.oth.keep (fun k _ _ _ hlt _ _ => off k (by omega))⟩
theorem stepQ_none {v : Int} {c : List Nod} {k : Nat} {s : SS} (h : doM v c s = none) : stepQ v (c, k) s = (c, k) := by simp [stepQ, h]
theorem stepQ_some {v : Int} {c : List Nod} {k : Nat} {s : SS} {r : Int × List Nod} (h : doM v c s = some r) : stepQ v (c, k) s = (r.2, k + 1) := by simp [stepQ, h]
theorem fold_step {v : Int} {q : List SS} {k : Nat} {s : SS} {p : List Nod × Nat} (hs : q[k]? = some s) : (q.take (k + 1)).foldl (stepQ v) p = stepQ v ((q.take k).foldl (stepQ v) p) s := by
  rw [List.take_add_one, hs, List.foldl_append]; rfl
theorem queue_len {v : Int} {l : List Nod} (h : Good v l) : (queueM l).length ≤ 70 := by
  unfold queueM
  rw [List.length_append, tellQ_len]
  have := passQ_len h l.length
  have := h.2.2.2.1
  omega
theorem good_logs {v : Int} {l : List Nod} (h : Good v l) : ∀ x ∈ l, x.log.length ≤ 1048576 := fun x hx => by
  obtain ⟨i, hi⟩ := List.getElem?_of_mem hx
  have := (log_hd h hi).length_le; have := hd_len h; omega
def lenOf (v : Value) : Nat := match v with | .slice _ n _ => n | _ => 0
set_option maxRecDepth 100000 in
set_option maxHeartbeats 8000000 in
theorem chainSettle_any (view : Int) (A : Option Addr) (n c : Nat) (l : List Nod) (w : World) (h : Nods w 0 w.heap.size A n c l) (hn : n ≤ 1048576) (hlog : ∀ x ∈ l, x.log.length ≤ 1048576) :
    Calls Mo.prog 19 #[.agg #[.int .i64 view, .slice A n c]] w (SetRes w (settleM view l)) := by
  have HL := Lib.hid h.len
  have HG := Lib.hid hlog
  have H := Lib.hid h
  have H0 := Lib.hid ((h.box (.cells #[.int .i64 view, .slice A n c] 25)).box (.cells #[.int .i64 0, .slice none 0 0] 25))
  clear h hlog
  cases hok : chainOk view l
  · have HS := Lib.hid (show settleM view l = ((0, []), -1) by simp [settleM, hok])
    have HO := Lib.hid hok
    clear hok
    go_enter Mo.func19, Tryz.ntmps19
    go_wp2_with fail
    refine (chainValid_any _ _ _ _ l _ H0.out hn HG.out).mono ?_
    rintro e w1 ⟨rfl, hb1⟩
    rw [HO.out]
    obtain ⟨_, k1, b1⟩ := box_res hb1
    have FF := Lib.hid (res_two (a := .int .i64 0) (b := .slice none 0 0) k1 (by omega) b1)
    obtain ⟨z0, z1, y0, y1⟩ := FF.out.1
    clear hb1 k1 b1
    go_wp2
    exact bodyPost_ret (v := .tuple #[.agg #[.int .i64 0, .slice none 0 0], .int .i64 (-1)]) (by simp [results, Tryz.results19, go_sem, FF.out.2.1.1, FF.out.2.1.2]) rfl ⟨0, none, 0, 0, [], by rw [HS.out], by rw [HS.out], rfl, NodRow.nil_ _ _ _, FF.out.2.2⟩
  · have hg := good_iff.1 hok
    have GG := Lib.hid hg
    have HS := Lib.hid (show settleM view l = ((view, settledM l), (pot l : Int)) by simp [settleM, hok])
    have HO := Lib.hid hok
    have hn5 : n ≤ 5 := by have := hg.2.2.2.1; have := HL.out; omega
    have hn1 : 1 ≤ n := by have := hg.2.2.1; have := HL.out; omega
    clear hok hg
    go_enter Mo.func19, Tryz.ntmps19
    go_wp2_with fail
    refine (chainValid_any _ _ _ _ l _ H0.out hn HG.out).mono ?_
    rintro e w1 ⟨rfl, hb1⟩
    rw [HO.out]
    obtain ⟨k0, k1, b1⟩ := box_res hb1
    have K0 := Lib.hid k0
    have K1 := Lib.hid k1
    have B1 := Lib.hid b1
    have F1 := Lib.hid (H.out.on b1)
    have q0 := k0.cell (i := 0) (v := .int .i64 view) rfl
    have q1 := k0.cell (i := 1) (v := .slice A n c) rfl
    have s1 := b1.size
    clear hb1 k0 k1 b1
    go_wp2_with fail
    refine (copyChain_any view _ n c l _ F1.out hn HG.out).mono ?_
    rintro e w3 ⟨A3, n3, c3, rfl, hl3, hrow3, hb3⟩
    have hn3 : n3 = n := by rw [← hl3]; exact HL.out
    subst hn3
    obtain ⟨g, c4, e4, hg1, hg2, _⟩ := hrow3.form (by omega)
    injection e4 with e4 e6 e5
    subst e4; subst e5; clear e6
    have K0' := Lib.hid (K0.out.below hb3)
    have hK1 := K1.out.lt
    have cb := CB.made (view := view) (B1.out.trans (hb3.mono B1.out.size)) (hrow3.lower B1.out.size) (Oth.cons (Oth.cons (Oth.nil _ _) (K0.out.below hb3) (by have := hb3.size; omega) (by decide)) (K1.out.below hb3) (by have := hb3.size; omega) (by decide))
    obtain ⟨w4, hw4⟩ : ∃ w4 : World, w3.alloc (.cells #[.int .i64 view, .slice (some ⟨g, 0, none⟩) n3 c3] 25) = w4 := ⟨_, rfl⟩
    have hs4 : w4.heap.size = w3.heap.size + 1 := by rw [← hw4]; simp
    rw [hw4, ← hs4] at cb
    have r0 := (cb.blk (b := w.heap.size) (List.mem_cons_of_mem _ (List.mem_singleton.2 rfl))).cell (i := 0) (v := .int .i64 view) rfl
    have r1 := (cb.blk (b := w.heap.size) (List.mem_cons_of_mem _ (List.mem_singleton.2 rfl))).cell (i := 1) (v := .slice A n3 c) rfl
    have F4 := Lib.hid (H.out.on cb.bel)
    have CB4 := Lib.hid cb
    clear hrow3 hb3 cb q0 q1
    go_wp2_with fail
    refine (settleQueue_any view A n3 c l _ F4.out GG.out).mono ?_
    rintro e w5 ⟨B5, m5, k5, rfl, hl5, hown5, hb5⟩
    have CB5 := Lib.hid (CB4.out.below hb5)
    have Q5 := Lib.hid (own_flat' SS.len hown5 hl5)
    clear hb5 hown5 r0 r1 hw4
    go_wp2_with fail
    have hs43 : w3.heap.size < w4.heap.size := by omega
    have hs5 : w4.heap.size ≤ w5.heap.size := by have := CB5.out.his; omega
    clear K0' hs4 F4 CB4 F1 K0 K1 B1 H0
    go_loopw [5, 6] (fun st qv wr => ∃ (k steps : Nat) (cl : List Nod) (nv : Value) (hi : Nat) (A6 : Option Addr) (m6 c6 : Nat), k ≤ m5 ∧ st = .int .i64 (steps : Int) ∧ qv = .slice A6 m6 c6 ∧ steps ≤ k ∧ m6 = m5 - k ∧ Hid (((queueM l).take k).foldl (stepQ view) (l, 0) = (cl, steps)) ∧ Hid (Good view cl) ∧
      Hid (Flat SS.enc 2 wr w4.heap.size w5.heap.size A6 m6 c6 ((queueM l).drop k)) ∧ Hid (w5.heap.size ≤ wr.heap.size) ∧ CB w wr w3.heap.size view nv cl hi [(w.heap.size + 1, #[.int .i64 0, .slice none 0 0], 25), (w.heap.size, #[.int .i64 view, .slice A n3 c], 25)]) (fun _ q _ => lenOf q)
    case atStart => exact ⟨0, 0, l, _, _, B5, m5, k5, Nat.zero_le _, rfl, rfl, Nat.le_refl _, (Nat.sub_zero _).symm, rfl, GG.out, Q5.out, Nat.le_refl _, CB5.out⟩
    case round =>
      obtain ⟨k, steps, cl, nv, hi, A6, m6, c6, hk, rfl, rfl, hst, rfl, HF, HGC, HFL, HSZ, hcb⟩ := hrel
      have CBR := Lib.hid hcb
      have hm70 : m5 ≤ 70 := by have := queue_len GG.out; omega
      have hss : w3.heap.size < wr.heap.size := hcb.size
      have hcl1 : 1 ≤ cl.length := HGC.out.2.2.1
      have hcl5 : cl.length ≤ 5 := HGC.out.2.2.2.1
      obtain ⟨gc, cc, rfl, _, _, _⟩ := hcb.row.form (by omega)
      have r0 := hcb.chn.cell (i := 0) (v := .int .i64 view) rfl
      have r1 := hcb.chn.cell (i := 1) (v := .slice (some ⟨gc, 0, none⟩) cl.length cc) rfl
      clear hcb Q5 CB5
      by_cases hlt : 0 < m5 - k
      · obtain ⟨b6, o6, s, rfl, hb6, hb6', hs, hc6⟩ := HFL.out.at_ hlt
        have c0 : wr.cell? ⟨b6, o6, none⟩ = some (.bool s.tells) := by simpa using hc6 0 _ rfl
        have c1 : wr.cell? ⟨b6, o6 + 1, none⟩ = some (.int .i64 s.at_) := by simpa using hc6 1 _ rfl
        have hmc := HFL.out.2.1
        have hmx := HFL.out.2.2.1
        unfold maxLen at hmx
        have hlt' : (0 : Int) < ((m5 - k : Nat) : Int) := by omega
        have h1c : (1 : Int) ≤ ((m5 - k : Nat) : Int) := by omega
        have h1d : (1 : Int) ≤ (c6 : Int) := by omega
        have h1m : 1 ≤ m5 - k := by omega
        have h1e : 1 ≤ c6 := by omega
        rw [List.getElem?_drop, Nat.add_zero] at hs
        have HSK := Lib.hid hs
        have hw1 : IntKind.i64.wrap ((steps : Int) + 1) = (steps : Int) + 1 := IntWalk.i64_in _ (by omega)
        have D1 := HFL.out.drop_ (k := 1) h1m
        rw [List.drop_drop] at D1
        have QD1 := Lib.hid (show c6 = 1 → Flat SS.enc 2 wr w4.heap.size w5.heap.size (some ⟨b6, o6, none⟩) (m5 - k - 1) 0 ((queueM l).drop (k + 1)) from fun e => by subst e; simpa using D1)
        have QD2 := Lib.hid (show c6 ≠ 1 → Flat SS.enc 2 wr w4.heap.size w5.heap.size (some ⟨b6, o6 + 2, none⟩) (m5 - k - 1) (c6 - 1) ((queueM l).drop (k + 1)) from fun e => by rw [if_neg e] at D1; exact D1)
        have NW := Lib.hid (CBR.out.nods.2.box (.cells #[.bool s.tells, .int .i64 s.at_] 69))
        clear hs hc6 D1
        cases hdo : doM view cl s with
        | none =>
          have HDO := Lib.hid hdo
          clear hdo
          go_wp2_with fail
          all_goals
            have D := do_any s view _ cl.length cc cl _ NW.out (by omega) (good_logs HGC.out)
            rw [HDO.out] at D
            refine D.mono ?_
            rintro e w6 ⟨v1, A1, n1, c1, l1, hv1, rfl, hl1, hr1, hb6⟩
            clear D
            have BB := Lib.hid (show Below wr.heap.size wr (w6.alloc (.cells #[.int .i64 v1, .slice A1 n1 c1] 25)) from (below_box hb6).alloc (below_box hb6).size _)
            clear hr1 hv1 hb6
            go_wp2
            refine ⟨⟨k + 1, steps, cl, _, _, _, _, _, by omega, rfl, rfl, by omega, by omega, by rw [fold_step HSK.out, HF.out]; exact stepQ_none HDO.out, HGC.out, ?_, Nat.le_trans HSZ.out BB.out.size, CBR.out.below BB.out⟩, ?_⟩
            · first
                | exact (QD1.out (by assumption)).keep (fun q _ hq => BB.out.block q (Nat.lt_of_lt_of_le hq HSZ.out))
                | exact (QD2.out (by assumption)).keep (fun q _ hq => BB.out.block q (Nat.lt_of_lt_of_le hq HSZ.out))
            · simp only [lenOf]; omega
        | some r =>
          obtain ⟨hrv, hrg, _, _⟩ := doM_good hdo
          have HRG := Lib.hid hrg
          have HRV := Lib.hid hrv
          have HDO := Lib.hid hdo
          clear hdo hrv hrg
          go_wp2_with fail
          all_goals
            have D := do_any s view _ cl.length cc cl _ NW.out (by omega) (good_logs HGC.out)
            rw [HDO.out] at D
            refine D.mono ?_
            rintro e w6 ⟨v1, A1, n1, c1, l1, hv1, rfl, hl1, hr1, hb6⟩
            clear D
            have e1 : v1 = view ∧ l1 = r.2 := by
              have : (v1, l1) = r := hv1
              rw [← this] at HRV ⊢
              exact ⟨HRV.out, rfl⟩
            obtain ⟨rfl, rfl⟩ := e1
            have BB := Lib.hid (show Below wr.heap.size wr (w6.alloc (.cells #[.int .i64 v1, .slice A1 n1 c1] 25)) from (below_box hb6).alloc (below_box hb6).size _)
            have hw6s := (below_box hb6).size
            have nb := Blk.new w6 #[.int .i64 v1, .slice A1 n1 c1] 25
            have hr7 := (hr1.keep (w' := w6.alloc (.cells #[.int .i64 v1, .slice A1 n1 c1] 25)) (fun _ _ h => Below.heap_alloc _ _ _ h)).mono (show w6.heap.size ≤ (w6.alloc (.cells #[.int .i64 v1, .slice A1 n1 c1] 25)).heap.size by simp)
            obtain ⟨w7, hw7⟩ : ∃ w7 : World, w6.alloc (.cells #[.int .i64 v1, .slice A1 n1 c1] 25) = w7 := ⟨_, rfl⟩
            rw [hw7] at BB nb hr7
            have cb7 := CBR.out.below BB.out
            have cb8 := cb7.restored (v1 := v1) hr7 (by have := CBR.out.bel.size; simp; omega)
            have t0 := nb.cell (i := 0) (v := .int .i64 v1) rfl
            have t1 := nb.cell (i := 1) (v := .slice A1 n1 c1) rfl
            have u0 := cb7.chn.cell (i := 0) (v := .int .i64 v1) rfl
            have u1 := cb7.chn.cell (i := 1) (v := .slice (some ⟨gc, 0, none⟩) cl.length cc) rfl
            have f0 := cb7.chn.free 0
            have f1 := cb7.chn.free 1
            have CB8 := Lib.hid cb8
            have KP := Lib.hid (show ∀ q, w4.heap.size ≤ q → q < w5.heap.size → ((w7.setCell ⟨w3.heap.size, 0, none⟩ (.int .i64 v1)).setCell ⟨w3.heap.size, 1, none⟩ (.slice A1 n1 c1)).heap[q]? = wr.heap[q]? from fun q h1 h2 => by
              rw [Below.heap_setCell _ _ _ _ (show q ≠ w3.heap.size by omega), Below.heap_setCell _ _ _ _ (show q ≠ w3.heap.size by omega)]
              exact BB.out.block q (Nat.lt_of_lt_of_le h2 HSZ.out))
            have SZ := Lib.hid (show w5.heap.size ≤ ((w7.setCell ⟨w3.heap.size, 0, none⟩ (.int .i64 v1)).setCell ⟨w3.heap.size, 1, none⟩ (.slice A1 n1 c1)).heap.size by have := BB.out.size; have := HSZ.out; simp [World.setCell]; omega)
            clear hr1 hb6 nb hr7 cb7 cb8
            go_wp2
            refine ⟨⟨k + 1, steps + 1, r.2, _, _, _, _, _, by omega, by go_num, rfl, by omega, by omega, by rw [fold_step HSK.out, HF.out]; exact stepQ_some HDO.out, HRG.out, ?_, SZ.out, CB8.out⟩, ?_⟩
            · first
                | exact (QD1.out (by assumption)).keep KP.out
                | exact (QD2.out (by assumption)).keep KP.out
            · simp only [lenOf]; omega
      · obtain rfl : m5 = k := by omega
        have hm0 : m5 - m5 = 0 := Nat.sub_self _
        have hfin : (cl, steps) = (settledM l, pot l) := by
          have := HF.out
          rw [← hl5, List.take_length, queue_fold GG.out] at this
          exact this.symm
        injection hfin with e1 e2
        subst e1; subst e2
        have FF := Lib.hid (res_two (a := .int .i64 view) (b := .slice (some ⟨gc, 0, none⟩) (settledM l).length cc) (CBR.out.blk (List.mem_cons_self)) (show w.heap.size ≤ w.heap.size + 1 by omega) CBR.out.bel)
        have NN := Lib.hid (CBR.out.out (u := .int .i64 view) (v := .slice (some ⟨gc, 0, none⟩) (settledM l).length cc) (CBR.out.blk (List.mem_cons_self)) (show w.heap.size ≤ w.heap.size + 1 by omega))
        obtain ⟨z0, z1, y0, y1⟩ := FF.out.1
        go_wp2
        exact bodyPost_ret (v := .tuple #[.agg #[.int .i64 view, .slice (some ⟨gc, 0, none⟩) (settledM l).length cc], .int .i64 (pot l)]) (by simp [results, Tryz.results19, go_sem, FF.out.2.1.1, FF.out.2.1.2]) rfl ⟨view, _, _, cc, settledM l, by rw [HS.out], by rw [HS.out], rfl, NN.out.1, NN.out.2⟩
end Go.Proofs.YtcomppiglhibkaaGreatDoor
/- Settling: spec.l5Step on a valid chain. -/
namespace Go.Proofs.YtcomppiglhibkaaGreatDoor
open Go.RowKit Go.Sort

theorem passM_nat {v : Int} {l : List Nod} {k : Nat} (h : Good v l) (hk : k + 1 < l.length) : passM v l (k : Int) = (passAt l k).map fun r => (v, r) := passM_ok (linkOk_good h hk)
theorem tellM_nat {v : Int} {l : List Nod} {k : Nat} (h : Good v l) (hk : k + 1 < l.length) : tellM v l (k : Int) = (tellAt l k).map fun r => (v, r) := by
  unfold tellM; rw [if_pos (linkOk_good h hk)]; rfl
/-- a chain that a call has given is returned through a block of its own -/
theorem ret_chain {w w0 w5 : World} {A5 : Option Addr} {n5 c5 s lo : Nat} {v5 : Int} {l5 : List Nod} (hr : NodRow w5 lo w5.heap.size (.slice A5 n5 c5) l5) (hlo : w.heap.size ≤ lo) (hk : Blk w5 s #[.int .i64 0, .slice none 0 0] 25) (hs : w.heap.size ≤ s) (hb : Below w.heap.size w w5) (hw : w0 = w5.alloc (.cells #[.int .i64 v5, .slice A5 n5 c5] 25)) :
    (w0.cell? ⟨w5.heap.size, 0, none⟩ = some (.int .i64 v5) ∧ w0.cell? ⟨w5.heap.size, 1, none⟩ = some (.slice A5 n5 c5)) ∧
    ((w0.cell? ⟨s, 0, none⟩ = some (.int .i64 0) ∧ w0.cell? ⟨s, 1, none⟩ = some (.slice none 0 0) ∧ w0.frozen? ⟨s, 0, none⟩ = false ∧ w0.frozen? ⟨s, 1, none⟩ = false) ∧
    (((w0.setCell ⟨s, 0, none⟩ (.int .i64 v5)).setCell ⟨s, 1, none⟩ (.slice A5 n5 c5)).cell? ⟨s, 0, none⟩ = some (.int .i64 v5) ∧ ((w0.setCell ⟨s, 0, none⟩ (.int .i64 v5)).setCell ⟨s, 1, none⟩ (.slice A5 n5 c5)).cell? ⟨s, 1, none⟩ = some (.slice A5 n5 c5)) ∧
    Below w.heap.size w ((w0.setCell ⟨s, 0, none⟩ (.int .i64 v5)).setCell ⟨s, 1, none⟩ (.slice A5 n5 c5))) ∧
    NodRow ((w0.setCell ⟨s, 0, none⟩ (.int .i64 v5)).setCell ⟨s, 1, none⟩ (.slice A5 n5 c5)) w.heap.size ((w0.setCell ⟨s, 0, none⟩ (.int .i64 v5)).setCell ⟨s, 1, none⟩ (.slice A5 n5 c5)).heap.size (.slice A5 n5 c5) l5 := by
  subst hw
  have nb := Blk.new w5 #[.int .i64 v5, .slice A5 n5 c5] 25
  have hk' := hk.alloc (.cells #[.int .i64 v5, .slice A5 n5 c5] 25)
  have hb' := hb.alloc hb.size (.cells #[.int .i64 v5, .slice A5 n5 c5] 25)
  have hr' := ((hr.lower hlo).keep (w' := w5.alloc (.cells #[.int .i64 v5, .slice A5 n5 c5] 25)) (fun _ _ h => Below.heap_alloc _ _ _ h)).mono (show w5.heap.size ≤ (w5.alloc (.cells #[.int .i64 v5, .slice A5 n5 c5] 25)).heap.size by simp)
  exact ⟨⟨nb.cell (i := 0) rfl, nb.cell (i := 1) rfl⟩, res_two hk' hs hb', res_row hr' hk'⟩
set_option maxRecDepth 100000 in
set_option maxHeartbeats 8000000 in
theorem l5Step_any (view : Int) (A : Option Addr) (n c : Nat) (l : List Nod) (w : World) (h : Nods w 0 w.heap.size A n c l) (hg : Good view l) :
    Calls Mo.prog 42 #[.agg #[.int .i64 view, .slice A n c]] w (ChainRes w ((stepL l).map fun r => (view, r))) := by
  have hlen := h.len
  have hn5 : n ≤ 5 := by have := hg.2.2.2.1; omega
  have hn1 : 1 ≤ n := by have := hg.2.2.1; omega
  have HL := Lib.hid hlen
  have GG := Lib.hid hg
  have H := Lib.hid h
  have HGL := Lib.hid (good_logs hg)
  have K0 := Lib.hid ((Blk.new w #[.int .i64 view, .slice A n c] 25).alloc (.cells #[.int .i64 0, .slice none 0 0] 25))
  have K1 : Hid (Blk ((w.alloc (.cells #[.int .i64 view, .slice A n c] 25)).alloc (.cells #[.int .i64 0, .slice none 0 0] 25)) (w.heap.size + 1) #[.int .i64 0, .slice none 0 0] 25) := Lib.hid (by
    have := Blk.new (w.alloc (.cells #[.int .i64 view, .slice A n c] 25)) #[.int .i64 0, .slice none 0 0] 25
    simpa only [World.size_alloc] using this)
  have B0 := Lib.hid (((Below.refl w.heap.size w).alloc (Nat.le_refl _) (.cells #[.int .i64 view, .slice A n c] 25)).alloc (by simp) (.cells #[.int .i64 0, .slice none 0 0] 25))
  clear h hlen hg
  go_enter Mo.func42, Tryz.ntmps42
  go_wp2_with fail
  go_loopw [4] (fun i wr => ∃ k : Nat, k + 1 ≤ n ∧ i = .int .i64 k ∧ Hid (∀ j, j < k → passAt l j = none) ∧ Blk wr w.heap.size #[.int .i64 view, .slice A n c] 25 ∧ Blk wr (w.heap.size + 1) #[.int .i64 0, .slice none 0 0] 25 ∧ Below w.heap.size w wr) (fun i _ => n - (intOf i).toNat)
  case atStart => exact ⟨0, hn1, rfl, fun j hj => by omega, K0.out, K1.out, B0.out⟩
  case round =>
    obtain ⟨k, hk, rfl, HN, k0, k1, hB⟩ := hrel
    have KK0 := Lib.hid k0
    have KK1 := Lib.hid k1
    have BR := Lib.hid hB
    have FR := Lib.hid (H.out.on hB)
    have hsz := hB.size
    have q0 := k0.cell (i := 0) (v := .int .i64 view) rfl
    have q1 := k0.cell (i := 1) (v := .slice A n c) rfl
    have hw1 : IntKind.i64.wrap ((k : Int) + 1) = (k : Int) + 1 := IntWalk.i64_in _ (by omega)
    clear k0 k1 hB K0 K1 B0
    by_cases hlt : k + 1 < n
    · have HP := Lib.hid (passM_nat GG.out (k := k) (by rw [HL.out]; exact hlt))
      cases hpa : passAt l k with
      | none =>
        rw [hpa] at HP
        have HPA := Lib.hid hpa
        clear hpa
        go_wp2_with fail
        have D := specChainPass_any view A n c l (k : Int) _ FR.out (by omega) HGL.out
        rw [HP.out] at D
        refine D.mono ?_
        rintro e w5 ⟨v5, A5, n5, c5, l5, hv5, rfl, hl5, hr5, hb5⟩
        have hb5' := Lib.hid (hb5.alloc hb5.size (.cells #[.int .i64 v5, .slice A5 n5 c5] 25))
        clear D hv5 hl5 hr5 hb5 q0 q1
        go_wp2
        refine ⟨⟨k + 1, by omega, by go_num, fun j hj => ?_, KK0.out.below hb5'.out, KK1.out.below hb5'.out, BR.out.trans (hb5'.out.mono hsz)⟩, ?_⟩
        · by_cases e : j = k
          · subst e; exact HPA.out
          · exact HN.out j (by omega)
        · simp [intOf]; omega
      | some r =>
        rw [hpa] at HP
        have HS := Lib.hid (show (stepL l).map (fun r => (view, r)) = some (view, r) by rw [stepL_pass (by rw [HL.out]; exact hlt) hpa HN.out]; rfl)
        clear hpa
        go_wp2_with fail
        have D := specChainPass_any view A n c l (k : Int) _ FR.out (by omega) HGL.out
        rw [HP.out] at D
        refine D.mono ?_
        rintro e w5 ⟨v5, A5, n5, c5, l5, hv5, rfl, hl5, hr5, hb5⟩
        obtain ⟨w6, hw6⟩ : ∃ w6 : World, w5.alloc (.cells #[.int .i64 v5, .slice A5 n5 c5] 25) = w6 := ⟨_, rfl⟩
        obtain ⟨⟨t0, t1⟩, FF, NN⟩ := ret_chain (w := w) (v5 := v5) hr5 hsz (KK1.out.below hb5) (show w.heap.size ≤ w.heap.size + 1 by omega) (BR.out.trans (hb5.mono hsz)) hw6.symm
        have HF := Lib.hid FF
        have HNN := Lib.hid NN
        obtain ⟨z0, z1, y0, y1⟩ := FF.1
        have HV := Lib.hid hv5
        have HL5 := Lib.hid hl5
        clear D hv5 hl5 hr5 hb5 q0 q1 FF NN
        go_wp2
        exact bodyPost_ret (v := .tuple #[.agg #[.int .i64 v5, .slice A5 n5 c5], .bool true]) (by simp [results, Tryz.results42, go_sem, HF.out.2.1.1, HF.out.2.1.2]) rfl (by rw [HS.out]; exact ⟨v5, A5, n5, c5, l5, HV.out, rfl, HL5.out, HNN.out, HF.out.2.2⟩)
    · have hk1 : k + 1 = n := by omega
      have HPN := Lib.hid (show ∀ j, j + 1 < l.length → passAt l j = none from fun j hj => HN.out j (by have := HL.out; omega))
      have hw2 : IntKind.i64.wrap ((n : Int) - 2) = (n : Int) - 2 := IntWalk.i64_in _ (by omega)
      go_wp2_with fail
      clear q0 q1
      go_loopw [7] (fun i wx => ∃ j : Nat, j ≤ n - 1 ∧ i = .int .i64 ((j : Int) - 1) ∧ Hid (∀ i, j ≤ i → i + 1 < l.length → tellAt l i = none) ∧ Blk wx w.heap.size #[.int .i64 view, .slice A n c] 25 ∧ Blk wx (w.heap.size + 1) #[.int .i64 0, .slice none 0 0] 25 ∧ Below w.heap.size w wx) (fun i _ => (intOf i + 1).toNat)
      case atStart => exact ⟨n - 1, Nat.le_refl _, by congr 1; omega, fun i h1 h2 => by have := HL.out; omega, KK0.out, KK1.out, BR.out⟩
      case round =>
        obtain ⟨j, hj, rfl, HT, k0, k1, hB⟩ := hrel
        have KX0 := Lib.hid k0
        have KX1 := Lib.hid k1
        have BX := Lib.hid hB
        have FX := Lib.hid (H.out.on hB)
        have hszx := hB.size
        by_cases hj0 : 0 < j
        · obtain ⟨j', rfl⟩ : ∃ j', j = j' + 1 := ⟨j - 1, by omega⟩
          have ej : (((j' + 1 : Nat) : Int) - 1) = (j' : Int) := by omega
          rw [ej]
          have q0 := k0.cell (i := 0) (v := .int .i64 view) rfl
          have q1 := k0.cell (i := 1) (v := .slice A n c) rfl
          have hj1 : (0 : Int) ≤ (j' : Int) := by omega
          have hw3 : IntKind.i64.wrap ((j' : Int) - 1) = (j' : Int) - 1 := IntWalk.i64_in _ (by omega)
          have HP := Lib.hid (tellM_nat GG.out (k := j') (by have := HL.out; omega))
          clear k0 k1 hB KK0 KK1 BR FR
          cases hpa : tellAt l j' with
          | none =>
            rw [hpa] at HP
            have HPA := Lib.hid hpa
            clear hpa
            go_wp2_with fail
            have D := specChainTell_any view A n c l (j' : Int) _ FX.out (by omega) HGL.out
            rw [HP.out] at D
            refine D.mono ?_
            rintro e w5 ⟨v5, A5, n5, c5, l5, hv5, rfl, hl5, hr5, hb5⟩
            have hb5' := Lib.hid (hb5.alloc hb5.size (.cells #[.int .i64 v5, .slice A5 n5 c5] 25))
            clear D hv5 hl5 hr5 hb5 q0 q1
            go_wp2
            refine ⟨⟨j', by omega, rfl, fun i h1 h2 => ?_, KX0.out.below hb5'.out, KX1.out.below hb5'.out, BX.out.trans (hb5'.out.mono hszx)⟩, ?_⟩
            · by_cases e : i = j'
              · subst e; exact HPA.out
              · exact HT.out i (by omega) h2
            · simp [intOf]
          | some r =>
            rw [hpa] at HP
            have HS := Lib.hid (show (stepL l).map (fun r => (view, r)) = some (view, r) by rw [stepL_tell HPN.out (by have := HL.out; omega) hpa (fun i h1 h2 => HT.out i (by omega) h2)]; rfl)
            clear hpa
            go_wp2_with fail
            have D := specChainTell_any view A n c l (j' : Int) _ FX.out (by omega) HGL.out
            rw [HP.out] at D
            refine D.mono ?_
            rintro e w5 ⟨v5, A5, n5, c5, l5, hv5, rfl, hl5, hr5, hb5⟩
            obtain ⟨w6, hw6⟩ : ∃ w6 : World, w5.alloc (.cells #[.int .i64 v5, .slice A5 n5 c5] 25) = w6 := ⟨_, rfl⟩
            obtain ⟨⟨t0, t1⟩, FF, NN⟩ := ret_chain (w := w) (v5 := v5) hr5 hszx (KX1.out.below hb5) (show w.heap.size ≤ w.heap.size + 1 by omega) (BX.out.trans (hb5.mono hszx)) hw6.symm
            have HF := Lib.hid FF
            have HNN := Lib.hid NN
            obtain ⟨z0, z1, y0, y1⟩ := FF.1
            have HV := Lib.hid hv5
            have HL5 := Lib.hid hl5
            clear D hv5 hl5 hr5 hb5 q0 q1 FF NN
            go_wp2
            exact bodyPost_ret (v := .tuple #[.agg #[.int .i64 v5, .slice A5 n5 c5], .bool true]) (by simp [results, Tryz.results42, go_sem, HF.out.2.1.1, HF.out.2.1.2]) rfl (by rw [HS.out]; exact ⟨v5, A5, n5, c5, l5, HV.out, rfl, HL5.out, HNN.out, HF.out.2.2⟩)
        · obtain rfl : j = 0 := by omega
          have e0 : (((0 : Nat) : Int) - 1) = -1 := rfl
          rw [e0]
          have HS := Lib.hid (show (stepL l).map (fun r => (view, r)) = none by rw [stepL_none HPN.out (fun j hj => HT.out j (Nat.zero_le _) hj)]; rfl)
          have FF := Lib.hid (res_two (a := .int .i64 0) (b := .slice none 0 0) k1 (by omega) hB)
          obtain ⟨z0, z1, y0, y1⟩ := FF.out.1
          clear k0 k1 hB
          go_wp2
          exact bodyPost_ret (v := .tuple #[.agg #[.int .i64 0, .slice none 0 0], .bool false]) (by simp [results, Tryz.results42, go_sem, FF.out.2.1.1, FF.out.2.1.2]) rfl (by rw [HS.out]; exact ChainRes.none_ FF.out.2.2)
end Go.Proofs.YtcomppiglhibkaaGreatDoor
/- Settling: spec.ChainSettle. -/
namespace Go.Proofs.YtcomppiglhibkaaGreatDoor
open Go.RowKit Go.Sort

theorem way_some {v : Int} {l c r : List Nod} {k : Nat} (h : Way v l c k) (hs : stepL c = some r) : Way v l r (k + 1) := by
  obtain ⟨h1, h2, h3, h4, h5⟩ := h
  obtain ⟨a, b, d, e, f⟩ := stepL_some h1 hs
  exact ⟨a, f.trans h2, e.trans h3, d.trans h4, by omega⟩
theorem way_none {v : Int} {l c : List Nod} {k : Nat} (h : Way v l c k) (hs : stepL c = none) : c = settledM l ∧ k = pot l := by
  obtain ⟨h1, h2, h3, h4, h5⟩ := h
  obtain ⟨a, b⟩ := stepL_end h1 hs
  exact ⟨by rw [← h4, a], by omega⟩
set_option maxRecDepth 100000 in
set_option maxHeartbeats 8000000 in
theorem specChainSettle_any (view : Int) (A : Option Addr) (n c : Nat) (l : List Nod) (w : World) (h : Nods w 0 w.heap.size A n c l) (hn : n ≤ 1048576) (hlog : ∀ x ∈ l, x.log.length ≤ 1048576) :
    Calls Mo.prog 21 #[.agg #[.int .i64 view, .slice A n c]] w (SetRes w (settleM view l)) := by
  have HL := Lib.hid h.len
  have HG := Lib.hid hlog
  have H := Lib.hid h
  have H0 := Lib.hid ((h.box (.cells #[.int .i64 view, .slice A n c] 25)).box (.cells #[.int .i64 0, .slice none 0 0] 25))
  clear h hlog
  cases hok : chainOk view l
  · have HS := Lib.hid (show settleM view l = ((0, []), -1) by simp [settleM, hok])
    have HO := Lib.hid hok
    clear hok
    go_enter Mo.func21, Tryz.ntmps21
    go_wp2_with fail
    refine (specChainValid_any _ _ _ _ l _ H0.out hn HG.out).mono ?_
    rintro e w1 ⟨rfl, hb1⟩
    rw [HO.out]
    obtain ⟨_, k1, b1⟩ := box_res hb1
    have FF := Lib.hid (res_two (a := .int .i64 0) (b := .slice none 0 0) k1 (by omega) b1)
    obtain ⟨z0, z1, y0, y1⟩ := FF.out.1
    clear hb1 k1 b1
    go_wp2
    exact bodyPost_ret (v := .tuple #[.agg #[.int .i64 0, .slice none 0 0], .int .i64 (-1)]) (by simp [results, Tryz.results21, go_sem, FF.out.2.1.1, FF.out.2.1.2]) rfl ⟨0, none, 0, 0, [], by rw [HS.out], by rw [HS.out], rfl, NodRow.nil_ _ _ _, FF.out.2.2⟩
  · have hg := good_iff.1 hok
    have GG := Lib.hid hg
    have HS := Lib.hid (show settleM view l = ((view, settledM l), (pot l : Int)) by simp [settleM, hok])
    have HO := Lib.hid hok
    have hn5 : n ≤ 5 := by have := hg.2.2.2.1; have := HL.out; omega
    have hn1 : 1 ≤ n := by have := hg.2.2.1; have := HL.out; omega
    have hpot := pot_le hg
    clear hok hg
    go_enter Mo.func21, Tryz.ntmps21
    go_wp2_with fail
    refine (specChainValid_any _ _ _ _ l _ H0.out hn HG.out).mono ?_
    rintro e w1 ⟨rfl, hb1⟩
    rw [HO.out]
    obtain ⟨k0, k1, b1⟩ := box_res hb1
    have K0 := Lib.hid k0
    have K1 := Lib.hid k1
    have B1 := Lib.hid b1
    have F1 := Lib.hid (H.out.on b1)
    have q0 := k0.cell (i := 0) (v := .int .i64 view) rfl
    have q1 := k0.cell (i := 1) (v := .slice A n c) rfl
    have s1 := b1.size
    clear hb1 k0 k1 b1
    go_wp2_with fail
    refine (l4Copy_any view _ n c l _ F1.out hn HG.out).mono ?_
    rintro e w3 ⟨A3, n3, c3, rfl, hl3, hrow3, hb3⟩
    have hn3 : n3 = n := by rw [← hl3]; exact HL.out
    subst hn3
    have hK1 := K1.out.lt
    have cb := CB.made (view := view) (B1.out.trans (hb3.mono B1.out.size)) (hrow3.lower B1.out.size) (Oth.cons (Oth.nil _ _) (K1.out.below hb3) (by have := hb3.size; omega) (by decide))
    have CB4 := Lib.hid cb
    clear hrow3 hb3 cb q0 q1
    go_wp2_with fail
    go_loopw [5] (fun st wr => ∃ (k : Nat) (cl : List Nod) (nv : Value) (hi : Nat), st = .int .i64 (k : Int) ∧ Hid (Way view l cl k) ∧ CB w wr w3.heap.size view nv cl hi [(w.heap.size + 1, #[.int .i64 0, .slice none 0 0], 25)]) (fun st _ => 101 - (intOf st).toNat)
    case atStart => exact ⟨0, l, _, _, rfl, ⟨GG.out, rfl, rfl, rfl, by omega⟩, CB4.out⟩
    case round =>
      obtain ⟨k, cl, nv, hi, rfl, HW, hcb⟩ := hrel
      have CBR := Lib.hid hcb
      have hk65 : k ≤ 65 := by have := HW.out.2.2.2.2; omega
      have hk100 : (k : Int) ≤ 100 := by omega
      have hss : w3.heap.size < wr.heap.size := hcb.size
      have hgc := HW.out.1
      have hcl1 : 1 ≤ cl.length := hgc.2.2.1
      obtain ⟨gc, cc, rfl, _, _, _⟩ := hcb.row.form (by omega)
      have r0 := hcb.chn.cell (i := 0) (v := .int .i64 view) rfl
      have r1 := hcb.chn.cell (i := 1) (v := .slice (some ⟨gc, 0, none⟩) cl.length cc) rfl
      have NW := Lib.hid hcb.nods.2
      have HGC := Lib.hid hgc
      have hw1 : IntKind.i64.wrap ((k : Int) + 1) = (k : Int) + 1 := IntWalk.i64_in _ (by omega)
      clear hcb hgc CB4
      cases hst : stepL cl with
      | none =>
        have HST := Lib.hid hst
        clear hst
        go_wp2_with fail
        have D := l5Step_any view _ cl.length cc cl _ NW.out HGC.out
        rw [HST.out] at D
        refine D.mono ?_
        rintro e w6 ⟨v1, A1, n1, c1, l1, hv1, rfl, hl1, hr1, hb6⟩
        clear D
        have cb7 := CBR.out.below (hb6.alloc hb6.size (.cells #[.int .i64 v1, .slice A1 n1 c1] 25))
        obtain ⟨w7, hw7⟩ : ∃ w7 : World, w6.alloc (.cells #[.int .i64 v1, .slice A1 n1 c1] 25) = w7 := ⟨_, rfl⟩
        rw [hw7] at cb7
        obtain ⟨e1, e2⟩ := way_none HW.out HST.out
        subst e1; subst e2
        have t0 := cb7.chn.cell (i := 0) (v := .int .i64 view) rfl
        have t1 := cb7.chn.cell (i := 1) (v := .slice (some ⟨gc, 0, none⟩) (settledM l).length cc) rfl
        have FF := Lib.hid (res_two (a := .int .i64 view) (b := .slice (some ⟨gc, 0, none⟩) (settledM l).length cc) (cb7.blk (List.mem_singleton.2 rfl)) (show w.heap.size ≤ w.heap.size + 1 by omega) cb7.bel)
        have NN := Lib.hid (cb7.out (u := .int .i64 view) (v := .slice (some ⟨gc, 0, none⟩) (settledM l).length cc) (cb7.blk (List.mem_singleton.2 rfl)) (show w.heap.size ≤ w.heap.size + 1 by omega))
        obtain ⟨z0, z1, y0, y1⟩ := FF.out.1
        clear cb7 hr1 hb6 hv1 hl1 r0 r1
        go_wp2
        exact bodyPost_ret (v := .tuple #[.agg #[.int .i64 view, .slice (some ⟨gc, 0, none⟩) (settledM l).length cc], .int .i64 (pot l)]) (by simp [results, Tryz.results21, go_sem, FF.out.2.1.1, FF.out.2.1.2]) rfl ⟨view, _, _, cc, settledM l, by rw [HS.out], by rw [HS.out], rfl, NN.out.1, NN.out.2⟩
      | some r =>
        have HST := Lib.hid hst
        clear hst
        go_wp2_with fail
        have D := l5Step_any view _ cl.length cc cl _ NW.out HGC.out
        rw [HST.out] at D
        refine D.mono ?_
        rintro e w6 ⟨v1, A1, n1, c1, l1, hv1, rfl, hl1, hr1, hb6⟩
        clear D
        have e1 : v1 = view ∧ l1 = r := by
          have : (v1, l1) = (view, r) := hv1
          injection this with a b
          exact ⟨a, b⟩
        obtain ⟨rfl, rfl⟩ := e1
        have nb := Blk.new w6 #[.int .i64 v1, .slice A1 n1 c1] 25
        have hr7 := (hr1.keep (w' := w6.alloc (.cells #[.int .i64 v1, .slice A1 n1 c1] 25)) (fun _ _ h => Below.heap_alloc _ _ _ h)).mono (show w6.heap.size ≤ (w6.alloc (.cells #[.int .i64 v1, .slice A1 n1 c1] 25)).heap.size by simp)
        have cb7 := CBR.out.below (hb6.alloc hb6.size (.cells #[.int .i64 v1, .slice A1 n1 c1] 25))
        obtain ⟨w7, hw7⟩ : ∃ w7 : World, w6.alloc (.cells #[.int .i64 v1, .slice A1 n1 c1] 25) = w7 := ⟨_, rfl⟩
        rw [hw7] at nb hr7 cb7
        have cb8 := cb7.restored (v1 := v1) hr7 CBR.out.bel.size
        have t0 := nb.cell (i := 0) (v := .int .i64 v1) rfl
        have t1 := nb.cell (i := 1) (v := .slice A1 n1 c1) rfl
        have u0 := cb7.chn.cell (i := 0) (v := .int .i64 v1) rfl
        have u1 := cb7.chn.cell (i := 1) (v := .slice (some ⟨gc, 0, none⟩) cl.length cc) rfl
        have f0 := cb7.chn.free 0
        have f1 := cb7.chn.free 1
        have CB8 := Lib.hid cb8
        clear hr1 hb6 nb hr7 cb7 cb8 r0 r1 hl1 hv1
        go_wp2
        refine ⟨⟨k + 1, l1, _, _, by go_num, way_some HW.out HST.out, CB8.out⟩, ?_⟩
        simp [intOf]; omega
end Go.Proofs.YtcomppiglhibkaaGreatDoor
/- What a reading of the arguments gives: bytes, steps, calls, updates, nodes and chains as plain lists. -/
namespace Go.Proofs.YtcomppiglhibkaaGreatDoor
open Go.ChangeShapes Go.WideShapes Go.ChangeAt Go.RowKit Go.Deep

theorem ownK : ownKnob Tryz.prog.godebug = none := by kernel_rfl
theorem laidOut : laidOutB Tryz.prog = true := by kernel_rfl




section
variable {H : Type} {enc : TypeId × Value → H} {P : Program} {W : World}

/-- an address whose cells lie there is plain -/
theorem plain_addr {w : World} {a : Addr} {v : Value} (h : w.cell? a = some v) : a = ⟨a.block, a.off, none⟩ ∧ a.block < w.heap.size := by
  refine ⟨?_, block_lt_of_cell h⟩
  have := World.cell?_spot h
  cases a; simp_all

set_option maxRecDepth 100000 in
theorem reads_slice {α : Type} {encE : α → List Value} {sz : Nat} (hsz : 0 < sz) (hs : ∀ x, (encE x).length = sz) {Q : α → Prop} {t e : TypeId} (ht : P.underlying t = some (.slice e)) (hE : P.cellsOf e = sz)
    (hel : ∀ n cs y, DataW.trod enc P W 0 (fun _ => true) true n e cs = some y → ∃ x, cs = encE x ∧ Q x)
    {v : Value} {d : DataW H} {p : List MemPlace} (hv : Value.okWide P W .any 0 t v) (h : DataW.Trod enc P W 0 (fun _ => true) true t v d p) :
    ∃ A n c l, v = .slice A n c ∧ Flat encE sz W 0 W.heap.size A n c l ∧ ∀ x ∈ l, Q x := by
  obtain ⟨A, n, c, rfl⟩ := okWide_slice ht hv
  obtain ⟨fuel, hf⟩ := h
  rcases open_slice ht hf with ⟨hcs, _⟩ | ⟨a, len, cap, m, k, D, Pl, hcs, _, hl, hm, hmm, _, hi⟩
  · simp [Value.cells] at hcs
    obtain ⟨rfl, rfl, rfl⟩ := hcs
    exact ⟨none, 0, 0, [], rfl, Flat.nil_ _ _ _ _ _, fun _ h => by cases h⟩
  · simp [Value.cells] at hcs
    obtain ⟨rfl, rfl, rfl⟩ := hcs
    have hm' : n ≤ m := by rw [hmm]; split <;> omega
    have each : ∀ i : Fin n, ∃ x, Q x ∧ ∀ j u, (encE x)[j]? = some u → W.cell? (a.add (i.1 * sz + j)) = some u := by
      intro i
      obtain ⟨cs', hc, ht'⟩ := hi i.1 (by omega)
      obtain ⟨x, rfl, hq⟩ := hel _ _ _ ht'
      rw [hE] at hc
      obtain ⟨_, _, hat⟩ := World.cells?_some hc
      refine ⟨x, hq, fun j u hu => ?_⟩
      have hj : j < sz := by
        have := (List.getElem?_eq_some_iff.1 hu).1
        rw [hs] at this; exact this
      rw [← Go.Deep.add_add, hat j hj, hu]
    obtain ⟨f, hfs⟩ := Classical.skolem.1 each
    refine ⟨some a, n, c, List.ofFn f, rfl, ⟨by simp, hl, hm, fun hn => ?_⟩, fun x hx => ?_⟩
    · have hc0 : ∃ u, (encE (f ⟨0, hn⟩))[0]? = some u := by
        have : 0 < (encE (f ⟨0, hn⟩)).length := by rw [hs]; exact hsz
        exact ⟨_, List.getElem?_eq_getElem this⟩
      obtain ⟨u, hu⟩ := hc0
      have h0 := (hfs ⟨0, hn⟩).2 0 u hu
      simp only [Nat.zero_mul, Nat.add_zero, Addr.add, if_true] at h0
      obtain ⟨e1, e2⟩ := plain_addr h0
      refine ⟨a.block, a.off, by rw [← e1], Nat.zero_le _, e2, fun i x hx j u hu => ?_⟩
      have hin : i < n := by have := (List.getElem?_eq_some_iff.1 hx).1; simpa using this
      have hfx : f ⟨i, hin⟩ = x := by
        rw [List.getElem?_ofFn] at hx
        simpa [hin] using hx
      have := (hfs ⟨i, hin⟩).2 j u (by rw [hfx]; exact hu)
      rw [e1] at this
      simp only [Addr.add] at this
      split at this
      · rename_i hz
        have e : a.off + i * sz + j = a.off := by omega
        rw [e]; exact this
      · rw [show a.off + i * sz + j = a.off + (i * sz + j) from by omega]; exact this
    · obtain ⟨i, rfl⟩ := List.mem_ofFn.1 hx
      exact (hfs i).1
end

section
variable {H : Type} {enc : TypeId × Value → H} {W : World}
set_option maxRecDepth 100000 in
theorem reads_bytes {v : Value} {d : DataW H} {p : List MemPlace} (hv : Value.okWide Tryz.prog W .any 0 22 v) (h : DataW.Trod enc Tryz.prog W 0 (fun _ => true) true 22 v d p) :
    ∃ A n c l, v = .slice A n c ∧ Flat encU8 1 W 0 W.heap.size A n c l ∧ ∀ x ∈ l, 0 ≤ x ∧ x ≤ 255 :=
  reads_slice (by omega) encU8_len (Q := fun x => 0 ≤ x ∧ x ≤ 255) Tryz.underlying22 (by kernel_rfl) (fun n cs y hy => by
    obtain ⟨x, rfl, _, hw⟩ := DataW.trod_int Tryz.underlying5 hy
    exact ⟨x, rfl, bounds_u8 hw⟩) hv h

set_option maxRecDepth 100000 in
theorem trod_upd {n : Nat} {cs : List Value} {y : DataW H × List MemPlace} (hy : DataW.trod enc Tryz.prog W 0 (fun _ => true) true n 43 cs = some y) : ∃ x : Upd, cs = x.enc := by
  have hC : Tryz.prog.cellsOf 43 = 2 := by kernel_rfl
  have hI : Tryz.prog.cellsOf 3 = 1 := by kernel_rfl
  obtain ⟨xs, m, _, _, hlen, hxs, hf⟩ := DataW.trod_struct Tryz.underlying43 hy
  rw [hC] at hlen
  match cs, hlen with
  | [c0, c1], _ =>
    have f0 : DataW.trod enc Tryz.prog W 0 (fun _ => true) true m 3 (List.take (Tryz.prog.cellsOf 3) (List.drop 0 [c0, c1])) = xs[0]? := hf 0 _ rfl
    have f1 : DataW.trod enc Tryz.prog W 0 (fun _ => true) true m 3 (List.take (Tryz.prog.cellsOf 3) (List.drop 1 [c0, c1])) = xs[1]? := hf 1 _ rfl
    simp only [hI, List.drop_zero, List.drop_succ_cons, List.take_succ_cons, List.take_zero] at f0 f1
    obtain ⟨y0, e0⟩ : ∃ y, xs[0]? = some y := ⟨xs[0]'(by rw [hxs]; decide), List.getElem?_eq_getElem _⟩
    obtain ⟨y1, e1⟩ : ∃ y, xs[1]? = some y := ⟨xs[1]'(by rw [hxs]; decide), List.getElem?_eq_getElem _⟩
    obtain ⟨a, ha, _⟩ := DataW.trod_int Tryz.underlying3 (f0.trans e0)
    obtain ⟨b, hb, _⟩ := DataW.trod_int Tryz.underlying3 (f1.trans e1)
    injection ha with ha _; injection hb with hb _
    exact ⟨⟨a, b⟩, by rw [ha, hb]; rfl⟩


end
end Go.Proofs.YtcomppiglhibkaaGreatDoor
