/- Putting a new node behind the tail: spec.ChainAdd. -/
import Derived.Test.YtnbakpdphfdacaaDropA
namespace Go.Proofs.Ytnbakpdphfdacaa
open Go.RowKit

theorem addM_bad {v : Int} {l : List Nod} {id : Int} (h : chainOk v l = false) : addM v l id = none := by simp [addM, h]
theorem addM_at {v : Int} {l : List Nod} {id : Int} (h : chainOk v l = true) : addM v l id = if chainOk (v + 1) (added l id) then some (v + 1, added l id) else none := by simp [addM, h]
/-- a result's block of the call's own, empty yet -/
theorem res_fin (w : World) : ∀ w1 : World, Blk w1 (w.heap.size + 1) #[.int .i64 0, .slice none 0 0] 33 → Below w.heap.size w w1 →
      (∀ i v, #[Value.int .i64 0, Value.slice none 0 0][i]? = some v → w1.cell? ⟨w.heap.size + 1, i, none⟩ = some v) ∧ (∀ i, w1.frozen? ⟨w.heap.size + 1, i, none⟩ = false) ∧
      (((w1.setCell ⟨w.heap.size + 1, 0, none⟩ (.int .i64 0)).setCell ⟨w.heap.size + 1, 1, none⟩ (.slice none 0 0)).cell? ⟨w.heap.size + 1, 0, none⟩ = some (.int .i64 0) ∧ ((w1.setCell ⟨w.heap.size + 1, 0, none⟩ (.int .i64 0)).setCell ⟨w.heap.size + 1, 1, none⟩ (.slice none 0 0)).cell? ⟨w.heap.size + 1, 1, none⟩ = some (.slice none 0 0)) ∧
      Below w.heap.size w ((w1.setCell ⟨w.heap.size + 1, 0, none⟩ (.int .i64 0)).setCell ⟨w.heap.size + 1, 1, none⟩ (.slice none 0 0)) := fun _ hk hb =>
    have hs := (hk.set 0 (.int .i64 0)).set 1 (.slice none 0 0)
    ⟨fun _ _ hv => hk.cell hv, fun i => hk.free i, ⟨hs.cell (i := 0) rfl, hs.cell (i := 1) rfl⟩, (hb.setCell (p := ⟨w.heap.size + 1, 0, none⟩) (by show w.heap.size ≤ w.heap.size + 1; omega) _).setCell (p := ⟨w.heap.size + 1, 1, none⟩) (by show w.heap.size ≤ w.heap.size + 1; omega) _⟩

set_option maxRecDepth 100000 in
set_option maxHeartbeats 16000000 in
theorem specChainAdd_any (view : Int) (A : Option Addr) (n c : Nat) (l : List Nod) (id : Int) (w : World) (h : Nods w 0 w.heap.size A n c l) (hn : n ≤ 1048576) (hlog : ∀ x ∈ l, x.log.length ≤ 1048576) :
    Calls Try.prog 31 #[.agg #[.int .i64 view, .slice A n c], .int .i64 id] w (ChainRes w (addM view l id)) := by
  obtain ⟨i0, hi, hz0, hz1, hz2⟩ := info_parts infoUpd
  obtain ⟨j0, hj, hy0, hy1, hy2⟩ := info_parts infoNode
  have HL := Lib.hid h.len
  have HG := Lib.hid hlog
  have H := Lib.hid h
  have H0 := Lib.hid ((h.box (.cells #[.int .i64 view, .slice A n c] 33)).box (.cells #[.int .i64 0, .slice none 0 0] 33))
  have FIN := Lib.hid (res_fin w)
  clear h hlog
  cases hok : chainOk view l
  · have HT := Lib.hid (addM_bad (id := id) hok)
    have HO := Lib.hid hok
    clear hok
    go_enter Try.func31, Try.ntmps31
    go_wp2_with fail
    refine (specChainValid_any _ _ _ _ l _ H0.out hn HG.out).mono ?_
    rintro e w1 ⟨rfl, hb1⟩
    rw [HO.out]
    have FF := Lib.hid (FIN.out w1 (two_blks hb1).2.1 (two_blks hb1).2.2)
    have z0 := FF.out.1 0 _ rfl
    have z1 := FF.out.1 1 _ rfl
    have y0 := FF.out.2.1 0
    have y1 := FF.out.2.1 1
    clear hb1
    go_wp2
    exact bodyPost_ret (v := .tuple #[.agg #[.int .i64 0, .slice none 0 0], .bool false]) (by simp [results, Try.results31, go_sem, FF.out.2.2.1.1, FF.out.2.2.1.2]) rfl (by rw [HT.out]; exact ChainRes.none_ FF.out.2.2.2)
  have HO := Lib.hid hok
  have hg := good_iff.1 hok
  have hv0 := hg.1
  have hv9 := hg.2.1
  have hn1 : 1 ≤ n := by have := hg.2.2.1; have := HL.out; omega
  have hn5 : n ≤ 5 := by have := hg.2.2.2.1; have := HL.out; omega
  have HT := Lib.hid (addM_at (id := id) hok)
  have hn1' : (1 : Int) ≤ (n : Int) := by omega
  have GT := Lib.hid (show ∀ x, l[n - 1]? = some x → x.done = x.log.length ∧ x.log.length ≤ 13 from fun x hx => by
    have ht := hg.2.2.2.2.2.2
    rw [tailOk_at HL.out hx, decide_eq_true_eq] at ht
    exact ⟨ht, (by have := nodeOk_log' (hg.2.2.2.2.1 x (List.mem_of_getElem? hx)); unfold logOk at this; simp only [Bool.and_eq_true, decide_eq_true_eq] at this; omega)⟩)
  clear hok hg
  go_enter Try.func31, Try.ntmps31
  go_wp2_with fail
  refine (specChainValid_any _ _ _ _ l _ H0.out hn HG.out).mono ?_
  rintro e w1 ⟨rfl, hb1⟩
  rw [HO.out]
  obtain ⟨k0, k1, b1⟩ := two_blks hb1
  have K0 := Lib.hid k0
  have K1 := Lib.hid k1
  have B1 := Lib.hid b1
  have s1 : w.heap.size + 1 < w1.heap.size := k1.lt
  have s1' : w.heap.size < w1.heap.size := by omega
  have q0 := k0.cell (i := 0) (v := .int .i64 view) rfl
  have q1 := k0.cell (i := 1) (v := .slice A n c) rfl
  obtain ⟨b, off, x, A', m, d, rfl, _, hbB, hx, c0, c1, c2, hf⟩ := (H.out.below b1 (Nat.le_refl _)).nod (show n - 1 < n by omega)
  have hxd := GT.out x hx
  have hml := hf.len
  have c2' : w1.cell? ⟨b, off + (n - 1) * 3 + 2, none⟩ = some (.int .i64 (m : Int)) := by rw [c2, hxd.1, hml]
  have Hx := Lib.hid hx
  have HM := Lib.hid hml
  have hm13 : m ≤ 13 := by omega
  have F1 := Lib.hid (((H.out.on b1).box (.cells #[.int .i64 x.id, .slice A' m d, .int .i64 (m : Int)] 57)))
  have FX := Lib.hid ((hf.mono (Nat.zero_le _) b1.size).box (.cells #[.int .i64 x.id, .slice A' m d, .int .i64 (m : Int)] 57))
  have XB := Lib.hid (Blk.new w1 #[.int .i64 x.id, .slice A' m d, .int .i64 (m : Int)] 57)
  have K0a := Lib.hid (k0.alloc (.cells #[.int .i64 x.id, .slice A' m d, .int .i64 (m : Int)] 57))
  have K1a := Lib.hid (k1.alloc (.cells #[.int .i64 x.id, .slice A' m d, .int .i64 (m : Int)] 57))
  have B1a := Lib.hid (b1.alloc b1.size (.cells #[.int .i64 x.id, .slice A' m d, .int .i64 (m : Int)] 57))
  clear hb1 k0 k1 b1 hx hf hxd hml c2 K0 K1
  go_wp2_with fail
  refine (l4Copy_any _ _ _ _ l _ F1.out hn HG.out).mono ?_
  rintro e w3 ⟨A3, n3, c3, rfl, hl3, hrow3, hb3⟩
  obtain rfl : n3 = n := by rw [← hl3]; exact HL.out
  obtain ⟨L, hL⟩ : ∃ L, L = [(w.heap.size, #[Value.int .i64 view, Value.slice (some ⟨b, off, none⟩) n3 c], 33), (w.heap.size + 1, #[Value.int .i64 0, Value.slice none 0 0], 33)] := ⟨_, rfl⟩
  have k0 := K0a.out.below hb3
  have k1 := K1a.out.below hb3
  have kx := XB.out.below hb3
  have s3 : w.heap.size + 1 < w3.heap.size := k1.lt
  have s3' : w.heap.size < w3.heap.size := by omega
  have sx : w1.heap.size < w3.heap.size := kx.lt
  have hB3 := B1a.out.trans (hb3.mono B1a.out.size)
  have r0 := k0.cell (i := 0) (v := .int .i64 view) rfl
  have hC := CB.made (view := view + 1) (L := L) hB3 (hrow3.lower (by simp; omega)) (by rw [hL]; exact ((Oth.nil _ _).cons k1 (by omega) (by decide)).cons k0 (by omega) (by decide))
  have L1 := Lib.hid (show (w.heap.size + 1, #[Value.int .i64 0, Value.slice none 0 0], 33) ∈ L by rw [hL]; simp)
  have E3 := Lib.hid hC.raise
  have x0 := kx.cell (i := 0) (v := .int .i64 x.id) rfl
  have x1 := kx.cell (i := 1) (v := .slice A' m d) rfl
  have x2 := kx.cell (i := 2) (v := .int .i64 (m : Int)) rfl
  have d1 := hC.chn.cell (i := 1) (v := .slice A3 n3 c3) rfl
  have d0 := hC.chn.cell (i := 0) (v := .int .i64 (view + 1)) rfl
  have f1 := hC.chn.free 1
  have T3 := Lib.hid (E3.out.alloc (.cells #[] 72)).drew
  have HO2 := Lib.hid (made0 (w3.alloc (.cells #[.int .i64 (view + 1), .slice A3 n3 c3] 33)) (w3.heap.size + 1) (w3.heap.size + 1) 72 2 (by simp) (Nat.le_refl _)).drew
  have SR := Lib.hid (flat_src Upd.len (by omega) ((((FX.out.on hb3).box (.cells #[.int .i64 (view + 1), .slice A3 n3 c3] 33)).box (.cells #[] 72)).below (Below.refl _ _).drew (Nat.le_refl _)))
  have hb6 : w3.heap.size + 1 ≤ ((w3.alloc (.cells #[.int .i64 (view + 1), .slice A3 n3 c3] 33)).alloc (.cells #[] 72)).drew.heap.size := by simp
  have hl3' := Lib.hid hl3
  have hra := Lib.hid (show added l id = l ++ [⟨id, x.log, (m : Int)⟩] by rw [added_get (by rw [HL.out]; exact Hx.out), HM.out])
  have XK := Lib.hid (((kx.alloc (.cells #[.int .i64 (view + 1), .slice A3 n3 c3] 33)).alloc (.cells #[] 72)).drew)
  have hll : l.length ≤ 5 := by have := HL.out; omega
  clear hb3 k0 k1 kx hL hC hrow3 q0 q1 hl3 hB3
  go_upto_region 6 with fail
  go_cut [] from 26 to 38 (fun wx => ∃ (g8 c8 hi : Nat), CB w wx w3.heap.size (view + 1) (.slice (some ⟨g8, 0, none⟩) (l.length + 1) c8) (l ++ [⟨id, x.log, (m : Int)⟩]) hi L)
  case first =>
    go_region_law ((first
      | (refine step_append_src _ (by rfl) (.tmp 27) (.tmp 36) 31 (by rfl) w.heap.size 57 j0 _ 3 40 Try.underlying31 hj hy0 hy1 hy2 rfl (by omega) (.slice A3 n3 c3) l.length (rs.flatMap RN.enc) (by rfl) (hat.1.alloc _) _ 1 1 _ (by rfl) (src_row _ #[.int .i64 id, .slice A6 m c6, .int .i64 (m : Int)] 57 3 _ rfl rfl) (RN.one ⟨id, A6, m, c6, (m : Int)⟩) (by unfold maxLen; omega) (by omega) (by simp; omega) ?_; intro v8 w8 hown8 hg8; obtain ⟨g8, c8, rfl, _⟩ := own_form hown8 (by omega)
         have K8 := Z.out.chnAfter hat hg8; have e1 := K8.cell (i := 1) (v := .slice A3 n3 c3) rfl; have g1 := K8.free 1; have Y := Lib.hid (Z.out.appended (x := ⟨id, x.log, (m : Int)⟩) (r := ⟨id, A6, m, c6, (m : Int)⟩) hat ⟨rfl, rfl, HM.out⟩ (OZ.out.mono (by omega)) (fun g e => by have := hnew6.out g e; simp; omega) hown8 hg8); clear hown8 hg8 K8)
      | (refine step_append_src _ (by rfl) (.tmp 29) (.tmp 31) 40 (by rfl) (w3.heap.size + 1) 72 i0 _ 2 16 Try.underlying40 hi hz0 hz1 hz2 rfl (by omega) (.slice (some ⟨w3.heap.size + 1, 0, none⟩) 0 0) 0 [] (by rfl) HO2.out A' m d _ (by rfl) SR.out (one_enc Upd.one _) (by unfold maxLen; omega) (by omega) hb6 ?_; intro v6 w6 hown6 hg6
         rw [Nat.zero_add, List.nil_append] at hown6; obtain ⟨A6, c6, rfl, _⟩ := own_flat Upd.len hown6 HM.out; have OZ := Lib.hid hown6; have hnew6 := Lib.hid (fun (g : Nat) (e : (Value.slice A6 m c6).ownBlock = some g) => (hown6.lt g e).1)
         have Z := Lib.hid (T3.out.beside hg6 (fun g e => by cases e; simp)); have e1 := Z.out.chn.cell (i := 1) (v := .slice A3 n3 c3) rfl; have hz6 : w.heap.size ≤ w6.heap.size := Z.out.bel.size; have hz7 : w3.heap.size < w6.heap.size := Z.out.size; have X6 := XK.out.grown hg6 (by intro e; simp [Value.ownBlock] at e; omega); have e2 := X6.cell (i := 2) (v := .int .i64 (m : Int)) rfl; obtain ⟨rs, hat⟩ := Z.out.row; clear hown6 hg6 X6)))
    all_goals
      go_wp2_with fail
      go_meet
      case rel => exact ⟨_, _, _, Y.out⟩
  case rest =>
    obtain ⟨g8, c8, hi8, hcb⟩ := hcut
    obtain ⟨w8, rfl⟩ : ∃ w8 : World, w8 = wc := ⟨_, rfl⟩
    have S8 := Lib.hid hcb
    have FN := Lib.hid hcb.nods.2
    have HG2 := Lib.hid (show ∀ y ∈ l ++ [⟨id, x.log, (m : Int)⟩], y.log.length ≤ 1048576 from fun y hy => by
      rcases List.mem_append.1 hy with h1 | h1
      · exact HG.out y h1
      · rw [List.mem_singleton] at h1; subst h1; have := HM.out; show x.log.length ≤ 1048576; omega)
    have HT2 := Lib.hid (show addM view l id = if chainOk (view + 1) (l ++ [⟨id, x.log, (m : Int)⟩]) = true then some (view + 1, l ++ [⟨id, x.log, (m : Int)⟩]) else none by rw [HT.out, hra.out])
    obtain ⟨lf, hlf'⟩ : ∃ lf, l ++ [⟨id, x.log, (m : Int)⟩] = lf := ⟨_, rfl⟩
    have hln : lf.length = l.length + 1 := by rw [← hlf']; simp
    have HLN := Lib.hid hln
    have q0 := hcb.chn.cell (i := 0) (v := .int .i64 (view + 1)) rfl
    have q1 := hcb.chn.cell (i := 1) (v := .slice (some ⟨g8, 0, none⟩) (l.length + 1) c8) rfl
    rw [hlf'] at S8 FN HG2 HT2
    clear hlf' hln hcb hra HT E3 T3 HO2 SR XK d0 d1 f1 x0 x1 x2 r0
    go_wp2_with fail
    refine (specChainValid_any _ _ _ _ lf _ FN.out (by omega) HG2.out).mono ?_
    rintro e w9 ⟨rfl, hb9⟩
    have S9 := Lib.hid (S8.out.below hb9)
    clear hb9 q0 q1 S8 FN
    obtain ⟨ok, hok⟩ : ∃ ok, chainOk (view + 1) lf = ok := ⟨_, rfl⟩
    rw [hok]
    have HD3 := HT2.out
    rw [hok] at HD3
    have FF := Lib.hid (FIN.out w9 (S9.out.blk L1.out) S9.out.bel)
    have z0 := FF.out.1 0 _ rfl
    have z1 := FF.out.1 1 _ rfl
    have y0 := FF.out.2.1 0
    have y1 := FF.out.2.1 1
    cases ok
    · have HT := Lib.hid (show addM view l id = none from HD3)
      clear HD3 hok
      go_wp2
      exact bodyPost_ret (v := .tuple #[.agg #[.int .i64 0, .slice none 0 0], .bool false]) (by simp [results, Try.results31, go_sem, FF.out.2.2.1.1, FF.out.2.2.1.2]) rfl (by rw [HT.out]; exact ChainRes.none_ FF.out.2.2.2)
    · have HT := Lib.hid (show addM view l id = some (view + 1, lf) from HD3)
      have q0 := S9.out.chn.cell (i := 0) (v := .int .i64 (view + 1)) rfl
      have q1 := S9.out.chn.cell (i := 1) (v := .slice (some ⟨g8, 0, none⟩) (l.length + 1) c8) rfl
      have O := Lib.hid (S9.out.out (u := .int .i64 (view + 1)) (v := .slice (some ⟨g8, 0, none⟩) (l.length + 1) c8) (S9.out.blk L1.out) (by omega))
      obtain ⟨e0, e1⟩ := two_stores _ (w.heap.size + 1) z0 z1
      have E := Lib.hid (And.intro e0 e1)
      clear HD3 hok e0 e1
      go_wp2
      obtain ⟨e0, e1⟩ := E.out
      exact bodyPost_ret (v := .tuple #[.agg #[.int .i64 (view + 1), .slice (some ⟨g8, 0, none⟩) (l.length + 1) c8], .bool true]) (by simp [results, Try.results31, go_sem, e0, e1]) rfl (by rw [HT.out]; exact ChainRes.some_ HLN.out O.out.1 O.out.2)
end Go.Proofs.Ytnbakpdphfdacaa
