/- What a chain tells of a key: impl.ChainRead, spec.ChainRead. -/
import Derived.Test.YtnbakpdphfdacaaReadM
import Derived.Test.YtnbakpdphfdacaaDropRole
namespace Go.Proofs.Ytnbakpdphfdacaa
open Go.RowKit

theorem told_vals (x : Int) : told x = ((if x < 0 then 0 else x), (if x < 0 then false else true)) := by unfold told; split <;> rfl

set_option maxHeartbeats 4000000 in
theorem chainRead_any (view : Int) (A : Option Addr) (n c : Nat) (l : List Nod) (key : Int) (w : World) (h : Nods w 0 w.heap.size A n c l) (hn : n ≤ 1048576) (hlog : ∀ x ∈ l, x.log.length ≤ 1048576) :
    Calls Try.prog 71 #[.agg #[.int .i64 view, .slice A n c], .int .i64 key] w fun e w' => e = .returned (.tuple #[.int .i64 (chainRead view l key).1, .bool (chainRead view l key).2]) ∧ Below w.heap.size w w' := by
  have HL := Lib.hid h.len
  have HG := Lib.hid hlog
  have H := Lib.hid (h.box (.cells #[.int .i64 view, .slice A n c] 33))
  have H1 := Lib.hid h
  clear h hlog
  cases hok : chainOk view l
  · rw [chainRead_bad (by rw [hok]; rfl)]
    have HO := Lib.hid hok
    clear hok
    go_enter Try.func71, Try.ntmps71
    go_wp2_with (go_at_call 49; refine (chainValid_any _ _ _ _ l _ H.out hn HG.out).mono ?_; rintro e w1 ⟨rfl, hb1⟩; rw [HO.out]; have B1 := Lib.hid (below_box hb1); clear hb1)
    go_ret2
    exact ⟨rfl, B1.out⟩
  have HO := Lib.hid hok
  clear hok
  cases hkey : inB key 0 4
  · rw [chainRead_bad (by rw [hkey]; simp)]
    go_enter Try.func71, Try.ntmps71
    go_wp2_with (first | (go_at_call 49; refine (chainValid_any _ _ _ _ l _ H.out hn HG.out).mono ?_; rintro e w1 ⟨rfl, hb1⟩; rw [HO.out]; have B1 := Lib.hid (below_box hb1); clear hb1) | (go_at_call 69; refine (keyValid_any _ _).mono ?_; rintro e w' ⟨rfl, rfl⟩))
    go_ret2
    exact ⟨rfl, B1.out⟩
  rw [chainRead_ok (by rw [HO.out, hkey]; rfl)]
  obtain ⟨kk, rfl, hkk⟩ := inB_nat hkey
  have g := good_iff.1 HO.out
  have hpos : 0 < n := by have := g.2.2.1; have := HL.out; omega
  have LOK := Lib.hid (fun (x : Nod) (hx : x ∈ l) => nodeOk_log (g.2.2.2.2.1 x hx))
  have hk0 : (0 : Int) ≤ (kk : Int) := by omega
  have hk5 : (kk : Int) < 5 := by omega
  rw [told_vals]
  obtain ⟨v, hv⟩ : ∃ v, tailVal l kk = v := ⟨_, rfl⟩
  rw [hv]
  have HV := Lib.hid hv
  have nf := node_field1
  clear hv g
  go_enter Try.func71, Try.ntmps71
  go_wp2_with fail
  refine (chainValid_any _ _ _ _ l _ H.out hn HG.out).mono ?_
  rintro e w1 ⟨rfl, hb1⟩
  rw [HO.out]
  have B1 := Lib.hid (below_box hb1)
  have q0 := box_cell (i := 0) hb1 (v := .int .i64 view) rfl
  have q1 := box_cell (i := 1) hb1 (v := .slice A n c) rfl
  have F1 := Lib.hid (H1.out.on B1.out)
  clear hb1
  go_wp2_with (go_at_call 69; refine (keyValid_any _ _).mono ?_; rintro e w' ⟨rfl, rfl⟩)
  refine (tailOf_any _ _ _ _ l _ F1.out hn hpos).mono ?_
  rintro e w2 ⟨x, A', m, d, hx, rfl, hf, hb2⟩
  have hm := hf.len
  have hm20 : m ≤ 1048576 := by have := HG.out x (List.mem_of_getElem? hx); omega
  have B2 := Lib.hid (B1.out.trans (hb2.mono B1.out.size))
  have FX := Lib.hid (hf.on hb2)
  have hlx := LOK.out x (List.mem_of_getElem? hx)
  have e0 : stateOf x.log m = stAt x.log m := by simp [stateOf, hlx, inB]; omega
  have E0 := Lib.hid e0
  have hval := HV.out
  rw [tailVal_at HL.out hx, hm] at hval
  have HVAL := Lib.hid hval
  clear hb2 hx hf hm hlx e0 hval q0 q1
  go_wp2_with fail
  refine (stateOf_any _ _ _ x.log _ FX.out hm20).mono ?_
  rintro e w3 ⟨g, cc, rfl, hl1, hl2, hl3, hs3, hb3⟩
  rw [E0.out] at hs3 hl1 ⊢
  rw [stAt_len] at hl1 ⊢
  have B3 := Lib.hid (B2.out.trans (hb3.mono B2.out.size))
  obtain ⟨y, hy, hcy⟩ := hs3.at_ (show kk < (stAt x.log m).length by rw [stAt_len]; exact hkk)
  rw [stAt_at hkk] at hy
  injection hy with hy
  rw [HVAL.out] at hy
  subst hy
  clear hs3 hb3
  by_cases hneg : v < 0
  · go_wp2
    go_ret2
    exact ⟨by simp, B3.out⟩
  · go_wp2
    go_ret2
    exact ⟨by simp, B3.out⟩

set_option maxHeartbeats 4000000 in
theorem specChainRead_any (view : Int) (A : Option Addr) (n c : Nat) (l : List Nod) (key : Int) (w : World) (h : Nods w 0 w.heap.size A n c l) (hn : n ≤ 1048576) (hlog : ∀ x ∈ l, x.log.length ≤ 1048576) :
    Calls Try.prog 68 #[.agg #[.int .i64 view, .slice A n c], .int .i64 key] w fun e w' => e = .returned (.tuple #[.int .i64 (chainRead view l key).1, .bool (chainRead view l key).2]) ∧ Below w.heap.size w w' := by
  have HL := Lib.hid h.len
  have HG := Lib.hid hlog
  have H := Lib.hid (h.box (.cells #[.int .i64 view, .slice A n c] 33))
  have H1 := Lib.hid h
  clear h hlog
  cases hok : chainOk view l
  · rw [chainRead_bad (by rw [hok]; rfl)]
    have HO := Lib.hid hok
    clear hok
    go_enter Try.func68, Try.ntmps68
    go_wp2_with (go_at_call 47; refine (specChainValid_any _ _ _ _ l _ H.out hn HG.out).mono ?_; rintro e w1 ⟨rfl, hb1⟩; rw [HO.out]; have B1 := Lib.hid (below_box hb1); clear hb1)
    go_ret2
    exact ⟨rfl, B1.out⟩
  have HO := Lib.hid hok
  clear hok
  cases hkey : inB key 0 4
  · rw [chainRead_bad (by rw [hkey]; simp)]
    go_enter Try.func68, Try.ntmps68
    go_wp2_with (first | (go_at_call 47; refine (specChainValid_any _ _ _ _ l _ H.out hn HG.out).mono ?_; rintro e w1 ⟨rfl, hb1⟩; rw [HO.out]; have B1 := Lib.hid (below_box hb1); clear hb1) | (go_at_call 66; refine (l6In_any _ _ _ _).mono ?_; rintro e w' ⟨rfl, rfl⟩))
    go_ret2
    exact ⟨rfl, B1.out⟩
  rw [chainRead_ok (by rw [HO.out, hkey]; rfl)]
  obtain ⟨kk, rfl, hkk⟩ := inB_nat hkey
  have g := good_iff.1 HO.out
  have hpos : 0 < n := by have := g.2.2.1; have := HL.out; omega
  have hpos' : (1 : Int) ≤ (n : Int) := by omega
  have LOK := Lib.hid (fun (x : Nod) (hx : x ∈ l) => nodeOk_log (g.2.2.2.2.1 x hx))
  have hk0 : (0 : Int) ≤ (kk : Int) := by omega
  have hk5 : (kk : Int) < 5 := by omega
  rw [told_vals]
  obtain ⟨v, hv⟩ : ∃ v, tailVal l kk = v := ⟨_, rfl⟩
  rw [hv]
  have HV := Lib.hid hv
  clear hv g
  go_enter Try.func68, Try.ntmps68
  go_wp2_with fail
  refine (specChainValid_any _ _ _ _ l _ H.out hn HG.out).mono ?_
  rintro e w1 ⟨rfl, hb1⟩
  rw [HO.out]
  have B1 := Lib.hid (below_box hb1)
  have q0 := box_cell (i := 0) hb1 (v := .int .i64 view) rfl
  have q1 := box_cell (i := 1) hb1 (v := .slice A n c) rfl
  have s1 : w.heap.size < w1.heap.size := by have := hb1.size; simp at this; omega
  obtain ⟨b, off, x, A', m, d, rfl, _, hbB, hx, c0, c1, c2, hf⟩ := (H1.out.on B1.out).nod (show n - 1 < n by omega)
  have hm := hf.len
  have hm20 : m ≤ 1048576 := by have := HG.out x (List.mem_of_getElem? hx); omega
  have hlx := LOK.out x (List.mem_of_getElem? hx)
  have FX := Lib.hid (hf.box (.cells #[.int .i64 x.id, .slice A' m d, .int .i64 x.done] 57))
  have hval := HV.out
  rw [tailVal_at HL.out hx, hm] at hval
  have HVAL := Lib.hid hval
  have HLX := Lib.hid hlx
  have XB := Lib.hid (Blk.new w1 #[.int .i64 x.id, .slice A' m d, .int .i64 x.done] 57)
  clear hb1 hx hf hm hlx hval
  go_wp2_with (go_at_call 66; refine (l6In_any _ _ _ _).mono ?_; rintro e w' ⟨rfl, rfl⟩)
  refine (l2At_any _ _ _ x.log m _ FX.out hm20 HLX.out (Nat.le_refl _)).mono ?_
  rintro e w3 ⟨g, cc, rfl, hl1, hl2, hl3, hs3, hb3⟩
  rw [stAt_len] at hl1 ⊢
  have B3 := Lib.hid (B1.out.trans ((below_box hb3).mono B1.out.size))
  obtain ⟨y, hy, hcy⟩ := hs3.at_ (show kk < (stAt x.log m).length by rw [stAt_len]; exact hkk)
  rw [stAt_at hkk] at hy
  injection hy with hy
  rw [HVAL.out] at hy
  subst hy
  clear hs3 hb3
  by_cases hneg : v < 0
  · go_wp2
    go_ret2
    exact ⟨by simp, B3.out⟩
  · go_wp2
    go_ret2
    exact ⟨by simp, B3.out⟩
end Go.Proofs.Ytnbakpdphfdacaa
