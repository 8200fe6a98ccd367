/- What a node of a chain tells of a key: impl.ChainReadAt, spec.ChainReadAt. -/
import Derived.Test.YtnbakpdphfdacaaRead
import Derived.Test.YtnbakpdphfdacaaNodeE
namespace Go.Proofs.Ytnbakpdphfdacaa
open Go.RowKit

set_option maxHeartbeats 4000000 in
theorem chainReadAt_any (view : Int) (A : Option Addr) (n c : Nat) (l : List Nod) (id key : Int) (w : World) (h : Nods w 0 w.heap.size A n c l) (hn : n ≤ 1048576) (hlog : ∀ x ∈ l, x.log.length ≤ 1048576) :
    Calls Try.prog 34 #[.agg #[.int .i64 view, .slice A n c], .int .i64 id, .int .i64 key] w fun e w' => e = .returned (.tuple #[.int .i64 (chainReadAt view l id key).1, .int .i64 (chainReadAt view l id key).2]) ∧ Below w.heap.size w w' := by
  have HL := Lib.hid h.len
  have HG := Lib.hid hlog
  have H := Lib.hid (h.box (.cells #[.int .i64 view, .slice A n c] 33))
  have H1 := Lib.hid h
  clear h hlog
  obtain ⟨a1, ha1⟩ : ∃ a1, (chainReadAt view l id key).1 = a1 := ⟨_, rfl⟩
  obtain ⟨a2, ha2⟩ : ∃ a2, (chainReadAt view l id key).2 = a2 := ⟨_, rfl⟩
  rw [ha1, ha2]
  have RA := Lib.hid (show chainReadAt view l id key = (a1, a2) by rw [← ha1, ← ha2])
  clear ha1 ha2
  obtain ⟨ok, hok⟩ : ∃ ok, chainOk view l = ok := ⟨_, rfl⟩
  obtain ⟨kb, hkb⟩ : ∃ kb, inB key 0 4 = kb := ⟨_, rfl⟩
  have HO := Lib.hid hok
  have HK := Lib.hid hkb
  obtain ⟨pl, hpl⟩ : ∃ pl, placeI (placeOf l id) = pl := ⟨_, rfl⟩
  have HPL := Lib.hid hpl
  have bad : (ok && kb) = false ∨ ((ok && kb) = true ∧ pl < 0) → a1 = 0 ∧ a2 = 3 := fun h => by
    have e : chainReadAt view l id key = (0, 3) := by
      rcases h with h | ⟨_, h⟩
      · exact readAt_bad (by rw [hok, hkb]; exact h)
      · cases hp : placeOf l id with
        | none => exact readAt_none hp
        | some k => rw [hp] at hpl; rw [← hpl] at h; simp [placeI] at h; omega
    rw [RA.out] at e; injection e with e1 e2; exact ⟨e1, e2⟩
  have BAD := Lib.hid bad
  clear hok hkb hpl bad
  go_enter Try.func34, Try.ntmps34
  go_wp2_with fail
  refine (chainValid_any _ _ _ _ l _ H.out hn HG.out).mono ?_
  rintro e w1 ⟨rfl, hb1⟩
  rw [HO.out]
  have B1 := Lib.hid (below_box hb1)
  have K1 := Lib.hid ((Blk.new w #[.int .i64 view, .slice A n c] 33).below hb1)
  have q0 := K1.out.cell (i := 0) (v := .int .i64 view) rfl
  have q1 := K1.out.cell (i := 1) (v := .slice A n c) rfl
  have F1 := Lib.hid (H1.out.on B1.out)
  clear hb1
  cases ok
  · obtain ⟨rfl, rfl⟩ := BAD.out (.inl rfl)
    go_wp2
    go_ret2
    exact ⟨rfl, B1.out⟩
  cases kb
  · obtain ⟨rfl, rfl⟩ := BAD.out (.inl rfl)
    go_wp2_with (go_at_call 69; refine (keyValid_any _ _).mono ?_; rintro e w' ⟨rfl, rfl⟩; rw [HK.out])
    go_ret2
    exact ⟨rfl, B1.out⟩
  go_wp2_with (go_at_call 69; refine (keyValid_any _ _).mono ?_; rintro e w' ⟨rfl, rfl⟩; rw [HK.out])
  refine (chainPlace_any _ _ _ _ l _ _ F1.out hn).mono ?_
  rintro e w2 ⟨rfl, hb2⟩
  rw [HPL.out]
  have B2 := Lib.hid (B1.out.trans (hb2.mono B1.out.size))
  have K2 := Lib.hid (K1.out.below hb2)
  clear hb2 q0 q1 K1 F1
  by_cases hneg : pl < 0
  · obtain ⟨rfl, rfl⟩ := BAD.out (.inr ⟨rfl, hneg⟩)
    go_wp2
    go_ret2
    exact ⟨rfl, B2.out⟩
  obtain ⟨k, hk, rfl⟩ : ∃ k, placeOf l id = some k ∧ pl = (k : Int) := by
    have := HPL.out
    cases hp : placeOf l id with
    | none => rw [hp] at this; simp [placeI] at this; omega
    | some k => rw [hp] at this; exact ⟨k, rfl, this.symm⟩
  have hkn : k < n := by have := placeOf_lt hk; have := HL.out; omega
  have hkn' : (k : Int) < (n : Int) := by omega
  have q0 := K2.out.cell (i := 0) (v := .int .i64 view) rfl
  have q1 := K2.out.cell (i := 1) (v := .slice A n c) rfl
  have s2 : w.heap.size < w2.heap.size := K2.out.lt
  obtain ⟨b, off, x, A', m, d, rfl, _, hbB, hx, c0, c1, c2, hf⟩ := (H1.out.on B2.out).nod hkn
  have hm20 : m ≤ 1048576 := by have := hf.len; have := HG.out x (List.mem_of_getElem? hx); omega
  have HF := Lib.hid hf
  have hra := readAt_node (key := key) (by rw [HO.out, HK.out]; rfl) hk hx
  rw [RA.out] at hra
  obtain ⟨v1, hv1⟩ : ∃ v1, (nodeRead x key).1 = v1 := ⟨_, rfl⟩
  obtain ⟨d1, hd1⟩ : ∃ d1, (nodeRead x key).2 = d1 := ⟨_, rfl⟩
  have HV1 := Lib.hid hv1
  have HD1 := Lib.hid hd1
  have hnr : nodeRead x key = (v1, d1) := by rw [← hv1, ← hd1]
  rw [hnr] at hra
  have HRA := Lib.hid hra
  clear hk hx hf hra hv1 hd1 hnr hneg
  go_wp2_with fail
  refine (nodeRead_any x key _ _ _ _ HF.out hm20).mono ?_
  rintro e w3 ⟨rfl, hb3⟩
  rw [HV1.out, HD1.out]
  have B3 := Lib.hid (B2.out.trans (hb3.mono B2.out.size))
  have K3 := Lib.hid (K2.out.below hb3)
  have F3 := Lib.hid (H1.out.on B3.out)
  clear hb3 q0 q1 c0 c1 c2 K2
  have q0 := K3.out.cell (i := 0) (v := .int .i64 view) rfl
  have q1 := K3.out.cell (i := 1) (v := .slice (some ⟨b, off, none⟩) n c) rfl
  by_cases h1 : d1 = 1
  · subst h1
    have hra := HRA.out
    simp only [if_true] at hra
    obtain ⟨v2, hv2⟩ : ∃ v2, (chainRead view l key).1 = v2 := ⟨_, rfl⟩
    obtain ⟨b2, hb2'⟩ : ∃ b2, (chainRead view l key).2 = b2 := ⟨_, rfl⟩
    rw [hv2, hb2'] at hra
    have HV2 := Lib.hid hv2
    have HB2 := Lib.hid hb2'
    have HR := Lib.hid hra
    clear hra hv2 hb2'
    go_wp2_with fail
    refine (chainRead_any view _ _ _ l key _ F3.out hn HG.out).mono ?_
    rintro e w4 ⟨rfl, hb4⟩
    rw [HV2.out, HB2.out]
    have B4 := Lib.hid (B3.out.trans (hb4.mono B3.out.size))
    clear hb4 q0 q1
    cases b2
    · have hr := HR.out
      simp at hr
      obtain ⟨rfl, rfl⟩ := hr
      go_wp2
      go_ret2
      exact ⟨rfl, B4.out⟩
    · have hr := HR.out
      simp at hr
      obtain ⟨rfl, rfl⟩ := hr
      go_wp2
      go_ret2
      exact ⟨rfl, B4.out⟩
  · have hra := HRA.out
    rw [if_neg h1] at hra
    injection hra with e1 e2
    subst e1; subst e2
    have hne : (a2 != 1) = true := by simp [h1]
    clear h1
    go_wp2
    go_ret2
    exact ⟨rfl, B3.out⟩

set_option maxHeartbeats 4000000 in
theorem specChainReadAt_any (view : Int) (A : Option Addr) (n c : Nat) (l : List Nod) (id key : Int) (w : World) (h : Nods w 0 w.heap.size A n c l) (hn : n ≤ 1048576) (hlog : ∀ x ∈ l, x.log.length ≤ 1048576) :
    Calls Try.prog 33 #[.agg #[.int .i64 view, .slice A n c], .int .i64 id, .int .i64 key] w fun e w' => e = .returned (.tuple #[.int .i64 (chainReadAt view l id key).1, .int .i64 (chainReadAt view l id key).2]) ∧ Below w.heap.size w w' := by
  have HL := Lib.hid h.len
  have HG := Lib.hid hlog
  have H := Lib.hid (h.box (.cells #[.int .i64 view, .slice A n c] 33))
  have H1 := Lib.hid h
  clear h hlog
  obtain ⟨a1, ha1⟩ : ∃ a1, (chainReadAt view l id key).1 = a1 := ⟨_, rfl⟩
  obtain ⟨a2, ha2⟩ : ∃ a2, (chainReadAt view l id key).2 = a2 := ⟨_, rfl⟩
  rw [ha1, ha2]
  have RA := Lib.hid (show chainReadAt view l id key = (a1, a2) by rw [← ha1, ← ha2])
  clear ha1 ha2
  obtain ⟨ok, hok⟩ : ∃ ok, chainOk view l = ok := ⟨_, rfl⟩
  obtain ⟨kb, hkb⟩ : ∃ kb, inB key 0 4 = kb := ⟨_, rfl⟩
  have HO := Lib.hid hok
  have HK := Lib.hid hkb
  obtain ⟨pl, hpl⟩ : ∃ pl, placeI (placeOf l id) = pl := ⟨_, rfl⟩
  have HPL := Lib.hid hpl
  have bad : (ok && kb) = false ∨ pl < 0 → a1 = 0 ∧ a2 = 3 := fun h => by
    have e : chainReadAt view l id key = (0, 3) := by
      rcases h with h | h
      · exact readAt_bad (by rw [hok, hkb]; exact h)
      · cases hp : placeOf l id with
        | none => exact readAt_none hp
        | some k => rw [hp] at hpl; rw [← hpl] at h; simp [placeI] at h; omega
    rw [RA.out] at e; injection e with e1 e2; exact ⟨e1, e2⟩
  have BAD := Lib.hid bad
  clear hok hkb hpl bad
  go_enter Try.func33, Try.ntmps33
  go_wp2_with fail
  refine (l11At_any _ _ _ _ l _ _ H.out hn).mono ?_
  rintro e w1 ⟨rfl, hb1⟩
  rw [HPL.out]
  have B1 := Lib.hid (below_box hb1)
  have K1 := Lib.hid ((Blk.new w #[.int .i64 view, .slice A n c] 33).below hb1)
  have q0 := K1.out.cell (i := 0) (v := .int .i64 view) rfl
  have q1 := K1.out.cell (i := 1) (v := .slice A n c) rfl
  have F1 := Lib.hid (H1.out.on B1.out)
  clear hb1
  go_wp2_with fail
  refine (specChainValid_any _ _ _ _ l _ F1.out hn HG.out).mono ?_
  rintro e w2 ⟨rfl, hb2⟩
  rw [HO.out]
  have B2 := Lib.hid (B1.out.trans (hb2.mono B1.out.size))
  have K2 := Lib.hid (K1.out.below hb2)
  clear hb2 q0 q1 K1 F1
  cases ok
  · obtain ⟨rfl, rfl⟩ := BAD.out (.inl rfl)
    go_wp2
    go_ret2
    exact ⟨rfl, B2.out⟩
  by_cases hneg : pl < 0
  · obtain ⟨rfl, rfl⟩ := BAD.out (.inr hneg)
    go_wp2
    go_ret2
    exact ⟨rfl, B2.out⟩
  cases kb
  · obtain ⟨rfl, rfl⟩ := BAD.out (.inl rfl)
    go_wp2_with (go_at_call 66; refine (l6In_any _ _ _ _).mono ?_; rintro e w' ⟨rfl, rfl⟩; rw [HK.out])
    go_ret2
    exact ⟨rfl, B2.out⟩
  obtain ⟨k, hk, rfl⟩ : ∃ k, placeOf l id = some k ∧ pl = (k : Int) := by
    have := HPL.out
    cases hp : placeOf l id with
    | none => rw [hp] at this; simp [placeI] at this; omega
    | some k => rw [hp] at this; exact ⟨k, rfl, this.symm⟩
  have hkn : k < n := by have := placeOf_lt hk; have := HL.out; omega
  have hkn' : (k : Int) < (n : Int) := by omega
  have q0 := K2.out.cell (i := 0) (v := .int .i64 view) rfl
  have q1 := K2.out.cell (i := 1) (v := .slice A n c) rfl
  have s2 : w.heap.size < w2.heap.size := K2.out.lt
  obtain ⟨b, off, x, A', m, d, rfl, _, hbB, hx, c0, c1, c2, hf⟩ := (H1.out.on B2.out).nod hkn
  have hm20 : m ≤ 1048576 := by have := hf.len; have := HG.out x (List.mem_of_getElem? hx); omega
  have HF := Lib.hid hf
  have hra := readAt_node (key := key) (by rw [HO.out, HK.out]; rfl) hk hx
  rw [RA.out] at hra
  obtain ⟨v1, hv1⟩ : ∃ v1, (nodeRead x key).1 = v1 := ⟨_, rfl⟩
  obtain ⟨d1, hd1⟩ : ∃ d1, (nodeRead x key).2 = d1 := ⟨_, rfl⟩
  have HV1 := Lib.hid hv1
  have HD1 := Lib.hid hd1
  have hnr : nodeRead x key = (v1, d1) := by rw [← hv1, ← hd1]
  rw [hnr] at hra
  have HRA := Lib.hid hra
  clear hk hx hf hra hv1 hd1 hnr hneg
  go_wp2_with ((go_at_call 66; refine (l6In_any _ _ _ _).mono ?_; rintro e w' ⟨rfl, rfl⟩; rw [HK.out]))
  refine (specNodeRead_any x key _ _ _ _ HF.out hm20).mono ?_
  rintro e w3 ⟨rfl, hb3⟩
  rw [HV1.out, HD1.out]
  have B3 := Lib.hid (B2.out.trans (hb3.mono B2.out.size))
  have K3 := Lib.hid (K2.out.below hb3)
  have F3 := Lib.hid (H1.out.on B3.out)
  clear hb3 q0 q1 c0 c1 c2 K2
  have q0 := K3.out.cell (i := 0) (v := .int .i64 view) rfl
  have q1 := K3.out.cell (i := 1) (v := .slice (some ⟨b, off, none⟩) n c) rfl
  by_cases h1 : d1 = 1
  · subst h1
    have hra := HRA.out
    simp only [if_true] at hra
    obtain ⟨v2, hv2⟩ : ∃ v2, (chainRead view l key).1 = v2 := ⟨_, rfl⟩
    obtain ⟨b2, hb2'⟩ : ∃ b2, (chainRead view l key).2 = b2 := ⟨_, rfl⟩
    rw [hv2, hb2'] at hra
    have HV2 := Lib.hid hv2
    have HB2 := Lib.hid hb2'
    have HR := Lib.hid hra
    clear hra hv2 hb2'
    go_wp2_with fail
    refine (specChainRead_any view _ _ _ l key _ F3.out hn HG.out).mono ?_
    rintro e w4 ⟨rfl, hb4⟩
    rw [HV2.out, HB2.out]
    have B4 := Lib.hid (B3.out.trans (hb4.mono B3.out.size))
    clear hb4 q0 q1
    cases b2
    · have hr := HR.out
      simp at hr
      obtain ⟨rfl, rfl⟩ := hr
      go_wp2
      go_ret2
      exact ⟨rfl, B4.out⟩
    · have hr := HR.out
      simp at hr
      obtain ⟨rfl, rfl⟩ := hr
      go_wp2
      go_ret2
      exact ⟨rfl, B4.out⟩
  · have hra := HRA.out
    rw [if_neg h1] at hra
    injection hra with e1 e2
    subst e1; subst e2
    have hne : (a2 != 1) = true := by simp [h1]
    clear h1
    go_wp2
    go_ret2
    exact ⟨rfl, B3.out⟩

end Go.Proofs.Ytnbakpdphfdacaa
