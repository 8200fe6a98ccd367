/- Texts of this claim, joined: CrewF PassS PassN PassQ Model PassR PassT PassV CrewG PassX PassY PassZ PassK PassO GoodRun. -/
import Derived.Conc.WgWords
import Derived.Test.YtemgilofjbnoaaaGreatDoorChecked
import Derived.Test.YtemgilofjbnoaaaGreatDoorWA2
namespace Go.Proofs.YtemgilofjbnoaaaGreatDoor
open Go Go.Conc Go.ConcN
open Go.ConcR (KK wgBlock WgAt stA smA rd wr mk Payload Aside2 DC0 Bk g_of_ofEvents)
set_option linter.unusedVariables false
set_option linter.unusedSimpArgs false
set_option linter.unusedSectionVars false
variable [Payload]
section
variable {K : Crew} {Anch : Goroutine → World → Prop} {WB : World → Prop} {w w' : World}
  {gs gs' : Array Goroutine} {sl : Option (Nat × Nat)} {t u : Trace} {D D' : Nat → WD} {d0 : Nat} {q : Nat → Nat} {tag tag' : MTag} {f0 f' : Nat} {a a' : Goroutine} {st sm st' sm' : Int}
theorem ComC.at (G : Good3 K Anch WB) (h : ComC K gs w t D d0 q) (d : Nat) : ComC K gs (w.at d) t D d0 q :=
  ⟨h.long, h.size, h.pos, fun i hi => (h.wk i hi).rely (fun _ _ => RA.at w d) (fun _ _ => RB.at w d) (fun _ => RW.at w d) (fun _ _ => G.keeps _ _ (RB.at w d).b), h.lv, h.above, h.t3, h.norel, h.deaf0, h.deafW, h.rel, h.pay, h.joint, h.chan⟩
theorem awake_all (G : Good3 K Anch WB) (ha : gs[0]? = some a) (hms : MSit K Anch WB tag f0 d0 a w) (hne : tag ≠ .ret) (hcom : ComC K gs w t D d0 q) : ∀ g ∈ gs, awake g := by
  intro g hg
  obtain ⟨i, hi⟩ := Array.mem_iff_getElem?.1 hg
  have hpos := hcom.pos
  rcases Nat.eq_zero_or_pos i with rfl | h0
  · rw [ha] at hi; cases hi
    rcases hms.status G.anr hne with ⟨hs, _⟩ | ⟨hs, _⟩
    · exact awake_of (.inl hs)
    · exact awake_of (.inr (.inl hs))
  · by_cases hk : i < K.ka
    · exact awake_of ((hcom.lv i g h0 hk hi).status.elim .inl fun x => .inr (.inr x))
    · have hlt := (Array.getElem?_eq_some_iff.1 hi).1
      rw [hcom.size] at hlt
      have h2 : i - K.ka < 2 := by split at hlt <;> omega
      have hs := hcom.wk (i - K.ka) h2
      rw [show K.ka + (i - K.ka) = i by omega, hi] at hs
      rcases hs.status with (h | h) | ⟨h, _⟩
      · exact awake_of (.inl h)
      · exact awake_of (.inr (.inr h))
      · exact awake_of (.inr (.inl h))
theorem someone (G : Good3 K Anch WB) (ha : gs[0]? = some a) (hms : MSit K Anch WB tag f0 d0 a w) (hne : tag ≠ .ret) (hcom : ComC K gs w t D d0 q) (htag : (D 1).stage = 13 ↔ tag = .goB) (hmode : ConcN.Mode 2 (md D) (ctag tag) st sm) :
    ∃ (i : Nat) (g : Goroutine), gs[i]? = some g ∧ g.status = .running := by
  rcases hms.status G.anr hne with ⟨hs, _⟩ | ⟨_, _, rfl⟩
  · exact ⟨0, a, ha, hs⟩
  have h13 : (D 1).stage ≠ 13 := fun e => by have := htag.1 e; cases this
  have hjo := hcom.joint
  simp only [Joint] at hjo
  have run : ∀ i, i < 2 → (D i).stage ≠ 1 → (D i).stage ≠ 11 → (D i).stage ≠ 9 → (D i).stage ≠ 13 → ∃ (i : Nat) (g : Goroutine), gs[i]? = some g ∧ g.status = .running := by
    intro i hi h1 h2 h3 h4
    have hs := hcom.wk i hi
    obtain ⟨o, ho⟩ := hs.there h4
    rw [ho] at hs
    exact ⟨_, o, ho, hs.running h1 h2 h3⟩
  cases hmode with
  | opn h1 _ _ => exact h1.elim
  | reg _ _ h3 =>
    obtain ⟨i, hi, h5⟩ := exists_counted h3
    simp only [md] at h5
    rcases two hi with rfl | rfl
    · by_cases e : (D 0).stage = 11
      · exact run 1 (by omega) (by omega) (by omega) (by omega) h13
      · exact run 0 hi (by omega) e (by omega) (by omega)
    · by_cases e : (D 1).stage = 11 ∨ (D 1).stage = 9
      · exact run 0 (by omega) (by omega) (by omega) (by omega) (by omega)
      · exact run 1 hi (by omega) (by omega) (by omega) h13
  | last L _ h2 h3 _ =>
    simp only [md] at h3
    exact run L h2 (by omega) (by omega) (by omega) (by rcases two h2 with rfl | rfl <;> omega)
  | fin h1 _ => exact h1.elim
theorem stepWk (G : Good3 K Anch WB) (ha : gs[0]? = some a) (hms : MSit K Anch WB tag f0 d0 a w) (hne : tag ≠ .ret) (hcom : ComC K gs w t D d0 q) (htag : (D 1).stage = 13 ↔ tag = .goB) (hWB : tag = .goB → WB w)
    (hwg : WgAt K.ty K.Wg w st sm) (hmode : ConcN.Mode 2 (md D) (ctag tag) st sm) {i : Nat} (hi : i < 2) {g : Goroutine} (hg : gs[K.ka + i]? = some g) (hrun : g.status = .running) :
    ∃ m₁ ops μ', runT K.P (crowd gs w sl) (K.ka + i) = (.next m₁, ops) ∧ Lt2 μ' (rankC D tag, fuelC K D f0 q) ∧ InvC K Anch WB μ' m₁ (t ++ ops) := by
  have hs := hcom.wk i hi
  have hpay := hcom.pay
  rw [hg] at hs
  have hDi : D i = ⟨(D i).stage, (D i).fuel, (D i).deaf⟩ := rfl
  generalize hst : (D i).stage = s at hs hDi
  generalize hfu : (D i).fuel = m at hs hDi
  generalize hde : (D i).deaf = dd at hs hDi
  have nb : i = 1 → s ≠ 13 → tag ≠ .goB := fun e h e2 => by subst e; exact h (hst ▸ htag.2 e2)
  cases hs with
  | a12 h =>
    rcases Goes.cases h with hstop | ⟨m', rfl, hstep⟩
    · exact stepSend G ha hms hne hcom htag hWB hwg hmode hg hDi rfl (hstop w (RA.refl w))
    · obtain ⟨g', w', es, hgo, ⟨rfl, hev⟩, hg'⟩ := hstep w (RA.refl w)
      exact idleH G ha hms hne hcom htag hWB hwg hmode hi hg (by omega) hde hgo (by rw [hst]; exact .a12 hg') hfu.symm (fun e => by omega) (RW.refl _) (fun _ => rfl) (fun e => by omega) hpay rfl rfl hev
  | a11 h => cases hrun
  | a10 h =>
    rcases Goes.cases h with hstop | ⟨m', rfl, hstep⟩
    · exact stepClose G ha hms hne hcom htag hWB hwg hmode hg hDi rfl (hstop w (RA.refl w))
    · obtain ⟨g', w', es, hgo, ⟨rfl, hev⟩, hg'⟩ := hstep w (RA.refl w)
      exact idleH G ha hms hne hcom htag hWB hwg hmode hi hg (by omega) hde hgo (by rw [hst]; exact .a10 hg') hfu.symm (fun e => by omega) (RW.refl _) (fun _ => rfl) (fun e => by omega) hpay rfl rfl hev
  | b12 h =>
    rcases Goes.cases h with hstop | ⟨m', rfl, hstep⟩
    · exact stepRecv1 G ha hms hne hcom htag hWB hwg hmode hg hDi rfl (hstop w (RB.refl w))
    · obtain ⟨g', w', es, hgo, hD, hg'⟩ := hstep w (RB.refl w)
      exact idleH G ha hms hne hcom htag hWB hwg hmode hi hg (by omega) hde hgo (by rw [hst]; exact .b12 hg') hfu.symm (fun _ => RA.of_db hD) (RW.of_db hD 0) (fun e => by omega) (fun e => nb e (by omega)) (PayAt.of_block hD.x hpay) hD.wg hD.ch hD.ev
  | b11 h => cases hrun
  | b10 h =>
    rcases Goes.cases h with hstop | ⟨m', rfl, hstep⟩
    · exact stepRecv2 G ha hms hne hcom htag hWB hwg hmode hg (.inl rfl) (.inl hst) hde hstop
    · obtain ⟨g', w', es, hgo, hD, hg'⟩ := hstep w (RB.refl w)
      exact idleH G ha hms hne hcom htag hWB hwg hmode hi hg (by omega) hde hgo (by rw [hst]; exact .b10 hg') hfu.symm (fun _ => RA.of_db hD) (RW.of_db hD 0) (fun e => by omega) (fun e => nb e (by omega)) (PayAt.of_block hD.x hpay) hD.wg hD.ch hD.ev
  | b9 h => cases hrun
  | @b8 g0 _ h => exact stepRecv2 (g := g0) G ha hms hne hcom htag hWB hwg hmode hg (.inr ⟨_, rfl⟩) (.inr hst) hde h
  | low _ hs7 h hF => exact stepLow G ha hms hne hcom htag hWB hwg hmode hi hg hrun hDi hs7 h hF
theorem crew (G : Good3 K Anch WB) : ∀ (μ : Nat × Nat) (m : Machine) (t : Trace), InvC K Anch WB μ m t →
    ∃ (N : Nat) (gs' : Array Goroutine) (w' : World) (sl' : Option (Nat × Nat)) (t' : Trace) (q' : Nat → Nat) (a' : Goroutine), runNT K.P N m t = (.next (crowd gs' w' sl'), t') ∧ gs'[0]? = some a' ∧ K.Nx a' ∧ Leavers K.P t' gs' q' ∧
      PastD (fun l => K.fam.Shun l ∨ K.fam.Sh l) 0 t' ∧ K.F w' ∧ WgLive K.ty K.Wg w' ∧ ChLive K.Ch w' ∧ PayAt K.X 2 w' := by
  intro μ
  induction μ using (Prod.lex Nat.lt_wfRel Nat.lt_wfRel).wf.induction with
  | _ μ ih =>
    rintro m t ⟨gs, w, sl, D, tag, f0, d0, q, a, st, sm, rfl, ha, hms, hcom, hwg, hmode, htag, hWB, hacq, rfl⟩
    by_cases hne : tag = .ret
    · subst hne
      obtain ⟨hq, rfl, rfl⟩ := Mode.fin_inv hmode trivial
      have hpos := hcom.pos
      have h1 : ∀ i, i < 2 → (D i).stage = 1 := fun i hi => by
        have := hq i hi
        simp only [md] at this
        omega
      have hd0 : d0 = 0 := by cases hms; rfl
      have hnx : K.Nx a := by cases hms with | ret h => exact h
      have hquit : ∀ i, i < 2 → ∃ g, gs[K.ka + i]? = some g ∧ QuitsD K.P (D i).fuel (Deaf t (K.ka + i)) g ∧ (i = 1 → K.F w) := by
        intro i hi
        have hs := hcom.wk i hi
        obtain ⟨g, hg⟩ := hs.there (by have := h1 i hi; omega)
        rw [hg] at hs
        refine ⟨g, hg, ?_⟩
        rw [hcom.deafW i hi]
        rw [h1 i hi] at hs
        generalize (D i).fuel = m at hs ⊢
        generalize (D i).deaf = d at hs ⊢
        cases hs with
        | low _ _ h hF => exact ⟨WSit.quits h rfl, hF⟩
      obtain ⟨g1, hg1, hq1, hF1⟩ := hquit 1 (by omega)
      obtain ⟨cl, s, r, hc, _⟩ := hcom.chan
      refine ⟨0, gs, w, sl, t, fun i => if i < K.ka then q i else (D (i - K.ka)).fuel, a, rfl, ha, hnx, ⟨fun i g hi hg => ?_, hcom.above⟩, hcom.t3.past (hacq rfl) hcom.norel (by rw [hcom.deaf0, hd0]) (fun _ => .inl) (fun _ => .inr), hF1 rfl, ⟨_, _, hwg⟩, ⟨_, _, _, hc⟩, hcom.pay⟩
      by_cases hk : i < K.ka
      · simp only [hk, if_true]
        exact hcom.lv i g hi hk hg
      · simp only [hk, if_false]
        have hlt := (Array.getElem?_eq_some_iff.1 hg).1
        rw [hcom.size] at hlt
        have h2 : i - K.ka < 2 := by split at hlt <;> omega
        obtain ⟨g', hg', hq', _⟩ := hquit (i - K.ka) h2
        rw [show K.ka + (i - K.ka) = i by omega] at hg' hq'
        rw [hg] at hg'; cases hg'
        exact hq'
    · obtain ⟨i, g, d, sl', hg, hrun, hstep⟩ := crowd_pick (P := K.P) (w := w) (sl := sl) (awake_all G ha hms hne hcom) (someone G ha hms hne hcom htag hmode)
      have hms' := hms.rely (w' := w.at d) (fun h => h)
      have hcom' := hcom.at G d
      have hwg' : WgAt K.ty K.Wg (w.at d) st sm := hwg
      have hWB' : tag = .goB → WB (w.at d) := fun e => G.wb _ _ (RB.at w d) (hWB e)
      have key : ∃ m₁ ops μ', runT K.P (crowd gs (w.at d) sl') i = (.next m₁, ops) ∧ Lt2 μ' (rankC D tag, fuelC K D f0 q) ∧ InvC K Anch WB μ' m₁ (t ++ ops) := by
        rcases Nat.eq_zero_or_pos i with rfl | h0
        · rw [ha] at hg; cases hg
          exact stepM G ha hms' hne hcom' htag hWB' hwg' hmode hrun
        · by_cases hk : i < K.ka
          · exact stepLv G ha hms' hne hcom' htag hWB' hwg' hmode h0 hk hg hrun
          · have hlt := (Array.getElem?_eq_some_iff.1 hg).1
            rw [hcom.size] at hlt
            have h2 : i - K.ka < 2 := by split at hlt <;> omega
            have e : K.ka + (i - K.ka) = i := by omega
            have := stepWk (sl := sl') G ha hms' hne hcom' htag hWB' hwg' hmode h2 (by rw [e]; exact hg) hrun
            rwa [e] at this
      obtain ⟨m₁, ops, μ', h1, h2, h3⟩ := key
      obtain ⟨N, gs', w', sl'', t', q', a', r1, r2⟩ := ih μ' h2 m₁ (t ++ ops) h3
      exact ⟨N + 1, gs', w', sl'', t', q', a', by rw [runNT_succ_next (hstep.trans h1)]; exact r1, r2⟩
end
end Go.Proofs.YtemgilofjbnoaaaGreatDoor
namespace Go.Proofs.YtemgilofjbnoaaaGreatDoor
open Go Go.Conc Go.ConcN Go.RowKit Go.Conc.Lib Go.ConcR.Gen Go.ConcN.Gen
open Go.ConcR (KK wgBlock WgAt stA smA rd wr mk Payload Aside2 DC0)
set_option linter.unusedVariables false
set_option linter.unusedSimpArgs false
instance : Payload := ⟨28⟩
noncomputable abbrev crewK (Wg Ch X L ka : Nat) (fam : Fam) (val0 : Nat → Value) (v : Value) (F : World → Prop) (n0 : Nat) (Nx : Goroutine → Prop) : Crew :=
  { P := Tryz.prog, ty := 179, Wg, Ch, X, L, ka, fam, val0, v, z := .agg #[.int .i64 0, .int .i64 0], zs := .tuple #[], F, n0, Nx }
noncomputable def bot : Frame := { (default : Frame) with fn := Tryz.prog.funcs.size, defers := [], mode := .panicking [goexitEntry] }
abbrev ptr (b : Nat) : Value := .pointer (some ⟨b, 0, none⟩)
section
variable {Wg Ch X L ka : Nat} {fam : Fam} {val0 : Nat → Value} {v : Value} {F : World → Prop} {n0 : Nat} {Nx : Goroutine → Prop}
theorem da_none (w : World) : DA (crewK Wg Ch X L ka fam val0 v F n0 Nx) w w #[] := ⟨rfl, by simp⟩
theorem evK_read {K : Crew} {i : Nat} {ad : Addr} (h : K.fam.Rd (K.ka + i) (.cell ad)) : EvK K i ⟨.cell ad, false, false⟩ := by
  refine ⟨fun x hx => ?_, by simp, by simp, by simp⟩
  simp only [MemAct.ofEvent, MemAct.touch?, Option.some.injEq] at hx
  subst hx
  exact .inr ⟨h, rfl⟩
structure KA (Wg Ch X L : Nat) (x0 x1 : Value) (w : World) : Prop where
  l : w.heap[L]? = some (.cells #[.chan (some Ch)] 171)
  x : w.heap[X]? = some (.cells #[x0, x1] 28)
  live : WgLive 179 Wg w
variable {x0 x1 : Value} {w w₁ : World}
theorem KA.rely (h : KA Wg Ch X L x0 x1 w) (r : RA (crewK Wg Ch X L ka fam val0 v F n0 Nx) w w₁) : KA Wg Ch X L x0 x1 w₁ := ⟨r.l.trans h.l, r.x.trans h.x, r.live h.live⟩
theorem KA.cellL (h : KA Wg Ch X L x0 x1 w) : w.cell? ⟨L, 0, none⟩ = some (.chan (some Ch)) := by simp [World.cell?, h.l]
theorem KA.cell0 (h : KA Wg Ch X L x0 x1 w) : w.cell? ((⟨X, 0, none⟩ : Addr).add 0) = some x0 := by simp [Addr.add, World.cell?, h.x]
theorem KA.cell1 (h : KA Wg Ch X L x0 x1 w) : w.cell? ((⟨X, 0, none⟩ : Addr).add 1) = some x1 := by simp [Addr.add, World.cell?, h.x]
theorem tailA (T : Array Value) : QuitsD Tryz.prog 2 0 (G { (baseD 133).at ⟨T, []⟩ [] with mode := .returning } [bot]) := by
  refine QuitsD.ctl (g' := G bot []) rfl (fun w => ?_) ?_
  · simp [G, stepG, unwind, doReturn, results, Frame.at, baseD, bot, Tryz.func133, Tryz.f133, seen, GStep.after, goexitEntry]
  refine QuitsD.ctl (g' := { G bot [] with status := .finished }) rfl (fun w => ?_) ⟨rfl, rfl⟩
  simp [G, stepG, unwind, bot, goexitEntry, Frame.catches]
  rfl
theorem bornA (w : World) : stepG Tryz.prog false (born Tryz.prog { target := .fn (.func 133) #[ptr Wg, ptr L, ptr X], args := #[] }) w =
    .go (G ((baseD 133).at ⟨#[ptr Wg, ptr L, ptr X, undef, undef, undef], []⟩ [.code (Tryz.f133.body.getD .skip)]) [bot]) w #[] := by
  simp [born, stepG, unwind, callDeferred, invoke, callFunc, Tryz.func133, Tryz.f133, seen, GStep.after, G, Frame.enter, Frame.at, baseD, bot]
theorem doneA (T : Array Value) (ops : Array Oper) (hX0 : val0 0 = x0) (w : World) (hK : WgLive 179 Wg w ∧ Has X 0 (val0 0) w) :
    Goes Tryz.prog false (RW 179 Wg X 2 0 0) (DWs Wg noFam noFam X 2 1) (AtR0 Tryz.prog 179 Wg X 2 0 1 (val0 0)) 26
      (G ((baseD 133).at ⟨T, [dcall 134 #[ptr Wg]]⟩ [.inRegion ops []]) [bot]) w := by
  u_c stepG_region_end kn_rely hK
  u_c stepG_end kn_rely hK
  g_unwB kn_rely hK Tryz.func134 (nm_done link) Tryz.f134
  have hA := @doneN _ link Tryz.prog wgLib noFam noFam Wg X 2 0 1 (val0 0)
  simp only [body_done, doneFn, Option.getD_some] at hA
  exact hA rfl (tailA _) _ hK
theorem closeStep {P : Program} {main : Bool} {b : Frame} {a : Act} {ops : Array Oper} {i : Nat} {l : List Nat} {k : List Item} {cs : List Frame} {o : Oper} {x : Operand} {ats : Array TypeId} {s r : Nat} (hc : w.heap[Ch]? = some (.chan 0 #[] false s r false))
    (ho : ops[i]? = some o) (hw : Region.wanted o (yielded ops a.tmps) = true) (hk : b.kind ≠ .early) (hop : o.op = .call { callee := .builtin .close, args := #[x], argTypes := ats }) (hx : a.eval x = .chan (some Ch)) (hq : (P.funcs[b.fn]?).any (·.norace) = false) :
    stepG P main (G (b.at a (.inRegion ops (i :: l) :: k)) cs) w = .go (G (b.at (a.put o.dst (.tuple #[])) (.inRegion ops l :: k)) cs) (w.setChan Ch 0 #[] true s r false) #[⟨.obj Ch, false, true⟩, ⟨.obj Ch, true, true⟩] := by
  have e : execOp a.eval o = (do let v ← Builtin.close_ ats o.type #[.chan (some Ch)]; pure (Next.value v)) := by
    unfold execOp
    simp only [hop]
    show (do let d ← resolve a.eval _ _; invoke d.target d.args) = _
    simp only [resolve, List.map_toArray, List.map_cons, List.map_nil, hx]
    rfl
  have hr : (execOp a.eval o).run P w = .ok (.value (.tuple #[])) (w.setChan Ch 0 #[] true s r false) := by
    rw [e]; simp [run_close_open ats o.type hc, World.setChan]
  have hev : (execOp a.eval o).events P w #[] = #[⟨.obj Ch, false, true⟩, ⟨.obj Ch, true, true⟩] := by
    rw [e]; simp [run_close_open ats o.type hc, events_close_open ats o.type hc]
  rw [stepG_value ho hw hk hr]
  unfold listed
  rw [hev, seen_eq hq (by simp)]
theorem loudA : (Tryz.prog.funcs[(baseD 133).fn]?).any (·.norace) = false := by kernel_rfl
theorem sender (hRL : fam.Rd ka (.cell ⟨L, 0, none⟩)) (hR0 : fam.Rd ka (.cell ⟨X, 0, none⟩)) (hR1 : fam.Rd ka (.cell ⟨X, 1, none⟩)) (hX0 : val0 0 = x0) (hv : v = .agg #[x0, x1]) (hXC : X ≠ Ch) (hWC : Wg ≠ Ch) (w : World) (hF : KA Wg Ch X L x0 x1 w) :
    ∃ m, Goes Tryz.prog false (RA (crewK Wg Ch X L ka fam val0 v F n0 Nx)) (DA (crewK Wg Ch X L ka fam val0 v F n0 Nx)) (AtSend (crewK Wg Ch X L ka fam val0 v F n0 Nx)) m (born Tryz.prog { target := .fn (.func 133) #[ptr Wg, ptr L, ptr X], args := #[] }) w := by
  have ag0 := Tryz.isAgg171
  have ag1 := Tryz.isAgg28
  have sz1 := Tryz.sizeOf28
  refine ⟨20, ?_⟩
  refine goes_q da_none rfl bornA (fun w r => ?_)
  replace hF := hF.rely r; clear r
  simp only [Tryz.f133, Option.getD_some]
  refine goes_q da_none rfl (fun _ => stepG_seq) (fun w r => ?_)
  replace hF := hF.rely r; clear r
  refine goes_q da_none rfl (fun _ => stepG_region) (fun w r => ?_)
  replace hF := hF.rely r; clear r
  refine goes_q da_none rfl (fun _ => stepG_defer rfl rfl (by k_ne) rfl) (fun w r => ?_)
  replace hF := hF.rely r; clear r
  refine goes_q da_none rfl (fun _ => stepG_region_end) (fun w r => ?_)
  replace hF := hF.rely r; clear r
  refine goes_q da_none rfl (fun _ => stepG_seq) (fun w r => ?_)
  replace hF := hF.rely r; clear r
  refine goes_q da_none rfl (fun _ => stepG_region) (fun w r => ?_)
  replace hF := hF.rely r; clear r
  simp only [List.size_toArray, List.length_cons, List.length_nil, Nat.reduceAdd, Nat.zero_add, List.range, List.range.loop]
  refine goes_load1 rfl rfl (by k_ne) rfl rfl (fun w r => ⟨ag0 w, (hF.rely r).cellL, fun es he => ⟨rfl, fun e h => by rw [he e h]; exact evK_read hRL⟩, ?_⟩)
  replace hF := hF.rely r; clear r
  refine goes_load2 rfl rfl (by k_ne) rfl rfl (fun w r => ⟨ag1 w, sz1 w, (hF.rely r).cell0, (hF.rely r).cell1, fun es he => ⟨rfl, fun e h => by rcases he e h with rfl | rfl <;> first | exact evK_read hR0 | exact evK_read hR1⟩, ?_⟩)
  replace hF := hF.rely r; clear r
  walk_nrm
  refine Goes.stop (fun w r => ?_)
  replace hF := hF.rely r; clear r
  refine ⟨rfl, ?_, 12, ?_⟩
  · rw [stepG_comm rfl rfl (by k_ne) rfl]
    simp [listed, execOp, seen_none, scase, hv, Act.eval]
  rw [served_G, Frame.finish_at]
  walk_nrm
  refine goes_q da_none rfl (fun _ => stepG_region_end) (fun w r => ?_)
  replace hF := hF.rely r; clear r
  refine goes_q da_none rfl (fun _ => stepG_region) (fun w r => ?_)
  replace hF := hF.rely r; clear r
  simp only [List.size_toArray, List.length_cons, List.length_nil, Nat.reduceAdd, Nat.zero_add, List.range, List.range.loop]
  refine goes_load1 rfl rfl (by k_ne) rfl rfl (fun w r => ⟨ag0 w, (hF.rely r).cellL, fun es he => ⟨rfl, fun e h => by rw [he e h]; exact evK_read hRL⟩, ?_⟩)
  replace hF := hF.rely r; clear r
  walk_nrm
  refine Goes.stop (fun w r => ?_)
  replace hF := hF.rely r; clear r
  refine ⟨rfl, by simp [mayWake, G, Frame.at], fun s r hc => ?_⟩
  have hA := aside_setChan w Ch 0 #[] true s r false
  refine ⟨_, ?_, closeStep hc rfl rfl (by k_ne) rfl rfl loudA, 26, ?_⟩
  · rfl
  · exact doneA _ _ hX0 (w.setChan Ch 0 #[] true s r false) ⟨WgLive.of_block' (hA.block _ hWC) hF.live, by show World.cell? _ _ = _; rw [cell_of_block (hA.block _ hXC) 0, hX0]; simp [World.cell?, hF.x]⟩
end
end Go.Proofs.YtemgilofjbnoaaaGreatDoor
namespace Go.Proofs.YtemgilofjbnoaaaGreatDoor
open Go Go.Conc
set_option linter.unusedVariables false
set_option linter.unusedSimpArgs false
section
variable {U : Program} {α β : Type}
def NoPan (U : Program) (s : Sem α) : Prop := ∀ u v u', s.run U u ≠ .halt (.panic v) u'
theorem NoPan.pure (a : α) : NoPan U (pure a : Sem α) := by intro u v u' h; cases h
theorem NoPan.pure' (a : α) : NoPan U (Sem.pure a : Sem α) := by intro u v u' h; cases h
theorem NoPan.stuck (m : String) : NoPan U (stuck m : Sem α) := by intro u v u' h; cases h
theorem NoPan.unsup (m : Unsupported) : NoPan U (unsupported m : Sem α) := by intro u v u' h; cases h
theorem NoPan.bind' {s : Sem α} {f : α → Sem β} {Q : α → Prop} (hs : NoPan U s) (hq : Yields U Q s) (hf : ∀ a, Q a → NoPan U (f a)) : NoPan U (s >>= f) := by
  intro u v u' h
  have e : (s >>= f).run U u = match s.run U u with | .ok a w => (f a).run U w | .halt x w => .halt x w := run_bind' U s f u
  rw [e] at h
  cases hr : s.run U u with
  | ok a w => rw [hr] at h; exact hf a (hq _ _ _ hr) _ _ _ h
  | halt x w => rw [hr] at h; injection h with h1 h2; subst h1; exact hs _ _ _ hr
theorem NoPan.bind {s : Sem α} {f : α → Sem β} (hs : NoPan U s) (hf : ∀ a, NoPan U (f a)) : NoPan U (s >>= f) := hs.bind' (Q := fun _ => True) (fun _ _ _ _ => trivial) (fun a _ => hf a)
theorem NoPan.ite {c : Prop} [Decidable c] {A B : Sem α} (hA : NoPan U A) (hB : NoPan U B) : NoPan U (if c then A else B) := by split <;> assumption
theorem NoPan.program {k : Program → Sem α} (h : NoPan U (k U)) : NoPan U (Sem.program k) := fun u v u' e => h u v u' e
theorem noCell_nopan (u : World) (a : Addr) (what : String) : ∀ v, u.noCell a what ≠ .panic v := by
  intro v h
  have := noCell_fails u a what
  rw [h] at this
  exact this
theorem NoPan.load (m : Go.Mode) (a : Addr) {k : Value → Sem α} (hk : ∀ v, NoPan U (k v)) : NoPan U (.load m a k) := by
  intro u v u' h
  simp only [Sem.run] at h
  split at h
  · exact hk _ _ _ _ h
  · split at h
    · exact hk _ _ _ _ h
    · rename_i e
      injection h with h1 h2
      subst h1
      unfold World.farLoad at e
      split at e
      · split at e <;> cases e
      · injection e with e; exact noCell_nopan _ _ _ _ e
theorem NoPan.store (m : Go.Mode) (a : Addr) (x : Value) {k : Sem α} (hk : NoPan U k) : NoPan U (.store m a x k) := by
  intro u v u' h
  cases hv : notAgg x with
  | false => cases x <;> first | (simp [notAgg] at hv; done) | (cases h; done)
  | true =>
    rw [run_store_eq _ _ _ _ _ _ hv] at h
    split at h
    · split at h
      · cases h
      · exact hk _ _ _ h
    · split at h
      · exact hk _ _ _ h
      · rename_i e
        injection h with h1 h2
        subst h1
        unfold World.farStore at e
        split at e
        · split at e <;> cases e
        · injection e with e; exact noCell_nopan _ _ _ _ e
theorem NoPan.new (o : Obj) {k : Nat → Sem α} (hk : ∀ r, NoPan U (k r)) : NoPan U (.new o k) := fun u v u' h => hk _ _ _ _ h
theorem NoPan.shape (r : Nat) {k : Option (TypeId × Nat) → Sem α} (hk : ∀ r, NoPan U (k r)) : NoPan U (.shape r k) := fun u v u' h => hk _ _ _ _ h
theorem NoPan.frozen (r : Addr) {k : Bool → Sem α} (hk : ∀ r, NoPan U (k r)) : NoPan U (.frozen r k) := fun u v u' h => hk _ _ _ _ h
theorem NoPan.choose (q : Question) {k : Nat → Sem α} (hk : ∀ r, NoPan U (k r)) : NoPan U (.choose q k) := by
  intro u v u' h
  simp only [Sem.run] at h
  split at h
  · exact hk _ _ _ _ h
  · exact hk _ _ _ _ h
theorem NoPan.mark (m : Mark) {k : Sem α} (hk : NoPan U k) : NoPan U (.mark m k) := fun u v u' h => hk _ _ _ h
theorem nopan_load (a : Addr) (m : Go.Mode) : NoPan U (Go.load a m) := NoPan.load _ _ fun v => .pure' v
theorem nopan_store (a : Addr) (v : Value) (m : Go.Mode) : NoPan U (Go.store a v m) := NoPan.store _ _ _ (.pure' ())
theorem nopan_choose (q : Question) : NoPan U (Go.choose q) := NoPan.choose _ fun v => .pure' v
theorem nopan_typeInfo (t : TypeId) : NoPan U (typeInfo t) := by
  unfold typeInfo
  refine .bind (NoPan.program (.pure' U)) fun p => ?_
  split
  · exact .pure _
  · exact .stuck _
theorem nopan_underlying (t : TypeId) : NoPan U (underlying t) := by
  unfold underlying
  refine .bind (NoPan.program (.pure' U)) fun p => ?_
  split
  · exact .pure _
  · exact .stuck _
theorem nopan_sizeOf (t : TypeId) : NoPan U (sizeOf t) := .bind (nopan_typeInfo t) fun _ => .pure _
theorem nopan_isAgg (t : TypeId) : NoPan U (isAgg t) := by
  unfold isAgg
  refine .bind (nopan_underlying t) fun d => ?_
  split <;> exact .pure _
theorem nopan_zeroValue (t : TypeId) : NoPan U (zeroValue t) := by
  unfold zeroValue
  refine .bind (nopan_typeInfo t) fun i => ?_
  split
  · exact .pure _
  · exact .unsup _
theorem nopan_newRow (t : TypeId) (cs : Array Value) : NoPan U (newRow t cs) := .bind (NoPan.new _ fun v => .pure' v) fun _ => .pure _
theorem nopan_loadCellsFrom (a : Addr) : ∀ (n i : Nat) (acc : Array Value), NoPan U (loadCellsFrom a i n acc)
  | 0, _, _ => .pure _
  | n + 1, i, acc => .bind (nopan_load _ _) fun v => nopan_loadCellsFrom a n (i + 1) _
theorem nopan_storeCells (a : Addr) : ∀ (vs : List Value) (i : Nat), NoPan U (storeCells a vs i)
  | [], _ => .pure _
  | v :: vs, i => .bind (nopan_store _ _ _) fun _ => nopan_storeCells a vs (i + 1)
theorem nopan_sureAddr (v : Value) : NoPan U (Instr.sureAddr v) := by unfold Instr.sureAddr; split <;> first | exact .pure _ | exact .stuck _
theorem nopan_loadAt (t : TypeId) (v : Value) : NoPan U (Instr.loadAt t v) := by
  unfold Instr.loadAt loadVar
  refine .bind (nopan_sureAddr v) fun a => .bind (nopan_isAgg t) fun b => ?_
  split
  · exact .bind (nopan_sizeOf t) fun n => .bind (nopan_loadCellsFrom _ _ _ _) fun _ => .pure _
  · exact nopan_load _ _
theorem nopan_storeAt (t : TypeId) (x v : Value) : NoPan U (Instr.storeAt t x v) := by
  unfold Instr.storeAt storeVar
  refine .bind (nopan_sureAddr x) fun a => .bind (nopan_sizeOf t) fun n => ?_
  dsimp only
  split
  · exact .bind (.stuck _) fun _ => nopan_storeCells _ _ _
  · exact .bind (.pure _) fun _ => nopan_storeCells _ _ _
theorem nopan_alloc (t : TypeId) (b : Bool) (v : Value) : NoPan U (Instr.alloc t b v) := by
  unfold Instr.alloc
  refine .bind (nopan_zeroValue t) fun z => ?_
  split
  · refine .bind ?_ fun _ => .pure _
    have := nopan_storeAt (U := U) t (.pointer (some (by assumption))) z
    exact this
  · exact .bind (nopan_newRow _ _) fun _ => .pure _
theorem nopan_buildSlice (t : TypeId) (n : Nat) (parts : Array (Nat × Value)) : NoPan U (Instr.buildSlice t n parts) := by
  unfold Instr.buildSlice
  refine .bind (nopan_underlying t) fun d => ?_
  split
  · refine .bind (nopan_sizeOf _) fun s => ?_
    dsimp only
    repeat' (first
      | exact .stuck _
      | exact .unsup _
      | exact .pure _
      | exact nopan_newRow _ _
      | exact nopan_zeroValue _
      | with_reducible refine NoPan.bind ?_ (fun _ => ?_)
      | with_reducible refine NoPan.ite ?_ ?_
      | dsimp only
      | split)
  · exact .stuck _
theorem yields_underlying {t : TypeId} {d : TypeDesc} (h : U.underlying t = some d) : Yields U (fun x => x = d) (underlying t) := by
  intro u a u' e
  have : (underlying t).run U u = .ok d u := run_underlying h u
  rw [this] at e
  injection e with e1 e2
  exact e1.symm
theorem yields_typeInfo {t : TypeId} {i : TypeInfo} (h : U.info? t = some i) : Yields U (fun x => x = i) (typeInfo t) := by
  intro u a u' e
  have : (typeInfo t).run U u = .ok i u := by simp [typeInfo, h]
  rw [this] at e
  injection e with e1 e2
  exact e1.symm
theorem nopan_firstCells (s n : Nat) (v : Value) : NoPan U (Builtin.firstCells s n v) := by
  unfold Builtin.firstCells
  split
  · exact nopan_loadCellsFrom _ _ _ _
  · exact .pure _
  · exact .pure _
  · exact .stuck _
theorem nopan_lenOf (v : Value) : NoPan U (Builtin.lenOf v) := by
  unfold Builtin.lenOf
  split
  · exact .pure _
  · exact .pure _
  · exact .stuck _
theorem nopan_shape1 (r : Nat) : NoPan U (Go.shape r) := NoPan.shape _ fun v => .pure' v
theorem nopan_frozen1 (r : Addr) : NoPan U (Go.frozen r) := NoPan.frozen _ fun v => .pure' v
theorem nopan_mark1 (m : Mark) : NoPan U (Go.mark m) := NoPan.mark _ (.pure' _)
theorem nopan_holdsCells (a : Addr) (n : Nat) : NoPan U (Builtin.holdsCells a n) := by
  unfold Builtin.holdsCells
  refine .bind (nopan_shape1 _) fun x => ?_
  split <;> exact .pure _
theorem nopan_mayShare (s l n : Nat) (b : Option Addr) (x : Value) : NoPan U (Builtin.mayShare s l n b x) := by
  unfold Builtin.mayShare
  repeat' (first
    | exact .pure _
    | exact nopan_holdsCells _ _
    | exact nopan_frozen1 _
    | with_reducible refine NoPan.bind ?_ (fun _ => ?_)
    | with_reducible refine NoPan.ite ?_ ?_
    | dsimp only
    | split)
theorem nopan_askRoom (n : Nat) : NoPan U (askRoom n) := by
  unfold askRoom
  repeat' (first
    | exact .pure _
    | exact nopan_mark1 _
    | with_reducible refine NoPan.bind ?_ (fun _ => ?_)
    | with_reducible refine NoPan.ite ?_ ?_
    | dsimp only
    | split)
theorem nopan_append {t e : TypeId} {i : TypeInfo} (ty : TypeId) (v x : Value) (ht : U.underlying t = some (.slice e)) (hi : U.info? e = some i) (hb : i.bytes ≠ 0) : NoPan U (Builtin.append_ #[t, t] ty #[v, x]) := by
  unfold Builtin.append_
  simp only [List.getElem?_toArray, List.getElem?_cons_succ, List.getElem?_cons_zero]
  refine .bind' (nopan_underlying t) (yields_underlying ht) fun d hd => ?_
  subst hd
  dsimp only
  split
  rotate_left
  · exact .stuck _
  refine .bind (nopan_sizeOf _) fun size => ?_
  refine .bind' (nopan_underlying t) (yields_underlying ht) fun d hd => ?_
  subst hd
  try dsimp only
  refine .bind' (Q := fun z => z = false) (.pure _) (Yields.pure rfl) fun z hz => ?_
  subst hz
  simp only [Bool.false_eq_true, if_false, Bool.not_false, if_true, false_or, or_false, false_and]
  refine .bind (nopan_lenOf x) fun n => ?_
  try dsimp only
  refine .ite ?_ ?_
  · refine .bind (nopan_firstCells _ _ _) fun new => ?_
    split
    · exact .bind (nopan_storeCells _ _ _) fun _ => .pure _
    · exact .bind (.pure _) fun _ => .pure _
  · refine .bind' (nopan_typeInfo e) (yields_typeInfo hi) fun j hj => ?_
    subst hj
    have hno : ∀ c : Prop, ¬ (c ∧ j.bytes = 0) := fun c h => hb h.2
    simp only [hb, and_false, if_false]
    repeat' (first
      | exact .stuck _
      | exact .unsup _
      | exact .pure _
      | exact nopan_typeInfo _
      | exact nopan_zeroValue _
      | exact nopan_newRow _ _
      | exact nopan_firstCells _ _ _
      | exact nopan_askRoom _
      | exact nopan_choose _
      | exact nopan_mark1 _
      | exact nopan_mayShare _ _ _ _ _
      | with_reducible refine NoPan.bind ?_ (fun _ => ?_)
      | with_reducible refine NoPan.ite ?_ ?_
      | dsimp only
      | split)
end
end Go.Proofs.YtemgilofjbnoaaaGreatDoor
namespace Go.Proofs.YtemgilofjbnoaaaGreatDoor
open Go Go.Conc Go.ConcN
open Go.ConcR (KK wgBlock WgAt stA smA Payload)
set_option linter.unusedVariables false
set_option linter.unusedSimpArgs false
section
variable {P : Program} {F : Array Func} {k0 : FuncId} {Stop : Frame → List Frame → World → Prop} {fr : Frame} {sm : List Frame} {x1 : St}
structure Mod (P : Program) (F : Array Func) (Stop : Frame → List Frame → World → Prop) (fr : Frame) (sm : List Frame) (x1 : St) (frm : Frame) (u : World) : Prop where
  desc : Desc (PF P F) Stop (frm, fr :: sm, u) x1
  fin : Fin_ (PF P F) Stop frm (fr :: sm) u
theorem Mod.ctl {frm frm' : Frame} {u : World} (hS : NoStop k0 Stop) (hm : frm.fn = k0) (h : Mod P F Stop fr sm x1 frm u) (hgo : ∀ w, stepG (PF P F) true (G frm (fr :: sm)) w = .go (G frm' (fr :: sm)) w #[]) : Mod P F Stop fr sm x1 frm' u := by
  obtain ⟨f', s', u2, es, h1, h2, h3⟩ := h.fin.go (hS.at hm) u.tape u.drawn
  rw [hgo] at h1
  injection h1 with e1 e2 e3
  injection e1 with e4 e5
  subst e4 e5 e2
  exact ⟨h.desc.tail h3, h2⟩
variable {S1 : Nat → Prop} {K : Nat → Obj} {a ab : Act} {km kb : List Item} {ops opsB : Array Oper} {i j : Nat} {l l' : List Nat} {o ob : Oper} {b : Frame} {main : Bool} {cs : List Frame} {u w : World}
theorem bstep (hF : FitsF P F) (hE : ∀ (fr : Frame) (cs : List Frame) (d : Option Dying) (g : Nat) (w : World), ∃ o w' es, early (PF P F) fr cs d g w = .ended o w' es) (hS : NoStop k0 Stop) (hM : Mod P F Stop fr sm x1 (kf k0 a (.inRegion ops (i :: l) :: km)) u) (hsim : Sim0 S1 K u w)
    (ho : ops[i]? = some o) (hw : Region.wanted o (yielded ops a.tmps) = true) (hop : okOp P o = true) (hc : noCall o = true) (hob : opsB[j]? = some ob) (hwb : Region.wanted ob (yielded opsB ab.tmps) = true) (heq : execOp ab.eval ob = execOp a.eval o) (hk : b.kind ≠ .early)
    (hnp : NoPan (PF P F) (execOp a.eval o)) :
    ∃ v u' w' es T, stepG P main (G (b.at ab (.inRegion opsB (j :: l') :: kb)) cs) w = .go (G (b.at (ab.put ob.dst v) (.inRegion opsB l' :: kb)) cs) w' es ∧ (∀ e ∈ es, EvS ⟨S1, K, T, 0, 0, w.tape, false⟩ u'.heap.size e) ∧ Sim0 S1 K u' w' ∧
      Mod P F Stop fr sm x1 (kf k0 (a.put o.dst v) (.inRegion ops l :: km)) u' ∧ u.heap.size ≤ u'.heap.size ∧
      ((execOp a.eval o).run (PF P F) (re u w.tape w.drawn) = .ok (.value v) u' ∨ ((execOp a.eval o).run (PF P F) (re u w.tape w.drawn) = .ok .skip u' ∧ v = undef)) := by
  have hk0 : (base k0).kind ≠ .early := by intro h; cases h
  have hkb : (b.kind == CallKind.early) = false := by simpa using hk
  have hρ : ∀ f, a.eval (.func f) = .func (.func f) #[] #[] := fun f => rfl
  obtain ⟨f', s', u2, es0, h1, h2, h3⟩ := hM.fin.go (hS.at rfl) w.tape w.drawn
  have hs1 := hsim.sim (m := false) (gw (stepG (PF P F) true (G (kf k0 a (.inRegion ops (i :: l) :: km)) (fr :: sm)) (re u w.tape w.drawn))).drawn
  generalize hTT : (gw (stepG (PF P F) true (G (kf k0 a (.inRegion ops (i :: l) :: km)) (fr :: sm)) (re u w.tape w.drawn))).drawn = T at hs1
  have hss := sim_execOp hF a.eval hρ o hop ⟨S1, K, T, 0, 0, w.tape, false⟩ (re u w.tape w.drawn) w #[] hs1
  have hy := next_execOp hF a.eval hρ o hop
  have hnc := no_enter (P := P) (PF P F) a.eval o hop hc
  have hfin : ∀ v, (kf k0 a (.inRegion ops (i :: l) :: km)).finish v = kf k0 (a.put o.dst v) (.inRegion ops l :: km) := fun v => by rw [kf_finish, ho]; rfl
  have hfinb : ∀ v, (b.at ab (.inRegion opsB (j :: l') :: kb)).finish v = b.at (ab.put ob.dst v) (.inRegion opsB l' :: kb) := fun v => by rw [Frame.finish_at, hob]; rfl
  rw [stepG_oper ho hw] at h1 hTT
  rw [stepG_oper hob hwb, heq]
  generalize execOp a.eval o = s at hss hy hnc h1 hTT hnp
  have hfst := Sem.runT_fst (PF P F) s (re u w.tape w.drawn) #[]
  unfold stepG.apply at h1 hTT
  generalize hrT : s.runT (PF P F) (re u w.tape w.drawn) #[] = rt at hfst h1 hTT
  obtain ⟨r, es⟩ := rt
  dsimp only at hfst
  subst hfst
  cases hr : s.run (PF P F) (re u w.tape w.drawn) with
  | ok nx u' =>
    rw [hr] at hss h1 hTT
    have hd : u'.drawn ≤ T := by
      rcases hy _ nx u' hr with ⟨v, rfl⟩ | rfl | ⟨f, args, g, rfl, hf, hb⟩
      · exact Nat.le_of_eq hTT
      · exact Nat.le_of_eq hTT
      · exact Nat.le_of_eq hTT
    obtain ⟨w', es', e1, e2, e3, e4⟩ := hss hd
    have ev : ∀ e ∈ seen P b.fn (#[] ++ es') ++ #[], EvS ⟨S1, K, T, 0, 0, w.tape, false⟩ u'.heap.size e := fun e he => e4 e (by have := mem_seen (by simpa using he : e ∈ seen P b.fn (#[] ++ es')); simpa using this)
    rcases hy _ nx u' hr with ⟨v, rfl⟩ | rfl | ⟨f, args, g, rfl, hf, hb⟩
    · have hgo : stepG (PF P F) true (G (kf k0 a (.inRegion ops (i :: l) :: km)) (fr :: sm)) (re u w.tape w.drawn) = _ := stepG_oper ho hw
      simp only [if_true] at h1
      have h1' : GStep.go (G ((kf k0 a (.inRegion ops (i :: l) :: km)).finish v) (fr :: sm)) u' (seen (PF P F) k0 es ++ #[]) = .go (G f' s') u2 es0 := h1
      injection h1' with q1 q2 q3
      injection q1 with q4 q5
      subst q4 q5 q2
      rw [hfin] at h2 h3
      refine ⟨v, u', w', seen P b.fn (#[] ++ es') ++ #[], T, ?_, ev, e2.sim0, ⟨hM.desc.tail h3, h2⟩, e3, .inl rfl⟩
      rw [← hfinb]
      unfold stepG.apply
      simp only [e1, if_true]
      simp [Frame.at, hkb, G, GStep.after]
    · simp only [if_true] at h1
      have h1' : GStep.go (G ((kf k0 a (.inRegion ops (i :: l) :: km)).finish undef) (fr :: sm)) u' (seen (PF P F) k0 es ++ #[]) = .go (G f' s') u2 es0 := h1
      injection h1' with q1 q2 q3
      injection q1 with q4 q5
      subst q4 q5 q2
      rw [hfin] at h2 h3
      refine ⟨undef, u', w', seen P b.fn (#[] ++ es') ++ #[], T, ?_, ev, e2.sim0, ⟨hM.desc.tail h3, h2⟩, e3, .inr ⟨rfl, rfl⟩⟩
      rw [← hfinb]
      unfold stepG.apply
      simp only [e1, if_true]
      simp [Frame.at, hkb, G, GStep.after]
    · exact absurd rfl (hnc _ _ _ hr f args)
  | halt x u' =>
    rw [hr] at hss h1 hTT
    simp only [if_true] at h1
    cases x with
    | stuck m => cases h1
    | unsupported m =>
      cases m
      case initOrder g =>
        obtain ⟨oc, w2, es2, q⟩ := hE (kf k0 a (.inRegion ops (i :: l) :: km)) (fr :: sm) none g u'
        have h1' : GStep.after (seen (PF P F) k0 #[]) (early (PF P F) (kf k0 a (.inRegion ops (i :: l) :: km)) (fr :: sm) none g u') = .go (G f' s') u2 es0 := h1
        rw [q] at h1'
        cases h1'
      all_goals cases h1
    | panic v => exact absurd hr (hnp _ _ _)
    | fatal m =>
      have hd : u'.drawn ≤ T := Nat.le_trans (endFatal_drawn _ _ _ _ m u') (Nat.le_of_eq (by rw [← hTT]; exact congrArg World.drawn (gw_after (seen (PF P F) k0 es) (endFatal (PF P F) (kf k0 a (.inRegion ops (i :: l) :: km)) (fr :: sm) none m u')).symm))
      rcases hss hd with hx | ⟨⟨v, hx⟩, _⟩ <;> cases hx
    | exit c => rcases hss (Nat.le_of_eq hTT) with hx | ⟨⟨v, hx⟩, _⟩ <;> cases hx
    | throw m => rcases hss (Nat.le_of_eq hTT) with hx | ⟨⟨v, hx⟩, _⟩ <;> cases hx
    | blocked => rcases hss (Nat.le_of_eq hTT) with hx | ⟨⟨v, hx⟩, _⟩ <;> cases hx
    | waiting => rcases hss (Nat.le_of_eq hTT) with hx | ⟨⟨v, hx⟩, _⟩ <;> cases hx
    | goexit => rcases hss (Nat.le_of_eq hTT) with hx | ⟨⟨v, hx⟩, _⟩ <;> cases hx
theorem Yields.bind' {U : Program} {α β : Type} {Q : β → Prop} {s : Sem α} {f : α → Sem β} (hf : ∀ a, Yields U Q (f a)) : Yields U Q (s >>= f) := Yields.bind hf
theorem Yields.stuck {U : Program} {α : Type} {Q : α → Prop} (m : String) : Yields U Q (stuck m : Sem α) := by intro u b u' e; cases e
theorem Yields.unsup {U : Program} {α : Type} {Q : α → Prop} (m : Unsupported) : Yields U Q (unsupported m : Sem α) := by intro u b u' e; cases e
theorem Yields.rtp {U : Program} {α : Type} {Q : α → Prop} (m : String) : Yields U Q (runtimePanic (.error m) : Sem α) := by
  intro u b u' e
  revert e
  unfold runtimePanic; simp [goPanic]
theorem Yields.bind2 {U : Program} {α β : Type} {Q1 : α → Prop} {Q : β → Prop} {s : Sem α} {f : α → Sem β} (hq : Yields U Q1 s) (hf : ∀ a, Q1 a → Yields U Q (f a)) : Yields U Q (s >>= f) := by
  intro u b u' h
  have e : (s >>= f).run U u = match s.run U u with | .ok a w => (f a).run U w | .halt x w => .halt x w := run_bind' U s f u
  rw [e] at h
  cases hs : s.run U u with
  | ok a w => rw [hs] at h; exact hf a (hq _ _ _ hs) _ _ _ h
  | halt x w => rw [hs] at h; cases h
theorem yields_append {U : Program} {t e : TypeId} (ty : TypeId) (v x : Value) (ht : U.underlying t = some (.slice e)) : Yields U (fun v => ∃ b n c, v = .slice b n c) (Builtin.append_ #[t, t] ty #[v, x]) := by
  unfold Builtin.append_
  simp only [List.getElem?_toArray, List.getElem?_cons_succ, List.getElem?_cons_zero]
  refine Yields.bind2 (yields_underlying ht) fun d hd => ?_
  subst hd
  try dsimp only
  split
  rotate_left
  · exact Yields.stuck _
  refine Yields.bind fun size => ?_
  refine Yields.bind2 (yields_underlying ht) fun d hd => ?_
  subst hd
  try dsimp only
  refine Yields.bind2 (Q1 := fun z => z = false) (Yields.pure rfl) fun z hz => ?_
  subst hz
  simp only [Bool.false_eq_true, if_false, Bool.not_false, if_true, false_or, or_false, false_and]
  refine Yields.bind fun n => ?_
  try dsimp only
  refine Yields.ite ?_ ?_
  · refine Yields.bind fun new => ?_
    split
    all_goals first | exact Yields.pure ⟨_, _, _, rfl⟩ | exact Yields.bind fun _ => Yields.pure ⟨_, _, _, rfl⟩
  · refine Yields.bind fun j => ?_
    repeat' (first
      | exact Yields.stuck _
      | exact Yields.unsup _
      | exact Yields.rtp _
      | exact Yields.pure ⟨_, _, _, rfl⟩
      | with_reducible refine Yields.ite ?_ ?_
      | with_reducible refine Yields.bind (fun _ => ?_)
      | dsimp only
      | split)
end
end Go.Proofs.YtemgilofjbnoaaaGreatDoor
namespace Go.Proofs.YtemgilofjbnoaaaGreatDoor
open Go Go.Conc
set_option linter.unusedVariables false
set_option linter.unusedSimpArgs false
abbrev kp : FuncId := 120
def opsOf : Code → List (Array Oper)
  | .region _ ops _ => [ops]
  | .seq a b => opsOf a ++ opsOf b
  | _ => []
noncomputable def R0 (i : Nat) : Array Oper := ((((Tryz.f120.body).map opsOf).getD [])[i]?).getD #[]
noncomputable def o0 (i j : Nat) : Oper := (R0 i).getD j default
def opOf (d : Option Nat) (op : Op) : Oper := { dst := d, op, type := 0, pos := "", after := #[], guard := none }
def opBox (d : Nat) (t : TypeId) : Oper := opOf (some d) (.box t (.const (.agg #[])))
noncomputable def M1 : Array Oper := #[o0 1 0, opBox 5 171]
def opLen : Oper := opOf none (.call { callee := .builtin .len, args := #[.tmp 12], argTypes := #[76] })
noncomputable def M2 : Array Oper := #[o0 2 0, o0 2 1, o0 2 2, opLen, opBox 6 76]
noncomputable def M3 : Array Oper := #[o0 3 0, o0 3 1, o0 3 2, o0 3 3, o0 3 4, o0 3 5, o0 3 6, opBox 7 28]
def M4 : Array Oper := #[opBox 8 179]
def M5 : Array Oper := #[opOf (some 20) (.alloc 28), opOf none (.store 28 (.tmp 20) (.tmp 19))]
def M6 : Array Oper := #[opOf (some 21) (.load 28 (.tmp 20)), opOf (some 22) (.buildSlice 76 1 #[(0, .tmp 21)]),
  { dst := some 23, op := .call { callee := .builtin .append, args := #[.tmp 12, .tmp 22], argTypes := #[76, 76] }, type := 76, pos := "", after := #[], guard := none }, opOf (some 4) (.assign (.tmp 23))]
noncomputable def passBody : Code := .seq (.region 0 (R0 0) false) (.seq (.region 1 M1 false) (.seq (.region 2 M2 false) (.seq (.region 3 M3 false) (.seq (.region 4 M4 false) (.seq (.region 5 M5 false) (.seq (.region 6 M6 false) .ret))))))
noncomputable def passFn : Func := { Tryz.f120 with body := some passBody }
def plainFn (P : Program) (g : Func) : Bool := !(g.name == "runtime.NumGoroutine") && (match g.body with | some c => okCode P c | none => false)
def natFn (g : Func) : Bool := g.body.isNone && natRow g.name && g.origin == ""
noncomputable def FM : Array Func := Tryz.prog.funcs.mapIdx fun f g => if f = kp then passFn else if plainFn Tryz.prog g then g else if natFn g then g else { g with body := none, name := "?", origin := "?" }
theorem fm_get (f : Nat) : FM[f]? = (Tryz.prog.funcs[f]?).map fun g => if f = kp then passFn else if plainFn Tryz.prog g then g else if natFn g then g else { g with body := none, name := "?", origin := "?" } := by
  simp [FM]
theorem natFn_parts {g : Func} (h : natFn g = true) : g.body.isNone = true ∧ natRow g.name = true ∧ g.origin = "" := by
  simp only [natFn, Bool.and_eq_true, beq_iff_eq] at h
  exact ⟨h.1.1, h.1.2, h.2⟩
theorem natFn_plain {P : Program} {g : Func} (h : natFn g = true) : plainFn P g = false := by
  have h1 := (natFn_parts h).1
  cases hb : g.body with
  | none => simp [plainFn, hb]
  | some c => rw [hb] at h1; cases h1
theorem fm_nat {f : Nat} {g : Func} (h : Tryz.prog.funcs[f]? = some g) (hk : f ≠ kp) (hn : natFn g = true) : FM[f]? = some g := by
  rw [fm_get, h]; simp [hk, natFn_plain hn, hn]
theorem fm_kp : FM[kp]? = some passFn := by rw [fm_get, Tryz.func120]; rfl
theorem fm_of {f : Nat} {g : Func} (h : Tryz.prog.funcs[f]? = some g) (hk : f ≠ kp) (hp : plainFn Tryz.prog g = true) : FM[f]? = some g := by
  rw [fm_get, h]; simp [hk, hp]
theorem passFn_name : (passFn.name == "runtime.NumGoroutine") = false := by kernel_rfl
theorem f0_name : (Tryz.f120.name == "runtime.NumGoroutine") = false := by kernel_rfl
theorem fitsF : FitsF Tryz.prog FM := by
  intro f g h
  rw [fm_get] at h
  cases hg : Tryz.prog.funcs[f]? with
  | none => rw [hg] at h; cases h
  | some g0 =>
    rw [hg] at h
    simp only [Option.map_some, Option.some.injEq] at h
    by_cases hk : f = kp
    · subst hk
      rw [if_pos rfl] at h
      subst h
      refine .inl ⟨rfl, passFn_name, Tryz.f120, by rw [← hg]; exact Tryz.func120, rfl, f0_name⟩
    · rw [if_neg hk] at h
      by_cases hp : plainFn Tryz.prog g0 = true
      · rw [if_pos hp] at h
        subst h
        simp only [plainFn, Bool.and_eq_true, Bool.not_eq_true'] at hp
        obtain ⟨h1, h2⟩ := hp
        have hb : g0.body.isNone = false := by
          cases hc : g0.body with
          | none => rw [hc] at h2; cases h2
          | some c => rfl
        exact .inl ⟨hb, h1, g0, rfl, hb, h1⟩
      · rw [if_neg hp] at h
        by_cases hn : natFn g0 = true
        · rw [if_pos hn] at h
          subst h
          obtain ⟨n1, n2, n3⟩ := natFn_parts hn
          exact .inr (.inr ⟨n1, rfl, n2, n3⟩)
        · rw [if_neg hn] at h
          subst h
          exact .inr (.inl ⟨rfl, rfl, rfl⟩)
theorem okCode_passBody : okCode Tryz.prog passBody = true := by kernel_rfl
theorem readies_ok (P : Program) : ∀ c : Code, okCode P c = true → readies c = [] := by
  intro c
  induction c with
  | region i ops b =>
    intro h
    simp only [okCode, Array.all_eq_true_iff_forall_mem] at h
    simp only [readies]
    rw [List.filterMap_eq_nil_iff]
    intro o ho
    have := h o (by simpa using ho)
    obtain ⟨dst, op, type, pos, after, guard⟩ := o
    cases op <;> first | rfl | (cases this; done)
  | seq a b iha ihb =>
    intro h
    simp only [okCode, Bool.and_eq_true] at h
    simp only [readies, iha h.1, ihb h.2, List.append_nil]
  | cond x a b iha ihb =>
    intro h
    simp only [okCode, Bool.and_eq_true] at h
    simp only [readies, iha h.1, ihb h.2, List.append_nil]
  | block i c ih => intro h; simp only [okCode] at h; simp only [readies, ih h]
  | loop c ih => intro h; simp only [okCode] at h; simp only [readies, ih h]
  | rangeFunc f p a b iha ihb =>
    intro h
    simp only [okCode, Bool.and_eq_true] at h
    simp only [readies, iha (okCode0_ok P a h.1.2), ihb (okCode0_ok P b h.2), List.append_nil]
  | _ => intro h; first | rfl | cases h
theorem plain_readies {P : Program} {g : Func} (h : plainFn P g = true) : (g.body.map readies).getD [] = [] := by
  simp only [plainFn, Bool.and_eq_true] at h
  cases hb : g.body with
  | none => rfl
  | some c => rw [hb] at h; exact readies_ok P c h.2
theorem fm_readies {f : Nat} {g : Func} (h : FM[f]? = some g) : (g.body.map readies).getD [] = [] := by
  rw [fm_get] at h
  cases hg : Tryz.prog.funcs[f]? with
  | none => rw [hg] at h; cases h
  | some g0 =>
    rw [hg] at h
    simp only [Option.map_some, Option.some.injEq] at h
    by_cases hk : f = kp
    · rw [if_pos hk] at h
      subst h
      exact readies_ok Tryz.prog passBody okCode_passBody
    · rw [if_neg hk] at h
      by_cases hp : plainFn Tryz.prog g0 = true
      · rw [if_pos hp] at h
        subst h
        exact plain_readies hp
      · rw [if_neg hp] at h
        by_cases hn : natFn g0 = true
        · rw [if_pos hn] at h
          subst h
          have n1 := (natFn_parts hn).1
          cases hb : g0.body with
          | none => rfl
          | some c => rw [hb] at n1; cases n1
        · rw [if_neg hn] at h
          subst h
          rfl
theorem pf_funcs (P : Program) (F : Array Func) : (PF P F).funcs = F := rfl
theorem pf_follows (P : Program) (F : Array Func) (d : Departure) : (PF P F).follows d = P.follows d := rfl
theorem fm_stepOf (g : Nat) : (PF Tryz.prog FM).stepOf g = none := by
  unfold Program.stepOf
  rw [pf_funcs, Array.findIdx?_eq_none_iff]
  intro f hf
  obtain ⟨i, hi⟩ := Array.mem_iff_getElem?.1 hf
  have := fm_readies hi
  cases hb : f.body with
  | none => simp
  | some c => rw [hb] at this; simp at this; simp [this]
theorem follows_ahead : Tryz.prog.follows .staticDataAhead = true := by kernel_rfl
theorem fm_early (fr : Frame) (cs : List Frame) (d : Option Dying) (g : Nat) (w : World) : ∃ o w' es, early (PF Tryz.prog FM) fr cs d g w = .ended o w' es := by
  unfold early
  have h : (PF Tryz.prog FM).follows .staticDataAhead = true := (pf_follows _ _ _).trans follows_ahead
  simp only [h, Bool.not_true, Bool.false_eq_true, if_false, fm_stepOf]
  exact ⟨_, _, _, rfl⟩
theorem fitsK : FitsK Tryz.prog FM kp := by
  refine ⟨fun f g h hk => ?_, fitsF, fm_early⟩
  rw [fm_get] at h
  cases hg : Tryz.prog.funcs[f]? with
  | none => rw [hg] at h; cases h
  | some g0 =>
    rw [hg] at h
    simp only [Option.map_some, Option.some.injEq] at h
    rw [if_neg hk] at h
    by_cases hp : plainFn Tryz.prog g0 = true
    · rw [if_pos hp] at h
      subst h
      have hp' := hp
      simp only [plainFn, Bool.and_eq_true, Bool.not_eq_true'] at hp
      cases hb : g0.body with
      | none => rw [hb] at hp; cases hp.2
      | some c => rw [hb] at hp; exact .inl ⟨rfl, hp.1, c, rfl, hp.2⟩
    · rw [if_neg hp] at h
      by_cases hn : natFn g0 = true
      · rw [if_pos hn] at h
        subst h
        obtain ⟨n1, n2, n3⟩ := natFn_parts hn
        exact .inr (.inr ⟨n1, rfl, n2, n3⟩)
      · rw [if_neg hn] at h
        subst h
        exact .inr (.inl ⟨rfl, rfl, rfl⟩)
noncomputable def k1 : FuncId := FM.size
theorem fm_k1 : FM[k1]? = none := Array.getElem?_eq_none (Nat.le_refl _)
theorem okOp_pf (P : Program) (F : Array Func) : okOpM (PF P F) = okOpM P := rfl
theorem okCode_pf (P : Program) (F : Array Func) : ∀ c : Code, okCode (PF P F) c = okCode P c := by
  intro c
  induction c with
  | region i ops b => simp only [okCode, okOp_pf]
  | seq a b iha ihb => simp only [okCode, iha, ihb]
  | cond x a b iha ihb => simp only [okCode, iha, ihb]
  | block i c ih => simp only [okCode, ih]
  | loop c ih => simp only [okCode, ih]
  | _ => rfl
theorem fitsU_ {P : Program} {F : Array Func} {k0 : FuncId} {g0 : Func} {c0 : Code} (hK : FitsK P F k0) (h0 : F[k0]? = some g0) (hn : (g0.name == "runtime.NumGoroutine") = false) (hb : g0.body = some c0) (hc : okCode P c0 = true) (k : FuncId) : FitsK (PF P F) F k := by
  have hF : FitsF (PF P F) F := by
    intro f g h
    rcases hK.fits f g h with ⟨h1, h2, _⟩ | h' | ⟨n1, n2, n3⟩
    · exact .inl ⟨h1, h2, g, h, h1, h2⟩
    · exact .inr (.inl h')
    · exact .inr (.inr ⟨n1, h, n3⟩)
  refine ⟨fun f g h hk => ?_, hF, hK.early_⟩
  by_cases hk0 : f = k0
  · subst hk0
    rw [h0] at h
    injection h with h
    subst h
    exact .inl ⟨h0, hn, c0, hb, by rw [okCode_pf]; exact hc⟩
  · rcases hK.plain f g h hk0 with ⟨_, h2, c, h3, h4⟩ | h' | ⟨n1, n2, n3⟩
    · exact .inl ⟨h, h2, c, h3, by rw [okCode_pf]; exact h4⟩
    · exact .inr (.inl h')
    · exact .inr (.inr ⟨n1, h, n3⟩)
theorem fitsU : FitsK (PF Tryz.prog FM) FM k1 := fitsU_ fitsK fm_kp passFn_name rfl okCode_passBody k1
end Go.Proofs.YtemgilofjbnoaaaGreatDoor
namespace Go.Proofs.YtemgilofjbnoaaaGreatDoor
open Go Go.Conc Go.ConcN Go.RowKit Go.Conc.Lib Go.ConcR.Gen Go.ConcN.Gen
open Go.ConcR (KK wgBlock WgAt stA smA rd wr mk Payload Aside2 DC0)
set_option linter.unusedVariables false
set_option linter.unusedSimpArgs false
section
theorem Sim0.swap {S : Nat → Prop} {K : Nat → Obj} {u w w₁ : World} (h : Sim0 S K u w) (T : Nat → Prop) (hsz : w₁.heap.size = w.heap.size) (hos : w₁.os = w.os) (hout : w₁.output = w.output) (hsame : ∀ b, ¬ T b → w₁.heap[b]? = w.heap[b]?)
    (hT : ∀ b, T b → S b ∧ ∃ o o', u.heap[b]? = some o ∧ w₁.heap[b]? = some o' ∧ Alike o o') : ∃ K', Sim0 S K' u w₁ ∧ ∀ b, ¬ T b → K' b = K b := by
  classical
  refine ⟨fun b => if T b then (w₁.heap[b]?).getD (K b) else K b, ⟨h.size.trans hsz.symm, fun b hb => ?_, fun b hb => ?_, h.views, hos.trans h.os, hout.trans h.output, fun b hb => ?_⟩, fun b hb => by simp [hb]⟩
  · by_cases ht : T b
    · exact absurd (hT b ht).1 hb
    · rw [hsame b ht]; exact h.out b hb
  · by_cases ht : T b
    · exact (hT b ht).2
    · rw [hsame b ht]; exact h.ins b hb
  · by_cases ht : T b
    · obtain ⟨_, o, o', _, h2, _⟩ := hT b ht
      simp [ht, h2]
    · simp only [ht, if_false]
      rw [hsame b ht]; exact h.kept b hb
variable {Wg Ch X L ka : Nat} {fam : Fam} {val0 : Nat → Value} {vv : Value} {F : World → Prop} {n0 : Nat} {Nx : Goroutine → Prop}
structure SimC (S1 S0 : Nat → Prop) (K0 : Nat → Obj) (Wg Ch X L Y : Nat) (yv : Value) (u w : World) : Prop where
  sim : ∃ K, Sim0 S1 K u w ∧ ∀ b, S0 b → K b = K0 b
  ug : u.heap[Wg]? = some (.cells #[] 179)
  ux : u.heap[X]? = some (.cells #[] 28)
  uy : u.heap[Y]? = some (.cells #[] 76)
  uc : ∃ a s r, u.heap[Ch]? = some (.chan 0 #[] a s r false)
  wl : w.heap[L]? = some (.cells #[.chan (some Ch)] 171)
  wy : w.heap[Y]? = some (.cells #[yv] 76)
  live : WgLive 179 Wg w
  ch : ChLive Ch w
  pay : PayAt X 2 w
structure Geo3 (S1 S0 : Nat → Prop) (Wg Ch X L Y : Nat) : Prop where
  g : S1 Wg
  c : S1 Ch
  x : S1 X
  l : S1 L
  y : S1 Y
  s0 : ∀ b, S0 b → S1 b ∧ b ≠ Wg ∧ b ≠ Ch ∧ b ≠ X ∧ b ≠ Y
  lw : L ≠ Wg
  lc : L ≠ Ch
  lx : L ≠ X
  ly : L ≠ Y
  yw : Y ≠ Wg
  yc : Y ≠ Ch
  yx : Y ≠ X
  xw : X ≠ Wg
  xc : X ≠ Ch
  cw : Ch ≠ Wg
variable {S1 S0 : Nat → Prop} {K0 : Nat → Obj} {Y : Nat} {yv x1 : Value} {u u' w w₁ w' : World}
theorem SimC.rely (G : Geo3 S1 S0 Wg Ch X L Y) (h : SimC S1 S0 K0 Wg Ch X L Y yv u w) (r : RB0 (crewK Wg Ch X L ka fam val0 vv F n0 Nx) w w₁) : SimC S1 S0 K0 Wg Ch X L Y yv u w₁ := by
  obtain ⟨K, hs, hk⟩ := h.sim
  have hl := r.live h.live
  have hc := r.ch h.ch
  have hp := r.pay h.pay
  obtain ⟨K', hs', hk'⟩ := hs.swap (fun b => b = Wg ∨ b = Ch ∨ b = X) r.size r.os r.output (fun b hb => r.low b (fun e => hb (.inl e)) (fun e => hb (.inr (.inl e))) (fun e => hb (.inr (.inr e)))) (fun b hb => by
    rcases hb with rfl | rfl | rfl
    · obtain ⟨st, sm, hw⟩ := hl
      exact ⟨G.g, _, _, h.ug, hw, .hid _ _⟩
    · obtain ⟨cl, s, r', hw⟩ := hc
      obtain ⟨a, s2, r2, hu⟩ := h.uc
      exact ⟨G.c, _, _, hu, hw, .chan _ _ _ _ _ _⟩
    · obtain ⟨cs, hw, _⟩ := hp
      exact ⟨G.x, _, _, h.ux, hw, .hid _ _⟩)
  exact ⟨⟨K', hs', fun b hb => (hk' b (fun hq => by have := (G.s0 b hb).2; rcases hq with e | e | e <;> simp_all)).trans (hk b hb)⟩, h.ug, h.ux, h.uy, h.uc, (r.low L G.lw G.lc G.lx).trans h.wl, (r.low Y G.yw G.yc G.yx).trans h.wy, hl, hc, hp⟩
theorem alike_cells {S : Nat → Prop} {K : Nat → Obj} {b : Nat} {cs : Array Value} {e : TypeId} (h : Sim0 S K u w) (hb : S b) (hw : w.heap[b]? = some (.cells cs e)) : u.heap[b]? = some (.cells #[] e) := by
  obtain ⟨o, o', h1, h2, h3⟩ := h.ins b hb
  rw [hw] at h2
  injection h2 with h2
  subst h2
  cases h3
  exact h1
theorem alike_chan {S : Nat → Prop} {K : Nat → Obj} {b : Nat} {cl : Bool} {s r : Nat} (h : Sim0 S K u w) (hb : S b) (hw : w.heap[b]? = some (.chan 0 #[] cl s r false)) : ∃ a s r, u.heap[b]? = some (.chan 0 #[] a s r false) := by
  obtain ⟨o, o', h1, h2, h3⟩ := h.ins b hb
  rw [hw] at h2
  injection h2 with h2
  subst h2
  cases h3
  exact ⟨_, _, _, h1⟩
theorem SimC.both (G : Geo3 S1 S0 Wg Ch X L Y) (h : SimC S1 S0 K0 Wg Ch X L Y yv u w) {K : Nat → Obj} (hs : Sim0 S1 K u w) (hk : ∀ b, S0 b → K b = K0 b) (hs' : Sim0 S1 K u' w') :
    SimC S1 S0 K0 Wg Ch X L Y yv u' w' ∧ (∀ b, S1 b → w'.heap[b]? = w.heap[b]?) := by
  have hw : ∀ b, S1 b → w'.heap[b]? = w.heap[b]? := fun b hb => (hs'.kept b hb).trans (hs.kept b hb).symm
  have hl := WgLive.of_block' (hw _ G.g) h.live
  have hc := ChLive.of_block (hw _ G.c) h.ch
  have hp := PayAt.of_block (hw _ G.x) h.pay
  have hy := (hw _ G.y).trans h.wy
  obtain ⟨st, sm, hl'⟩ := hl
  obtain ⟨cl, s, r, hc'⟩ := hc
  obtain ⟨cs, hp', hn⟩ := hp
  exact ⟨⟨⟨K, hs', hk⟩, alike_cells hs' G.g hl', alike_cells hs' G.x hp', alike_cells hs' G.y hy, alike_chan hs' G.c hc', (hw _ G.l).trans h.wl, hy, ⟨st, sm, hl'⟩, ⟨cl, s, r, hc'⟩, ⟨cs, hp', hn⟩⟩, hw⟩
theorem SimC.setY (G : Geo3 S1 S0 Wg Ch X L Y) (h : SimC S1 S0 K0 Wg Ch X L Y yv u w) (v : Value) : SimC S1 S0 K0 Wg Ch X L Y v u (w.setCell ⟨Y, 0, none⟩ v) := by
  obtain ⟨K, hs, hk⟩ := h.sim
  have hA := aside_setCell w ⟨Y, 0, none⟩ v
  have hy : (w.setCell ⟨Y, 0, none⟩ v).heap[Y]? = some (.cells #[v] 76) := by
    rw [setCell_eq_setRow w Y 0 _ _ (0, 0) _ h.wy, setRow_heap w Y _ _ _ _ h.wy]
    simp
  obtain ⟨K', hs', hk'⟩ := hs.swap (fun b => b = Y) hA.size hA.os hA.output (fun b hb => hA.block b hb) (fun b hb => by
    subst hb
    exact ⟨G.y, _, _, h.uy, hy, .hid _ _⟩)
  exact ⟨⟨K', hs', fun b hb => (hk' b (G.s0 b hb).2.2.2.2).trans (hk b hb)⟩, h.ug, h.ux, h.uy, h.uc, (hA.block L G.ly).trans h.wl, hy, WgLive.of_block' (hA.block _ (Ne.symm G.yw)) h.live, ChLive.of_block (hA.block _ (Ne.symm G.yc)) h.ch, PayAt.of_block (hA.block _ (Ne.symm G.yx)) h.pay⟩
theorem evK_of_evS {T : Nat} {K : Nat → Obj} {tp : Nat → Question → Nat} {B : Nat} {e : Event} (hO : ∀ a : Addr, ¬ S1 a.block → fam.Own (ka + 1) (.cell a)) (hR : ∀ r, fam.Rd (ka + 1) (.obj r)) (h : EvS ⟨S1, K, T, 0, 0, tp, false⟩ B e) : EvK (crewK Wg Ch X L ka fam val0 vv F n0 Nx) 1 e := by
  rcases h with ⟨a, wr, rfl, h2, h3⟩ | ⟨r, sy, rfl, h2⟩ | rfl | ⟨f, rfl⟩ | ⟨hm, _⟩
  · refine ⟨fun x hx => ?_, by simp, by simp, by simp⟩
    simp only [MemAct.ofEvent, MemAct.touch?, Option.some.injEq] at hx
    subst hx
    exact .inl (hO a h2)
  · refine ⟨fun x hx => ?_, by simp, by simp, by simp⟩
    cases sy <;> simp [MemAct.ofEvent, MemAct.touch?] at hx <;> (subst hx; exact .inr ⟨hR r, rfl⟩)
  · exact ⟨fun x hx => by simp [MemAct.ofEvent, MemAct.touch?] at hx, by simp, by simp, by simp⟩
  · exact ⟨fun x hx => by simp [MemAct.ofEvent, MemAct.touch?] at hx, by simp, by simp, by simp⟩
  · cases hm
variable {Stop : Frame → List Frame → World → Prop} {fr : Frame} {sm : List Frame} {xs : St} {a ab : Act} {km kb : List Item} {ops opsB : Array Oper} {i j : Nat} {l l' : List Nat} {o ob : Oper} {b : Frame} {cs : List Frame} {n : Nat}
theorem goes_both (hS : NoStop kp Stop) (GG : Geo3 S1 S0 Wg Ch X L Y) (hO : ∀ a : Addr, ¬ S1 a.block → fam.Own (ka + 1) (.cell a)) (hR : ∀ r, fam.Rd (ka + 1) (.obj r)) (hM : Mod Tryz.prog FM Stop fr sm xs (kf kp a (.inRegion ops (i :: l) :: km)) u) (hC : SimC S1 S0 K0 Wg Ch X L Y yv u w) (hx1 : w.cell? ⟨X, 1, none⟩ = some x1)
    (ho : ops[i]? = some o) (hw : Region.wanted o (yielded ops a.tmps) = true) (hop : okOp Tryz.prog o = true) (hc : noCall o = true) (hob : opsB[j]? = some ob) (hwb : Region.wanted ob (yielded opsB ab.tmps) = true) (heq : execOp ab.eval ob = execOp a.eval o) (hk : b.kind ≠ .early) (hnp : NoPan (PF Tryz.prog FM) (execOp a.eval o))
    (next : ∀ v u' w', Mod Tryz.prog FM Stop fr sm xs (kf kp (a.put o.dst v) (.inRegion ops l :: km)) u' → SimC S1 S0 K0 Wg Ch X L Y yv u' w' → w'.cell? ⟨X, 1, none⟩ = some x1 → (∃ u0, (execOp a.eval o).run (PF Tryz.prog FM) u0 = .ok (.value v) u' ∨ ((execOp a.eval o).run (PF Tryz.prog FM) u0 = .ok .skip u' ∧ v = undef)) →
      Goes Tryz.prog false (RB (crewK Wg Ch X L ka fam val0 vv F n0 Nx)) (DB (crewK Wg Ch X L ka fam val0 vv F n0 Nx)) (AtRecv2 (crewK Wg Ch X L ka fam val0 vv F n0 Nx)) n (G (b.at (ab.put ob.dst v) (.inRegion opsB l' :: kb)) cs) w') :
    Goes Tryz.prog false (RB (crewK Wg Ch X L ka fam val0 vv F n0 Nx)) (DB (crewK Wg Ch X L ka fam val0 vv F n0 Nx)) (AtRecv2 (crewK Wg Ch X L ka fam val0 vv F n0 Nx)) (n + 1) (G (b.at ab (.inRegion opsB (j :: l') :: kb)) cs) w := by
  refine goes_s rfl fun w₁ r => ?_
  have hC1 := hC.rely GG r.b
  obtain ⟨K, hs, hk'⟩ := hC1.sim
  obtain ⟨v, u', w', es, T, e1, e2, e3, e4, e5, e6⟩ := bstep (main := false) (cs := cs) (kb := kb) (l' := l') fitsF fm_early hS hM hs ho hw hop hc hob hwb heq hk hnp
  obtain ⟨h1, h2⟩ := hC1.both GG hs hk' e3
  exact ⟨_, w', es, e1, ⟨h2 L GG.l, h2 X GG.x, h2 Wg GG.g, h2 Ch GG.c, fun e he => evK_of_evS hO hR (e2 e he)⟩, next v u' w' e4 h1 ((cell_of_block (h2 X GG.x) 1).trans (r.cell.trans hx1)) ⟨_, e6⟩⟩
end
end Go.Proofs.YtemgilofjbnoaaaGreatDoor
namespace Go.Proofs.YtemgilofjbnoaaaGreatDoor
open Go Go.Conc Go.ConcN Go.RowKit Go.Conc.Lib Go.ConcR.Gen Go.ConcN.Gen
open Go.ConcR (KK wgBlock WgAt stA smA rd wr mk Payload Aside2 DC0)
set_option linter.unusedVariables false
set_option linter.unusedSimpArgs false
theorem eval_put (a : Act) (d e : Nat) (v : Value) : (a.put (some d) v).eval (.tmp e) = if d = e ∧ d < a.tmps.size then v else a.eval (.tmp e) := by
  simp only [Act.put, Act.eval, Array.getD_eq_getD_getElem?]
  by_cases h : d = e
  · subst h
    by_cases h2 : d < a.tmps.size
    · simp [h2]
    · simp [h2]
  · simp [h, Array.getElem?_setIfInBounds_ne h]
theorem size_put (a : Act) (d : Option Nat) (v : Value) : (a.put d v).tmps.size = a.tmps.size := by
  cases d <;> simp [Act.put]
theorem defers_put (a : Act) (d : Option Nat) (v : Value) : (a.put d v).defers = a.defers := by
  cases d <;> rfl
theorem exec_append {a : Act} {o : Oper} {t : TypeId} {s x : Operand} (hop : o.op = .call { callee := .builtin .append, args := #[s, x], argTypes := #[t, t] }) : execOp a.eval o = (do let v ← Builtin.append_ #[t, t] o.type #[a.eval s, a.eval x]; pure (Next.value v)) := by
  unfold execOp
  simp only [hop]
  show (do let d ← resolve a.eval _ _; invoke d.target d.args) = _
  simp only [resolve, List.map_toArray, List.map_cons, List.map_nil]
  rfl
section
variable {P : Program} {main : Bool} {b : Frame} {a : Act} {ops : Array Oper} {i : Nat} {l : List Nat} {k : List Item} {cs : List Frame} {o : Oper} {v : Value} {w : World}
theorem stepG_pureV (ho : ops[i]? = some o) (hw : Region.wanted o (yielded ops a.tmps) = true) (hk : b.kind ≠ .early) (h : execOp a.eval o = pure (.value v)) :
    stepG P main (G (b.at a (.inRegion ops (i :: l) :: k)) cs) w = .go (G (b.at (a.put o.dst v) (.inRegion ops l :: k)) cs) w #[] := by
  rw [stepG_value ho hw hk (by rw [h]; rfl)]
  unfold listed
  rw [h]
  simp [seen_none]
end
section
variable {P : Program} {main : Bool} {b : Frame} {a : Act} {ops : Array Oper} {i : Nat} {l : List Nat} {k : List Item} {cs : List Frame} {o : Oper} {t : TypeId} {x y : Operand} {Y : Nat} {old : Value} {sb : Option Addr} {sn sc : Nat} {w : World}
theorem exec_store (hop : o.op = .store t x y) : execOp a.eval o = (do Instr.storeAt t (a.eval x) (a.eval y); pure Next.skip) := by
  unfold execOp
  simp only [hop]
theorem exec_load' (hop : o.op = .load t x) : execOp a.eval o = (do let v ← Instr.loadAt t (a.eval x); pure (Next.value v)) := by
  unfold execOp
  simp only [hop]
theorem exec_slice1 (hop : o.op = .buildSlice t 1 #[(0, x)]) : execOp a.eval o = (do let v ← Instr.buildSlice t 1 #[(0, a.eval x)]; pure (Next.value v)) := by
  unfold execOp
  simp only [hop, List.map_toArray, List.map_cons, List.map_nil]
theorem step_storeS (ho : ops[i]? = some o) (hw : Region.wanted o (yielded ops a.tmps) = true) (hk : b.kind ≠ .early) (hop : o.op = .store t x y) (hx : a.eval x = .pointer (some ⟨Y, 0, none⟩)) (hy : a.eval y = .slice sb sn sc) (hs : (sizeOf t).run P w = .ok 1 w) {e : TypeId} (hc' : w.heap[Y]? = some (.cells #[old] e)) :
    ∃ es, stepG P main (G (b.at a (.inRegion ops (i :: l) :: k)) cs) w = .go (G (b.at (a.put o.dst undef) (.inRegion ops l :: k)) cs) (w.setCell ⟨Y, 0, none⟩ (.slice sb sn sc)) es ∧ ∀ e ∈ es, e = ⟨.cell ⟨Y, 0, none⟩, true, false⟩ := by
  have hc : w.cell? ⟨Y, 0, none⟩ = some old := by simp [World.cell?, hc']
  have hz : w.frozen? ⟨Y, 0, none⟩ = false := by simp [World.frozen?, hc']
  have e0 : execOp a.eval o = (do storeVar t ⟨Y, 0, none⟩ (.slice sb sn sc); pure Next.skip) := by
    rw [exec_store hop, hx, hy]; rfl
  have e1 : (execOp a.eval o).run P w = .ok .skip (w.setCell ⟨Y, 0, none⟩ (.slice sb sn sc)) := by
    rw [e0]
    have h1 := run_store P w ⟨Y, 0, none⟩ (.slice sb sn sc) .plain rfl
    simp [storeVar, hs, Value.cells, storeCells, Addr.add, h1, hc, hz]
  have e2 : ∀ e ∈ (execOp a.eval o).events P w #[], e = ⟨.cell ⟨Y, 0, none⟩, true, false⟩ := by
    rw [e0]
    have h1 := run_store P w ⟨Y, 0, none⟩ (.slice sb sn sc) .plain rfl
    simp [storeVar, hs, Value.cells, storeCells, Addr.add, hc, events_sizeOf, events_store_slice, storedEv, h1]
    try (intro e he; split at he; · simp at he; · simpa using he)
  refine ⟨_, stepG_none ho hw hk e1, fun e he => ?_⟩
  have := mem_listed he
  exact e2 e this
variable {R : World → World → Prop} {D : World → World → Array Event → Prop} {Stop : Goroutine → World → Prop} {n : Nat}
theorem goes_storeS (ho : ops[i]? = some o) (hw : Region.wanted o (yielded ops a.tmps) = true) (hk : b.kind ≠ .early) (hop : o.op = .store t x y) (hx : a.eval x = .pointer (some ⟨Y, 0, none⟩)) (hy : a.eval y = .slice sb sn sc) (hs : ∀ w, (sizeOf t).run P w = .ok 1 w)
    (h : ∀ w₁, R w w₁ → ∃ old e, w₁.heap[Y]? = some (.cells #[old] e) ∧ (∀ es, (∀ e ∈ es, e = ⟨.cell ⟨Y, 0, none⟩, true, false⟩) → D w₁ (w₁.setCell ⟨Y, 0, none⟩ (.slice sb sn sc)) es) ∧ Goes P main R D Stop n (G (b.at (a.put o.dst undef) (.inRegion ops l :: k)) cs) (w₁.setCell ⟨Y, 0, none⟩ (.slice sb sn sc))) :
    Goes P main R D Stop (n + 1) (G (b.at a (.inRegion ops (i :: l) :: k)) cs) w :=
  goes_s rfl fun w₁ r => by
    obtain ⟨old, e, h1, h2, h3⟩ := h w₁ r
    obtain ⟨es, e1, e2⟩ := step_storeS (main := main) (l := l) (k := k) (cs := cs) ho hw hk hop hx hy (hs w₁) h1
    exact ⟨_, _, es, e1, h2 es e2, h3⟩
end
theorem pf_underlying (P : Program) (F : Array Func) (t : TypeId) : (PF P F).underlying t = P.underlying t := rfl
theorem pf_info (P : Program) (F : Array Func) (t : TypeId) : (PF P F).info? t = P.info? t := rfl
section
variable {Wg Ch X L ka : Nat} {fam : Fam} {val0 : Nat → Value} {vv : Value} {F : World → Prop} {n0 : Nat} {Nx : Goroutine → Prop}
variable {S1 S0 : Nat → Prop} {K0 : Nat → Obj} {Y : Nat} {yv x1 : Value} {u u' w w₁ w' : World}
theorem evK_own {K : Crew} {i : Nat} {ad : Addr} {wr : Bool} (h : K.fam.Own (K.ka + i) (.cell ad)) : EvK K i ⟨.cell ad, wr, false⟩ := by
  refine ⟨fun x hx => ?_, by simp, by simp, by simp⟩
  simp only [MemAct.ofEvent, MemAct.touch?, Option.some.injEq] at hx
  subst hx
  exact .inl h
theorem db_none (w : World) : DB (crewK Wg Ch X L ka fam val0 vv F n0 Nx) w w #[] := ⟨rfl, rfl, rfl, rfl, by simp⟩
structure KB (Wg Ch X L Y : Nat) (yv x1 : Value) (S1 S0 : Nat → Prop) (K0 : Nat → Obj) (u w : World) : Prop where
  c : SimC S1 S0 K0 Wg Ch X L Y yv u w
  x1 : w.cell? ⟨X, 1, none⟩ = some x1
theorem KB.rely (GG : Geo3 S1 S0 Wg Ch X L Y) (h : KB Wg Ch X L Y yv x1 S1 S0 K0 u w) (r : RB (crewK Wg Ch X L ka fam val0 vv F n0 Nx) w w₁) : KB Wg Ch X L Y yv x1 S1 S0 K0 u w₁ := ⟨h.c.rely GG r.b, r.cell.trans h.x1⟩
theorem KB.cellL (h : KB Wg Ch X L Y yv x1 S1 S0 K0 u w) : w.cell? ⟨L, 0, none⟩ = some (.chan (some Ch)) := by simp [World.cell?, h.c.wl]
theorem KB.cellY (h : KB Wg Ch X L Y yv x1 S1 S0 K0 u w) : w.cell? ⟨Y, 0, none⟩ = some yv := by simp [World.cell?, h.c.wy]
theorem tailB (T : Array Value) : QuitsD Tryz.prog 2 0 (G { (baseD 135).at ⟨T, []⟩ [] with mode := .returning } [bot]) := by
  refine QuitsD.ctl (g' := G bot []) rfl (fun w => ?_) ?_
  · simp [G, stepG, unwind, doReturn, results, Frame.at, baseD, bot, Tryz.func135, Tryz.f135, seen, GStep.after, goexitEntry]
  refine QuitsD.ctl (g' := { G bot [] with status := .finished }) rfl (fun w => ?_) ⟨rfl, rfl⟩
  simp [G, stepG, unwind, bot, goexitEntry, Frame.catches]
  rfl
theorem bornB (w : World) : stepG Tryz.prog false (born Tryz.prog { target := .fn (.func 135) #[ptr Wg, ptr L, ptr Y], args := #[] }) w =
    .go (G ((baseD 135).at ⟨#[ptr Wg, ptr L, ptr Y, undef, undef, undef, undef, undef, undef, undef, undef, undef], []⟩ [.code (Tryz.f135.body.getD .skip)]) [bot]) w #[] := by
  simp [born, stepG, unwind, callDeferred, invoke, callFunc, Tryz.func135, Tryz.f135, seen, GStep.after, G, Frame.enter, Frame.at, baseD, bot]
theorem recvStep {b : Frame} {a : Act} {ops : Array Oper} {i : Nat} {l : List Nat} {k : List Item} {cs : List Frame} {o : Oper} {x : Operand} (ho : ops[i]? = some o) (hw : Region.wanted o (yielded ops a.tmps) = true) (hk : b.kind ≠ .early) (hop : o.op = .recv 171 x true) (hx : a.eval x = .chan (some Ch)) :
    stepG Tryz.prog false (G (b.at a (.inRegion ops (i :: l) :: k)) cs) w = .comm (G (b.at a (.inRegion ops (i :: l) :: k)) cs) #[rcase Ch (.agg #[.int .i64 0, .int .i64 0])] true (.recv true) w #[] := by
  have e : (execOp a.eval o).run Tryz.prog w = .ok (.comm #[rcase Ch (.agg #[.int .i64 0, .int .i64 0])] true (.recv true)) w := by
    unfold execOp
    simp only [hop, hx]
    simp [rcase]
  have ev : (execOp a.eval o).events Tryz.prog w #[] = #[] := by
    unfold execOp
    simp only [hop, hx]
    rw [Sem.events_bind, events_underlying]
    simp [events_zeroValue]
  rw [stepG_comm ho hw hk e]
  unfold listed
  rw [ev, seen_none]
theorem info_ : (((PF Tryz.prog FM).info? 28).map (·.bytes != 0)) = some true := by
  rw [pf_info]
  kernel_rfl
theorem und_ : (PF Tryz.prog FM).underlying 76 = some (.slice 28) := (pf_underlying _ _ _).trans Tryz.underlying76
theorem nopan_ap (ty : TypeId) (v x : Value) : NoPan (PF Tryz.prog FM) (Builtin.append_ #[76, 76] ty #[v, x]) := by
  have h := info_
  cases hi : (PF Tryz.prog FM).info? 28 with
  | none => rw [hi] at h; cases h
  | some i =>
    rw [hi] at h
    simp at h
    exact nopan_append ty v x und_ hi h
theorem doneB {t3 t4 t7 t8 t9 t10 t11 : Value} (ops : Array Oper) (c c' : Code) (w : World) (hK : WgLive 179 Wg w ∧ Has X 1 (val0 1) w) :
    Goes Tryz.prog false (RW 179 Wg X 2 0 1) (DWs Wg noFam noFam X 2 2) (AtR0 Tryz.prog 179 Wg X 2 0 2 (val0 1)) 29
      (G ((baseD 135).at ⟨#[ptr Wg, ptr L, ptr Y, t3, t4, .tuple #[.agg #[.int .i64 0, .int .i64 0], .bool false], .bool false, t7, t8, t9, t10, t11], [dcall 134 #[ptr Wg]]⟩ [.inRegion ops [], .code (.seq (.cond (.tmp 6) .skip (.exit 0)) c), .inLoop c', .inBlock 0]) [bot]) w := by
  u_c stepG_region_end kn_rely hK
  u_c stepG_seq kn_rely hK
  u_cond false kn_rely hK
  u_exit kn_rely hK
  u_c stepG_end kn_rely hK
  g_unwB kn_rely hK Tryz.func134 (nm_done link) Tryz.f134
  have hA := @doneN _ link Tryz.prog wgLib noFam noFam Wg X 2 0 2 (val0 1)
  simp only [body_done, doneFn, Option.getD_some] at hA
  exact hA rfl (tailB _) _ hK
theorem recvStep' {b : Frame} {a : Act} {ops : Array Oper} {i : Nat} {l : List Nat} {k : List Item} {cs : List Frame} {o : Oper} {x : Operand} (off : Option (Array CommCase × CommShape)) (ho : ops[i]? = some o) (hw : Region.wanted o (yielded ops a.tmps) = true) (hk : b.kind ≠ .early) (hop : o.op = .recv 171 x true) (hx : a.eval x = .chan (some Ch)) :
    stepG Tryz.prog false { G (b.at a (.inRegion ops (i :: l) :: k)) cs with status := .running, offers := off } w = .comm (G (b.at a (.inRegion ops (i :: l) :: k)) cs) #[rcase Ch (.agg #[.int .i64 0, .int .i64 0])] true (.recv true) w #[] :=
  (stepG_same (h := G (b.at a (.inRegion ops (i :: l) :: k)) cs) rfl rfl rfl w).trans (recvStep ho hw hk hop hx)
variable {Stop : Frame → List Frame → World → Prop} {fr : Frame} {sm : List Frame} {xs : St}
def BackB (Stop : Frame → List Frame → World → Prop) (fr : Frame) (sm : List Frame) (xs : St) (n : Nat) (r : Value) (u : World) : Prop :=
  ∃ am : Act, Mod Tryz.prog FM Stop fr sm xs (kf kp am (.inRegion M6 [3] :: [.code .ret])) u ∧ am.eval (.tmp 23) = r ∧ am.tmps.size = n ∧ am.defers = []
set_option maxHeartbeats 4000000 in
set_option maxRecDepth 100000 in
theorem receiver (hS : NoStop kp Stop) (GG : Geo3 S1 S0 Wg Ch X L Y) (hO : ∀ a : Addr, ¬ S1 a.block → fam.Own (ka + 1) (.cell a)) (hR : ∀ r, fam.Rd (ka + 1) (.obj r)) (hRL : fam.Rd (ka + 1) (.cell ⟨L, 0, none⟩)) (hOY : fam.Own (ka + 1) (.cell ⟨Y, 0, none⟩)) (hX1 : val0 1 = x1)
    (a : Act) (e19 : a.eval (.tmp 19) = vv) (e12 : a.eval (.tmp 12) = yv) (hsz : 25 ≤ a.tmps.size) (had : a.defers = [])
    (hM : Mod Tryz.prog FM Stop fr sm xs (kf kp a (.inRegion M5 [0, 1] :: [.code (.seq (.region 6 M6 false) .ret)])) u) (hF : ∀ r u' w', BackB Stop fr sm xs a.tmps.size r u' → SimC S1 S0 K0 Wg Ch X L Y r u' w' → F w')
    (w : World) (hK : KB Wg Ch X L Y yv x1 S1 S0 K0 u w) :
    ∃ m, Goes Tryz.prog false (RB (crewK Wg Ch X L ka fam val0 vv F n0 Nx)) (DB (crewK Wg Ch X L ka fam val0 vv F n0 Nx)) (AtRecv1 (crewK Wg Ch X L ka fam val0 vv F n0 Nx)) m (born Tryz.prog { target := .fn (.func 135) #[ptr Wg, ptr L, ptr Y], args := #[] }) w := by
  have ag0 := Tryz.isAgg171
  have ag2 := Tryz.isAgg76
  refine ⟨20, ?_⟩
  refine goes_q db_none rfl bornB (fun w r => ?_)
  replace hK := hK.rely GG r; clear r
  simp only [Tryz.f135, Option.getD_some]
  refine goes_q db_none rfl (fun _ => stepG_seq) (fun w r => ?_)
  replace hK := hK.rely GG r; clear r
  refine goes_q db_none rfl (fun _ => stepG_region) (fun w r => ?_)
  replace hK := hK.rely GG r; clear r
  refine goes_q db_none rfl (fun _ => stepG_defer rfl rfl (by k_ne) rfl) (fun w r => ?_)
  replace hK := hK.rely GG r; clear r
  refine goes_q db_none rfl (fun _ => stepG_region_end) (fun w r => ?_)
  replace hK := hK.rely GG r; clear r
  refine goes_q db_none rfl (fun _ => stepG_seq) (fun w r => ?_)
  replace hK := hK.rely GG r; clear r
  refine goes_q db_none rfl (fun _ => stepG_region) (fun w r => ?_)
  replace hK := hK.rely GG r; clear r
  simp only [List.size_toArray, List.length_cons, List.length_nil, Nat.reduceAdd, Nat.zero_add, List.range, List.range.loop]
  refine goes_load1 rfl rfl (by k_ne) rfl rfl (fun w r => ⟨ag0 w, (hK.rely GG r).cellL, fun es he => ⟨rfl, rfl, rfl, rfl, fun e h => by rw [he e h]; exact evK_read hRL⟩, ?_⟩)
  replace hK := hK.rely GG r; clear r
  walk_nrm
  refine goes_q db_none rfl (fun _ => stepG_region_end) (fun w r => ?_)
  replace hK := hK.rely GG r; clear r
  refine goes_q db_none rfl (fun _ => stepG_block) (fun w r => ?_)
  replace hK := hK.rely GG r; clear r
  refine goes_q db_none rfl (fun _ => stepG_loop) (fun w r => ?_)
  replace hK := hK.rely GG r; clear r
  refine goes_q db_none rfl (fun _ => stepG_seq) (fun w r => ?_)
  replace hK := hK.rely GG r; clear r
  refine goes_q db_none rfl (fun _ => stepG_region) (fun w r => ?_)
  replace hK := hK.rely GG r; clear r
  simp only [List.size_toArray, List.length_cons, List.length_nil, Nat.reduceAdd, Nat.zero_add, List.range, List.range.loop]
  refine Goes.stop (fun w r => ?_)
  replace hK := hK.rely GG r; clear r
  refine ⟨rfl, recvStep rfl rfl (by k_ne) rfl rfl, 40, ?_⟩
  rw [served_G, Frame.finish_at]
  walk_nrm
  refine goes_q db_none rfl (fun _ => stepG_pureV (v := .bool true) rfl rfl (by k_ne) rfl) (fun w r => ?_)
  replace hK := hK.rely GG r; clear r
  walk_nrm
  refine goes_q db_none rfl (fun _ => stepG_region_end) (fun w r => ?_)
  replace hK := hK.rely GG r; clear r
  refine goes_q db_none rfl (fun _ => stepG_seq) (fun w r => ?_)
  replace hK := hK.rely GG r; clear r
  refine goes_q db_none rfl (fun _ => stepG_cond (t := true) rfl) (fun w r => ?_)
  replace hK := hK.rely GG r; clear r
  simp only [if_true]
  refine goes_q db_none rfl (fun _ => stepG_skip) (fun w r => ?_)
  replace hK := hK.rely GG r; clear r
  refine goes_q db_none rfl (fun _ => stepG_block) (fun w r => ?_)
  replace hK := hK.rely GG r; clear r
  refine goes_q db_none rfl (fun _ => stepG_seq) (fun w r => ?_)
  replace hK := hK.rely GG r; clear r
  refine goes_q db_none rfl (fun _ => stepG_region) (fun w r => ?_)
  replace hK := hK.rely GG r; clear r
  simp only [List.size_toArray, List.length_cons, List.length_nil, Nat.reduceAdd, Nat.zero_add, List.range, List.range.loop]
  refine goes_q db_none rfl (fun _ => stepG_pureV (v := vv) rfl rfl (by k_ne) rfl) (fun w r => ?_)
  replace hK := hK.rely GG r; clear r
  walk_nrm
  refine goes_both hS GG hO hR hM hK.c hK.x1 rfl rfl (by kernel_rfl) rfl rfl rfl rfl (by k_ne) (NoPan.bind (nopan_alloc _ _ _) fun _ => NoPan.pure _) (fun pu u w hM hC hx1 _ => ?_)
  replace hK : KB Wg Ch X L Y yv x1 S1 S0 K0 u w := ⟨hC, hx1⟩; clear hC hx1
  walk_nrm
  replace hM : Mod Tryz.prog FM Stop fr sm xs (kf kp (a.put (some 20) pu) (.inRegion M5 [1] :: [.code (.seq (.region 6 M6 false) .ret)])) u := hM
  have z20 : ∀ z : Value, ((a.put (some 20) pu).put (some 21) z).eval (.tmp 12) = yv := fun z => by rw [eval_put, if_neg (by simp), eval_put, if_neg (by simp), e12]
  have p20 : (a.put (some 20) pu).eval (.tmp 20) = pu := by rw [eval_put, if_pos ⟨rfl, by omega⟩]
  have p19 : (a.put (some 20) pu).eval (.tmp 19) = vv := by rw [eval_put, if_neg (by simp), e19]
  refine goes_both hS GG hO hR hM hK.c hK.x1 rfl rfl (by kernel_rfl) rfl rfl rfl ?_ (by k_ne) ?_ (fun v1 u w hM hC hx1 _ => ?_)
  · rw [exec_store rfl, exec_store rfl, p20, p19]; rfl
  · rw [exec_store rfl]; exact NoPan.bind (nopan_storeAt _ _ _) fun _ => NoPan.pure _
  replace hK : KB Wg Ch X L Y yv x1 S1 S0 K0 u w := ⟨hC, hx1⟩; clear hC hx1
  replace hM := hM.ctl hS rfl (fun _ => stepG_region_end)
  replace hM := hM.ctl hS rfl (fun _ => stepG_seq)
  replace hM : Mod Tryz.prog FM Stop fr sm xs (kf kp (a.put (some 20) pu) (.inRegion M6 [0, 1, 2, 3] :: [.code .ret])) u := hM.ctl hS rfl (fun _ => stepG_region)
  walk_nrm
  refine goes_q db_none rfl (fun _ => stepG_region_end) (fun w r => ?_)
  replace hK := hK.rely GG r; clear r
  refine goes_q db_none rfl (fun _ => stepG_region) (fun w r => ?_)
  replace hK := hK.rely GG r; clear r
  simp only [List.size_toArray, List.length_cons, List.length_nil, Nat.reduceAdd, Nat.zero_add, List.range, List.range.loop]
  refine goes_load1 rfl rfl (by k_ne) rfl rfl (fun w r => ⟨ag2 w, (hK.rely GG r).cellY, fun es he => ⟨rfl, rfl, rfl, rfl, fun e h => by rw [he e h]; exact evK_own hOY⟩, ?_⟩)
  replace hK := hK.rely GG r; clear r
  walk_nrm
  refine goes_both hS GG hO hR hM hK.c hK.x1 rfl rfl (by kernel_rfl) rfl rfl rfl ?_ (by k_ne) ?_ (fun uv u w hM hC hx1 _ => ?_)
  · rw [exec_load' rfl, exec_load' rfl]; rw [p20]; rfl
  · rw [exec_load' rfl]; exact NoPan.bind (nopan_loadAt _ _) fun _ => NoPan.pure _
  replace hK : KB Wg Ch X L Y yv x1 S1 S0 K0 u w := ⟨hC, hx1⟩; clear hC hx1
  walk_nrm
  replace hM : Mod Tryz.prog FM Stop fr sm xs (kf kp ((a.put (some 20) pu).put (some 21) uv) (.inRegion M6 [1, 2, 3] :: [.code .ret])) u := hM
  have p21 : ((a.put (some 20) pu).put (some 21) uv).eval (.tmp 21) = uv := by rw [eval_put, if_pos ⟨rfl, by rw [size_put]; omega⟩]
  refine goes_both hS GG hO hR hM hK.c hK.x1 rfl rfl (by kernel_rfl) rfl rfl rfl ?_ (by k_ne) ?_ (fun sv u w hM hC hx1 _ => ?_)
  · rw [exec_slice1 rfl, exec_slice1 rfl, p21]; rfl
  · rw [exec_slice1 rfl]; exact NoPan.bind (nopan_buildSlice _ _ _) fun _ => NoPan.pure _
  replace hK : KB Wg Ch X L Y yv x1 S1 S0 K0 u w := ⟨hC, hx1⟩; clear hC hx1
  walk_nrm
  replace hM : Mod Tryz.prog FM Stop fr sm xs (kf kp (((a.put (some 20) pu).put (some 21) uv).put (some 22) sv) (.inRegion M6 [2, 3] :: [.code .ret])) u := hM
  have p22 : (((a.put (some 20) pu).put (some 21) uv).put (some 22) sv).eval (.tmp 22) = sv := by rw [eval_put, if_pos ⟨rfl, by rw [size_put, size_put]; omega⟩]
  have p12 : (((a.put (some 20) pu).put (some 21) uv).put (some 22) sv).eval (.tmp 12) = yv := by rw [eval_put, if_neg (by simp), z20]
  refine goes_both hS GG hO hR hM hK.c hK.x1 rfl rfl (by kernel_rfl) rfl rfl rfl ?_ (by k_ne) ?_ (fun r u w hM hC hx1 hr => ?_)
  · rw [exec_append rfl, exec_append rfl, p22, p12]; rfl
  · rw [exec_append rfl]; exact NoPan.bind (nopan_ap _ _ _) fun _ => NoPan.pure _
  replace hK : KB Wg Ch X L Y yv x1 S1 S0 K0 u w := ⟨hC, hx1⟩; clear hC hx1
  replace hM : Mod Tryz.prog FM Stop fr sm xs (kf kp ((((a.put (some 20) pu).put (some 21) uv).put (some 22) sv).put (some 23) r) (.inRegion M6 [3] :: [.code .ret])) u := hM
  have hsl : ∃ b n c, r = .slice b n c := by
    obtain ⟨u0, h⟩ := hr
    rw [exec_append rfl] at h
    have hy : Yields (PF Tryz.prog FM) (fun nx => ∃ b n c, nx = .value (.slice b n c)) (do let v ← Builtin.append_ #[76, 76] 76 #[yv, sv]; pure (Next.value v)) :=
      Yields.bind2 (yields_append _ _ _ und_) fun v hv => Yields.pure (by obtain ⟨b, n, c, rfl⟩ := hv; exact ⟨b, n, c, rfl⟩)
    rw [p12, p22] at h
    rcases h with h | ⟨h, _⟩
    · obtain ⟨b, n, c, e⟩ := hy _ _ _ h
      injection e with e
      exact ⟨b, n, c, e⟩
    · obtain ⟨b, n, c, e⟩ := hy _ _ _ h
      cases e
  obtain ⟨b1, n1, c1, rfl⟩ := hsl
  have hB : BackB Stop fr sm xs a.tmps.size (.slice b1 n1 c1) u := ⟨_, hM, by rw [eval_put, if_pos ⟨rfl, by rw [size_put, size_put, size_put]; omega⟩], by simp only [size_put], by simp only [defers_put, had]⟩
  clear hM p12 p22 p21 p20 p19 z20 hr
  walk_nrm
  refine goes_storeS rfl rfl (by k_ne) rfl rfl rfl (fun w => Tryz.sizeOf76 w) (fun w r => ⟨_, _, (hK.rely GG r).c.wy, fun es he => ?_, ?_⟩)
  · have hA := aside_setCell w ⟨Y, 0, none⟩ (.slice b1 n1 c1)
    exact ⟨hA.block _ GG.ly, hA.block _ (Ne.symm GG.yx), hA.block _ (Ne.symm GG.yw), hA.block _ (Ne.symm GG.yc), fun e h => by rw [he e h]; exact evK_own hOY⟩
  replace hK := hK.rely GG r; clear r
  replace hK : KB Wg Ch X L Y (.slice b1 n1 c1) x1 S1 S0 K0 u (w.setCell ⟨Y, 0, none⟩ (.slice b1 n1 c1)) := ⟨hK.c.setY GG _, (cell_of_block ((aside_setCell w ⟨Y, 0, none⟩ (.slice b1 n1 c1)).block _ (Ne.symm GG.yx)) 1).trans hK.x1⟩
  generalize w.setCell ⟨Y, 0, none⟩ (.slice b1 n1 c1) = w at hK ⊢
  walk_nrm
  refine goes_q db_none rfl (fun _ => stepG_region_end) (fun w r => ?_)
  replace hK := hK.rely GG r; clear r
  refine goes_q db_none rfl (fun _ => stepG_inBlock) (fun w r => ?_)
  replace hK := hK.rely GG r; clear r
  refine goes_q db_none rfl (fun _ => stepG_inLoop) (fun w r => ?_)
  replace hK := hK.rely GG r; clear r
  refine goes_q db_none rfl (fun _ => stepG_seq) (fun w r => ?_)
  replace hK := hK.rely GG r; clear r
  refine goes_q db_none rfl (fun _ => stepG_region) (fun w r => ?_)
  replace hK := hK.rely GG r; clear r
  simp only [List.size_toArray, List.length_cons, List.length_nil, Nat.reduceAdd, Nat.zero_add, List.range, List.range.loop]
  refine Goes.stop (fun w r => ?_)
  replace hK := hK.rely GG r; clear r
  refine ⟨rfl, fun off => ?_, hF _ _ _ hB hK.c, 30, ?_⟩
  · exact recvStep' off rfl rfl (by k_ne) rfl rfl
  rw [served_G, Frame.finish_at]
  walk_nrm
  have hD : WgLive 179 Wg w ∧ Has X 1 (val0 1) w := ⟨hK.c.live, by show World.cell? _ _ = _; rw [hX1]; exact hK.x1⟩
  clear hB hK
  refine goes_q (fun w => by u_nil) rfl (fun _ => stepG_pureV (v := .bool false) rfl rfl (by k_ne) rfl) (fun w r => ?_)
  replace hD := kn_rely hD r; clear r
  walk_nrm
  exact doneB _ _ _ w hD
end
end Go.Proofs.YtemgilofjbnoaaaGreatDoor
namespace Go.Proofs.YtemgilofjbnoaaaGreatDoor
open Go Go.Conc
set_option linter.unusedVariables false
set_option linter.unusedSimpArgs false
section
variable {S : Nat → Prop} {K : Nat → Obj} {u w : World}
theorem getElem?_alloc (w : World) (o : Obj) (b : Nat) : (w.alloc o).heap[b]? = if b = w.heap.size then some o else w.heap[b]? := by
  show (w.heap.push o)[b]? = _
  rw [Array.getElem?_push]
theorem Sim0.low (h : Sim0 S K u w) {b : Nat} (hb : S b) : b < w.heap.size := by
  obtain ⟨_, _, _, h2, _⟩ := h.ins b hb
  exact (Array.getElem?_eq_some_iff.1 h2).1
def S1_ (S : Nat → Prop) (c : Nat) : Nat → Prop := fun b => S b ∨ b = c
def K1_ (K : Nat → Obj) (c : Nat) (o : Obj) : Nat → Obj := fun b => if b = c then o else K b
theorem hide_keeps {c : Nat} {o : Obj} (hc : ¬ S c) (b : Nat) (hb : S b) : S1_ S c b ∧ K1_ K c o b = K b := by
  refine ⟨.inl hb, ?_⟩
  unfold K1_
  rw [if_neg]
  rintro rfl
  exact hc hb
theorem Sim0.push {o o' : Obj} (h : Sim0 S K u w) (ha : Alike o o') (ho : okObj o = true) : Sim0 (S1_ S w.heap.size) (K1_ K w.heap.size o') (u.alloc o) (w.alloc o') := by
  refine ⟨by rw [World.size_alloc, World.size_alloc, h.size], fun b hb => ?_, fun b hb => ?_, fun b o1 hb => ?_, h.os, h.output, fun b hb => ?_⟩
  · rw [getElem?_alloc, getElem?_alloc, h.size]
    have : b ≠ w.heap.size := fun e => hb (.inr e)
    rw [if_neg this, if_neg this]
    exact h.out b fun e => hb (.inl e)
  · rw [getElem?_alloc, getElem?_alloc, h.size]
    rcases hb with hb | rfl
    · have := h.low hb
      rw [if_neg (by omega), if_neg (by omega)]
      exact h.ins b hb
    · exact ⟨o, o', by simp, by simp, ha⟩
  · rw [getElem?_alloc] at hb
    split at hb
    · injection hb with hb; subst hb; exact ho
    · exact h.views b _ hb
  · rw [getElem?_alloc]
    rcases hb with hb | rfl
    · have := h.low hb
      rw [if_neg (by omega), h.kept b hb]
      simp only [K1_]
      rw [if_neg (by omega)]
    · simp [K1_]
theorem Sim0.hide {c : Nat} {o : Obj} (h : Sim0 S K u w) (hc : ¬ S c) (hw : w.heap[c]? = some o) (ha : Alike o o) : Sim0 (S1_ S c) (K1_ K c o) u w := by
  refine ⟨h.size, fun b hb => h.out b fun e => hb (.inl e), fun b hb => ?_, h.views, h.os, h.output, fun b hb => ?_⟩
  · rcases hb with hb | rfl
    · exact h.ins b hb
    · exact ⟨o, o, (h.out _ hc).trans hw, hw, ha⟩
  · rcases hb with hb | rfl
    · rw [h.kept b hb]
      exact congrArg some (hide_keeps (o := o) hc b hb).2.symm
    · simp [K1_, hw]
end
section
variable {P : Program} {a : Act} {o : Oper} {ty : TypeId} {w : World} {z v v0 v1 z0 z1 : Value}
theorem exec_alloc (hop : o.op = .alloc ty) : execOp a.eval o = (do let v ← Instr.alloc ty true (.tuple #[]); pure (Next.value v)) := by
  unfold execOp
  simp only [hop]
theorem events_zv (ty : TypeId) (w : World) (es : Array Event) : (zeroValue ty).events P w es = es := events_zeroValue ..
theorem run_alloc_ (hop : o.op = .alloc ty) (hz : (zeroValue ty).run P w = .ok z w) : (execOp a.eval o).run P w = .ok (.value (.pointer (some ⟨w.heap.size, 0, none⟩))) (w.alloc (.cells z.cells ty)) := by
  rw [exec_alloc hop]
  simp [Instr.alloc, hz, newVar, newRow]
theorem events_alloc_ (hop : o.op = .alloc ty) (hz : (zeroValue ty).run P w = .ok z w) : (execOp a.eval o).events P w #[] = #[] := by
  rw [exec_alloc hop]
  simp [Instr.alloc, hz, newVar, newRow, events_zv]
theorem setCell_alloc1 (w : World) (z v : Value) (ty : TypeId) : (w.alloc (.cells #[z] ty)).setCell ⟨w.heap.size, 0, none⟩ v = w.alloc (.cells #[v] ty) := by
  simp only [World.setCell, World.alloc]
  congr 1
  apply Array.ext_getElem?
  intro i
  rw [Array.getElem?_modify, Array.getElem?_push, Array.getElem?_push]
  by_cases h : i = w.heap.size
  · subst h; simp
  · have : ¬ w.heap.size = i := fun e => h e.symm
    simp [h, this]
theorem setCell_alloc2 (w : World) (z0 z1 v0 v1 : Value) (ty : TypeId) : ((w.alloc (.cells #[z0, z1] ty)).setCell ⟨w.heap.size, 0, none⟩ v0).setCell ⟨w.heap.size, 1, none⟩ v1 = w.alloc (.cells #[v0, v1] ty) := by
  simp only [World.setCell, World.alloc]
  congr 1
  apply Array.ext_getElem?
  intro i
  rw [Array.getElem?_modify, Array.getElem?_modify, Array.getElem?_push, Array.getElem?_push]
  by_cases h : i = w.heap.size
  · subst h; simp
  · have : ¬ w.heap.size = i := fun e => h e.symm
    simp [h, this]
theorem setCell_alloc20 (w : World) (z0 z1 v0 : Value) (ty : TypeId) : (w.alloc (.cells #[z0, z1] ty)).setCell ⟨w.heap.size, 0, none⟩ v0 = w.alloc (.cells #[v0, z1] ty) := by
  simp only [World.setCell, World.alloc]
  congr 1
  apply Array.ext_getElem?
  intro i
  rw [Array.getElem?_modify, Array.getElem?_push, Array.getElem?_push]
  by_cases h : i = w.heap.size
  · subst h; simp
  · have : ¬ w.heap.size = i := fun e => h e.symm
    simp [h, this]
theorem cell_alloc (w : World) (cs : Array Value) (i : Nat) : (w.alloc (.cells cs ty)).cell? ⟨w.heap.size, i, none⟩ = cs[i]? := by
  simp only [World.cell?, getElem?_alloc]; simp
theorem frozen_alloc (w : World) (cs : Array Value) (i : Nat) : (w.alloc (.cells cs ty)).frozen? ⟨w.heap.size, i, none⟩ = false := by
  simp only [World.frozen?, getElem?_alloc]; simp
theorem run_store_new (w : World) (cs : Array Value) (i : Nat) (hi : i < cs.size) (hv : notAgg v = true) : (Go.store ⟨w.heap.size, i, none⟩ v).run P (w.alloc (.cells cs ty)) = .ok () ((w.alloc (.cells cs ty)).setCell ⟨w.heap.size, i, none⟩ v) := by
  show (Sem.store .plain ⟨w.heap.size, i, none⟩ v (.pure ())).run P _ = _
  rw [run_store_eq _ _ _ _ _ _ hv, cell_alloc, frozen_alloc]
  simp [Array.getElem?_eq_getElem hi]
theorem cells_single (hv : notAgg v = true) : v.cells = #[v] := by
  cases v <;> first | rfl | (simp [notAgg] at hv)
theorem events_store_new (w : World) (cs : Array Value) (i : Nat) (hi : i < cs.size) (hv : notAgg v = true) (es : Array Event) : (Go.store ⟨w.heap.size, i, none⟩ v).events P (w.alloc (.cells cs ty)) es = es.push ⟨.cell ⟨w.heap.size, i, none⟩, true, false⟩ := by
  rw [events_store P (w.alloc (.cells cs ty)) es ⟨w.heap.size, i, none⟩ v .plain (by cases v <;> first | rfl | (simp [notAgg] at hv))]
  simp [storedEv, frozen_alloc, cell_alloc, Array.getElem?_eq_getElem hi]
  rfl
variable {x y : Operand} {main : Bool} {b : Frame} {ops : Array Oper} {i : Nat} {l : List Nat} {k : List Item} {cs : List Frame}
theorem wanted_none (hg : o.guard = none) (y : Nat → Option Bool) : Region.wanted o y = true := by unfold Region.wanted; rw [hg]
theorem step_new1 (ho : ops[i]? = some o) (hg : o.guard = none) (hk : b.kind ≠ .early) (hop : o.op = .store ty x y) (hd : o.dst = none) (hx : a.eval x = .pointer (some ⟨w.heap.size, 0, none⟩)) (hy : a.eval y = v) (hv : notAgg v = true) (hs : ∀ w, (sizeOf ty).run P w = .ok 1 w) :
    ∃ es, stepG P main (G (b.at a (.inRegion ops (i :: l) :: k)) cs) (w.alloc (.cells #[z0] ty)) = .go (G (b.at a (.inRegion ops l :: k)) cs) (w.alloc (.cells #[v] ty)) es ∧ ∀ e ∈ es, ∃ j, e = ⟨.cell ⟨w.heap.size, j, none⟩, true, false⟩ := by
  have e0 : execOp a.eval o = (do storeVar ty ⟨w.heap.size, 0, none⟩ v; pure Next.skip) := by rw [exec_store hop, hx, hy]; rfl
  have h1 := run_store_new (P := P) (ty := ty) w #[z0] 0 (by simp) hv
  have h2 := fun es => events_store_new (P := P) (ty := ty) w #[z0] 0 (by simp) hv es
  rw [setCell_alloc1] at h1
  have e1 : (execOp a.eval o).run P (w.alloc (.cells #[z0] ty)) = .ok .skip (w.alloc (.cells #[v] ty)) := by
    rw [e0]
    simp [storeVar, hs, cells_single hv, storeCells, Addr.add, h1]
  have e2 : (execOp a.eval o).events P (w.alloc (.cells #[z0] ty)) #[] = #[⟨.cell ⟨w.heap.size, 0, none⟩, true, false⟩] := by
    rw [e0]
    simp [storeVar, hs, cells_single hv, storeCells, Addr.add, h1, h2, events_sizeOf]
  refine ⟨_, (stepG_none ho (wanted_none hg _) hk e1).trans (by rw [hd]; rfl), fun e he => ?_⟩
  have := mem_listed he
  rw [e2] at this
  simp at this
  exact ⟨0, this⟩
theorem step_new2 (ho : ops[i]? = some o) (hg : o.guard = none) (hk : b.kind ≠ .early) (hop : o.op = .store ty x y) (hd : o.dst = none) (hx : a.eval x = .pointer (some ⟨w.heap.size, 0, none⟩)) (hy : a.eval y = .agg #[v0, v1]) (hv0 : notAgg v0 = true) (hv1 : notAgg v1 = true) (hs : ∀ w, (sizeOf ty).run P w = .ok 2 w) :
    ∃ es, stepG P main (G (b.at a (.inRegion ops (i :: l) :: k)) cs) (w.alloc (.cells #[z0, z1] ty)) = .go (G (b.at a (.inRegion ops l :: k)) cs) (w.alloc (.cells #[v0, v1] ty)) es ∧ ∀ e ∈ es, ∃ j, e = ⟨.cell ⟨w.heap.size, j, none⟩, true, false⟩ := by
  have e0 : execOp a.eval o = (do storeVar ty ⟨w.heap.size, 0, none⟩ (.agg #[v0, v1]); pure Next.skip) := by rw [exec_store hop, hx, hy]; rfl
  have h1 := run_store_new (P := P) (ty := ty) w #[z0, z1] 0 (by simp) hv0
  have h2 := fun es => events_store_new (P := P) (ty := ty) w #[z0, z1] 0 (by simp) hv0 es
  have h3 := run_store_new (P := P) (ty := ty) w #[v0, z1] 1 (by simp) hv1
  have h4 := fun es => events_store_new (P := P) (ty := ty) w #[v0, z1] 1 (by simp) hv1 es
  have q : (w.alloc (.cells #[v0, z1] ty)).setCell ⟨w.heap.size, 1, none⟩ v1 = w.alloc (.cells #[v0, v1] ty) := by rw [← setCell_alloc20 w z0, setCell_alloc2]
  rw [setCell_alloc20] at h1
  rw [q] at h3
  have e1 : (execOp a.eval o).run P (w.alloc (.cells #[z0, z1] ty)) = .ok .skip (w.alloc (.cells #[v0, v1] ty)) := by
    rw [e0]
    simp [storeVar, hs, Value.cells, storeCells, Addr.add, h1, h3]
  have e2 : (execOp a.eval o).events P (w.alloc (.cells #[z0, z1] ty)) #[] = #[⟨.cell ⟨w.heap.size, 0, none⟩, true, false⟩, ⟨.cell ⟨w.heap.size, 1, none⟩, true, false⟩] := by
    rw [e0]
    simp [storeVar, hs, Value.cells, storeCells, Addr.add, h1, h2, h3, h4, events_sizeOf]
  refine ⟨_, (stepG_none ho (wanted_none hg _) hk e1).trans (by rw [hd]; rfl), fun e he => ?_⟩
  have := mem_listed he
  rw [e2] at this
  simp at this
  rcases this with rfl | rfl
  · exact ⟨0, rfl⟩
  · exact ⟨1, rfl⟩
theorem step_alloc (ho : ops[i]? = some o) (hg : o.guard = none) (hk : b.kind ≠ .early) (hop : o.op = .alloc ty) (hz : (zeroValue ty).run P w = .ok z w) :
    stepG P main (G (b.at a (.inRegion ops (i :: l) :: k)) cs) w = .go (G (b.at (a.put o.dst (.pointer (some ⟨w.heap.size, 0, none⟩))) (.inRegion ops l :: k)) cs) (w.alloc (.cells z.cells ty)) #[] := by
  rw [stepG_value ho (wanted_none hg _) hk (run_alloc_ hop hz)]
  unfold listed
  rw [events_alloc_ hop hz, seen_none]
theorem step_box {d : Nat} (ho : ops[i]? = some (opBox d ty)) (hk : b.kind ≠ .early) :
    ∃ es, stepG P main (G (b.at a (.inRegion ops (i :: l) :: k)) cs) w = .go (G (b.at (a.put (some d) (.pointer (some ⟨w.heap.size, 0, none⟩))) (.inRegion ops l :: k)) cs) (w.alloc (.cells #[] ty)) es := by
  have e0 : execOp a.eval (opBox d ty) = (do let v ← Instr.box ty (.agg #[]); pure (Next.value v)) := rfl
  have e1 : (execOp a.eval (opBox d ty)).run P w = .ok (.value (.pointer (some ⟨w.heap.size, 0, none⟩))) (w.alloc (.cells #[] ty)) := by
    rw [e0]; simp [Instr.box, newVar, newRow, Value.cells]
  exact ⟨_, stepG_value ho rfl hk e1⟩
end
section
variable {P : Program} {F : Array Func} {k0 : FuncId} {Stop : Frame → List Frame → World → Prop} {fr : Frame} {sm stt : List Frame} {S Sp S0 Sp0 : Nat → Prop} {K K0 : Nat → Obj} {x1 : St} {gs : Array Goroutine} {w u : World} {sl : Option (Nat × Nat)} {t : Trace} {q : Nat → Nat} {n : Nat}
  {a : Act} {km kt : List Item} {ops ops' : Array Oper} {i j j2 : Nat} {l l' : List Nat} {o1 : Oper} {d : Nat} {ty : TypeId} {z : Value}
theorem Here.slot0 (hS : NoStop k0 Stop) (h : Here P F Stop fr sm stt Sp n x1 (kf k0 a (.inRegion ops (i :: l) :: km)) u (kf k0 a (.inRegion ops' (j :: l') :: kt)) gs t q) (hsim : Sim0 S K u w)
    (ho : ops[i]? = some (opBox d ty)) (ho1 : ops'[j]? = some o1) (hg1 : o1.guard = none) (hop1 : o1.op = .alloc ty) (hd1 : o1.dst = some d) (hz : ∀ w, (zeroValue ty).run P w = .ok z w)
    (next : ∀ gs' sl' t' q' dd, Here P F Stop fr sm stt Sp n x1 (kf k0 (a.put (some d) (ptr w.heap.size)) (.inRegion ops l :: km)) (u.alloc (.cells #[] ty)) (kf k0 (a.put (some d) (ptr w.heap.size)) (.inRegion ops' l' :: kt)) gs' t' q' →
      Sim0 (S1_ S w.heap.size) (K1_ K w.heap.size (.cells z.cells ty)) (u.alloc (.cells #[] ty)) ((w.alloc (.cells z.cells ty)).at dd) →
      Concl P F Stop fr sm stt S0 K0 Sp0 (kf k0 (a.put (some d) (ptr w.heap.size)) (.inRegion ops l :: km), fr :: sm, u.alloc (.cells #[] ty)) gs' ((w.alloc (.cells z.cells ty)).at dd) sl' t') :
    Concl P F Stop fr sm stt S0 K0 Sp0 (kf k0 a (.inRegion ops (i :: l) :: km), fr :: sm, u) gs w sl t := by
  have hk : (base k0).kind ≠ .early := by intro h; cases h
  have hnew : ¬ S w.heap.size := fun hb => Nat.lt_irrefl _ (hsim.low hb)
  refine h.true_ (frt' := kf k0 (a.put (some d) (ptr w.heap.size)) (.inRegion ops' l' :: kt)) (Q := fun w' => ∃ dd, w' = (w.alloc (.cells z.cells ty)).at dd) (fun w' hw => ?_) (fun dd => ⟨_, #[], ?_, by simp, dd, rfl⟩) fun gs1 w1 sl1 t1 q1 hw1 h1 => ?_
  · obtain ⟨dd, rfl⟩ := hw
    show w.heap.size ≤ (w.alloc _).heap.size
    rw [World.size_alloc]; omega
  · have := step_alloc (P := P) (main := true) (b := base k0) (a := a) (l := l') (k := kt) (cs := fr :: stt) (w := w.at dd) ho1 hg1 hk hop1 (hz _)
    rw [hd1] at this
    exact this
  obtain ⟨dd, rfl⟩ := hw1
  refine h1.model hS rfl (frm' := kf k0 (a.put (some d) (ptr w.heap.size)) (.inRegion ops l :: km)) (u' := u.alloc (.cells #[] ty)) (fun τ d0 => ?_) fun h2 => ?_
  · obtain ⟨es, e⟩ := step_box (P := PF P F) (main := true) (b := base k0) (a := a) (l := l) (k := km) (cs := fr :: sm) (w := re u τ d0) (d := d) (ty := ty) ho hk
    refine ⟨es, e.trans ?_⟩
    have : (re u τ d0).heap.size = w.heap.size := hsim.size
    rw [this]; rfl
  exact (next gs1 sl1 t1 q1 dd h2 ((hsim.push (.hid _ _) rfl).at dd))
theorem Here.slot {cs : Array Value} {o2 : Oper} (hS : NoStop k0 Stop) (hSp : ∀ b, Sp b → S b) (h : Here P F Stop fr sm stt Sp n x1 (kf k0 a (.inRegion ops (i :: l) :: km)) u (kf k0 a (.inRegion ops' (j :: j2 :: l') :: kt)) gs t q) (hsim : Sim0 S K u w)
    (ho : ops[i]? = some (opBox d ty)) (ho1 : ops'[j]? = some o1) (hg1 : o1.guard = none) (hop1 : o1.op = .alloc ty) (hd1 : o1.dst = some d) (hz : ∀ w, (zeroValue ty).run P w = .ok z w)
    (hst : ∀ w1 : World, w1.heap.size = w.heap.size → ∃ es, stepG P true (G (kf k0 (a.put (some d) (ptr w.heap.size)) (.inRegion ops' (j2 :: l') :: kt)) (fr :: stt)) (w1.alloc (.cells z.cells ty)) = .go (G (kf k0 (a.put (some d) (ptr w.heap.size)) (.inRegion ops' l' :: kt)) (fr :: stt)) (w1.alloc (.cells cs ty)) es ∧ ∀ e ∈ es, ∃ j, e = ⟨.cell ⟨w.heap.size, j, none⟩, true, false⟩)
    (next : ∀ gs' sl' t' q' dd, Here P F Stop fr sm stt Sp n x1 (kf k0 (a.put (some d) (ptr w.heap.size)) (.inRegion ops l :: km)) (u.alloc (.cells #[] ty)) (kf k0 (a.put (some d) (ptr w.heap.size)) (.inRegion ops' l' :: kt)) gs' t' q' →
      Sim0 (S1_ S w.heap.size) (K1_ K w.heap.size (.cells cs ty)) (u.alloc (.cells #[] ty)) ((w.alloc (.cells cs ty)).at dd) →
      Concl P F Stop fr sm stt S0 K0 Sp0 (kf k0 (a.put (some d) (ptr w.heap.size)) (.inRegion ops l :: km), fr :: sm, u.alloc (.cells #[] ty)) gs' ((w.alloc (.cells cs ty)).at dd) sl' t') :
    Concl P F Stop fr sm stt S0 K0 Sp0 (kf k0 a (.inRegion ops (i :: l) :: km), fr :: sm, u) gs w sl t := by
  have hk : (base k0).kind ≠ .early := by intro h; cases h
  have hnew : ¬ S w.heap.size := fun hb => Nat.lt_irrefl _ (hsim.low hb)
  have hle : ∀ c : Array Value, w.heap.size ≤ (w.alloc (.cells c ty)).heap.size := fun c => by rw [World.size_alloc]; omega
  refine h.true_ (frt' := kf k0 (a.put (some d) (ptr w.heap.size)) (.inRegion ops' (j2 :: l') :: kt)) (Q := fun w' => ∃ dd, w' = (w.alloc (.cells z.cells ty)).at dd) (fun w' hw => ?_) (fun dd => ⟨_, #[], ?_, by simp, dd, rfl⟩) fun gs1 w1 sl1 t1 q1 hw1 h1 => ?_
  · obtain ⟨dd, rfl⟩ := hw
    exact hle _
  · have := step_alloc (P := P) (main := true) (b := base k0) (a := a) (l := j2 :: l') (k := kt) (cs := fr :: stt) (w := w.at dd) ho1 hg1 hk hop1 (hz _)
    rw [hd1] at this
    exact this
  obtain ⟨dd, rfl⟩ := hw1
  refine h1.true_ (frt' := kf k0 (a.put (some d) (ptr w.heap.size)) (.inRegion ops' l' :: kt)) (Q := fun w' => ∃ dd, w' = (w.alloc (.cells cs ty)).at dd) (fun w' hw => ?_) (fun d2 => ?_) fun gs2 w2 sl2 t2 q2 hw2 h2 => ?_
  · obtain ⟨dd, rfl⟩ := hw
    show (w.alloc _).heap.size ≤ (w.alloc _).heap.size
    rw [World.size_alloc, World.size_alloc]; omega
  · obtain ⟨es, e1, e2⟩ := hst (w.at d2) rfl
    refine ⟨_, es, e1, fun e he => ?_, d2, rfl⟩
    obtain ⟨j, rfl⟩ := e2 e he
    refine ⟨fun x hx hs => ?_, by simp, by simp⟩
    simp only [MemAct.ofEvent, MemAct.touch?, Option.some.injEq] at hx
    subst hx
    obtain ⟨b, hb, hs⟩ := hs
    injection hb with hb; subst hb
    exact absurd (hSp _ hs) hnew
  obtain ⟨d3, rfl⟩ := hw2
  refine h2.model hS rfl (frm' := kf k0 (a.put (some d) (ptr w.heap.size)) (.inRegion ops l :: km)) (u' := u.alloc (.cells #[] ty)) (fun τ d0 => ?_) fun h3 => ?_
  · obtain ⟨es, e⟩ := step_box (P := PF P F) (main := true) (b := base k0) (a := a) (l := l) (k := km) (cs := fr :: sm) (w := re u τ d0) (d := d) (ty := ty) ho hk
    refine ⟨es, e.trans ?_⟩
    have : (re u τ d0).heap.size = w.heap.size := hsim.size
    rw [this]; rfl
  exact (next gs2 sl2 t2 q2 d3 h3 ((hsim.push (.hid _ _) rfl).at d3))
end
end Go.Proofs.YtemgilofjbnoaaaGreatDoor
namespace Go.Proofs.YtemgilofjbnoaaaGreatDoor
open Go Go.Conc Go.ConcN
open Go.ConcR (KK wgBlock WgAt stA smA rd wr mk Payload Aside2 DC0 Bk g_of_ofEvents)
set_option linter.unusedVariables false
set_option linter.unusedSimpArgs false
set_option linter.unusedSectionVars false
variable [Payload]
section
variable {K : Crew} {Anch : Goroutine → World → Prop} {WB : World → Prop} {w : World} {gs : Array Goroutine} {sl : Option (Nat × Nat)} {t : Trace} {q : Nat → Nat} {a a' child : Goroutine} {mA mG : Nat}
def D0_ (mA : Nat) : Nat → WD := fun i => if i = 0 then ⟨12, mA, 0⟩ else ⟨13, 0, 0⟩
set_option maxHeartbeats 1600000 in
theorem crewStart (G : Good3 K Anch WB) (ha : gs[0]? = some a) (hka : gs.size = K.ka) (hL : Leavers K.P t gs q) (hP : PastD K.fam.Shun 0 t) (hn : K.n0 = t.size) (hsp : stepG K.P true a w = .spawn a' child w #[])
    (hA : Goes K.P false (RA K) (DA K) (AtSend K) mA child w) (hGo : Goes K.P true (RM K) DC0 (AtGoB3 K Anch WB) mG a' w) (hWB : WB w) (hwg : WgAt K.ty K.Wg w (2 * KK) 0) (hpay : PayAt K.X 2 w) (hch : ∃ s r, w.heap[K.Ch]? = some (.chan 0 #[] false s r false)) :
    ∃ m' ops μ, runT K.P (crowd gs w sl) 0 = (.next m', ops) ∧ InvC K Anch WB μ m' (t ++ ops) := by
  have hpos : 0 < K.ka := by
    rw [← hka]
    exact (Array.getElem?_eq_some_iff.1 ha).1
  have hrun' := runT_crowd_spawn (P := K.P) (sl := sl) (i := 0) ha (by simpa using hsp)
  rw [ofEvents_nil, hka] at hrun'
  have hu : ∀ op ∈ ((#[] : Trace).push { g := 0, fn := a.frame.fn, pos := a.frame.place, act := .go K.ka }).push { g := K.ka, fn := child.frame.fn, pos := a.frame.place, act := .start }, op.act ≠ .mark .disable ∧ op.act ≠ .mark .enable ∧ op.act ≠ .mark (.release (stA K.Wg)) ∧ op.act.touch? = none := by
    intro op hop
    simp at hop
    rcases hop with rfl | rfl <;> simp [MemAct.touch?]
  have hdf : ∀ g, Deaf (t ++ (((#[] : Trace).push { g := 0, fn := a.frame.fn, pos := a.frame.place, act := .go K.ka }).push { g := K.ka, fn := child.frame.fn, pos := a.frame.place, act := .start })) g = Deaf t g := fun g => Deaf_still t g _ fun op hop => ⟨(hu op hop).1, (hu op hop).2.1⟩
  have hrr : RR K (D0_ mA) = fun j => (fun _ => False) j ∨ j = K.ka := by
    funext k
    simp [RR, D0_]
  have hab : ∀ j, K.ka ≤ j → Deaf t j = 0 := fun j hj => hL.above j (by omega)
  have hfork := (T3.of_past G.apart hP).fork G.apart (k := K.ka) (x := { g := 0, fn := a.frame.fn, pos := a.frame.place, act := .go K.ka }) (y := { g := K.ka, fn := child.frame.fn, pos := a.frame.place, act := .start }) ⟨rfl, rfl⟩ ⟨rfl, rfl⟩ hP.deaf (hab _ (by omega)) (by simp) (by omega)
  rw [← hrr] at hfork
  obtain ⟨s, r, hc⟩ := hch
  have hnr : NoRel (stA K.Wg) K.n0 t := fun i hi he => by
    have := lt_of_act? he
    omega
  have hmode : ConcN.Mode 2 (md (D0_ mA)) (ctag .goB) (2 * KK) 0 := by
    have h := Mode.opn (j := 2) (D := md (D0_ mA)) (tag := ctag .goB) trivial (fun i hi => .inl (by
      rcases two hi with rfl | rfl <;> rfl)) (fun vs e => by cases e)
    exact h
  refine ⟨_, _, (rankC (D0_ mA) .goB, fuelC K (D0_ mA) mG q), hrun', _, w, sl, D0_ mA, .goB, mG, 0, q, a', 2 * KK, 0, rfl, ?_, .goB hGo, ⟨by simp; omega, by simp [hka, D0_], hpos, fun i hi => ?_, fun i g h1 h2 h3 => ?_, fun j hj => ?_, hfork, hnr.app (fun op hop => (hu op hop).2.2.1), by rw [hdf, hP.deaf], fun i hi => ?_,
    fun i hi hst => ?_, hpay, ?_, ⟨false, s, r, hc, by simp [D0_]⟩⟩, hwg, hmode, by simp [D0_], fun _ => hWB, by simp, rfl⟩
  · rw [Array.getElem?_push_lt (by simp; omega), ← Array.getElem?_eq_getElem]
    exact set_same _ _ (by omega)
  · rcases two hi with rfl | rfl
    · rw [Nat.add_zero, show K.ka = (gs.setIfInBounds 0 a').size by simp [hka], Array.getElem?_push_size]
      exact .a12 hA
    · rw [Array.getElem?_eq_none (by simp [hka])]
      exact .unborn
  · rw [Array.getElem?_push_lt (by simp; omega), ← Array.getElem?_eq_getElem, set_get _ _ (by omega)] at h3
    rw [hdf]
    exact hL.old i g h1 h3
  · rw [hdf]
    exact hab j (by simp [hka] at hj; omega)
  · rw [hdf]
    rcases two hi with rfl | rfl
    · exact hab _ (by omega)
    · exact hab _ (by omega)
  · rcases two hi with rfl | rfl <;> simp [D0_] at hst
  · simp only [Joint, D0_]; simp
theorem crewRun (G : Good3 K Anch WB) (ha : gs[0]? = some a) (hka : gs.size = K.ka) (hL : Leavers K.P t gs q) (hP : PastD K.fam.Shun 0 t) (hn : K.n0 = t.size) (hsp : stepG K.P true a w = .spawn a' child w #[])
    (hA : Goes K.P false (RA K) (DA K) (AtSend K) mA child w) (hGo : Goes K.P true (RM K) DC0 (AtGoB3 K Anch WB) mG a' w) (hWB : WB w) (hwg : WgAt K.ty K.Wg w (2 * KK) 0) (hpay : PayAt K.X 2 w) (hch : ∃ s r, w.heap[K.Ch]? = some (.chan 0 #[] false s r false))
    {N0 : Nat} {m0 m1 : Machine} {t0 : Trace} (h1 : runNT K.P N0 m0 t0 = (.next m1, t)) (h2 : stepT K.P m1 = runT K.P (crowd gs w sl) 0) :
    ∃ (N : Nat) (gs' : Array Goroutine) (w' : World) (sl' : Option (Nat × Nat)) (t' : Trace) (q' : Nat → Nat) (a' : Goroutine), runNT K.P N m0 t0 = (.next (crowd gs' w' sl'), t') ∧ gs'[0]? = some a' ∧ K.Nx a' ∧ Leavers K.P t' gs' q' ∧
      PastD (fun l => K.fam.Shun l ∨ K.fam.Sh l) 0 t' ∧ K.F w' ∧ WgLive K.ty K.Wg w' ∧ ChLive K.Ch w' ∧ PayAt K.X 2 w' := by
  obtain ⟨m', ops, μ, e, hI⟩ := crewStart (sl := sl) G ha hka hL hP hn hsp hA hGo hWB hwg hpay hch
  obtain ⟨N, gs', w', sl', t', q', a', hr, rest⟩ := crew G μ m' _ hI
  exact ⟨N0 + 1 + N, gs', w', sl', t', q', a', (runNT_add K.P (runNT_next K.P h1 (h2.trans e))).trans hr, rest⟩
end
end Go.Proofs.YtemgilofjbnoaaaGreatDoor
namespace Go.Proofs.YtemgilofjbnoaaaGreatDoor
open Go Go.Conc Go.ConcN Go.RowKit Go.Conc.Lib Go.ConcR.Gen Go.ConcN.Gen
open Go.ConcR (KK wgBlock WgAt stA smA rd wr mk Payload Aside2 DC0)
set_option linter.unusedVariables false
set_option linter.unusedSimpArgs false
noncomputable def T9 : Code := .seq (.region 9 (R0 9) false) .ret
noncomputable def T8 : Code := .seq (.region 8 (R0 8) false) T9
noncomputable def T7 : Code := .seq (.region 7 (R0 7) false) T8
noncomputable def T6 : Code := .seq (.region 6 (R0 6) false) T7
theorem n6 : List.range (R0 6).size = [0, 1] := by kernel_rfl
theorem n7 : List.range (R0 7).size = [0, 1] := by kernel_rfl
theorem n8 : List.range (R0 8).size = [0] := by kernel_rfl
theorem n9 : List.range (R0 9).size = [0, 1] := by kernel_rfl
section
variable {Wg Ch X L Y ka lo : Nat} {Sp S0 S1 : Nat → Prop}
def famP (Wg X L Y ka : Nat) (Sp S1 : Nat → Prop) : Fam where
  Sh := ShN Wg
  Shun := ShunS Sp
  Own k l := k = ka + 1 ∧ ∃ ad, l = .cell ad ∧ (ad.block = Y ∨ ¬ S1 ad.block)
  Rd k l := (k = ka ∨ k = ka + 1) ∧ ((∃ ad, l = .cell ad ∧ (ad.block = L ∨ (ad.block = X ∧ k = ka))) ∨ ∃ r, l = .obj r)
theorem famP_apart (GG : Geo3 S1 S0 Wg Ch X L Y) (hS : ∀ b, Sp b → S1 b ∧ b ≠ Wg ∧ b ≠ X ∧ b ≠ Y ∧ b ≠ L) : (famP Wg X L Y ka Sp S1).Apart := by
  refine ⟨?_, ?_, ?_, ?_, ?_, ?_, ?_, ?_, ?_, ?_⟩
  · rintro k k' l ⟨h, _⟩ ⟨h', _⟩; omega
  · rintro k k' l ⟨rfl, ad, rfl, h1⟩ ⟨h2, h3⟩
    rcases h3 with ⟨ad', e, h4⟩ | ⟨r, e⟩
    · injection e with e; subst e
      rcases h4 with h4 | ⟨h4, _⟩
      · rcases h1 with h1 | h1
        · exact GG.ly (h4.symm.trans h1)
        · exact h1 (h4 ▸ GG.l)
      · rcases h1 with h1 | h1
        · exact GG.yx (h1.symm.trans h4)
        · exact h1 (h4 ▸ GG.x)
    · cases e
  · rintro k l ⟨rfl, ad, rfl, h1⟩ ⟨a, e, h2⟩
    injection e with e; subst e
    rcases h1 with h1 | h1
    · exact GG.yw (h1.symm.trans h2)
    · exact h1 (h2 ▸ GG.g)
  · rintro k l ⟨_, h3⟩ ⟨a, e2, h2⟩
    subst e2
    rcases h3 with ⟨ad', e, h4⟩ | ⟨r, e⟩
    · injection e with e; subst e
      rcases h4 with h4 | ⟨h4, _⟩
      · exact GG.lw (h4.symm.trans h2)
      · exact GG.xw (h4.symm.trans h2)
    · cases e
  · rintro l ⟨a, rfl, h⟩ ⟨a', e, h2⟩
    injection e with e; subst e
    exact (hS _ h).2.1 h2
  · rintro k l ⟨rfl, ad, rfl, h1⟩ ⟨a, e, h2⟩
    injection e with e; subst e
    rcases h1 with h1 | h1
    · exact (hS _ h2).2.2.2.1 h1
    · exact h1 (hS _ h2).1
  · rintro k l ⟨_, h3⟩ ⟨a, e2, h2⟩
    subst e2
    rcases h3 with ⟨ad', e, h4⟩ | ⟨r, e⟩
    · injection e with e; subst e
      rcases h4 with h4 | ⟨h4, _⟩
      · exact (hS _ h2).2.2.2.2 h4
      · exact (hS _ h2).2.2.1 h4
    · cases e
  · rintro k l ⟨_, ad, rfl, _⟩; rfl
  · rintro k l ⟨_, ⟨ad, rfl, _⟩ | ⟨r, rfl⟩⟩ <;> rfl
  · rintro l ⟨a, rfl, _⟩; rfl
theorem dc0_ (w : World) : DC0 w w #[] := ⟨rfl, rfl⟩
theorem stepG_mf {P : Program} {main : Bool} {b : Frame} {a : Act} {ops : Array Oper} {i : Nat} {l : List Nat} {k : List Item} {cs : List Frame} {o : Oper} {fn : Fn} {cap : Array Operand} {w : World} (ho : ops[i]? = some o) (hg : o.guard = none) (hk : b.kind ≠ .early) (hop : o.op = .makeFunc fn #[] cap) :
    stepG P main (G (b.at a (.inRegion ops (i :: l) :: k)) cs) w = .go (G (b.at (a.put o.dst (.func fn #[] (cap.map a.eval))) (.inRegion ops l :: k)) cs) w #[] := by
  have e : execOp a.eval o = (do let v ← Instr.makeFunc fn (Array.map a.eval #[]) (Array.map a.eval cap); pure (Next.value v)) := by
    unfold execOp
    simp only [hop]
  have e1 : (execOp a.eval o).run P w = .ok (.value (.func fn #[] (cap.map a.eval))) w := by
    rw [e]; simp [run_makeFunc']
  rw [stepG_value ho (wanted_none hg _) hk e1]
  unfold listed
  rw [e]
  simp [events_makeFunc', seen_none]
theorem stepG_go {P : Program} {main : Bool} {b : Frame} {a : Act} {ops : Array Oper} {i : Nat} {l : List Nat} {k : List Item} {cs : List Frame} {o : Oper} {f : FuncId} {cap : Array Value} {x : Operand} {w : World} (ho : ops[i]? = some o) (hg : o.guard = none) (hk : b.kind ≠ .early) (hd : o.dst = none) (hop : o.op = .go { callee := .value x, args := #[], argTypes := #[] }) (hx : a.eval x = .func (.func f) #[] cap) :
    stepG P main (G (b.at a (.inRegion ops (i :: l) :: k)) cs) w = .spawn (G (b.at a (.inRegion ops l :: k)) cs) (born P { target := .fn (.func f) cap, args := #[] }) w #[] := by
  have e : execOp a.eval o = (do let d ← (pure { target := .fn (.func f) cap, args := #[] ++ Array.map a.eval #[] } : Sem Deferred); pure (Next.spawn d)) := by
    unfold execOp
    simp only [hop]
    simp only [resolve, hx, Deferred.ofValue]
  have e1 : (execOp a.eval o).run P w = .ok (.spawn { target := .fn (.func f) cap, args := #[] }) w := by
    rw [e]; simp
  rw [stepG_spawn ho (wanted_none hg _) hk e1 rfl]
  unfold listed
  rw [e, hd]
  simp [seen_none]
  rfl
end
end Go.Proofs.YtemgilofjbnoaaaGreatDoor
namespace Go.Proofs.YtemgilofjbnoaaaGreatDoor
open Go Go.Conc Go.ConcN Go.RowKit Go.Conc.Lib Go.ConcR.Gen Go.ConcN.Gen
open Go.ConcR (KK wgBlock WgAt stA smA rd wr mk Payload Aside2 DC0)
set_option linter.unusedVariables false
set_option linter.unusedSimpArgs false
section
variable {Stop : Frame → List Frame → World → Prop} {fr : Frame} {sm stt : List Frame} {Wg Ch X L Y n : Nat} {Sp S0 S1 : Nat → Prop} {K0 K1 : Nat → Obj} {x1 : St} {u w : World} {gs : Array Goroutine} {sl : Option (Nat × Nat)} {t : Trace} {q : Nat → Nat} {a : Act} {x0 xx1 yv : Value}
noncomputable def xsP (fr : Frame) (sm : List Frame) (a : Act) (u : World) : St := (kf kp a (.inRegion M5 [0, 1] :: [.code (.seq (.region 6 M6 false) .ret)]), fr :: sm, u)
def FP (Stop : Frame → List Frame → World → Prop) (fr : Frame) (sm : List Frame) (a : Act) (u : World) (S1 S0 : Nat → Prop) (K0 : Nat → Obj) (Wg Ch X L Y : Nat) (w : World) : Prop :=
  ∃ r u', BackB Stop fr sm (xsP fr sm a u) a.tmps.size r u' ∧ SimC S1 S0 K0 Wg Ch X L Y r u' w
abbrev a20 (a : Act) : Act := a.put (some 20) (.tuple #[])
abbrev a21 (a : Act) (Wg L X : Nat) : Act := (a20 a).put (some 21) (.func (.func 133) #[] #[ptr Wg, ptr L, ptr X])
abbrev a22 (a : Act) (Wg L X Y : Nat) : Act := (a21 a Wg L X).put (some 22) (.func (.func 135) #[] #[ptr Wg, ptr L, ptr Y])
abbrev a23 (a : Act) (Wg L X Y : Nat) : Act := (a22 a Wg L X Y).put (some 23) (.tuple #[])
noncomputable def goBack (fr : Frame) (stt : List Frame) (a : Act) (Wg L X Y : Nat) : Goroutine := G (kf kp (a23 a Wg L X Y) (.inRegion (R0 8) [] :: [.code T9])) (fr :: stt)
theorem tmpsW (x : Value) : (#[x] : Array Value) ++ Array.replicate ((waitFn link).ntmps - (#[x] : Array Value).size) undef = #[x, undef, undef, undef, undef, undef, undef, undef, undef, undef, undef, undef, undef, undef, undef, undef, undef, undef, undef, undef, undef, undef, undef, undef, undef, undef, undef, undef, undef, undef, undef, undef, undef, undef, undef, undef, undef, undef, undef, undef, undef, undef, undef, undef, undef, undef, undef, undef, undef, undef, undef, undef, undef, undef, undef, undef, undef, undef, undef, undef, undef, undef, undef, undef, undef, undef, undef, undef, undef, undef, undef, undef, undef, undef, undef, undef, undef, undef, undef, undef, undef, undef, undef, undef] := by kernel_rfl
theorem tmpsA (x y : Value) : (#[x, y] : Array Value) ++ Array.replicate ((addFn link).ntmps - (#[x, y] : Array Value).size) undef = #[x, y, undef, undef, undef, undef, undef, undef, undef, undef, undef, undef, undef, undef, undef, undef, undef, undef, undef, undef, undef, undef, undef, undef, undef, undef, undef, undef, undef, undef, undef, undef, undef, undef, undef, undef, undef, undef, undef, undef, undef, undef, undef, undef, undef, undef, undef, undef, undef, undef, undef, undef, undef, undef, undef, undef, undef, undef, undef, undef, undef, undef, undef, undef, undef, undef, undef, undef, undef, undef, undef, undef, undef, undef, undef, undef, undef, undef, undef, undef, undef, undef, undef, undef, undef, undef, undef, undef, undef, undef, undef, undef, undef, undef, undef, undef, undef, undef, undef, undef, undef, undef, undef, undef, undef, undef, undef, undef, undef, undef, undef, undef, undef, undef, undef, undef, undef] := by kernel_rfl
set_option maxRecDepth 100000 in
set_option maxHeartbeats 400000 in
theorem toGoB {K : Crew} (hKP : K.P = Tryz.prog) (hty : K.ty = 179) (hW : K.Wg = Wg) (WB : World → Prop) (a : Act) (e8 : a.eval (.tmp 8) = ptr Wg) (e5 : a.eval (.tmp 5) = ptr L) (e6 : a.eval (.tmp 6) = ptr Y) (hsz : 25 ≤ a.tmps.size)
    (hB : ∀ w, WB w → ∃ m, Goes K.P false (RB K) (DB K) (AtRecv1 K) m (born K.P { target := .fn (.func 135) #[ptr Wg, ptr L, ptr Y], args := #[] }) w) (w : World) (hF : WgLive K.ty K.Wg w) :
    ∃ m, Goes K.P true (RM K) DC0 (AtGoB3 K (AnchC link K (kf kp (a22 a Wg L X Y) (.inRegion (R0 8) [0] :: [.code T9])) (fr :: stt)) WB) m (G (kf kp (a21 a Wg L X) (.inRegion (R0 6) [] :: [.code T7])) (fr :: stt)) w := by
  have p8 : ∀ v1 v2 : Value, (((a.put (some 20) (.tuple #[])).put (some 21) v1).put (some 22) v2).eval (.tmp 8) = ptr Wg := fun v1 v2 => by
    rw [eval_put, if_neg (by simp), eval_put, if_neg (by simp), eval_put, if_neg (by simp), e8]
  have q8 : ∀ v1 : Value, ((a.put (some 20) (.tuple #[])).put (some 21) v1).eval (.tmp 8) = ptr Wg := fun v1 => by
    rw [eval_put, if_neg (by simp), eval_put, if_neg (by simp), e8]
  have q5 : ∀ v1 : Value, ((a.put (some 20) (.tuple #[])).put (some 21) v1).eval (.tmp 5) = ptr L := fun v1 => by
    rw [eval_put, if_neg (by simp), eval_put, if_neg (by simp), e5]
  have q6 : ∀ v1 : Value, ((a.put (some 20) (.tuple #[])).put (some 21) v1).eval (.tmp 6) = ptr Y := fun v1 => by
    rw [eval_put, if_neg (by simp), eval_put, if_neg (by simp), e6]
  have q22 : ∀ v1 v2 : Value, (((a.put (some 20) (.tuple #[])).put (some 21) v1).put (some 22) v2).eval (.tmp 22) = v2 := fun v1 v2 => by
    rw [eval_put, if_pos ⟨rfl, by simp only [size_put]; omega⟩]
  have hP : WgLib K.P link := by rw [hKP]; exact wgLib
  refine ⟨10, ?_⟩
  refine goes_q dc0_ rfl (fun _ => stepG_region_end) (fun w r => ?_)
  replace hF := r hF; clear r
  unfold T7
  refine goes_q dc0_ rfl (fun _ => stepG_seq) (fun w r => ?_)
  replace hF := r hF; clear r
  refine goes_q dc0_ rfl (fun _ => stepG_region) (fun w r => ?_)
  replace hF := r hF; clear r
  rw [n7]
  refine goes_q dc0_ rfl (fun _ => stepG_mf (o := o0 7 0) rfl rfl (by k_ne) rfl) (fun w r => ?_)
  replace hF := r hF; clear r
  have ea : (a21 a Wg L X).put (o0 7 0).dst (.func (.func 135) #[] ((#[.tmp 8, .tmp 5, .tmp 6] : Array Operand).map (a21 a Wg L X).eval)) = a22 a Wg L X Y := by
    have hd : (o0 7 0).dst = some 22 := by kernel_rfl
    rw [hd]
    simp only [List.map_toArray, List.map_cons, List.map_nil, q8, q5, q6]
  rw [ea]
  refine Goes.stop (fun w r => ?_)
  replace hF := r hF; clear r
  refine ⟨rfl, _, _, stepG_go (o := o0 7 1) (x := .tmp 22) rfl rfl (by k_ne) rfl rfl (q22 _ _), rfl, hB w, 10, ?_⟩
  refine goes_q dc0_ rfl (fun _ => stepG_region_end) (fun w r => ?_)
  replace hF := r hF; clear r
  unfold T8
  refine goes_q dc0_ rfl (fun _ => stepG_seq) (fun w r => ?_)
  replace hF := r hF; clear r
  refine goes_q dc0_ rfl (fun _ => stepG_region) (fun w r => ?_)
  replace hF := r hF; clear r
  rw [n8]
  refine Goes.step rfl (fun w r => ?_)
  replace hF := r hF; clear r
  refine goes_call (o := o0 8 0) (args := #[.tmp 8]) rfl rfl (by k_ne) rfl hP.f_wait (nm_wait link) rfl ⟨dc0_ _, ?_⟩
  have ew : (#[.tmp 8] : Array Operand).map (a22 a Wg L X Y).eval = #[ptr K.Wg] := by
    simp only [List.map_toArray, List.map_cons, List.map_nil, p8, hW]
  rw [ew, tmpsW]
  have hw := waitStartC (K := K) (b₀ := base kp) (a₀ := a22 a Wg L X Y) (ops₀ := R0 8) (i₀ := 0) (rest₀ := []) (k₀ := [.code T9]) (cs := fr :: stt) hP w hF
  exact hw.mono (by omega)
theorem exec_assign {a : Act} {o : Oper} {x : Operand} (hop : o.op = .assign x) : execOp a.eval o = pure (Next.value (a.eval x)) := by
  unfold execOp
  simp only [hop]
theorem res88 : Tryz.f120.results = #[.tmp 4] := by kernel_rfl
theorem stepLeave {P : Program} {main : Bool} {b : Frame} {a : Act} {todo : List Item} {c : Frame} {cs : List Frame} {fn : Func} {v : Value} (hn : b.kind = .normal) (hd : a.defers = []) (hf : P.funcs[b.fn]? = some fn) (hr : fn.results = #[.tmp 4]) (hv : a.eval (.tmp 4) = v) (w : World) :
    stepG P main (G { b.at a todo with mode := .returning } (c :: cs)) w = .go (G (c.finish v) cs) w #[] := by
  rw [stepG_leave hn hd hf (results_tmp hr _ P w) (events_results_tmp hr _ _), ← hv]
  rfl
set_option maxRecDepth 100000 in
theorem passEnd {r : Value} {u' : World} {x : St} {na : Nat} (hS : NoStop kp Stop) (hB : BackB Stop fr sm x na r u') (hna : 25 ≤ na) (hwy : w.heap[Y]? = some (.cells #[r] 76)) (hsim : ∃ K', Sim0 S1 K' u' w ∧ ∀ b, S0 b → S1 b ∧ K' b = K0 b) (hSp1 : ∀ b, Sp b → S1 b) (hYS : ¬ Sp Y)
    (hA : Alone Tryz.prog Sp 0 n (goBack fr stt a Wg L X Y) gs t q) (e6 : a.eval (.tmp 6) = ptr Y) (hsz : 25 ≤ a.tmps.size) (had : a.defers = []) :
    Concl Tryz.prog FM Stop fr sm stt S0 K0 Sp x gs w sl t := by
  have hk : (base kp).kind ≠ .early := by intro h; cases h
  have ag2 := Tryz.isAgg76
  have hR : ∀ w d, (fun _ _ : World => True) w (World.at w d) := fun _ _ => trivial
  have q6 : (a23 a Wg L X Y).eval (.tmp 6) = ptr Y := by
    rw [eval_put, if_neg (by simp), eval_put, if_neg (by simp), eval_put, if_neg (by simp), eval_put, if_neg (by simp), e6]
  have g1 : Goes Tryz.prog true (fun _ _ => True) DC0 (fun g _ => g = G (kf kp (a23 a Wg L X Y) (.inRegion (R0 9) [0, 1] :: [.code .ret])) (fr :: stt)) 3 (goBack fr stt a Wg L X Y) w := by
    unfold goBack
    refine goes_q dc0_ rfl (fun _ => stepG_region_end) (fun w r => ?_)
    unfold T9
    refine goes_q dc0_ rfl (fun _ => stepG_seq) (fun w r => ?_)
    refine goes_q dc0_ rfl (fun _ => stepG_region) (fun w r => ?_)
    rw [n9]
    exact Goes.stop (fun _ _ => rfl)
  refine hA.goes hR _ g1 fun g1 gs1 d1 sl1 t1 q1 h1 e1 => ?_
  have e1 := e1 0
  subst e1
  refine h1.step rfl (Q := fun g' w' es => g' = G (kf kp ((a23 a Wg L X Y).put (some 24) r) (.inRegion (R0 9) [1] :: [.code .ret])) (fr :: stt) ∧ (∃ d, w' = w.at d) ∧ deafBehind 0 es = 0) (fun d => ?_) fun g2 w2 es2 gs2 sl2 t2 q2 hq h2 => ?_
  · have hc : (w.at d).cell? ⟨Y, 0, none⟩ = some r := by
      show World.cell? w _ = _
      simp [World.cell?, hwy]
    obtain ⟨es, k1, k2⟩ := step_load1 (P := Tryz.prog) (main := true) (b := base kp) (a := a23 a Wg L X Y) (ops := R0 9) (i := 0) (l := [1]) (k := [.code .ret]) (cs := fr :: stt) (o := o0 9 0) (w := w.at d) rfl rfl hk rfl q6 (ag2 _) hc
    have hd : (o0 9 0).dst = some 24 := by kernel_rfl
    rw [hd] at k1
    refine ⟨_, _, es, k1, fun e he => ?_, Nat.le_refl _, rfl, ⟨d, rfl⟩, deafBehind_still (fun e he => by rw [k2 e he]; simp) 0⟩
    rw [k2 e he]
    intro x hx hs
    simp only [MemAct.ofEvent, MemAct.touch?, Option.some.injEq] at hx
    subst hx
    obtain ⟨b, hb, hS⟩ := hs
    injection hb with hb
    subst hb
    exact absurd hS hYS
  obtain ⟨rfl, ⟨d2, rfl⟩, hd2⟩ := hq
  rw [hd2] at h2
  have q24 : ((a23 a Wg L X Y).put (some 24) r).eval (.tmp 24) = r := by rw [eval_put, if_pos ⟨rfl, by simp only [size_put]; omega⟩]
  have g2 : Goes Tryz.prog true (fun _ _ => True) DC0 (fun g _ => g = G { (base kp).at (((a23 a Wg L X Y).put (some 24) r).put (some 4) r) [.code .ret] with mode := .returning } (fr :: stt)) 3 (G (kf kp ((a23 a Wg L X Y).put (some 24) r) (.inRegion (R0 9) [1] :: [.code .ret])) (fr :: stt)) (w.at d2) := by
    refine goes_q dc0_ rfl (fun _ => stepG_pureV (o := o0 9 1) (v := r) rfl rfl hk (by rw [exec_assign (x := .tmp 24) rfl, q24])) (fun w r => ?_)
    have hd : (o0 9 1).dst = some 4 := by kernel_rfl
    rw [hd]
    refine goes_q dc0_ rfl (fun _ => stepG_region_end) (fun w r => ?_)
    refine goes_q dc0_ rfl (fun _ => stepG_ret') (fun w r => ?_)
    exact Goes.stop (fun _ _ => rfl)
  refine h2.goes hR _ g2 fun g3 gs3 d3 sl3 t3 q3 h3 e3 => ?_
  have e3 := e3 0
  subst e3
  have qr : (((a23 a Wg L X Y).put (some 24) r).put (some 4) r).eval (.tmp 4) = r := by rw [eval_put, if_pos ⟨rfl, by simp only [size_put]; omega⟩]
  refine h3.step rfl (Q := fun g' w' es => g' = G (fr.finish r) stt ∧ (∃ d, w' = w.at d) ∧ deafBehind 0 es = 0) (fun d => ⟨_, _, _, stepLeave rfl (by simp only [defers_put, had]) Tryz.func120 res88 qr _, by simp, Nat.le_refl _, rfl, ⟨d, rfl⟩, rfl⟩) fun g4 w4 es4 gs4 sl4 t4 q4 hq h4 => ?_
  obtain ⟨rfl, ⟨d4, rfl⟩, hd4⟩ := hq
  rw [hd4] at h4
  obtain ⟨am, hM, e23, hs23, hdm⟩ := hB
  have hM1 : Mod Tryz.prog FM Stop fr sm x (kf kp (am.put (some 4) r) (.inRegion M6 [] :: [.code .ret])) u' := hM.ctl hS rfl fun w => stepG_pureV (o := opOf (some 4) (.assign (.tmp 23))) (v := r) rfl rfl hk (by rw [exec_assign (x := .tmp 23) rfl, e23])
  have hM2 : Mod Tryz.prog FM Stop fr sm x (kf kp (am.put (some 4) r) [.code .ret]) u' := hM1.ctl hS rfl fun w => stepG_region_end
  have hM3 : Mod Tryz.prog FM Stop fr sm x ({ (base kp).at (am.put (some 4) r) [.code .ret] with mode := .returning }) u' := hM2.ctl hS rfl fun w => stepG_ret'
  obtain ⟨f', s', u2, es, k1, k2, k3⟩ := hM3.fin.go (hS.at rfl) u'.tape u'.drawn
  have qm : (am.put (some 4) r).eval (.tmp 4) = r := by rw [eval_put, if_pos ⟨rfl, by omega⟩]
  rw [stepLeave (P := PF Tryz.prog FM) (fn := passFn) rfl (by simp only [defers_put, hdm]) fm_kp res88 qm] at k1
  injection k1 with c1 c2 c3
  injection c1 with c4 c5
  subst c4 c5 c2
  obtain ⟨K', hs', hk'⟩ := hsim
  exact Concl.hide hk' ⟨_, _, .inl ⟨r, rfl⟩, hM3.desc.tail k3, k2, Comes_.refl hSp1 h4.h0 h4.lv h4.past (hs'.at d4)⟩
end
end Go.Proofs.YtemgilofjbnoaaaGreatDoor
namespace Go.Proofs.YtemgilofjbnoaaaGreatDoor
open Go Go.Conc Go.ConcN Go.RowKit Go.Conc.Lib Go.ConcR.Gen Go.ConcN.Gen
open Go.ConcR (KK wgBlock WgAt stA smA rd wr mk Payload Aside2 DC0)
set_option linter.unusedVariables false
set_option linter.unusedSimpArgs false
section
variable {Stop : Frame → List Frame → World → Prop} {fr : Frame} {sm stt : List Frame} {Wg Ch X L Y n : Nat} {Sp S0 S1 : Nat → Prop} {K0 K1 : Nat → Obj} {x1 : St} {u w : World} {gs : Array Goroutine} {sl : Option (Nat × Nat)} {t : Trace} {q : Nat → Nat} {a : Act} {x0 xx1 yv : Value}
theorem KB.at (h : KB Wg Ch X L Y yv xx1 S1 S0 K0 u w) (d : Nat) : KB Wg Ch X L Y yv xx1 S1 S0 K0 u (w.at d) := by
  obtain ⟨⟨⟨K, hs, hk⟩, h1, h2, h3, h4, h5, h6, h7, h8, h9⟩, hx⟩ := h
  exact ⟨⟨⟨K, hs.at d, hk⟩, h1, h2, h3, h4, h5, h6, h7, h8, h9⟩, hx⟩
set_option maxRecDepth 100000 in
theorem toGoA {K : Crew} (hKP : K.P = Tryz.prog) (hty : K.ty = 179) (a : Act) (e8 : a.eval (.tmp 8) = ptr Wg) (e5 : a.eval (.tmp 5) = ptr L) (e7 : a.eval (.tmp 7) = ptr X) (w : World) :
    Goes K.P true (RM K) DC0 (fun g _ => g = G (kf kp (a21 a Wg L X) (.inRegion (R0 6) [1] :: [.code T7])) (fr :: stt)) 4 (G (kf kp (a20 a) (.inRegion (R0 5) [] :: [.code T6])) (fr :: stt)) w := by
  have q8 : (a20 a).eval (.tmp 8) = ptr Wg := by rw [eval_put, if_neg (by simp), e8]
  have q5 : (a20 a).eval (.tmp 5) = ptr L := by rw [eval_put, if_neg (by simp), e5]
  have q7 : (a20 a).eval (.tmp 7) = ptr X := by rw [eval_put, if_neg (by simp), e7]
  refine goes_q dc0_ rfl (fun _ => stepG_region_end) (fun w r => ?_)
  unfold T6
  refine goes_q dc0_ rfl (fun _ => stepG_seq) (fun w r => ?_)
  refine goes_q dc0_ rfl (fun _ => stepG_region) (fun w r => ?_)
  rw [n6]
  refine goes_q dc0_ rfl (fun _ => stepG_mf (o := o0 6 0) rfl rfl (by k_ne) rfl) (fun w r => ?_)
  have hd : (o0 6 0).dst = some 21 := by kernel_rfl
  rw [hd]
  simp only [List.map_toArray, List.map_cons, List.map_nil, q8, q5, q7]
  exact Goes.stop (fun _ _ => rfl)
set_option maxRecDepth 100000 in
theorem passCrew (hS : NoStop kp Stop) (GG : Geo3 S1 S0 Wg Ch X L Y) (hSp : ∀ b, Sp b → S1 b ∧ b ≠ Wg ∧ b ≠ X ∧ b ≠ Y ∧ b ≠ L) (hsub : ∀ b, S0 b → S1 b ∧ K1 b = K0 b)
    (h : Here Tryz.prog FM Stop fr sm stt Sp n x1 (kf kp a (.inRegion M5 [0, 1] :: [.code (.seq (.region 6 M6 false) .ret)])) u (kf kp a (.inRegion (R0 5) [0] :: [.code T6])) gs t q) (hsim : Sim0 S1 K1 u w)
    (kg : K1 Wg = wgBlock 179 0 0) (kc : K1 Ch = .chan 0 #[] false 0 0 false) (kx : K1 X = .cells #[x0, xx1] 28) (kl : K1 L = .cells #[.chan (some Ch)] 171) (ky : K1 Y = .cells #[yv] 76)
    (e5 : a.eval (.tmp 5) = ptr L) (e6 : a.eval (.tmp 6) = ptr Y) (e7 : a.eval (.tmp 7) = ptr X) (e8 : a.eval (.tmp 8) = ptr Wg) (e12 : a.eval (.tmp 12) = yv) (e19 : a.eval (.tmp 19) = .agg #[x0, xx1]) (hsz : 25 ≤ a.tmps.size) (had : a.defers = []) (hWg : w.heap.size = Wg + 1) :
    Concl Tryz.prog FM Stop fr sm stt S0 K0 (S1_ Sp Wg) (xsP fr sm a u) gs w sl t := by
  have bg := (hsim.kept Wg GG.g).trans (congrArg some kg)
  have bc := (hsim.kept Ch GG.c).trans (congrArg some kc)
  have bx := (hsim.kept X GG.x).trans (congrArg some kx)
  have bl := (hsim.kept L GG.l).trans (congrArg some kl)
  have by_ := (hsim.kept Y GG.y).trans (congrArg some ky)
  have ug := alike_cells hsim GG.g bg
  have ux := alike_cells hsim GG.x bx
  have uy := alike_cells hsim GG.y by_
  have uc := alike_chan hsim GG.c bc
  let Kd : Crew := crewK Wg Ch X L n (famP Wg X L Y n Sp S1) (fun i => if i = 0 then x0 else xx1) (.agg #[x0, xx1]) (fun _ => True) 0 (fun _ => True)
  have hP : WgLib Kd.P link := wgLib
  have hA0 : Alone Tryz.prog Sp 0 n (G (kf kp a (.inRegion (R0 5) [0] :: [.code T6])) (fr :: stt)) gs t q := ⟨h.h0, h.lv, h.past, h.size⟩
  have gAdd : Goes Kd.P true (RM Kd) DC0 (AtDis Kd fun g _ => g = G (kf kp (a20 a) (.inRegion (R0 5) [] :: [.code T6])) (fr :: stt)) 13 (G (kf kp a (.inRegion (R0 5) [0] :: [.code T6])) (fr :: stt)) w := by
    refine Goes.step rfl (fun w1 r => ?_)
    have hF : WgLive Kd.ty Kd.Wg w1 := r ⟨0, 0, bg⟩
    refine goes_call (o := o0 5 0) (args := #[.tmp 8, .const (.int .i64 2)]) rfl rfl (by k_ne) rfl hP.f_add (nm_add link) rfl ⟨dc0_ _, ?_⟩
    have ew : (#[.tmp 8, .const (.int .i64 2)] : Array Operand).map a.eval = #[ptr Wg, .int .i64 2] := by
      simp only [List.map_toArray, List.map_cons, List.map_nil, e8]
      rfl
    rw [ew, tmpsA]
    exact addTwoC (K := Kd) (b₀ := base kp) (a₀ := a) (ops₀ := R0 5) (i₀ := 0) (rest₀ := []) (k₀ := [.code T6]) (cs := fr :: stt) hP w1 hF
  refine add_alone (Kc := Kd) gAdd hA0 bg fun g1 gs1 d1 sl1 t1 q1 hA1 hst => ?_
  obtain ⟨_, rfl⟩ := hst
  have hAs := aside_setCell w (stA Wg) (.int .u64 (2 * KK))
  have hW1 : (w.setCell (stA Wg) (.int .u64 (2 * KK))).heap[Wg]? = some (wgBlock 179 (2 * KK) 0) := by
    show (w.setCell ⟨Wg, 0, none⟩ _).heap[Wg]? = _
    rw [setCell_eq_setRow w Wg 0 _ _ (0, 0) _ bg, setRow_heap w Wg _ _ _ _ bg]
    rfl
  show Concl Tryz.prog FM Stop fr sm stt S0 K0 (S1_ Sp Wg) (xsP fr sm a u) gs1 ((w.setCell (stA Wg) (.int .u64 (2 * KK))).at d1) sl1 t1
  obtain ⟨K2, hsim2, hk2⟩ := hsim.swap (fun b => b = Wg) hAs.size hAs.os hAs.output (fun b hb => hAs.block b hb) (fun b hb => by subst hb; exact ⟨GG.g, _, _, ug, hW1, .hid _ _⟩)
  have hk2' : ∀ b, S0 b → K2 b = K0 b := fun b hb => (hk2 b (GG.s0 b hb).2.1).trans (hsub b hb).2
  have hC : SimC S1 S0 K0 Wg Ch X L Y yv u (w.setCell (stA Wg) (.int .u64 (2 * KK))) :=
    ⟨⟨K2, hsim2, hk2'⟩, ug, ux, uy, uc, (hAs.block _ GG.lw).trans bl, (hAs.block _ GG.yw).trans by_, ⟨_, _, hW1⟩, ⟨false, 0, 0, (hAs.block _ GG.cw).trans bc⟩, ⟨_, (hAs.block _ GG.xw).trans bx, rfl⟩⟩
  have hsz1 : (w.setCell (stA Wg) (.int .u64 (2 * KK))).heap.size = Wg + 1 := hAs.size.trans hWg
  have bx1 : (w.setCell (stA Wg) (.int .u64 (2 * KK))).heap[X]? = some (.cells #[x0, xx1] 28) := (hAs.block _ GG.xw).trans bx
  have bl1 := hC.wl
  have bc1 : (w.setCell (stA Wg) (.int .u64 (2 * KK))).heap[Ch]? = some (.chan 0 #[] false 0 0 false) := (hAs.block _ GG.cw).trans bc
  generalize w.setCell (stA Wg) (.int .u64 (2 * KK)) = w1 at *
  refine hA1.goes (R := RM Kd) (fun w d h => h) _ (toGoA (K := Kd) rfl rfl a e8 e5 e7 _) fun g2 gs2 d2 sl2 t2 q2 hA2 hst2 => ?_
  have hst2 := hst2 0
  subst hst2
  obtain ⟨N, gs3, d3, d4, sl3, sl4, t3, q3, r1, r2, r3, r4, r5, r6⟩ := slip (a := G (kf kp (a21 a Wg L X) (.inRegion (R0 6) [1] :: [.code T7])) (fr :: stt)) rfl _ gs2 ((w1.at d1).at d2) sl2 t2 q2 (Nat.le_refl _) hA2.h0 hA2.lv hA2.past
  let K3 : Crew := crewK Wg Ch X L n (famP Wg X L Y n Sp S1) (fun i => if i = 0 then x0 else xx1) (.agg #[x0, xx1]) (FP Stop fr sm a u S1 S0 K0 Wg Ch X L Y) t3.size (BackC Kd (goBack fr stt a Wg L X Y))
  have hKX : w1.cell? ⟨X, 1, none⟩ = some xx1 := by simp [World.cell?, bx1]
  have hKB : KB Wg Ch X L Y yv xx1 S1 S0 K0 u w1 := ⟨hC, hKX⟩
  have hM : Mod Tryz.prog FM Stop fr sm (xsP fr sm a u) (kf kp a (.inRegion M5 [0, 1] :: [.code (.seq (.region 6 M6 false) .ret)])) u := ⟨.refl _, h.fin⟩
  have fO : ∀ ad : Addr, ¬ S1 ad.block → (famP Wg X L Y n Sp S1).Own (n + 1) (.cell ad) := fun ad hb => ⟨rfl, ad, rfl, .inr hb⟩
  have fR : ∀ r, (famP Wg X L Y n Sp S1).Rd (n + 1) (.obj r) := fun r => ⟨.inr rfl, .inr ⟨r, rfl⟩⟩
  have fR0 : ∀ r, (famP Wg X L Y n Sp S1).Rd n (.obj r) := fun r => ⟨.inl rfl, .inr ⟨r, rfl⟩⟩
  have fL : (famP Wg X L Y n Sp S1).Rd (n + 1) (.cell ⟨L, 0, none⟩) := ⟨.inr rfl, .inl ⟨_, rfl, .inl rfl⟩⟩
  have fL0 : (famP Wg X L Y n Sp S1).Rd n (.cell ⟨L, 0, none⟩) := ⟨.inl rfl, .inl ⟨_, rfl, .inl rfl⟩⟩
  have fX0 : ∀ i, (famP Wg X L Y n Sp S1).Rd n (.cell ⟨X, i, none⟩) := fun i => ⟨.inl rfl, .inl ⟨_, rfl, .inr ⟨rfl, rfl⟩⟩⟩
  have fY : (famP Wg X L Y n Sp S1).Own (n + 1) (.cell ⟨Y, 0, none⟩) := ⟨rfl, _, rfl, .inl rfl⟩
  have hrecv : ∀ w, KB Wg Ch X L Y yv xx1 S1 S0 K0 u w → ∃ m, Goes K3.P false (RB K3) (DB K3) (AtRecv1 K3) m (born K3.P { target := .fn (.func 135) #[ptr Wg, ptr L, ptr Y], args := #[] }) w := fun w hw =>
    receiver (a := a) hS GG fO fR fL fY rfl e19 e12 hsz had hM (fun r u' w' hb hc => ⟨r, u', hb, hc⟩) w hw
  obtain ⟨mG, hGo⟩ := toGoB (K := K3) (fr := fr) (stt := stt) rfl rfl rfl (KB Wg Ch X L Y yv xx1 S1 S0 K0 u) a e8 e5 e6 hsz hrecv (w1.at d4) hC.live
  obtain ⟨mA, hSe⟩ := sender (ka := n) (fam := famP Wg X L Y n Sp S1) (val0 := fun i => if i = 0 then x0 else xx1) (v := .agg #[x0, xx1]) (F := FP Stop fr sm a u S1 S0 K0 Wg Ch X L Y) (n0 := t3.size) (Nx := BackC Kd (goBack fr stt a Wg L X Y)) fL0 (fX0 0) (fX0 1) rfl rfl GG.xc (Ne.symm GG.cw) (w1.at d4) ⟨bl1, bx1, hC.live⟩
  have hG3 : Good3 K3 (AnchC link K3 (kf kp (a22 a Wg L X Y) (.inRegion (R0 8) [0] :: [.code T9])) (fr :: stt)) (KB Wg Ch X L Y yv xx1 S1 S0 K0 u) :=
    ⟨famP_apart GG hSp, fun l => Iff.rfl, GG.cw, GG.xw, GG.lw, GG.xc, GG.lc, GG.lx, fun w w₁ r ⟨rr, uu, hb, hc⟩ => ⟨rr, uu, hb, hc.rely GG r⟩, fun w w₁ r hw => hw.rely GG r, fR0 _, fun g w ⟨T, hg, _⟩ => by rw [hg]; rfl,
      fun g w hg => waitRoundC (K := K3) (b₀ := base kp) (a₀ := a22 a Wg L X Y) (ops₀ := R0 8) (i₀ := 0) (rest₀ := []) (k₀ := [.code T9]) (cs := fr :: stt) hP (fun g hb => hb) g w hg⟩
  have q21 : (a21 a Wg L X).eval (.tmp 21) = .func (.func 133) #[] #[ptr Wg, ptr L, ptr X] := by rw [eval_put, if_pos ⟨rfl, by simp only [size_put]; omega⟩]
  obtain ⟨N', gs', w', sl', t', q', a', hr, ha', hNx, hLv, hPst, ⟨r, u', hB, hC'⟩, hlive, _, _⟩ := crewRun (K := K3) (sl := sl4) (w := w1.at d4) hG3 r3 (r2.trans hA2.size) r4 r5 rfl (stepG_go (o := o0 6 1) (x := .tmp 21) rfl rfl (by k_ne) rfl rfl q21) hSe hGo (KB.at hKB d4) hW1 hC.pay ⟨0, 0, bc1⟩ r1 r6
  have hle : (w1.at d1).heap.size ≤ w'.heap.size := by
    obtain ⟨st, sm, hl⟩ := hlive
    have hlt := (Array.getElem?_eq_some_iff.1 hl).1
    have h2 : (w1.at d1).heap.size = Wg + 1 := hsz1
    have h3 : K3.Wg = Wg := rfl
    omega
  refine Concl.mach hr (fun _ h => ⟨h, rfl⟩) hle ?_
  have hP4 : PastD (ShunS (S1_ Sp Wg)) 0 t' := hPst.grow fun l hl => by
    rcases hl with ⟨a, rfl, h⟩ | ⟨a, rfl, h⟩
    · exact ⟨a, rfl, .inl h⟩
    · exact ⟨a, rfl, .inr h⟩
  have hA4 : Alone Tryz.prog (S1_ Sp Wg) 0 gs'.size a' gs' t' q' := ⟨ha', hLv, hP4, rfl⟩
  obtain ⟨mB, gB⟩ := hNx w' hlive
  refine hA4.goes (R := RM Kd) (fun w d h => h) _ gB fun g5 gs5 d5 sl5 t5 q5 hA5 hst5 => ?_
  have hst5 := hst5 0
  subst hst5
  obtain ⟨K5, hs5, hk5⟩ := hC'.sim
  refine passEnd (S1 := S1) (Wg := Wg) (L := L) (X := X) (Y := Y) hS hB hsz hC'.wy ⟨K5, hs5.at d5, fun b hb => ⟨(hsub b hb).1, hk5 b hb⟩⟩ (fun b hb => ?_) (fun hb => ?_) hA5 e6 hsz had
  · rcases hb with hb | rfl
    · exact (hSp b hb).1
    · exact GG.g
  · rcases hb with hb | e
    · exact (hSp _ hb).2.2.2.1 rfl
    · exact GG.yw e
end
end Go.Proofs.YtemgilofjbnoaaaGreatDoor
namespace Go.Proofs.YtemgilofjbnoaaaGreatDoor
open Go Go.Conc
set_option linter.unusedVariables false
set_option linter.unusedSimpArgs false
structure AOk (a : Act) (tab : List (Nat × Value)) : Prop where
  size : 25 ≤ a.tmps.size
  defers : a.defers = []
  tab : ∀ p ∈ tab, a.eval (.tmp p.1) = p.2
theorem AOk.put {a : Act} {tab : List (Nat × Value)} (h : AOk a tab) (d : Nat) (v : Value) (hd : d < 25) (hn : tab.all (fun p => p.1 != d) = true) : AOk (a.put (some d) v) ((d, v) :: tab) := by
  refine ⟨by rw [size_put]; exact h.size, by rw [defers_put]; exact h.defers, fun p hp => ?_⟩
  have hs := h.size
  rw [eval_put]
  rcases List.mem_cons.1 hp with rfl | hp
  · rw [if_pos ⟨rfl, by omega⟩]
  · have := (List.all_eq_true.1 hn) p hp
    simp only [bne_iff_ne, ne_eq] at this
    rw [if_neg (fun e => this e.1.symm)]
    exact h.tab p hp
theorem AOk.drop {a : Act} {tab tab' : List (Nat × Value)} (h : AOk a tab) (hs : ∀ p ∈ tab', p ∈ tab) : AOk a tab' := ⟨h.size, h.defers, fun p hp => h.tab p (hs p hp)⟩
section
variable {U : Program} {b : Frame} {main : Bool} {a : Act} {ops : Array Oper} {i : Nat} {l : List Nat} {k : List Item} {cs : List Frame} {o : Oper} {u : World}
theorem go_not_stuck {g' : Goroutine} {u' : World} {es : Array Event} (ho : ops[i]? = some o) (hw : Region.wanted o (yielded ops a.tmps) = true) (h : stepG U main (G (b.at a (.inRegion ops (i :: l) :: k)) cs) u = .go g' u' es) (m : String) (w' : World) : (execOp a.eval o).run U u ≠ .halt (.stuck m) w' := by
  intro hr
  rw [stepG_oper ho hw] at h
  unfold stepG.apply at h
  have hfst := Sem.runT_fst U (execOp a.eval o) u #[]
  generalize hrT : (execOp a.eval o).runT U u #[] = rt at hfst h
  obtain ⟨r, es⟩ := rt
  dsimp only at hfst
  subst hfst
  simp only [if_true] at h
  rw [hr] at h
  cases h
end
section
variable {P : Program} {F : Array Func} {Stop : Frame → List Frame → World → Prop} {k0 : FuncId} {frm frm' : Frame} {sm : List Frame} {u u' : World}
theorem Fin_.det (h : Fin_ (PF P F) Stop frm sm u) (hns : ¬ Stop frm sm u) (hgo : ∃ es, stepG (PF P F) true (G frm sm) u = .go (G frm' sm) u' es) : Fin_ (PF P F) Stop frm' sm u' := by
  obtain ⟨f', s', u2, es, h1, h2, h3⟩ := h.go hns u.tape u.drawn
  obtain ⟨es', h4⟩ := hgo
  rw [show re u u.tape u.drawn = u from rfl, h4] at h1
  injection h1 with e1 e2 e3
  injection e1 with e4 e5
  subst e4 e5 e2
  exact h2
end
theorem pf_isAgg (P : Program) (F : Array Func) (t : TypeId) (w : World) : (isAgg t).run (PF P F) w = (isAgg t).run P w := by
  unfold isAgg underlying
  simp [pf_underlying]
  cases P.underlying t with
  | none => simp
  | some d => cases d <;> simp
theorem pf_sizeOf (P : Program) (F : Array Func) (t : TypeId) (w : World) : (sizeOf t).run (PF P F) w = (sizeOf t).run P w := by
  unfold sizeOf typeInfo
  simp [pf_info]
  cases P.info? t with
  | none => simp
  | some d => simp
theorem pf_zeroValue (P : Program) (F : Array Func) (t : TypeId) (w : World) : (zeroValue t).run (PF P F) w = (zeroValue t).run P w := by
  unfold zeroValue typeInfo
  simp [pf_info]
  cases P.info? t with
  | none => simp
  | some d => simp; cases d.zero <;> simp
theorem m_isAgg : ∀ w, (isAgg 28).run (PF Tryz.prog FM) w = .ok true w := fun w => (pf_isAgg _ _ _ _).trans (Tryz.isAgg28 w)
theorem m_sizeOf : ∀ w, (sizeOf 28).run (PF Tryz.prog FM) w = .ok 2 w := fun w => (pf_sizeOf _ _ _ _).trans (Tryz.sizeOf28 w)
theorem yields_cells2 {U : Program} (ad : Addr) : Yields U (fun cs => ∃ x0 x1, cs = #[x0, x1]) (loadCells ad 2) := by
  unfold loadCells loadCellsFrom
  refine Yields.bind fun v0 => ?_
  unfold loadCellsFrom
  refine Yields.bind fun v1 => ?_
  unfold loadCellsFrom
  exact Yields.pure ⟨v0, v1, rfl⟩
theorem yields_upd (x : Value) : Yields (PF Tryz.prog FM) (fun v => ∃ x0 x1, v = .agg #[x0, x1]) (Instr.loadAt 28 x) := by
  unfold Instr.loadAt
  refine Yields.bind fun ad => ?_
  unfold loadVar
  refine Yields.bind2 (Q1 := fun z => z = true) (fun u z u' e => by rw [m_isAgg] at e; injection e with e _; exact e.symm) fun z hz => ?_
  subst hz
  simp only [if_true]
  refine Yields.bind2 (Q1 := fun z => z = 2) (fun u z u' e => by rw [m_sizeOf] at e; injection e with e _; exact e.symm) fun z hz => ?_
  subst hz
  refine Yields.bind2 (yields_cells2 _) fun cs hcs => ?_
  obtain ⟨x0, x1, rfl⟩ := hcs
  exact Yields.pure ⟨x0, x1, rfl⟩
theorem run_store_agg {U : Program} {v : Value} (hv : notAgg v = false) (m : Go.Mode) (ad : Addr) (k : Sem Unit) (w : World) : ∃ s, (Sem.store m ad v k).run U w = .halt (.stuck s) w := by
  cases v <;> first | exact ⟨_, rfl⟩ | (simp [notAgg] at hv)
theorem stored_upd {U : Program} {a : Act} {o : Oper} {x y : Operand} {x0 x1 : Value} {b : Nat} {w : World} {z0 z1 : Value} (hop : o.op = .store 28 x y) (hx : a.eval x = .pointer (some ⟨w.heap.size, 0, none⟩)) (hy : a.eval y = .agg #[x0, x1]) (hs : ∀ w, (sizeOf 28).run U w = .ok 2 w)
    (h : ∀ m w', (execOp a.eval o).run U (w.alloc (.cells #[z0, z1] 28)) ≠ .halt (.stuck m) w') : notAgg x0 = true ∧ notAgg x1 = true := by
  have e0 : execOp a.eval o = (do storeVar 28 ⟨w.heap.size, 0, none⟩ (.agg #[x0, x1]); pure Next.skip) := by rw [exec_store hop, hx, hy]; rfl
  have e1 : (execOp a.eval o).run U (w.alloc (.cells #[z0, z1] 28)) = ((Go.store ⟨w.heap.size, 0, none⟩ x0).run U (w.alloc (.cells #[z0, z1] 28))).andThen fun _ w' => ((Go.store ⟨w.heap.size, 1, none⟩ x1).run U w').andThen fun _ w' => .ok Next.skip w' := by
    rw [e0]
    simp [storeVar, hs, Value.cells, storeCells, Addr.add]
    cases Sem.run U (Go.store ⟨w.heap.size, 0, none⟩ x0) (w.alloc (.cells #[z0, z1] 28)) <;> rfl
  cases h0 : notAgg x0 with
  | false =>
    obtain ⟨s, hs⟩ := run_store_agg (U := U) h0 .plain ⟨w.heap.size, 0, none⟩ (.pure ()) (w.alloc (.cells #[z0, z1] 28))
    have e2 : (Go.store ⟨w.heap.size, 0, none⟩ x0).run U (w.alloc (.cells #[z0, z1] 28)) = .halt (.stuck s) (w.alloc (.cells #[z0, z1] 28)) := hs
    rw [e2] at e1
    exact absurd e1 (h _ _)
  | true =>
    refine ⟨rfl, ?_⟩
    cases h1 : notAgg x1 with
    | true => rfl
    | false =>
      rw [run_store_new (P := U) w #[z0, z1] 0 (by simp) h0] at e1
      obtain ⟨s, hs⟩ := run_store_agg (U := U) h1 .plain ⟨w.heap.size, 1, none⟩ (.pure ()) ((w.alloc (.cells #[z0, z1] 28)).setCell ⟨w.heap.size, 0, none⟩ x0)
      have e2 : (Go.store ⟨w.heap.size, 1, none⟩ x1).run U ((w.alloc (.cells #[z0, z1] 28)).setCell ⟨w.heap.size, 0, none⟩ x0) = .halt (.stuck s) _ := hs
      simp only [Result.andThen] at e1
      rw [e2] at e1
      exact absurd e1 (h _ _)
theorem len_slice {a : Act} {w : World} (h : ∀ m w', (execOp a.eval opLen).run (PF Tryz.prog FM) w ≠ .halt (.stuck m) w') : ∃ b n c, a.eval (.tmp 12) = .slice b n c ∧ (execOp a.eval opLen).run (PF Tryz.prog FM) w = .ok (.value (goInt n)) w := by
  have e0 : execOp a.eval opLen = (do let v ← Builtin.len_ #[76] 0 #[a.eval (.tmp 12)]; pure (Next.value v)) := by
    unfold execOp
    show (do let d ← resolve a.eval _ _; invoke d.target d.args) = _
    simp only [resolve, List.map_toArray, List.map_cons, List.map_nil]
    rfl
  have e1 : (execOp a.eval opLen).run (PF Tryz.prog FM) w = ((Builtin.len_ #[76] 0 #[a.eval (.tmp 12)]).run (PF Tryz.prog FM) w).andThen fun v w' => .ok (.value v) w' := by
    rw [e0]; simp
  have e2 : (Builtin.len_ #[76] 0 #[a.eval (.tmp 12)]).run (PF Tryz.prog FM) w = (match a.eval (.tmp 12) with | .slice _ n _ => pure (goInt n) | _ => stuck "len" : Sem Value).run (PF Tryz.prog FM) w ∨ ∃ m, (Builtin.len_ #[76] 0 #[a.eval (.tmp 12)]).run (PF Tryz.prog FM) w = .halt (.stuck m) w := by
    unfold Builtin.len_
    simp only [List.getElem?_toArray, List.getElem?_cons_zero]
    rw [Sem.run_bind, run_underlying und_ w]
    simp only [Result.andThen]
    cases a.eval (.tmp 12) <;> first | exact .inl rfl | exact .inr ⟨_, rfl⟩
  rcases e2 with e2 | ⟨m, e2⟩
  · cases hv : a.eval (.tmp 12)
    case slice b n c =>
      rw [e2, hv] at e1
      exact ⟨b, n, c, rfl, e1⟩
    all_goals
      rw [e2, hv] at e1
      exact absurd e1 (h _ _)
  · rw [e2] at e1
    exact absurd e1 (h _ _)
section
variable {Stop : Frame → List Frame → World → Prop} {fr : Frame} {sm : List Frame} {u : World} {a : Act} {x0 x1 : Value}
noncomputable abbrev U6 : Code := .seq (.region 6 M6 false) .ret
noncomputable abbrev U5 : Code := .seq (.region 5 M5 false) U6
noncomputable abbrev U4 : Code := .seq (.region 4 M4 false) U5
noncomputable abbrev U3 : Code := .seq (.region 3 M3 false) U4
noncomputable abbrev U2 : Code := .seq (.region 2 M2 false) U3
noncomputable abbrev U1 : Code := .seq (.region 1 M1 false) U2
theorem m1n : List.range M1.size = [0, 1] := by kernel_rfl
theorem m2n : List.range M2.size = [0, 1, 2, 3, 4] := by kernel_rfl
theorem m3n : List.range M3.size = [0, 1, 2, 3, 4, 5, 6, 7] := by kernel_rfl
theorem m4n : List.range M4.size = [0] := by kernel_rfl
theorem m5n : List.range M5.size = [0, 1] := by kernel_rfl
theorem look (hS : NoStop kp Stop) (hA : 25 ≤ a.tmps.size) (e19 : a.eval (.tmp 19) = .agg #[x0, x1]) {z0 z1 : Value} (hz : ∀ w, (zeroValue 28).run Tryz.prog w = .ok (.agg #[z0, z1]) w)
    (h : Fin_ (PF Tryz.prog FM) Stop (kf kp a (.inRegion M3 [7] :: [.code U4])) (fr :: sm) u) : notAgg x0 = true ∧ notAgg x1 = true := by
  have hk : (base kp).kind ≠ .early := by intro h; cases h
  obtain ⟨es, k1⟩ := step_box (P := PF Tryz.prog FM) (main := true) (b := base kp) (a := a) (ops := M3) (i := 7) (l := []) (k := [.code U4]) (cs := fr :: sm) (d := 7) (ty := 28) (w := u) rfl hk
  have h1 : Fin_ (PF Tryz.prog FM) Stop (kf kp (a.put (some 7) _) (.inRegion M3 [] :: [.code U4])) (fr :: sm) _ := h.det (hS.at rfl) ⟨es, k1⟩
  clear k1
  generalize (u.alloc (.cells #[] 28)) = u1 at h1
  generalize Value.pointer (some ⟨u.heap.size, 0, none⟩) = p7 at h1
  have h2 : Fin_ (PF Tryz.prog FM) Stop (kf kp (a.put (some 7) p7) [.code U4]) (fr :: sm) u1 := h1.det (hS.at rfl) ⟨_, stepG_region_end⟩
  have h3 : Fin_ (PF Tryz.prog FM) Stop (kf kp (a.put (some 7) p7) [.code (.region 4 M4 false), .code U5]) (fr :: sm) u1 := h2.det (hS.at rfl) ⟨_, stepG_seq⟩
  have h4 : Fin_ (PF Tryz.prog FM) Stop (kf kp (a.put (some 7) p7) (.inRegion M4 (List.range M4.size) :: [.code U5])) (fr :: sm) u1 := h3.det (hS.at rfl) ⟨_, stepG_region⟩
  rw [m4n] at h4
  obtain ⟨es, k5⟩ := step_box (P := PF Tryz.prog FM) (main := true) (b := base kp) (a := a.put (some 7) p7) (ops := M4) (i := 0) (l := []) (k := [.code U5]) (cs := fr :: sm) (d := 8) (ty := 179) (w := u1) rfl hk
  have h5 : Fin_ (PF Tryz.prog FM) Stop (kf kp ((a.put (some 7) p7).put (some 8) _) (.inRegion M4 [] :: [.code U5])) (fr :: sm) _ := h4.det (hS.at rfl) ⟨es, k5⟩
  clear k5
  generalize (u1.alloc (.cells #[] 179)) = u2 at h5
  generalize Value.pointer (some ⟨u1.heap.size, 0, none⟩) = p8 at h5
  have h6 : Fin_ (PF Tryz.prog FM) Stop (kf kp ((a.put (some 7) p7).put (some 8) p8) [.code U5]) (fr :: sm) u2 := h5.det (hS.at rfl) ⟨_, stepG_region_end⟩
  have h7 : Fin_ (PF Tryz.prog FM) Stop (kf kp ((a.put (some 7) p7).put (some 8) p8) [.code (.region 5 M5 false), .code U6]) (fr :: sm) u2 := h6.det (hS.at rfl) ⟨_, stepG_seq⟩
  have h8 : Fin_ (PF Tryz.prog FM) Stop (kf kp ((a.put (some 7) p7).put (some 8) p8) (.inRegion M5 (List.range M5.size) :: [.code U6])) (fr :: sm) u2 := h7.det (hS.at rfl) ⟨_, stepG_region⟩
  rw [m5n] at h8
  have hz' : (zeroValue 28).run (PF Tryz.prog FM) u2 = .ok (.agg #[z0, z1]) u2 := (pf_zeroValue _ _ _ _).trans (hz _)
  have k9 := step_alloc (P := PF Tryz.prog FM) (main := true) (b := base kp) (a := (a.put (some 7) p7).put (some 8) p8) (ops := M5) (i := 0) (l := [1]) (k := [.code U6]) (cs := fr :: sm) (w := u2) (o := opOf (some 20) (.alloc 28)) rfl rfl hk rfl hz'
  have h9 : Fin_ (PF Tryz.prog FM) Stop (kf kp (((a.put (some 7) p7).put (some 8) p8).put (some 20) (.pointer (some ⟨u2.heap.size, 0, none⟩))) (.inRegion M5 [1] :: [.code U6])) (fr :: sm) (u2.alloc (.cells #[z0, z1] 28)) := h8.det (hS.at rfl) ⟨_, k9⟩
  obtain ⟨f', s', u3, es3, q1, q2, q3⟩ := h9.go (hS.at rfl) (u2.alloc (.cells #[z0, z1] 28)).tape (u2.alloc (.cells #[z0, z1] 28)).drawn
  refine stored_upd (U := PF Tryz.prog FM) (a := ((a.put (some 7) p7).put (some 8) p8).put (some 20) (.pointer (some ⟨u2.heap.size, 0, none⟩))) (o := opOf none (.store 28 (.tmp 20) (.tmp 19))) (x := .tmp 20) (y := .tmp 19) (w := u2) (z0 := z0) (z1 := z1) (b := 0) rfl ?_ ?_ m_sizeOf (go_not_stuck (ops := M5) rfl rfl q1)
  · rw [eval_put, if_pos ⟨rfl, by simp only [size_put]; omega⟩]
  · rw [eval_put, if_neg (by simp), eval_put, if_neg (by simp), eval_put, if_neg (by simp), e19]
end
end Go.Proofs.YtemgilofjbnoaaaGreatDoor
namespace Go.Proofs.YtemgilofjbnoaaaGreatDoor
open Go Go.Conc Go.ConcN Go.RowKit Go.Conc.Lib Go.ConcR.Gen Go.ConcN.Gen
open Go.ConcR (KK wgBlock WgAt stA smA rd wr mk Payload Aside2 DC0)
set_option linter.unusedVariables false
set_option linter.unusedSimpArgs false
noncomputable def V5 : Code := .seq (.region 5 (R0 5) false) T6
noncomputable def V4 : Code := .seq (.region 4 (R0 4) false) V5
noncomputable def V3 : Code := .seq (.region 3 (R0 3) false) V4
noncomputable def V2 : Code := .seq (.region 2 (R0 2) false) V3
noncomputable def V1 : Code := .seq (.region 1 (R0 1) false) V2
theorem body88 : Tryz.f120.body = some (.seq (.region 0 (R0 0) false) V1) := by kernel_rfl
theorem n0 : List.range (R0 0).size = [0, 1, 2] := by kernel_rfl
theorem n1 : List.range (R0 1).size = [0, 1, 2] := by kernel_rfl
theorem n2 : List.range (R0 2).size = [0, 1, 2, 3, 4] := by kernel_rfl
theorem n3 : List.range (R0 3).size = [0, 1, 2, 3, 4, 5, 6, 7, 8] := by kernel_rfl
theorem n4 : List.range (R0 4).size = [0] := by kernel_rfl
theorem n5 : List.range (R0 5).size = [0] := by kernel_rfl
structure Hd (S : Nat → Prop) (K : Nat → Obj) (S1 : Nat → Prop) (K1 : Nat → Obj) (lo : Nat) (tb : List (Nat × Obj)) : Prop where
  hid : ∀ b, S b → S1 b ∧ K1 b = K b
  tab : ∀ p ∈ tb, S1 p.1 ∧ K1 p.1 = p.2 ∧ lo ≤ p.1
  desc : tb.Pairwise (fun p q => q.1 < p.1)
section
variable {S S1 S2 : Nat → Prop} {K K1 K2 : Nat → Obj} {lo : Nat} {tab : List (Nat × Obj)} {u w : World}
theorem Hd.push (h : Hd S K S1 K1 lo tab) (hsim : Sim0 S1 K1 u w) (hge : lo ≤ w.heap.size) (o : Obj) : Hd S K (S1_ S1 w.heap.size) (K1_ K1 w.heap.size o) lo ((w.heap.size, o) :: tab) := by
  have hnew : ¬ S1 w.heap.size := fun hb => Nat.lt_irrefl _ (hsim.low hb)
  refine ⟨fun b hb => ⟨(hide_keeps (K := K1) (o := o) hnew b (h.hid b hb).1).1, (hide_keeps hnew b (h.hid b hb).1).2.trans (h.hid b hb).2⟩, fun p hp => ?_, List.pairwise_cons.2 ⟨fun p hp => hsim.low (h.tab p hp).1, h.desc⟩⟩
  rcases List.mem_cons.1 hp with rfl | hp
  · exact ⟨.inr rfl, by simp [K1_], hge⟩
  · have := h.tab p hp
    exact ⟨(hide_keeps (K := K1) (o := o) hnew _ this.1).1, (hide_keeps hnew _ this.1).2.trans this.2.1, this.2.2⟩
theorem Hd.mono (h : Hd S K S1 K1 lo tab) (h2 : ∀ b, S1 b → S2 b ∧ K2 b = K1 b) : Hd S K S2 K2 lo tab :=
  ⟨fun b hb => ⟨(h2 b (h.hid b hb).1).1, (h2 b (h.hid b hb).1).2.trans (h.hid b hb).2⟩, fun p hp => ⟨(h2 _ (h.tab p hp).1).1, (h2 _ (h.tab p hp).1).2.trans (h.tab p hp).2.1, (h.tab p hp).2.2⟩, h.desc⟩
theorem exec_makeChan {a : Act} {o : Oper} {ty : TypeId} {x : Operand} (hop : o.op = .makeChan ty x) : execOp a.eval o = (do let v ← Instr.makeChan ty (a.eval x); pure (Next.value v)) := by
  unfold execOp
  simp only [hop]
theorem info_mc : ((PF Tryz.prog FM).info? 28).map (fun i => decide ((i.bytes : Int) * 0 ≤ 281474976710544)) = some true := by
  rw [pf_info]
  kernel_rfl
theorem und_c : ∃ dir, (PF Tryz.prog FM).underlying 171 = some (.chan dir 28) := ⟨_, (pf_underlying _ _ _).trans Tryz.underlying171⟩
theorem run_mc' (w : World) : (Instr.makeChan 171 (.int .i64 0)).run (PF Tryz.prog FM) w = .ok (.chan (some w.heap.size)) (w.alloc (.chan 0 #[] false 0 0 false)) := by
  obtain ⟨dir, hu⟩ := und_c
  have h := info_mc
  cases hi : (PF Tryz.prog FM).info? 28 with
  | none => rw [hi] at h; cases h
  | some i => exact run_makeChan (P := PF Tryz.prog FM) (w := w) hu hi .i64 0 (by omega) (by omega)
theorem run_mc {a : Act} {o : Oper} (hop : o.op = .makeChan 171 (.const (.int .i64 0))) (w : World) : (execOp a.eval o).run (PF Tryz.prog FM) w = .ok (.value (.chan (some w.heap.size))) (w.alloc (.chan 0 #[] false 0 0 false)) := by
  rw [exec_makeChan hop]
  have e' : (Instr.makeChan 171 (a.eval (.const (.int .i64 0)))).run (PF Tryz.prog FM) w = .ok (.chan (some w.heap.size)) (w.alloc (.chan 0 #[] false 0 0 false)) := run_mc' w
  simp [e']
end
section
variable {Stop : Frame → List Frame → World → Prop}
theorem fm42 : FM[93]? = some Tryz.f93 := fm_of Tryz.func93 (by decide) (by kernel_rfl)
set_option maxRecDepth 100000 in
set_option maxHeartbeats 1000000 in
theorem passOk (hS : NoStop kp Stop) : PassOk Tryz.prog FM kp Stop := by
  intro args fr sm stt u S K Sp gs w sl t q hSp hT hfin hsim h0 hL hP
  have hk : (base kp).kind ≠ .early := by intro h; cases h
  have em : Frame.enter (PF Tryz.prog FM) kp args .normal = kf kp ⟨args ++ Array.replicate (25 - args.size) undef, []⟩ [.code passBody] := enter_at (fn := passFn) args fm_kp rfl
  have et : Frame.enter Tryz.prog kp args .normal = kf kp ⟨args ++ Array.replicate (25 - args.size) undef, []⟩ [.code (.seq (.region 0 (R0 0) false) V1)] := enter_at (fn := Tryz.f120) args Tryz.func120 body88
  rw [em] at hT hfin ⊢
  rw [et] at h0
  have hA : AOk ⟨args ++ Array.replicate (25 - args.size) undef, []⟩ [] := ⟨by simp; omega, rfl, by simp⟩
  generalize (⟨args ++ Array.replicate (25 - args.size) undef, []⟩ : Act) = a at *
  show Concl Tryz.prog FM Stop fr sm stt S K Sp (kf kp a [.code passBody], fr :: sm, u) gs w sl t
  obtain ⟨f', s', u2, es, k1, k2, k3⟩ := hfin.go (hS.at rfl) u.tape u.drawn
  have k0 : stepG (PF Tryz.prog FM) true (G (kf kp a [.code passBody]) (fr :: sm)) (re u u.tape u.drawn) = .go (G (kf kp a [.code (.region 0 (R0 0) false), .code U1]) (fr :: sm)) u #[] := stepG_seq
  rw [k0] at k1
  injection k1 with c1 c2 c3
  injection c1 with c4 c5
  subst c4 c5 c2
  refine Concl.model ((Desc.refl _).tail k3) ?_
  obtain ⟨x1, hT, h⟩ : ∃ x1, (∀ z, Desc (PF Tryz.prog FM) Stop z x1 → Trans Tryz.prog FM kp Stop z) ∧ Here Tryz.prog FM Stop fr sm stt Sp gs.size x1 (kf kp a [.code (.region 0 (R0 0) false), .code U1]) u (kf kp a [.code (.seq (.region 0 (R0 0) false) V1)]) gs t q :=
    ⟨_, fun z hz => hT _ z k3 hz, ⟨.refl _, k2, h0, hL, hP, rfl⟩⟩
  clear k0 k2 k3 hfin h0 hL hP em et
  obtain ⟨n, hn⟩ : ∃ n, n = gs.size := ⟨_, rfl⟩
  rw [← hn] at h
  clear hn
  obtain ⟨lo, hge⟩ : ∃ lo, lo ≤ w.heap.size ∧ ∀ b, S b → b < lo := ⟨_, Nat.le_refl _, fun b hb => hsim.low hb⟩
  obtain ⟨hge, hlow⟩ := hge
  have hH : Hd S K S K lo [] := ⟨fun b hb => ⟨hb, rfl⟩, by simp, by simp⟩
  have hSp1 := hSp
  have hSpd : ∀ b, Sp b → b < lo := fun b hb => hlow b (hSp b hb)
  refine h.ctl (fun _ => stepG_seq) fun gs d sl t q h => ?_
  replace hsim := hsim.at d
  replace hge : lo ≤ (w.at d).heap.size := hge
  generalize w.at d = w at hsim hge ⊢
  refine h.ctl (fun _ => stepG_region) fun gs d sl t q h => ?_
  replace hsim := hsim.at d
  replace hge : lo ≤ (w.at d).heap.size := hge
  generalize w.at d = w at hsim hge ⊢
  refine h.mctl hS rfl (fun _ => stepG_region) fun h => ?_
  rw [n0] at h
  rw [n0]
  refine h.both fitsF fm_early hS fm_kp Tryz.func120 hA.defers hsim hH.hid hSp1 (o0 0 0) rfl rfl (wanted_none rfl _) (wanted_none rfl _) (by kernel_rfl) rfl fun v u gs w sl t q τ d hi h hs hz => ?_
  have hd : (o0 0 0).dst = some 2 := by kernel_rfl
  rw [hd] at h ⊢
  clear hd
  replace hge : lo ≤ w.heap.size := Nat.le_trans hge (size_le hsim hs hz)
  replace hsim := hs
  replace hA := hA.put 2 v (by omega) rfl
  replace hA := hA.drop (tab' := []) (by simp)
  generalize a.put (some 2) v = a at h hA ⊢
  clear hi
  refine h.both fitsF fm_early hS fm_kp Tryz.func120 hA.defers hsim hH.hid hSp1 (o0 0 1) rfl rfl (wanted_none rfl _) (wanted_none rfl _) (by kernel_rfl) rfl fun v u gs w sl t q τ d hi h hs hz => ?_
  have hd : (o0 0 1).dst = some 3 := by kernel_rfl
  rw [hd] at h ⊢
  clear hd
  replace hge : lo ≤ w.heap.size := Nat.le_trans hge (size_le hsim hs hz)
  replace hsim := hs
  replace hA := hA.put 3 v (by omega) rfl
  replace hA := hA.drop (tab' := []) (by simp)
  generalize a.put (some 3) v = a at h hA ⊢
  clear hi
  refine h.both fitsF fm_early hS fm_kp Tryz.func120 hA.defers hsim hH.hid hSp1 (o0 0 2) rfl rfl (wanted_none rfl _) (wanted_none rfl _) (by kernel_rfl) rfl fun v u gs w sl t q τ d hi h hs hz => ?_
  have hd : (o0 0 2).dst = some 4 := by kernel_rfl
  rw [hd] at h ⊢
  clear hd
  replace hge : lo ≤ w.heap.size := Nat.le_trans hge (size_le hsim hs hz)
  replace hsim := hs
  replace hA := hA.put 4 v (by omega) rfl
  replace hA := hA.drop (tab' := []) (by simp)
  generalize a.put (some 4) v = a at h hA ⊢
  clear hi
  refine h.ctl (fun _ => stepG_region_end) fun gs d sl t q h => ?_
  replace hsim := hsim.at d
  replace hge : lo ≤ (w.at d).heap.size := hge
  generalize w.at d = w at hsim hge ⊢
  unfold V1 at h
  refine h.ctl (fun _ => stepG_seq) fun gs d sl t q h => ?_
  replace hsim := hsim.at d
  replace hge : lo ≤ (w.at d).heap.size := hge
  generalize w.at d = w at hsim hge ⊢
  refine h.ctl (fun _ => stepG_region) fun gs d sl t q h => ?_
  replace hsim := hsim.at d
  replace hge : lo ≤ (w.at d).heap.size := hge
  generalize w.at d = w at hsim hge ⊢
  refine h.mctl hS rfl (fun _ => stepG_region_end) fun h => ?_
  refine h.mctl hS rfl (fun _ => stepG_seq) fun h => ?_
  refine h.mctl hS rfl (fun _ => stepG_region) fun h => ?_
  rw [n1, m1n] at h
  rw [m1n]
  have hnew : ¬ S w.heap.size := fun hb => Nat.lt_irrefl _ (hsim.low hb)
  obtain ⟨Ch, hCh⟩ : ∃ Ch, Ch = w.heap.size := ⟨_, rfl⟩
  have hus : u.heap.size = w.heap.size := hsim.size
  have hgec : lo ≤ Ch := hCh ▸ hge
  refine h.both fitsF fm_early hS fm_kp Tryz.func120 hA.defers hsim hH.hid hSp1 (o0 1 0) rfl rfl (wanted_none rfl _) (wanted_none rfl _) (by kernel_rfl) rfl fun v u gs w sl t q τ d hi h hs hz => ?_
  have hd : (o0 1 0).dst = some 9 := by kernel_rfl
  rw [hd] at h ⊢
  clear hd
  replace hge : lo ≤ w.heap.size := Nat.le_trans hge (size_le hsim hs hz)
  have hv : v = .chan (some Ch) ∧ u.heap[Ch]? = some (.chan 0 #[] false 0 0 false) := by
    rcases hi with hi | ⟨hi, _⟩
    · rw [run_mc rfl] at hi
      injection hi with e1 e2
      injection e1 with e1
      refine ⟨by rw [← e1, hCh, ← hus]; rfl, ?_⟩
      rw [← e2, getElem?_alloc, hCh, ← hus]
      exact if_pos rfl
    · rw [run_mc rfl] at hi
      injection hi with e1 e2
      cases e1
  obtain ⟨rfl, hc⟩ := hv
  rw [← hCh] at hnew
  have hwc : w.heap[Ch]? = some (.chan 0 #[] false 0 0 false) := (hs.out Ch hnew).symm.trans hc
  have hclt : Ch < w.heap.size := (Array.getElem?_eq_some_iff.1 hwc).1
  replace hs := hs.hide hnew hwc (.chan _ _ _ _ _ _)
  replace hH : Hd S K (S1_ S Ch) (K1_ K Ch (.chan 0 #[] false 0 0 false)) lo [(Ch, .chan 0 #[] false 0 0 false)] := ⟨hide_keeps hnew, by simp [S1_, K1_, hgec], by simp⟩
  replace hSp1 : ∀ b, Sp b → S1_ S Ch b := fun b hb => .inl (hSp b hb)
  generalize S1_ S Ch = S1 at hs hH hSp1
  generalize K1_ K Ch (.chan 0 #[] false 0 0 false) = K1 at hs hH
  clear hc hwc
  replace hsim := hs
  replace hA := hA.put 9 (.chan (some Ch)) (by omega) rfl
  generalize a.put (some 9) (.chan (some Ch)) = a at h hA ⊢
  clear hi
  obtain ⟨L, hL⟩ : ∃ L, L = w.heap.size := ⟨_, rfl⟩
  have hgeL : lo ≤ L := hL ▸ hge
  have q5 : (a.put (some 5) (ptr w.heap.size)).eval (.tmp 5) = ptr w.heap.size := by rw [eval_put, if_pos ⟨rfl, by have := hA.size; omega⟩]
  have q9 : (a.put (some 5) (ptr w.heap.size)).eval (.tmp 9) = .chan (some Ch) := by rw [eval_put, if_neg (by simp)]; exact hA.tab (9, _) (by simp)
  refine h.slot (cs := #[.chan (some Ch)]) (o1 := o0 1 1) (o2 := o0 1 2) hS hSp1 hsim rfl rfl rfl rfl (by kernel_rfl) (fun w => Tryz.zeroValue171 w) (fun w1 hw1 => ?_) fun gs sl t q dd h hs => ?_
  · have e := step_new1 (P := Tryz.prog) (main := true) (b := base kp) (a := a.put (some 5) (ptr w.heap.size)) (ops := R0 1) (i := 2) (l := []) (k := [.code V2]) (cs := fr :: stt) (o := o0 1 2) (x := .tmp 5) (y := .tmp 9) (w := w1) (z0 := .chan none) rfl rfl hk rfl (by kernel_rfl) (by rw [hw1]; exact q5) q9 rfl (fun w => Tryz.sizeOf171 w)
    rw [hw1] at e
    exact e
  replace hH := hH.push hsim hge (.cells #[.chan (some Ch)] 171)
  replace hA := hA.put 5 (ptr w.heap.size) (by omega) rfl
  rw [← hL] at h hs hH hA ⊢
  replace hSp1 : ∀ b, Sp b → S1_ S1 L b := fun b hb => .inl (hSp1 b hb)
  replace hge : lo ≤ ((w.alloc (.cells #[.chan (some Ch)] 171)).at dd).heap.size := Nat.le_trans hge (by show _ ≤ (w.alloc _).heap.size; rw [World.size_alloc]; omega)
  have hltL : L < ((w.alloc (.cells #[.chan (some Ch)] 171)).at dd).heap.size := by show _ < (w.alloc _).heap.size; rw [World.size_alloc]; omega
  replace hsim := hs
  clear q5 q9 hL hs
  generalize S1_ S1 L = S1 at hsim hH hSp1
  generalize K1_ K1 L (.cells #[.chan (some Ch)] 171) = K1 at hsim hH
  generalize (w.alloc (.cells #[.chan (some Ch)] 171)).at dd = w at hsim hge hltL ⊢
  generalize u.alloc (.cells #[] 171) = u at h hsim ⊢
  generalize a.put (some 5) (ptr L) = a at h hA ⊢
  replace hA := hA.drop (tab' := [(5, ptr L)]) (by simp)
  refine h.ctl (fun _ => stepG_region_end) fun gs d sl t q h => ?_
  replace hsim := hsim.at d
  replace hge : lo ≤ (w.at d).heap.size := hge
  generalize w.at d = w at hsim hge ⊢
  unfold V2 at h
  refine h.ctl (fun _ => stepG_seq) fun gs d sl t q h => ?_
  replace hsim := hsim.at d
  replace hge : lo ≤ (w.at d).heap.size := hge
  generalize w.at d = w at hsim hge ⊢
  refine h.ctl (fun _ => stepG_region) fun gs d sl t q h => ?_
  replace hsim := hsim.at d
  replace hge : lo ≤ (w.at d).heap.size := hge
  generalize w.at d = w at hsim hge ⊢
  refine h.mctl hS rfl (fun _ => stepG_region_end) fun h => ?_
  refine h.mctl hS rfl (fun _ => stepG_seq) fun h => ?_
  refine h.mctl hS rfl (fun _ => stepG_region) fun h => ?_
  rw [n2, m2n] at h
  rw [m2n]
  refine h.both fitsF fm_early hS fm_kp Tryz.func120 hA.defers hsim hH.hid hSp1 (o0 2 0) rfl rfl (wanted_none rfl _) (wanted_none rfl _) (by kernel_rfl) rfl fun v u gs w sl t q τ d hi h hs hz => ?_
  have hd : (o0 2 0).dst = some 10 := by kernel_rfl
  rw [hd] at h ⊢
  clear hd
  replace hge : lo ≤ w.heap.size := Nat.le_trans hge (size_le hsim hs hz)
  replace hsim := hs
  replace hA := hA.put 10 v (by omega) rfl
  replace hA := hA.drop (tab' := [(5, ptr L)]) (by simp)
  generalize a.put (some 10) v = a at h hA ⊢
  clear hi
  refine h.both fitsF fm_early hS fm_kp Tryz.func120 hA.defers hsim hH.hid hSp1 (o0 2 1) rfl rfl (wanted_none rfl _) (wanted_none rfl _) (by kernel_rfl) rfl fun v u gs w sl t q τ d hi h hs hz => ?_
  have hd : (o0 2 1).dst = some 11 := by kernel_rfl
  rw [hd] at h ⊢
  clear hd
  replace hge : lo ≤ w.heap.size := Nat.le_trans hge (size_le hsim hs hz)
  replace hsim := hs
  replace hA := hA.put 11 v (by omega) rfl
  replace hA := hA.drop (tab' := [(5, ptr L)]) (by simp)
  generalize a.put (some 11) v = a at h hA ⊢
  clear hi
  have hlL : L < w.heap.size := hsim.low (hH.tab (L, .cells #[.chan (some Ch)] 171) (by simp)).1
  have hlC : Ch < w.heap.size := hsim.low (hH.tab (Ch, .chan 0 #[] false 0 0 false) (by simp)).1
  have hcall : ∀ u0, (execOp a.eval (o0 2 2)).run (PF Tryz.prog FM) u0 = .ok (.enter 93 ((#[.tmp 11] : Array Operand).map a.eval)) u0 := fun u0 => run_call_body (args := #[.tmp 11]) rfl fm42 (by kernel_rfl) (by kernel_rfl)
  refine h.call fitsK hS fm_kp Tryz.func120 hT hA.defers hsim hH.hid hSp1 (o0 2 2) rfl rfl (wanted_none rfl _) (wanted_none rfl _) (by kernel_rfl) (fun f args u0 u1 e => ?_) (fun u0 u1 => ⟨fun v e => ?_, fun e => ?_⟩) fun v u gs n w sl t q S1 K1 Sp2 h hs c6 c7 c9 c10 => ?_
  · rw [hcall] at e
    injection e with e _
    injection e with e _
    subst e
    decide
  · rw [hcall] at e; injection e with e _; cases e
  · rw [hcall] at e; injection e with e _; cases e
  have hd : (o0 2 2).dst = some 12 := by kernel_rfl
  rw [hd] at h ⊢
  clear hd hcall
  replace hge : lo ≤ w.heap.size := Nat.le_trans hge c10
  replace hsim := hs
  replace hH := hH.mono c6
  replace hSp1 := c7
  replace hSpd : ∀ b, Sp2 b → b < lo ∨ (b ≠ L ∧ b ≠ Ch ∧ b < w.heap.size) := fun b hb => (c9 b hb).elim (fun e => .inl (hSpd b e)) (fun e => .inr ⟨by omega, by omega, hs.low (c7 b hb)⟩)
  replace hA := hA.put 12 v (by omega) rfl
  generalize a.put (some 12) v = a at h hA ⊢
  clear hs c6 c7 c9 c10 hlL hlC hSp
  obtain ⟨f', s', u2, es, k1, k2, k3⟩ := h.fin.go (hS.at rfl) u.tape u.drawn
  obtain ⟨sb, sn, sc, hsl, hlen⟩ := len_slice (w := re u u.tape u.drawn) (go_not_stuck (ops := M2) (o := opLen) rfl rfl k1)
  have hlen' : ∀ τ d, (execOp a.eval opLen).run (PF Tryz.prog FM) (re u τ d) = .ok (.value (goInt sn)) (re u τ d) := fun τ d => by
    obtain ⟨f', s', u2, es, k1, k2, k3⟩ := h.fin.go (hS.at rfl) τ d
    obtain ⟨sb', sn', sc', hsl', hlen'⟩ := len_slice (w := re u τ d) (go_not_stuck (ops := M2) (o := opLen) rfl rfl k1)
    rw [hsl] at hsl'
    injection hsl' with e1 e2 e3
    rw [hlen', e2]
  clear k1 k2 k3 hlen
  refine h.model hS rfl (frm' := kf kp a (.inRegion M2 [4] :: [.code U3])) (u' := u) (fun τ d => ⟨_, stepG_value (ops := M2) (o := opLen) rfl rfl hk (hlen' τ d)⟩) fun h => ?_
  replace h : Here Tryz.prog FM Stop fr sm stt Sp2 n x1 (kf kp a (.inRegion M2 [4] :: [.code U3])) u (kf kp a (.inRegion (R0 2) [3, 4] :: [.code V3])) gs t q := h
  show Concl Tryz.prog FM Stop fr sm stt S K Sp2 (kf kp a (.inRegion M2 [4] :: [.code U3]), fr :: sm, u) gs w sl t
  have e12 := hA.tab (12, v) (by simp)
  simp only at e12
  rw [e12] at hsl
  subst hsl
  clear hlen' e12
  obtain ⟨Y, hY⟩ : ∃ Y, Y = w.heap.size := ⟨_, rfl⟩
  have hgeY : lo ≤ Y := hY ▸ hge
  rw [← hY] at hSpd
  have q6 : (a.put (some 6) (ptr w.heap.size)).eval (.tmp 6) = ptr w.heap.size := by rw [eval_put, if_pos ⟨rfl, by have := hA.size; omega⟩]
  have q12 : (a.put (some 6) (ptr w.heap.size)).eval (.tmp 12) = .slice sb sn sc := by rw [eval_put, if_neg (by simp)]; exact hA.tab (12, _) (by simp)
  refine h.slot (cs := #[.slice sb sn sc]) (o1 := o0 2 3) (o2 := o0 2 4) hS hSp1 hsim rfl rfl rfl rfl (by kernel_rfl) (fun w => Tryz.zeroValue76 w) (fun w1 hw1 => ?_) fun gs sl t q dd h hs => ?_
  · have e := step_new1 (P := Tryz.prog) (main := true) (b := base kp) (a := a.put (some 6) (ptr w.heap.size)) (ops := R0 2) (i := 4) (l := []) (k := [.code V3]) (cs := fr :: stt) (o := o0 2 4) (x := .tmp 6) (y := .tmp 12) (w := w1) (z0 := .slice none 0 0) rfl rfl hk rfl (by kernel_rfl) (by rw [hw1]; exact q6) q12 rfl (fun w => Tryz.sizeOf76 w)
    rw [hw1] at e
    exact e
  replace hH := hH.push hsim hge (.cells #[.slice sb sn sc] 76)
  replace hA := hA.put 6 (ptr w.heap.size) (by omega) rfl
  rw [← hY] at h hs hH hA ⊢
  replace hSp1 : ∀ b, Sp2 b → S1_ S1 Y b := fun b hb => .inl (hSp1 b hb)
  replace hge : lo ≤ ((w.alloc (.cells #[.slice sb sn sc] 76)).at dd).heap.size := Nat.le_trans hge (by show _ ≤ (w.alloc _).heap.size; rw [World.size_alloc]; omega)
  have hltY : Y < ((w.alloc (.cells #[.slice sb sn sc] 76)).at dd).heap.size := by show _ < (w.alloc _).heap.size; rw [World.size_alloc]; omega
  replace hsim := hs
  clear q6 q12 hY hs
  generalize S1_ S1 Y = S1 at hsim hH hSp1
  generalize K1_ K1 Y (.cells #[.slice sb sn sc] 76) = K1 at hsim hH
  generalize (w.alloc (.cells #[.slice sb sn sc] 76)).at dd = w at hsim hge hltY ⊢
  generalize u.alloc (.cells #[] 76) = u at h hsim ⊢
  generalize a.put (some 6) (ptr Y) = a at h hA ⊢
  replace hSpd : ∀ b, Sp2 b → b ≠ L ∧ b ≠ Ch ∧ b < Y := fun b hb => by have := hSpd b hb; omega
  replace hA := hA.drop (tab' := [(6, ptr Y), (12, .slice sb sn sc), (5, ptr L)]) (by simp)
  refine h.ctl (fun _ => stepG_region_end) fun gs d sl t q h => ?_
  replace hsim := hsim.at d
  replace hge : lo ≤ (w.at d).heap.size := hge
  generalize w.at d = w at hsim hge ⊢
  unfold V3 at h
  refine h.ctl (fun _ => stepG_seq) fun gs d sl t q h => ?_
  replace hsim := hsim.at d
  replace hge : lo ≤ (w.at d).heap.size := hge
  generalize w.at d = w at hsim hge ⊢
  refine h.ctl (fun _ => stepG_region) fun gs d sl t q h => ?_
  replace hsim := hsim.at d
  replace hge : lo ≤ (w.at d).heap.size := hge
  generalize w.at d = w at hsim hge ⊢
  refine h.mctl hS rfl (fun _ => stepG_region_end) fun h => ?_
  refine h.mctl hS rfl (fun _ => stepG_seq) fun h => ?_
  refine h.mctl hS rfl (fun _ => stepG_region) fun h => ?_
  rw [n3, m3n] at h
  rw [m3n]
  refine h.both fitsF fm_early hS fm_kp Tryz.func120 hA.defers hsim hH.hid hSp1 (o0 3 0) rfl rfl (wanted_none rfl _) (wanted_none rfl _) (by kernel_rfl) rfl fun v u gs w sl t q τ d hi h hs hz => ?_
  have hd : (o0 3 0).dst = some 13 := by kernel_rfl
  rw [hd] at h ⊢
  clear hd
  replace hge : lo ≤ w.heap.size := Nat.le_trans hge (size_le hsim hs hz)
  replace hsim := hs
  replace hA := hA.put 13 v (by omega) rfl
  replace hA := hA.drop (tab' := [(6, ptr Y), (12, .slice sb sn sc), (5, ptr L)]) (by simp)
  generalize a.put (some 13) v = a at h hA ⊢
  clear hi
  refine h.both fitsF fm_early hS fm_kp Tryz.func120 hA.defers hsim hH.hid hSp1 (o0 3 1) rfl rfl (wanted_none rfl _) (wanted_none rfl _) (by kernel_rfl) rfl fun v u gs w sl t q τ d hi h hs hz => ?_
  have hd : (o0 3 1).dst = some 14 := by kernel_rfl
  rw [hd] at h ⊢
  clear hd
  replace hge : lo ≤ w.heap.size := Nat.le_trans hge (size_le hsim hs hz)
  replace hsim := hs
  replace hA := hA.put 14 v (by omega) rfl
  replace hA := hA.drop (tab' := [(6, ptr Y), (12, .slice sb sn sc), (5, ptr L)]) (by simp)
  generalize a.put (some 14) v = a at h hA ⊢
  clear hi
  refine h.both fitsF fm_early hS fm_kp Tryz.func120 hA.defers hsim hH.hid hSp1 (o0 3 2) rfl rfl (wanted_none rfl _) (wanted_none rfl _) (by kernel_rfl) rfl fun v u gs w sl t q τ d hi h hs hz => ?_
  have hd : (o0 3 2).dst = some 15 := by kernel_rfl
  rw [hd] at h ⊢
  clear hd
  replace hge : lo ≤ w.heap.size := Nat.le_trans hge (size_le hsim hs hz)
  replace hsim := hs
  replace hA := hA.put 15 v (by omega) rfl
  replace hA := hA.drop (tab' := [(6, ptr Y), (12, .slice sb sn sc), (5, ptr L)]) (by simp)
  generalize a.put (some 15) v = a at h hA ⊢
  clear hi
  refine h.both fitsF fm_early hS fm_kp Tryz.func120 hA.defers hsim hH.hid hSp1 (o0 3 3) rfl rfl (wanted_none rfl _) (wanted_none rfl _) (by kernel_rfl) rfl fun v u gs w sl t q τ d hi h hs hz => ?_
  have hd : (o0 3 3).dst = some 16 := by kernel_rfl
  rw [hd] at h ⊢
  clear hd
  replace hge : lo ≤ w.heap.size := Nat.le_trans hge (size_le hsim hs hz)
  replace hsim := hs
  replace hA := hA.put 16 v (by omega) rfl
  replace hA := hA.drop (tab' := [(6, ptr Y), (12, .slice sb sn sc), (5, ptr L)]) (by simp)
  generalize a.put (some 16) v = a at h hA ⊢
  clear hi
  refine h.both fitsF fm_early hS fm_kp Tryz.func120 hA.defers hsim hH.hid hSp1 (o0 3 4) rfl rfl (wanted_none rfl _) (wanted_none rfl _) (by kernel_rfl) rfl fun v u gs w sl t q τ d hi h hs hz => ?_
  have hd : (o0 3 4).dst = some 17 := by kernel_rfl
  rw [hd] at h ⊢
  clear hd
  replace hge : lo ≤ w.heap.size := Nat.le_trans hge (size_le hsim hs hz)
  replace hsim := hs
  replace hA := hA.put 17 v (by omega) rfl
  replace hA := hA.drop (tab' := [(6, ptr Y), (12, .slice sb sn sc), (5, ptr L)]) (by simp)
  generalize a.put (some 17) v = a at h hA ⊢
  clear hi
  refine h.both fitsF fm_early hS fm_kp Tryz.func120 hA.defers hsim hH.hid hSp1 (o0 3 5) rfl rfl (wanted_none rfl _) (wanted_none rfl _) (by kernel_rfl) rfl fun v u gs w sl t q τ d hi h hs hz => ?_
  have hd : (o0 3 5).dst = some 18 := by kernel_rfl
  rw [hd] at h ⊢
  clear hd
  replace hge : lo ≤ w.heap.size := Nat.le_trans hge (size_le hsim hs hz)
  replace hsim := hs
  replace hA := hA.put 18 v (by omega) rfl
  replace hA := hA.drop (tab' := [(6, ptr Y), (12, .slice sb sn sc), (5, ptr L)]) (by simp)
  generalize a.put (some 18) v = a at h hA ⊢
  clear hi
  refine h.both fitsF fm_early hS fm_kp Tryz.func120 hA.defers hsim hH.hid hSp1 (o0 3 6) rfl rfl (wanted_none rfl _) (wanted_none rfl _) (by kernel_rfl) rfl fun v u gs w sl t q τ d hi h hs hz => ?_
  have hd : (o0 3 6).dst = some 19 := by kernel_rfl
  rw [hd] at h ⊢
  clear hd
  replace hge : lo ≤ w.heap.size := Nat.le_trans hge (size_le hsim hs hz)
  have hv : ∃ x0 x1, v = .agg #[x0, x1] := by
    have hy : Yields (PF Tryz.prog FM) (fun nx => ∃ x0 x1, nx = .value (.agg #[x0, x1])) (execOp a.eval (o0 3 6)) := by
      rw [exec_load' (t := 28) (x := .tmp 18) rfl]
      exact Yields.bind2 (yields_upd _) fun v hv => Yields.pure (by obtain ⟨x0, x1, rfl⟩ := hv; exact ⟨x0, x1, rfl⟩)
    rcases hi with hi | ⟨hi, _⟩
    · obtain ⟨x0, x1, e⟩ := hy _ _ _ hi
      injection e with e
      exact ⟨x0, x1, e⟩
    · obtain ⟨x0, x1, e⟩ := hy _ _ _ hi
      cases e
  obtain ⟨x0, xx1, rfl⟩ := hv
  replace hsim := hs
  replace hA := hA.put 19 (.agg #[x0, xx1]) (by omega) rfl
  generalize a.put (some 19) (.agg #[x0, xx1]) = a at h hA ⊢
  clear hi
  have e19 : a.eval (.tmp 19) = .agg #[x0, xx1] := hA.tab (19, .agg #[x0, xx1]) (by simp)
  obtain ⟨hx0, hx1⟩ := look hS hA.size e19 (fun w => Tryz.zeroValue28 w) h.fin
  clear e19
  obtain ⟨X, hX⟩ : ∃ X, X = w.heap.size := ⟨_, rfl⟩
  have hgeX : lo ≤ X := hX ▸ hge
  have q7 : (a.put (some 7) (ptr w.heap.size)).eval (.tmp 7) = ptr w.heap.size := by rw [eval_put, if_pos ⟨rfl, by have := hA.size; omega⟩]
  have q19 : (a.put (some 7) (ptr w.heap.size)).eval (.tmp 19) = .agg #[x0, xx1] := by rw [eval_put, if_neg (by simp)]; exact hA.tab (19, _) (by simp)
  refine h.slot (cs := #[x0, xx1]) (o1 := o0 3 7) (o2 := o0 3 8) hS hSp1 hsim rfl rfl rfl rfl (by kernel_rfl) (fun w => Tryz.zeroValue28 w) (fun w1 hw1 => ?_) fun gs sl t q dd h hs => ?_
  · have e := step_new2 (P := Tryz.prog) (main := true) (b := base kp) (a := a.put (some 7) (ptr w.heap.size)) (ops := R0 3) (i := 8) (l := []) (k := [.code V4]) (cs := fr :: stt) (o := o0 3 8) (x := .tmp 7) (y := .tmp 19) (w := w1) (z0 := .int .i64 0) (z1 := .int .i64 0) rfl rfl hk rfl (by kernel_rfl) (by rw [hw1]; exact q7) q19 hx0 hx1 (fun w => Tryz.sizeOf28 w)
    rw [hw1] at e
    exact e
  replace hH := hH.push hsim hge (.cells #[x0, xx1] 28)
  replace hA := hA.put 7 (ptr w.heap.size) (by omega) rfl
  rw [← hX] at h hs hH hA ⊢
  replace hSp1 : ∀ b, Sp2 b → S1_ S1 X b := fun b hb => .inl (hSp1 b hb)
  replace hge : lo ≤ ((w.alloc (.cells #[x0, xx1] 28)).at dd).heap.size := Nat.le_trans hge (by show _ ≤ (w.alloc _).heap.size; rw [World.size_alloc]; omega)
  have hltX : X < ((w.alloc (.cells #[x0, xx1] 28)).at dd).heap.size := by show _ < (w.alloc _).heap.size; rw [World.size_alloc]; omega
  replace hsim := hs
  clear q7 q19 hX hs
  generalize S1_ S1 X = S1 at hsim hH hSp1
  generalize K1_ K1 X (.cells #[x0, xx1] 28) = K1 at hsim hH
  generalize (w.alloc (.cells #[x0, xx1] 28)).at dd = w at hsim hge hltX ⊢
  generalize u.alloc (.cells #[] 28) = u at h hsim ⊢
  generalize a.put (some 7) (ptr X) = a at h hA ⊢
  refine h.ctl (fun _ => stepG_region_end) fun gs d sl t q h => ?_
  replace hsim := hsim.at d
  replace hge : lo ≤ (w.at d).heap.size := hge
  generalize w.at d = w at hsim hge ⊢
  unfold V4 at h
  refine h.ctl (fun _ => stepG_seq) fun gs d sl t q h => ?_
  replace hsim := hsim.at d
  replace hge : lo ≤ (w.at d).heap.size := hge
  generalize w.at d = w at hsim hge ⊢
  refine h.ctl (fun _ => stepG_region) fun gs d sl t q h => ?_
  replace hsim := hsim.at d
  replace hge : lo ≤ (w.at d).heap.size := hge
  generalize w.at d = w at hsim hge ⊢
  refine h.mctl hS rfl (fun _ => stepG_region_end) fun h => ?_
  refine h.mctl hS rfl (fun _ => stepG_seq) fun h => ?_
  refine h.mctl hS rfl (fun _ => stepG_region) fun h => ?_
  rw [n4, m4n] at h
  rw [m4n]
  obtain ⟨Wg, hWg⟩ : ∃ Wg, Wg = w.heap.size := ⟨_, rfl⟩
  refine Concl.step (N := 0) (S' := S) (K' := K) (Sp' := S1_ Sp2 w.heap.size) rfl (fun _ h => ⟨h, rfl⟩) (fun _ h => .inl h) (fun b hb => hb.imp id fun e => Nat.le_of_eq e.symm) (Nat.le_refl _) ?_
  refine h.slot0 (o1 := o0 4 0) hS hsim rfl rfl rfl rfl (by kernel_rfl) (fun w => Tryz.zeroValue179 w) fun gs sl t q dd h hs => ?_
  replace hH := hH.push hsim hge (.cells (Value.agg #[.int .u64 0, .int .u32 0]).cells 179)
  replace hA := hA.put 8 (ptr w.heap.size) (by omega) rfl
  rw [← hWg] at h hs hH hA ⊢
  replace hSp1 : ∀ b, Sp2 b → S1_ S1 Wg b := fun b hb => .inl (hSp1 b hb)
  have hWs : ((w.alloc (.cells (Value.agg #[.int .u64 0, .int .u32 0]).cells 179)).at dd).heap.size = Wg + 1 := by show (w.alloc _).heap.size = _; rw [World.size_alloc, hWg]
  replace hsim := hs
  clear hs hge hWg
  generalize S1_ S1 Wg = S1 at hsim hH hSp1
  generalize K1_ K1 Wg (.cells (Value.agg #[.int .u64 0, .int .u32 0]).cells 179) = K1 at hsim hH
  generalize (w.alloc (.cells (Value.agg #[.int .u64 0, .int .u32 0]).cells 179)).at dd = w at hsim hWs ⊢
  generalize u.alloc (.cells #[] 179) = u at h hsim ⊢
  generalize a.put (some 8) (ptr Wg) = a at h hA ⊢
  refine h.ctl (fun _ => stepG_region_end) fun gs d sl t q h => ?_
  replace hsim := hsim.at d
  replace hWs : (w.at d).heap.size = Wg + 1 := hWs
  generalize w.at d = w at hsim hWs ⊢
  unfold V5 at h
  refine h.ctl (fun _ => stepG_seq) fun gs d sl t q h => ?_
  replace hsim := hsim.at d
  replace hWs : (w.at d).heap.size = Wg + 1 := hWs
  generalize w.at d = w at hsim hWs ⊢
  refine h.ctl (fun _ => stepG_region) fun gs d sl t q h => ?_
  replace hsim := hsim.at d
  replace hWs : (w.at d).heap.size = Wg + 1 := hWs
  generalize w.at d = w at hsim hWs ⊢
  refine h.mctl hS rfl (fun _ => stepG_region_end) fun h => ?_
  refine h.mctl hS rfl (fun _ => stepG_seq) fun h => ?_
  refine h.mctl hS rfl (fun _ => stepG_region) fun h => ?_
  rw [n5, m5n] at h
  rw [m5n]
  have hdd := hH.desc
  simp only [List.pairwise_cons, List.mem_cons, List.not_mem_nil, or_false, forall_eq_or_imp, forall_eq, List.Pairwise.nil, and_true, false_implies, implies_true] at hdd
  have tg := hH.tab (Wg, .cells (Value.agg #[.int .u64 0, .int .u32 0]).cells 179) (by simp)
  have tx := hH.tab (X, .cells #[x0, xx1] 28) (by simp)
  have ty := hH.tab (Y, .cells #[.slice sb sn sc] 76) (by simp)
  have tl := hH.tab (L, .cells #[.chan (some Ch)] 171) (by simp)
  have tc := hH.tab (Ch, .chan 0 #[] false 0 0 false) (by simp)
  have GG : Geo3 S1 S Wg Ch X L Y := ⟨tg.1, tc.1, tx.1, tl.1, ty.1, fun b hb => ⟨(hH.hid b hb).1, by have := hlow b hb; have := tg.2.2; have := tx.2.2; have := ty.2.2; have := tc.2.2; simp only at *; omega⟩,
    by omega, by omega, by omega, by omega, by omega, by omega, by omega, by omega, by omega, by omega⟩
  exact passCrew (S1 := S1) (K1 := K1) (n := n) (x0 := x0) (xx1 := xx1) (yv := .slice sb sn sc) (Ch := Ch) (X := X) (L := L) (Y := Y) hS GG (fun b hb => ⟨hSp1 b hb, by have := hSpd b hb; omega⟩) hH.hid h hsim tg.2.1 tc.2.1 tx.2.1 tl.2.1 ty.2.1
    (hA.tab (5, ptr L) (by simp)) (hA.tab (6, ptr Y) (by simp)) (hA.tab (7, ptr X) (by simp)) (hA.tab (8, ptr Wg) (by simp)) (hA.tab (12, .slice sb sn sc) (by simp)) (hA.tab (19, .agg #[x0, xx1]) (by simp)) hA.size hA.defers hWs
end
end Go.Proofs.YtemgilofjbnoaaaGreatDoor
namespace Go.Proofs.YtemgilofjbnoaaaGreatDoor
open Go Go.Conc
open Go.ConcN (sumTo upd sumTo_upd upd_ne upd_same)
set_option linter.unusedVariables false
set_option linter.unusedSimpArgs false
section
variable {P : Program} {F : Array Func} {k0 : FuncId} {Stop : Frame → List Frame → World → Prop}
set_option maxHeartbeats 1000000 in
theorem end_good {fr : Frame} {g : Func} {gs : Array Goroutine} {u w : World} {sl : Option (Nat × Nat)} {t : Trace} {q : Nat → Nat} {S : Nat → Prop} {K : Nat → Obj} {Sp : Nat → Prop} (hSp : ∀ b, Sp b → S b) {Post : Value → World → Prop} {τ : Nat → Question → Nat} {d' : Nat} {v : Value}
    (h0 : gs[0]? = some (G fr [])) (hL : Leavers P t gs q) (hP : PastD (ShunS Sp) 0 t) (hs : Sim0 S K u w) (hf : P.funcs[fr.fn]? = some g) (hi : P.inits.idxOf? fr.fn = none)
    (hm : fr.mode = .returning) (hd : fr.defers = []) (hk : fr.kind = .normal) (hr : (results g fr.tmps).run (PF P F) (re u τ d') = .ok v (re u τ d')) (hpost : ∀ w2, Sim0 S K u w2 → Post v w2) :
    ∃ N last t1 w2 ops, runNT P N (crowd gs w sl) t = (.next last, t1) ∧ stepT P last = (.ended (.done v) w2, ops) ∧ Go.Conc.Good P Post last (.done v) w2 (t1 ++ ops) := by
  obtain ⟨N, gs1, d0, d, sl1, sl2, t1, q1, e1, e2, e3, hL1, hP1, e4⟩ := slip rfl _ gs w sl t q (Nat.le_refl _) h0 hL hP
  have hsim : Sim ⟨S, K, d', d', d, w.tape, true⟩ (re u τ d') (w.at d) := ⟨hs.size, hs.out, hs.ins, hs.views, hs.os, hs.output, fun i q h => by have : d' + i < d' := h; omega, hs.kept, Nat.add_comm _ _, rfl⟩
  have hss := sim_results (P := P) (F := F) g fr.tmps _ _ _ #[] hsim
  rw [hr] at hss
  obtain ⟨w2, es, k1, k2, k3, k4⟩ := hss (Nat.le_refl _)
  have hend : stepG P true (G fr []) (w.at d) = .ended (.done v) w2 (seen P fr.fn (#[] ++ es) ++ #[]) := by
    obtain ⟨fn, tmps, todo, defers, mode, kind, round⟩ := fr
    dsimp only at hf hi hm hd hk k1
    subst hm hd hk
    simp only [G, stepG, unwind, hf, k1, doReturn, hi]
    rfl
  have hes : ∀ e ∈ seen P fr.fn (#[] ++ es) ++ #[], EvT (ShunS Sp) e := fun e he =>
    evS_evT (S := ⟨S, K, _, _, _, _, _⟩) hSp (k4 e (by have := mem_seen (by simpa using he : e ∈ seen P fr.fn (#[] ++ es)); simpa using this))
  have hrunT := runT_many_ended (P := P) (sl := sl2) (i := 0) e3 (show stepG P (0 == 0) (G fr []) (w.at d) = _ from hend)
  have hP' := hP1.own (fn := fr.fn) (pos := fr.place) hes
  refine ⟨N, _, t1, w2, _, e1, e4.trans hrunT, v, rfl, hpost w2 (Sim.sim0 k2 : Sim0 S K (re u τ d') w2).re_, hP'.clean, hP'.over, ⟨fun x hx => ?_, rfl⟩, fun j x hx hj => ?_⟩
  · obtain ⟨j, hj⟩ := List.mem_iff_getElem?.1 hx
    rw [List.getElem?_drop] at hj
    exact ⟨_, (hL1.old (1 + j) x (by omega) (by simpa [crowd] using hj)).leaves⟩
  · have hq := hL1.old j x (by omega) hx
    refine ⟨q1 j, ?_⟩
    have e : (t1 ++ MemOp.ofEvents 0 fr.fn fr.place (seen P fr.fn (#[] ++ es) ++ #[])).deaf j (t1 ++ MemOp.ofEvents 0 fr.fn fr.place (seen P fr.fn (#[] ++ es) ++ #[])).size = Deaf t1 j :=
      Deaf_other t1 (g := j) (g' := 0) (by omega) _ (fun op hop => by obtain ⟨e, _, rfl⟩ := Go.Conc.mem_ofEvents hop; rfl)
    have e' := e
    exact e.symm ▸ hq.hears _
theorem fin_leaving {f : FuncId} {Post : Value → World → Prop} {fr : Frame} {u : World} (hF : Fin_ (PF P F) (StopOf (PF P F) f Post) fr [c0] u) (hf : OkFr P F k0 fr) (hm : fr.mode ≠ .run) (hv : NoView u) : StopOf (PF P F) f Post fr [c0] u := by
  have dead : ∀ {f2 : Frame} {u2 : World}, (∀ τ d, ∃ o w es, stepG (PF P F) true (G f2 []) (re u2 τ d) = .ended o w es) → Fin_ (PF P F) (StopOf (PF P F) f Post) f2 [] u2 → False := by
    intro f2 u2 h hF
    cases hF with
    | stop h => cases h.1
    | step h1 h2 =>
      obtain ⟨a, b, c, e, q⟩ := h1 u2.tape u2.drawn
      obtain ⟨o, w, es, q'⟩ := h u2.tape u2.drawn
      rw [q] at q'; cases q'
  cases hF with
  | stop h => exact h
  | step h1 h2 =>
    exfalso
    obtain ⟨a, b, c, e, q⟩ := h1 u.tape u.drawn
    have hs := sim_self (m := true) (u := re u u.tape u.drawn) hv u.tape u.drawn (gw (stepG (PF P F) true (G fr [c0]) (re u u.tape u.drawn))).drawn (fun i q _ => rfl)
    cases he : fr.mode with
    | run => exact hm he
    | panicking ch =>
      have h := (leave_panic (P := P) (F := F) (bm := []) (bt := []) (c := c0) (c' := c0) (u := re u u.tape u.drawn) (w := u) hf he).1
      exact dead (fun τ d => c0_raise _ ch _) (h2 _ _ _ _ _ _ h)
    | returning =>
      obtain ⟨fn, tmps, todo, defers, mode, kind, round⟩ := fr
      obtain ⟨k1, ⟨g, k2, k2'⟩, k3, k4, k5, k6⟩ := hf
      dsimp only at k1 k2 k2' k3 k4 k5 k6 he
      subst k4 k5 k6 he
      have q2 := q
      simp only [G, stepG, unwind, show (PF P F).funcs = F from rfl, k2'] at q2
      generalize (results g tmps).runT (PF P F) (re u u.tape u.drawn) #[] = rt at q2
      obtain ⟨r, es⟩ := rt
      cases r with
      | ok v u' =>
        simp only [doReturn, GStep.after] at q2
        injection q2 with q3 q4 q5
        injection q3 with q6 q7
        have hF2 := h2 _ _ _ _ _ _ q
        rw [← q6, ← q7] at hF2
        exact dead (fun τ d => c0_finish _ v _) hF2
      | halt x u' => cases x <;> cases q2
def brkO : Obj → Obj
  | .view a t => .view { a with spot := some 0 } t
  | .loop _ => .deferred none
  | .deferred _ => .deferred none
  | o => o
def brk (W : World) : World := { W with heap := W.heap.map brkO }
def V0 (W : World) (b : Nat) : Prop := ∃ o, W.heap[b]? = some o ∧ brkO o ≠ o
def K0 (W : World) (b : Nat) : Obj := (W.heap[b]?).getD (.cells #[] 0)
theorem brkO_ok (o : Obj) : okObj (brkO o) = true := by cases o <;> rfl
theorem brk_noView (W : World) : NoView (brk W) := by
  intro b o h
  simp only [brk, Array.getElem?_map, Option.map_eq_some_iff] at h
  obtain ⟨o, _, rfl⟩ := h
  exact brkO_ok o
def S0 (W : World) (b : Nat) : Prop := ∃ o o', (brk W).heap[b]? = some o ∧ W.heap[b]? = some o' ∧ Alike o o'
theorem brk_at (W : World) (b : Nat) (h : ¬ V0 W b) : (brk W).heap[b]? = W.heap[b]? := by
  simp only [brk, Array.getElem?_map]
  cases hw : W.heap[b]? with
  | none => rfl
  | some o =>
    have : brkO o = o := Classical.byContradiction fun q => h ⟨o, hw, q⟩
    rw [Option.map_some, this]
theorem v0_s0 (W : World) (b : Nat) (h : V0 W b) : S0 W b := by
  obtain ⟨o, h, hb⟩ := h
  refine ⟨brkO o, o, by simp only [brk, Array.getElem?_map, h]; rfl, h, ?_⟩
  cases o <;> first | exact .view _ _ _ _ | exact .loop _ | exact .defd _ | exact absurd rfl hb
theorem brk_sim (W : World) : Sim0 (S0 W) (K0 W) (brk W) W := by
  refine ⟨by simp [brk], fun b hb => brk_at W b (fun h => hb (v0_s0 W b h)), fun b h => h, brk_noView W, rfl, rfl, fun b ⟨o, o', _, h, _⟩ => by simp [K0, h]⟩
theorem alike_self {o o' : Obj} (h : Alike o o') : Alike o o := by
  cases h <;> first | exact .hid _ _ | exact .chan _ _ _ _ _ _ | exact .view _ _ _ _ | exact .defd none
theorem old_same {W u w : World} {S : Nat → Prop} {K : Nat → Obj} (hs : Sim0 S K u w) (hk : ∀ b, S0 W b → S b ∧ K b = K0 W b) (hu : ∀ k, k < W.heap.size → u.heap[k]? = (brk W).heap[k]?) {k : Nat} (hlt : k < W.heap.size) : w.heap[k]? = W.heap[k]? := by
  by_cases h0 : S0 W k
  · obtain ⟨h1, h2⟩ := hk k h0
    rw [hs.kept k h1, h2]
    obtain ⟨o, o', _, h, _⟩ := h0
    simp [K0, h]
  · have hb := brk_at W k (fun h => h0 (v0_s0 W k h))
    by_cases h1 : S k
    · obtain ⟨o, o', e1, e2, ha⟩ := hs.ins k h1
      rw [hu k hlt] at e1
      exact absurd ⟨o, o, e1, hb ▸ e1, alike_self ha⟩ h0
    · rw [← hs.out k h1, hu k hlt, hb]
theorem runNT_end (P : Program) : ∀ {N : Nat} {m m' : Machine} {t t' : Trace} {ops : Array MemOp} {o : Outcome} {w : World}, runNT P N m t = (.next m', t') → stepT P m' = (.ended o w, ops) → runNT P (N + 1) m t = (.ended o w, t' ++ ops) := by
  intro N
  induction N with
  | zero =>
    intro m m' t t' ops o w h1 h2
    simp only [runNT, Prod.mk.injEq, Stepped.next.injEq] at h1
    obtain ⟨rfl, rfl⟩ := h1
    simp only [runNT, h2]
  | succ N ih =>
    intro m m' t t' ops o w h1 h2
    rw [runNT] at h1 ⊢
    cases hs : stepT P m with
    | mk r o =>
      rw [hs] at h1
      cases r with
      | next m1 => exact ih h1 h2
      | ended a b => cases h1
theorem past_nil (Shun : Loc → Prop) : PastD Shun 0 #[] :=
  ⟨fun said ⟨i, j, hij, ⟨a, b, ha, _⟩, _⟩ => by simp [Trace.act?] at ha, fun i a h => by simp [touchAt, Trace.act?] at h, fun i g h => by simp [Trace.g?] at h, rfl⟩
theorem law_run {k1 : FuncId} (hK : FitsK P F k0) (hU : FitsK (PF P F) F k1) (hk : F[k1]? = none) {f : FuncId} {args : Array Value} {W : World} {Post Post' : Value → World → Prop}
    (hf1 : OkFr (PF P F) F k1 (Frame.enter (PF P F) f args .normal)) (hf0 : OkFr P F k0 (Frame.enter P f args .normal)) (he : Frame.enter (PF P F) f args .normal = Frame.enter P f args .normal) (hi : P.inits.idxOf? f = none)
    (H : ∀ τ, Calls (PF P F) f args (re (brk W) τ 0) fun | .returned v, w => Post v w | _, _ => False) (hpass : PassOk P F k0 (StopOf (PF P F) f Post))
    (hpost : ∀ (u w : World) (S : Nat → Prop) (K : Nat → Obj) (v : Value) (τ : Nat → Question → Nat) (d : Nat), Post v (re u τ d) → Sim0 S K u w → (∀ b, S0 W b → S b ∧ K b = K0 W b) → Post' v w) :
    ∃ M last o w' t', runNT P (M + 1) (solo (G (Frame.enter P f args .normal) []) W) #[] = (.ended o w', t') ∧ runN P M (solo (G (Frame.enter P f args .normal) []) W) = .next last ∧ step P last = .ended o w' ∧ Go.Conc.Good P Post' last o w' t' := by
  have hF := fin_of_calls (P := P) hU hk hf1 (brk_noView W) H
  have hT := (transport hK StopOf.low hpass hF _ (.refl _)).trans
  obtain ⟨fr', u', m1, m2, _, m3, N, gs', w', sl', t', q', S', K', Sp', c1, c2, c3, c4, c5, c6, c7, _⟩ := hT [] [c0] [] (S0 W) (K0 W) (V0 W) #[G (Frame.enter P f args .normal) []] W none #[] (fun _ => 0) (v0_s0 W) rfl (by simp) hF (by simp only []; rw [he]; exact hf0) (by simp) (brk_sim W) (by simp [he])
    ⟨fun i g hi h => by
      have := (Array.getElem?_eq_some_iff.1 h).1
      simp at this; omega, fun j _ => rfl⟩ (past_nil _)
  obtain ⟨_, hfn, τ, d, v, ⟨l1, l2, l3, g, l4, l5⟩, hp⟩ := fin_leaving m3 m1 m2 c5.views
  obtain ⟨g', g1, g2⟩ := m1.fun_
  have hg : g' = g := by
    have e : F[fr'.fn]? = some g := l4
    rw [g2] at e; injection e
  subst hg
  obtain ⟨N2, last, t1, w2, ops, e1, e2, e3⟩ := end_good (F := F) (Post := Post') c7 c2 c3 c4 c5 g1 (by rw [hfn]; exact hi) l1 l2 l3 l5 (fun w2 h2 => hpost _ _ _ _ _ _ _ hp h2 c6)
  have hrun := (runNT_add P c1).trans e1
  have hfst := runNT_fst P (N + N2) (crowd #[G (Frame.enter P f args .normal) []] W none) #[]
  rw [hrun] at hfst
  exact ⟨N + N2, last, _, w2, _, runNT_end P hrun e2, hfst.symm, by unfold step; rw [e2], e3⟩
end
end Go.Proofs.YtemgilofjbnoaaaGreatDoor
