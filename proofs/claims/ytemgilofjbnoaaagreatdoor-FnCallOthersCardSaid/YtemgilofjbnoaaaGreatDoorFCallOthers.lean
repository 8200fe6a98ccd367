/- The tied card 'Rows.FnCallOthersCardSaid', out of the row's statement 'Rows.FnCallOthersSaid': the law returns true for every input, on every tape, free of races, and each argument reads behind the call as it read before; the variable errTake laid. The walk is callOthers_walk; here it is carried from the model over to the true program and lifted into the given row. -/
import Derived.Test.YtemgilofjbnoaaaGreatDoorVQ1
import Derived.Test.YtemgilofjbnoaaaGreatDoorVC1
import Derived.Test.YtemgilofjbnoaaaGreatDoorVD1
import Derived.Test.YtemgilofjbnoaaaGreatDoorVB1
import Derived.Test.YtemgilofjbnoaaaGreatDoorVL1
import Derived.Test.YtemgilofjbnoaaaGreatDoorVB3
namespace Go.Proofs.YtemgilofjbnoaaaGreatDoor
open Go.RowKit Go.Sort
set_option maxRecDepth 100000 in
set_option maxHeartbeats 16000000 in
theorem callOthers_walk (A : Option Addr) (n c : Nat) (l : List Int) (a : Addr) (w : World) (he : ErrAt a w) (h : Flat encU8 1 w 0 w.heap.size A n c l) (hl : ∀ x ∈ l, 0 ≤ x ∧ x ≤ 255) :
    Calls Mo.prog 3 #[.slice A n c] w fun e w' => e = .returned (.bool true) ∧ Below w.heap.size w w' := by
  have H := Lib.hid h
  have HL := Lib.hid hl
  have HE := Lib.hid he
  clear h hl he
  by_cases hn : 1048576 < n
  · go_enter Mo.func3, Tryz.ntmps3
    go_wp2
    go_ret
    exact ⟨rfl, Below.refl _ _⟩
  go_enter Mo.func3, Tryz.ntmps3
  go_wp2_with fail
  refine (drawCallRun_any _ _ _ l _ H.out HL.out).mono ?_
  rintro e w1 ⟨view, A1, n1, c1, r, B1, m1, d1, ks, x, rfl, h1, h3, h4, hm6, h6, h7, hb1⟩
  obtain ⟨hn1, hl1⟩ := nods_ok h1 h3 h4
  have HG := Lib.hid hl1
  have HM1 := Lib.hid h7.len
  have Vc := Lib.hid ((Var.row h6 view).alloc (.cells #[.int .i64 x.client, .int .i64 x.number, .int .i64 x.what.key, .int .i64 x.what.value] 30))
  have Xx := Lib.hid (show KVar ((w1.alloc (.cells #[.int .i64 view, .slice A1 n1 c1] 25)).alloc (.cells #[.int .i64 x.client, .int .i64 x.number, .int .i64 x.what.key, .int .i64 x.what.value] 30)) (w1.heap.size + 1) x by
    have h := KVar.new (w1.alloc (.cells #[.int .i64 view, .slice A1 n1 c1] 25)) x
    rwa [World.size_alloc] at h)
  have Lk := Lib.hid (((h7.mono (Nat.zero_le _) (Nat.le_refl _)).box (.cells #[.int .i64 view, .slice A1 n1 c1] 25)).box (.cells #[.int .i64 x.client, .int .i64 x.number, .int .i64 x.what.key, .int .i64 x.what.value] 30))
  have HB := Lib.hid ((hb1.alloc hb1.size (.cells #[.int .i64 view, .slice A1 n1 c1] 25)).alloc (hb1.alloc hb1.size _).size (.cells #[.int .i64 x.client, .int .i64 x.number, .int .i64 x.what.key, .int .i64 x.what.value] 30))
  clear h1 h4 h6 h7 hb1 H HL hl1
  obtain ⟨o, ho⟩ : ∃ o, callM view r ks x = o := ⟨_, rfl⟩
  rcases o with _ | ⟨⟨v2, r2⟩, ks2⟩
  · have HO := Lib.hid ho
    clear ho
    have fvc0 := Vc.out.c0
    have fvc1 := Vc.out.c1
    have fvcl := Vc.out.lt
    have fxx0 := Xx.out.c0
    have fxx1 := Xx.out.c1
    have fxx2 := Xx.out.c2
    have fxx3 := Xx.out.c3
    have fxxl := Xx.out.lt
    go_wp2_with fail
    refine (callRun_any a view _ _ _ r _ _ _ ks x _ (HE.out.below HB.out) Vc.out.nods Lk.out hn1 HG.out (by omega)).mono ?_
    rintro e w2 hq
    obtain ⟨A2, c2, B2, d2, rfl, hq2, hq4, hb⟩ := CallRes.not hq HO.out
    clear hq
    have HQ2 := Lib.hid hq2
    have HQ4 := Lib.hid hq4
    clear hq2 hq4
    clear fvc0 fvc1 fvcl fxx0 fxx1 fxx2 fxx3 fxxl
    have NVc := Lib.hid (Vc.out.on hb)
    have NXx := Lib.hid (Xx.out.on hb)
    have NLk := Lib.hid (Lk.out.on hb)
    have NB := Lib.hid (HB.out.trans (hb.mono HB.out.size))
    clear HB Vc Xx Lk hb
    have Vc := Lib.hid NVc.out
    clear NVc
    have Xx := Lib.hid NXx.out
    clear NXx
    have Lk := Lib.hid NLk.out
    clear NLk
    have HB := Lib.hid NB.out
    clear NB
    have fvc0 := Vc.out.c0
    have fvc1 := Vc.out.c1
    have fvcl := Vc.out.lt
    have fxx0 := Xx.out.c0
    have fxx1 := Xx.out.c1
    have fxx2 := Xx.out.c2
    have fxx3 := Xx.out.c3
    have fxxl := Xx.out.lt
    have NVc := Lib.hid (Vc.out.alloc (.cells #[.int .i64 0, .slice A2 0 c2] 25))
    have NXx := Lib.hid (Xx.out.alloc (.cells #[.int .i64 0, .slice A2 0 c2] 25))
    have NLk := Lib.hid (Lk.out.box (.cells #[.int .i64 0, .slice A2 0 c2] 25))
    have NB := Lib.hid (HB.out.alloc HB.out.size (.cells #[.int .i64 0, .slice A2 0 c2] 25))
    have NVo := Lib.hid (Var.new HQ2.out 0)
    clear HB Vc Xx Lk
    have Vc := Lib.hid NVc.out
    clear NVc
    have Vo := Lib.hid NVo.out
    clear NVo
    have Xx := Lib.hid NXx.out
    clear NXx
    have Lk := Lib.hid NLk.out
    clear NLk
    have HB := Lib.hid NB.out
    clear NB
    have Lo := Lib.hid (HQ4.out.box (.cells #[.int .i64 0, .slice A2 0 c2] 25))
    clear HQ2 HQ4
    clear fvc0 fvc1 fvcl fxx0 fxx1 fxx2 fxx3 fxxl
    have fvc0 := Vc.out.c0
    have fvc1 := Vc.out.c1
    have fvcl := Vc.out.lt
    have fvo0 := Vo.out.c0
    have fvo1 := Vo.out.c1
    have fvol := Vo.out.lt
    have fxx0 := Xx.out.c0
    have fxx1 := Xx.out.c1
    have fxx2 := Xx.out.c2
    have fxx3 := Xx.out.c3
    have fxxl := Xx.out.lt
    go_wp2_with fail
    refine (specCallRun_any view _ _ _ r _ _ _ ks x _ Vc.out.nods Lk.out hn1 HG.out (by omega)).mono ?_
    rintro e w3 hq
    obtain ⟨A3, c3, B3, d3, rfl, hq2, hq4, hb⟩ := CallRes.not hq HO.out
    clear hq
    have HQ2 := Lib.hid hq2
    have HQ4 := Lib.hid hq4
    clear hq2 hq4
    clear fvc0 fvc1 fvcl fvo0 fvo1 fvol fxx0 fxx1 fxx2 fxx3 fxxl
    have NVc := Lib.hid (Vc.out.on hb)
    have NVo := Lib.hid (Vo.out.on hb)
    have NXx := Lib.hid (Xx.out.on hb)
    have NLk := Lib.hid (Lk.out.on hb)
    have NLo := Lib.hid (Lo.out.on hb)
    have NB := Lib.hid (HB.out.trans (hb.mono HB.out.size))
    clear HB Vc Vo Xx Lk Lo hb
    have Vc := Lib.hid NVc.out
    clear NVc
    have Vo := Lib.hid NVo.out
    clear NVo
    have Xx := Lib.hid NXx.out
    clear NXx
    have Lk := Lib.hid NLk.out
    clear NLk
    have Lo := Lib.hid NLo.out
    clear NLo
    have HB := Lib.hid NB.out
    clear NB
    have fvc0 := Vc.out.c0
    have fvc1 := Vc.out.c1
    have fvcl := Vc.out.lt
    have fvo0 := Vo.out.c0
    have fvo1 := Vo.out.c1
    have fvol := Vo.out.lt
    have fxx0 := Xx.out.c0
    have fxx1 := Xx.out.c1
    have fxx2 := Xx.out.c2
    have fxx3 := Xx.out.c3
    have fxxl := Xx.out.lt
    have NVc := Lib.hid (Vc.out.alloc (.cells #[.int .i64 0, .slice A3 0 c3] 25))
    have NVo := Lib.hid (Vo.out.alloc (.cells #[.int .i64 0, .slice A3 0 c3] 25))
    have NXx := Lib.hid (Xx.out.alloc (.cells #[.int .i64 0, .slice A3 0 c3] 25))
    have NLk := Lib.hid (Lk.out.box (.cells #[.int .i64 0, .slice A3 0 c3] 25))
    have NLo := Lib.hid (Lo.out.box (.cells #[.int .i64 0, .slice A3 0 c3] 25))
    have NB := Lib.hid (HB.out.alloc HB.out.size (.cells #[.int .i64 0, .slice A3 0 c3] 25))
    have NVw := Lib.hid (Var.new HQ2.out 0)
    clear HB Vc Vo Xx Lk Lo
    have Vc := Lib.hid NVc.out
    clear NVc
    have Vo := Lib.hid NVo.out
    clear NVo
    have Vw := Lib.hid NVw.out
    clear NVw
    have Xx := Lib.hid NXx.out
    clear NXx
    have Lk := Lib.hid NLk.out
    clear NLk
    have Lo := Lib.hid NLo.out
    clear NLo
    have HB := Lib.hid NB.out
    clear NB
    have Lw := Lib.hid (HQ4.out.box (.cells #[.int .i64 0, .slice A3 0 c3] 25))
    clear HQ2 HQ4
    clear fvc0 fvc1 fvcl fvo0 fvo1 fvol fxx0 fxx1 fxx2 fxx3 fxxl
    have fvc0 := Vc.out.c0
    have fvc1 := Vc.out.c1
    have fvcl := Vc.out.lt
    have fvo0 := Vo.out.c0
    have fvo1 := Vo.out.c1
    have fvol := Vo.out.lt
    have fvw0 := Vw.out.c0
    have fvw1 := Vw.out.c1
    have fvwl := Vw.out.lt
    have fxx0 := Xx.out.c0
    have fxx1 := Xx.out.c1
    have fxx2 := Xx.out.c2
    have fxx3 := Xx.out.c3
    have fxxl := Xx.out.lt
    go_wp2_with fail
    refine (sameCalls_same _ _ 0 _ _ [] _ Lo.out Lw.out (by omega)).mono ?_
    rintro e w4 ⟨rfl, hb⟩
    clear fvc0 fvc1 fvcl fvo0 fvo1 fvol fvw0 fvw1 fvwl fxx0 fxx1 fxx2 fxx3 fxxl
    have NVc := Lib.hid (Vc.out.on hb)
    have NVo := Lib.hid (Vo.out.on hb)
    have NVw := Lib.hid (Vw.out.on hb)
    have NXx := Lib.hid (Xx.out.on hb)
    have NLk := Lib.hid (Lk.out.on hb)
    have NLo := Lib.hid (Lo.out.on hb)
    have NLw := Lib.hid (Lw.out.on hb)
    have NB := Lib.hid (HB.out.trans (hb.mono HB.out.size))
    clear HB Vc Vo Vw Xx Lk Lo Lw hb
    have Vc := Lib.hid NVc.out
    clear NVc
    have Vo := Lib.hid NVo.out
    clear NVo
    have Vw := Lib.hid NVw.out
    clear NVw
    have Xx := Lib.hid NXx.out
    clear NXx
    have Lk := Lib.hid NLk.out
    clear NLk
    have Lo := Lib.hid NLo.out
    clear NLo
    have Lw := Lib.hid NLw.out
    clear NLw
    have HB := Lib.hid NB.out
    clear NB
    have fvc0 := Vc.out.c0
    have fvc1 := Vc.out.c1
    have fvcl := Vc.out.lt
    have fvo0 := Vo.out.c0
    have fvo1 := Vo.out.c1
    have fvol := Vo.out.lt
    have fvw0 := Vw.out.c0
    have fvw1 := Vw.out.c1
    have fvwl := Vw.out.lt
    have fxx0 := Xx.out.c0
    have fxx1 := Xx.out.c1
    have fxx2 := Xx.out.c2
    have fxx3 := Xx.out.c3
    have fxxl := Xx.out.lt
    go_wp2_with fail
    refine (sameChain_same 0 _ _ 0 _ _ [] _ Vo.out.nods Vw.out.nods (by omega) (fun x h => by cases h)).mono ?_
    rintro e w5 ⟨rfl, hb⟩
    clear fvc0 fvc1 fvcl fvo0 fvo1 fvol fvw0 fvw1 fvwl fxx0 fxx1 fxx2 fxx3 fxxl
    have NVc := Lib.hid (Vc.out.on hb)
    have NVo := Lib.hid (Vo.out.on hb)
    have NVw := Lib.hid (Vw.out.on hb)
    have NXx := Lib.hid (Xx.out.on hb)
    have NLk := Lib.hid (Lk.out.on hb)
    have NLo := Lib.hid (Lo.out.on hb)
    have NLw := Lib.hid (Lw.out.on hb)
    have NB := Lib.hid (HB.out.trans (hb.mono HB.out.size))
    clear HB Vc Vo Vw Xx Lk Lo Lw hb
    have Vc := Lib.hid NVc.out
    clear NVc
    have Vo := Lib.hid NVo.out
    clear NVo
    have Vw := Lib.hid NVw.out
    clear NVw
    have Xx := Lib.hid NXx.out
    clear NXx
    have Lk := Lib.hid NLk.out
    clear NLk
    have Lo := Lib.hid NLo.out
    clear NLo
    have Lw := Lib.hid NLw.out
    clear NLw
    have HB := Lib.hid NB.out
    clear NB
    have fvc0 := Vc.out.c0
    have fvc1 := Vc.out.c1
    have fvcl := Vc.out.lt
    have fvo0 := Vo.out.c0
    have fvo1 := Vo.out.c1
    have fvol := Vo.out.lt
    have fvw0 := Vw.out.c0
    have fvw1 := Vw.out.c1
    have fvwl := Vw.out.lt
    have fxx0 := Xx.out.c0
    have fxx1 := Xx.out.c1
    have fxx2 := Xx.out.c2
    have fxx3 := Xx.out.c3
    have fxxl := Xx.out.lt
    go_wp2_with fail
    refine (sameCalls_same _ _ 0 _ _ [] _ Lo.out Lw.out (by omega)).mono ?_
    rintro e w6 ⟨rfl, hb⟩
    clear fvc0 fvc1 fvcl fvo0 fvo1 fvol fvw0 fvw1 fvwl fxx0 fxx1 fxx2 fxx3 fxxl
    have NVc := Lib.hid (Vc.out.on hb)
    have NVo := Lib.hid (Vo.out.on hb)
    have NVw := Lib.hid (Vw.out.on hb)
    have NXx := Lib.hid (Xx.out.on hb)
    have NLk := Lib.hid (Lk.out.on hb)
    have NLo := Lib.hid (Lo.out.on hb)
    have NLw := Lib.hid (Lw.out.on hb)
    have NB := Lib.hid (HB.out.trans (hb.mono HB.out.size))
    clear HB Vc Vo Vw Xx Lk Lo Lw hb
    have Vc := Lib.hid NVc.out
    clear NVc
    have Vo := Lib.hid NVo.out
    clear NVo
    have Vw := Lib.hid NVw.out
    clear NVw
    have Xx := Lib.hid NXx.out
    clear NXx
    have Lk := Lib.hid NLk.out
    clear NLk
    have Lo := Lib.hid NLo.out
    clear NLo
    have Lw := Lib.hid NLw.out
    clear NLw
    have HB := Lib.hid NB.out
    clear NB
    have fvc0 := Vc.out.c0
    have fvc1 := Vc.out.c1
    have fvcl := Vc.out.lt
    have fvo0 := Vo.out.c0
    have fvo1 := Vo.out.c1
    have fvol := Vo.out.lt
    have fvw0 := Vw.out.c0
    have fvw1 := Vw.out.c1
    have fvwl := Vw.out.lt
    have fxx0 := Xx.out.c0
    have fxx1 := Xx.out.c1
    have fxx2 := Xx.out.c2
    have fxx3 := Xx.out.c3
    have fxxl := Xx.out.lt
    go_wp2_with fail
    refine (sameChain_same 0 _ _ 0 _ _ [] _ Vo.out.nods Vw.out.nods (by omega) (fun x h => by cases h)).mono ?_
    rintro e w7 ⟨rfl, hb⟩
    clear fvc0 fvc1 fvcl fvo0 fvo1 fvol fvw0 fvw1 fvwl fxx0 fxx1 fxx2 fxx3 fxxl
    have NVc := Lib.hid (Vc.out.on hb)
    have NVo := Lib.hid (Vo.out.on hb)
    have NVw := Lib.hid (Vw.out.on hb)
    have NXx := Lib.hid (Xx.out.on hb)
    have NLk := Lib.hid (Lk.out.on hb)
    have NLo := Lib.hid (Lo.out.on hb)
    have NLw := Lib.hid (Lw.out.on hb)
    have NB := Lib.hid (HB.out.trans (hb.mono HB.out.size))
    clear HB Vc Vo Vw Xx Lk Lo Lw hb
    have Vc := Lib.hid NVc.out
    clear NVc
    have Vo := Lib.hid NVo.out
    clear NVo
    have Vw := Lib.hid NVw.out
    clear NVw
    have Xx := Lib.hid NXx.out
    clear NXx
    have Lk := Lib.hid NLk.out
    clear NLk
    have Lo := Lib.hid NLo.out
    clear NLo
    have Lw := Lib.hid NLw.out
    clear NLw
    have HB := Lib.hid NB.out
    clear NB
    have fvc0 := Vc.out.c0
    have fvc1 := Vc.out.c1
    have fvcl := Vc.out.lt
    have fvo0 := Vo.out.c0
    have fvo1 := Vo.out.c1
    have fvol := Vo.out.lt
    have fvw0 := Vw.out.c0
    have fvw1 := Vw.out.c1
    have fvwl := Vw.out.lt
    have fxx0 := Xx.out.c0
    have fxx1 := Xx.out.c1
    have fxx2 := Xx.out.c2
    have fxx3 := Xx.out.c3
    have fxxl := Xx.out.lt
    go_wp2
    go_ret
    exact ⟨rfl, HB.out⟩
  have HO := Lib.hid ho
  have HP := Lib.hid (call_good ho)
  have HK := Lib.hid (call_calls ho)
  have HG2 := Lib.hid (good_logs (call_good ho))
  clear ho
  have fvc0 := Vc.out.c0
  have fvc1 := Vc.out.c1
  have fvcl := Vc.out.lt
  have fxx0 := Xx.out.c0
  have fxx1 := Xx.out.c1
  have fxx2 := Xx.out.c2
  have fxx3 := Xx.out.c3
  have fxxl := Xx.out.lt
  go_wp2_with fail
  refine (callRun_any a view _ _ _ r _ _ _ ks x _ (HE.out.below HB.out) Vc.out.nods Lk.out hn1 HG.out (by omega)).mono ?_
  rintro e w2 hq
  obtain ⟨A2, n2, c2, B2, m2, d2, rfl, hq1, hq3, hq2, hq4, hb⟩ := CallRes.yes hq HO.out
  clear hq
  have MLo := Lib.hid hq1
  have MKo := Lib.hid hq3
  clear hq1 hq3
  have HQ2 := Lib.hid hq2
  have HQ4 := Lib.hid hq4
  clear hq2 hq4
  clear fvc0 fvc1 fvcl fxx0 fxx1 fxx2 fxx3 fxxl
  have NVc := Lib.hid (Vc.out.on hb)
  have NXx := Lib.hid (Xx.out.on hb)
  have NLk := Lib.hid (Lk.out.on hb)
  have NB := Lib.hid (HB.out.trans (hb.mono HB.out.size))
  clear HB Vc Xx Lk hb
  have Vc := Lib.hid NVc.out
  clear NVc
  have Xx := Lib.hid NXx.out
  clear NXx
  have Lk := Lib.hid NLk.out
  clear NLk
  have HB := Lib.hid NB.out
  clear NB
  have fvc0 := Vc.out.c0
  have fvc1 := Vc.out.c1
  have fvcl := Vc.out.lt
  have fxx0 := Xx.out.c0
  have fxx1 := Xx.out.c1
  have fxx2 := Xx.out.c2
  have fxx3 := Xx.out.c3
  have fxxl := Xx.out.lt
  have NVc := Lib.hid (Vc.out.alloc (.cells #[.int .i64 v2, .slice A2 n2 c2] 25))
  have NXx := Lib.hid (Xx.out.alloc (.cells #[.int .i64 v2, .slice A2 n2 c2] 25))
  have NLk := Lib.hid (Lk.out.box (.cells #[.int .i64 v2, .slice A2 n2 c2] 25))
  have NB := Lib.hid (HB.out.alloc HB.out.size (.cells #[.int .i64 v2, .slice A2 n2 c2] 25))
  have NVo := Lib.hid (Var.new HQ2.out v2)
  clear HB Vc Xx Lk
  have Vc := Lib.hid NVc.out
  clear NVc
  have Vo := Lib.hid NVo.out
  clear NVo
  have Xx := Lib.hid NXx.out
  clear NXx
  have Lk := Lib.hid NLk.out
  clear NLk
  have HB := Lib.hid NB.out
  clear NB
  have Lo := Lib.hid (HQ4.out.box (.cells #[.int .i64 v2, .slice A2 n2 c2] 25))
  clear HQ2 HQ4
  clear fvc0 fvc1 fvcl fxx0 fxx1 fxx2 fxx3 fxxl
  have fvc0 := Vc.out.c0
  have fvc1 := Vc.out.c1
  have fvcl := Vc.out.lt
  have fvo0 := Vo.out.c0
  have fvo1 := Vo.out.c1
  have fvol := Vo.out.lt
  have fxx0 := Xx.out.c0
  have fxx1 := Xx.out.c1
  have fxx2 := Xx.out.c2
  have fxx3 := Xx.out.c3
  have fxxl := Xx.out.lt
  go_wp2_with fail
  refine (specCallRun_any view _ _ _ r _ _ _ ks x _ Vc.out.nods Lk.out hn1 HG.out (by omega)).mono ?_
  rintro e w3 hq
  obtain ⟨A3, n3, c3, B3, m3, d3, rfl, hq1, hq3, hq2, hq4, hb⟩ := CallRes.yes hq HO.out
  clear hq
  have MLw := Lib.hid hq1
  have MKw := Lib.hid hq3
  clear hq1 hq3
  have HQ2 := Lib.hid hq2
  have HQ4 := Lib.hid hq4
  clear hq2 hq4
  clear fvc0 fvc1 fvcl fvo0 fvo1 fvol fxx0 fxx1 fxx2 fxx3 fxxl
  have NVc := Lib.hid (Vc.out.on hb)
  have NVo := Lib.hid (Vo.out.on hb)
  have NXx := Lib.hid (Xx.out.on hb)
  have NLk := Lib.hid (Lk.out.on hb)
  have NLo := Lib.hid (Lo.out.on hb)
  have NB := Lib.hid (HB.out.trans (hb.mono HB.out.size))
  clear HB Vc Vo Xx Lk Lo hb
  have Vc := Lib.hid NVc.out
  clear NVc
  have Vo := Lib.hid NVo.out
  clear NVo
  have Xx := Lib.hid NXx.out
  clear NXx
  have Lk := Lib.hid NLk.out
  clear NLk
  have Lo := Lib.hid NLo.out
  clear NLo
  have HB := Lib.hid NB.out
  clear NB
  have fvc0 := Vc.out.c0
  have fvc1 := Vc.out.c1
  have fvcl := Vc.out.lt
  have fvo0 := Vo.out.c0
  have fvo1 := Vo.out.c1
  have fvol := Vo.out.lt
  have fxx0 := Xx.out.c0
  have fxx1 := Xx.out.c1
  have fxx2 := Xx.out.c2
  have fxx3 := Xx.out.c3
  have fxxl := Xx.out.lt
  have NVc := Lib.hid (Vc.out.alloc (.cells #[.int .i64 v2, .slice A3 n3 c3] 25))
  have NVo := Lib.hid (Vo.out.alloc (.cells #[.int .i64 v2, .slice A3 n3 c3] 25))
  have NXx := Lib.hid (Xx.out.alloc (.cells #[.int .i64 v2, .slice A3 n3 c3] 25))
  have NLk := Lib.hid (Lk.out.box (.cells #[.int .i64 v2, .slice A3 n3 c3] 25))
  have NLo := Lib.hid (Lo.out.box (.cells #[.int .i64 v2, .slice A3 n3 c3] 25))
  have NB := Lib.hid (HB.out.alloc HB.out.size (.cells #[.int .i64 v2, .slice A3 n3 c3] 25))
  have NVw := Lib.hid (Var.new HQ2.out v2)
  clear HB Vc Vo Xx Lk Lo
  have Vc := Lib.hid NVc.out
  clear NVc
  have Vo := Lib.hid NVo.out
  clear NVo
  have Vw := Lib.hid NVw.out
  clear NVw
  have Xx := Lib.hid NXx.out
  clear NXx
  have Lk := Lib.hid NLk.out
  clear NLk
  have Lo := Lib.hid NLo.out
  clear NLo
  have HB := Lib.hid NB.out
  clear NB
  have Lw := Lib.hid (HQ4.out.box (.cells #[.int .i64 v2, .slice A3 n3 c3] 25))
  clear HQ2 HQ4
  clear fvc0 fvc1 fvcl fvo0 fvo1 fvol fxx0 fxx1 fxx2 fxx3 fxxl
  have fvc0 := Vc.out.c0
  have fvc1 := Vc.out.c1
  have fvcl := Vc.out.lt
  have fvo0 := Vo.out.c0
  have fvo1 := Vo.out.c1
  have fvol := Vo.out.lt
  have fvw0 := Vw.out.c0
  have fvw1 := Vw.out.c1
  have fvwl := Vw.out.lt
  have fxx0 := Xx.out.c0
  have fxx1 := Xx.out.c1
  have fxx2 := Xx.out.c2
  have fxx3 := Xx.out.c3
  have fxxl := Xx.out.lt
  have hn2 : n3 ≤ 1048576 := by have h5 : r2.length ≤ 5 := HP.out.2.2.2.1; have := MLw.out; omega
  have hm2 : m3 ≤ 6 := by have h5 := callsOk_len HK.out; have := MKw.out; omega
  obtain rfl : n3 = n2 := by rw [← MLo.out, ← MLw.out]
  obtain rfl : m3 = m2 := by rw [← MKo.out, ← MKw.out]
  go_wp2_with fail
  refine (sameCalls_same _ _ m3 _ _ ks2 _ Lo.out Lw.out (by omega)).mono ?_
  rintro e w4 ⟨rfl, hb⟩
  clear fvc0 fvc1 fvcl fvo0 fvo1 fvol fvw0 fvw1 fvwl fxx0 fxx1 fxx2 fxx3 fxxl
  have NVc := Lib.hid (Vc.out.on hb)
  have NVo := Lib.hid (Vo.out.on hb)
  have NVw := Lib.hid (Vw.out.on hb)
  have NXx := Lib.hid (Xx.out.on hb)
  have NLk := Lib.hid (Lk.out.on hb)
  have NLo := Lib.hid (Lo.out.on hb)
  have NLw := Lib.hid (Lw.out.on hb)
  have NB := Lib.hid (HB.out.trans (hb.mono HB.out.size))
  clear HB Vc Vo Vw Xx Lk Lo Lw hb
  have Vc := Lib.hid NVc.out
  clear NVc
  have Vo := Lib.hid NVo.out
  clear NVo
  have Vw := Lib.hid NVw.out
  clear NVw
  have Xx := Lib.hid NXx.out
  clear NXx
  have Lk := Lib.hid NLk.out
  clear NLk
  have Lo := Lib.hid NLo.out
  clear NLo
  have Lw := Lib.hid NLw.out
  clear NLw
  have HB := Lib.hid NB.out
  clear NB
  have fvc0 := Vc.out.c0
  have fvc1 := Vc.out.c1
  have fvcl := Vc.out.lt
  have fvo0 := Vo.out.c0
  have fvo1 := Vo.out.c1
  have fvol := Vo.out.lt
  have fvw0 := Vw.out.c0
  have fvw1 := Vw.out.c1
  have fvwl := Vw.out.lt
  have fxx0 := Xx.out.c0
  have fxx1 := Xx.out.c1
  have fxx2 := Xx.out.c2
  have fxx3 := Xx.out.c3
  have fxxl := Xx.out.lt
  go_wp2_with fail
  refine (sameChain_same v2 _ _ n3 _ _ r2 _ Vo.out.nods Vw.out.nods (by omega) HG2.out).mono ?_
  rintro e w5 ⟨rfl, hb⟩
  clear fvc0 fvc1 fvcl fvo0 fvo1 fvol fvw0 fvw1 fvwl fxx0 fxx1 fxx2 fxx3 fxxl
  have NVc := Lib.hid (Vc.out.on hb)
  have NVo := Lib.hid (Vo.out.on hb)
  have NVw := Lib.hid (Vw.out.on hb)
  have NXx := Lib.hid (Xx.out.on hb)
  have NLk := Lib.hid (Lk.out.on hb)
  have NLo := Lib.hid (Lo.out.on hb)
  have NLw := Lib.hid (Lw.out.on hb)
  have NB := Lib.hid (HB.out.trans (hb.mono HB.out.size))
  clear HB Vc Vo Vw Xx Lk Lo Lw hb
  have Vc := Lib.hid NVc.out
  clear NVc
  have Vo := Lib.hid NVo.out
  clear NVo
  have Vw := Lib.hid NVw.out
  clear NVw
  have Xx := Lib.hid NXx.out
  clear NXx
  have Lk := Lib.hid NLk.out
  clear NLk
  have Lo := Lib.hid NLo.out
  clear NLo
  have Lw := Lib.hid NLw.out
  clear NLw
  have HB := Lib.hid NB.out
  clear NB
  have fvc0 := Vc.out.c0
  have fvc1 := Vc.out.c1
  have fvcl := Vc.out.lt
  have fvo0 := Vo.out.c0
  have fvo1 := Vo.out.c1
  have fvol := Vo.out.lt
  have fvw0 := Vw.out.c0
  have fvw1 := Vw.out.c1
  have fvwl := Vw.out.lt
  have fxx0 := Xx.out.c0
  have fxx1 := Xx.out.c1
  have fxx2 := Xx.out.c2
  have fxx3 := Xx.out.c3
  have fxxl := Xx.out.lt
  clear fvc0 fvc1 fvcl fvo0 fvo1 fvol fvw0 fvw1 fvwl fxx0 fxx1 fxx2 fxx3 fxxl
  clear Vw Lw
  have fvc0 := Vc.out.c0
  have fvc1 := Vc.out.c1
  have fvcl := Vc.out.lt
  have fvo0 := Vo.out.c0
  have fvo1 := Vo.out.c1
  have fvol := Vo.out.lt
  have fxx0 := Xx.out.c0
  have fxx1 := Xx.out.c1
  have fxx2 := Xx.out.c2
  have fxx3 := Xx.out.c3
  have fxxl := Xx.out.lt
  clear fvc0 fvc1 fvcl fvo0 fvo1 fvol fxx0 fxx1 fxx2 fxx3 fxxl
  obtain ⟨i0, hi, hz0, hz1, hz2⟩ := info_parts infoCallM
  have HO2 := Lib.hid (call_others HO.out)
  have HKL := Lib.hid (callsOk_len HK.out)
  have C0 := Lib.hid ((CR.start (Below.refl _ w5)).alloc (.cells #[] 30))
  have E0 := Lib.hid (show Blk ((w5.alloc (.cells #[] 30)).alloc (.cells #[] 30)) (w5.heap.size + 1) #[] 30 by
    have h := Blk.new (w5.alloc (.cells #[] 30)) #[] 30
    rwa [World.size_alloc] at h)
  obtain ⟨c, hc⟩ : ∃ c, x.client = c := ⟨_, rfl⟩
  have hxl := Xx.out.lt
  have XF : Hid (∀ W, Below w5.heap.size w5 W → W.cell? ⟨w1.heap.size + 1, 0, none⟩ = some (.int .i64 c)) := fun W hb => by
    have h := (Xx.out.on hb).c0
    rwa [hc] at h
  have XL : Hid (∀ W, Below w5.heap.size w5 W → w1.heap.size + 1 < W.heap.size) := fun W hb => Nat.lt_of_lt_of_le hxl hb.size
  rw [hc] at HO2
  have fx0 := Xx.out.c0
  clear hc
  go_wp2_with fail
  go_loopw [12, 14] (fun v i wr => ∃ (k : Nat) (ra : List Cll), i = .int .i64 k ∧ k ≤ m1 ∧ ra.length ≤ k ∧ Hid (ra = others (ks.take k) c) ∧ CR w5 wr v ra ∧ Blk wr (w5.heap.size + 1) #[] 30 ∧ ∃ q, v.ownBlock = some q ∧ (q = w5.heap.size ∨ w5.heap.size + 2 ≤ q))
    (fun _ i _ => m1 - (intOf i).toNat)
  case atStart => exact ⟨0, [], rfl, Nat.zero_le _, Nat.le_refl _, rfl, C0.out, E0.out, w5.heap.size, rfl, .inl rfl⟩
  case round =>
    obtain ⟨k, ra, rfl, hk, hlen, hra, hC, hE, q, hq, hqq⟩ := hrel
    have CC := Lib.hid hC
    have EE := Lib.hid hE
    have QQ := Lib.hid hq
    have hsz := hC.size
    clear hC hE hq C0 E0 fx0
    have gx := XF.out _ CC.out.bel
    have gl := XL.out _ CC.out.bel
    by_cases hlt : k < m1
    · obtain ⟨bb, off, e, rfl, _, hbb, he, e0, e1, e2, e3⟩ := (Lk.out.on CC.out.bel).cll hlt
      have EK := Lib.hid he
      have d0 := cell_regrown e0
      have d1 := cell_regrown gx
      clear he
      by_cases heq : e.client = c
      · go_wp2_with fail
        refine wp_region_quiet_below (by kernel_rfl) (by kernel_rfl) ?_
        repeat (go_big_quiet_step (fail))
        refine wpQuiet_nil ?_
        intro w6 hw
        have hb := below_of_regrown hw
        have C6 := Lib.hid (CC.out.below hb)
        have E6 := Lib.hid (EE.out.below hb)
        clear hw hb d0 d1 e0 e1 e2 e3 gx gl
        go_wp2
        go_roundw
        case rel => exact ⟨k + 1, ra, by go_num, by omega, by omega, by rw [others_more EK.out, if_pos heq, List.append_nil]; exact hra.out, C6.out, E6.out, q, QQ.out, hqq⟩
        case measure => simp [intOf]; omega
      · go_wp2_with fail
        refine wp_region_quiet_below (by kernel_rfl) (by kernel_rfl) ?_
        repeat (go_big_quiet_step (fail))
        refine wpQuiet_nil ?_
        intro w6 hw
        have hb := below_of_regrown hw
        have C6 := Lib.hid (CC.out.below hb)
        have E6 := Lib.hid (EE.out.below hb)
        have g0 := (hb.cell (p := ⟨bb, off + k * 4, none⟩) hbb).trans e0
        have g1 := (hb.cell (p := ⟨bb, off + k * 4 + 1, none⟩) hbb).trans e1
        have g2 := (hb.cell (p := ⟨bb, off + k * 4 + 2, none⟩) hbb).trans e2
        have g3 := (hb.cell (p := ⟨bb, off + k * 4 + 3, none⟩) hbb).trans e3
        have hs6 := C6.out.size
        have hq6 : q < w6.heap.size := (C6.out.own.lt q QQ.out).2
        clear hw hb d0 d1 e0 e1 e2 e3 gx gl
        go_wp2_with (at_builtin; refine wpList_append_where _ rfl _ _ 26 rfl w5.heap.size 30 i0 _ 4 32 Mo.underlying26 hi hz0 hz1 hz2 rfl (by decide) _ ra.length (ra.flatMap Cll.enc) rfl (C6.out.own.alloc _) ⟨w6.heap.size, 0, none⟩ 1 1 (Cll.enc e) rfl rfl (new_cells _ _ _ _ rfl) (Cll.one _) (by omega) (by unfold maxLen; omega) (by omega) (by simp; omega) ?_; intro v7 w7 hown hg hw7; have C7 := Lib.hid (C6.out.appended hown hg); have Q7 := Lib.hid hw7; have E7 := Lib.hid ((E6.out.alloc _).grown hg (by intro e; have e' := e.trans QQ.out; injection e' with e'; omega)); clear hown hg hw7)
        go_roundw
        case rel =>
          refine ⟨k + 1, ra ++ [e], by go_num, by omega, by simp; omega, by show ra ++ [e] = others (ks.take (k + 1)) c; rw [others_more EK.out, if_neg heq, ← hra.out], C7.out, E7.out, ?_⟩
          rcases Q7.out with h | h
          · exact ⟨q, h.trans QQ.out, hqq⟩
          · exact ⟨_, h, .inr (by have h2 := E6.out.lt; simp; omega)⟩
        case measure => simp [intOf]; omega
    · obtain rfl : m1 = k := by omega
      have hra2 := hra.out
      rw [List.take_of_length_le (by have := HM1.out; omega)] at hra2
      have RA := Lib.hid hra2
      have hq1 : q < wr.heap.size := (CC.out.own.lt q QQ.out).2
      clear hra2 hra gx gl Lk
      obtain ⟨Aa, na, ca, rfl, hna, _⟩ := CC.out.flat
      have B0 := Lib.hid (CR.empty EE.out (by omega : w5.heap.size ≤ w5.heap.size + 1) CC.out.bel)
      clear EE
      go_wp2_with fail
      go_loopw [13, 15] (fun v i wx => ∃ (k : Nat) (rb : List Cll), i = .int .i64 k ∧ k ≤ m3 ∧ rb.length ≤ k ∧ Hid (rb = others (ks2.take k) c) ∧ CR w5 wx v rb ∧ CR w5 wx (.slice Aa na ca) ra ∧ wr.heap.size ≤ wx.heap.size ∧ ∃ p, v.ownBlock = some p ∧ (p = w5.heap.size + 1 ∨ wr.heap.size ≤ p))
        (fun _ i _ => m3 - (intOf i).toNat)
      case atStart => exact ⟨0, [], rfl, Nat.zero_le _, Nat.le_refl _, rfl, B0.out, CC.out, Nat.le_refl _, w5.heap.size + 1, rfl, .inl rfl⟩
      case round =>
        obtain ⟨k, rb, rfl, hk, hlenb, hrb, hC, hA, hwx, p, hp, hpp⟩ := hrel
        have CB := Lib.hid hC
        have CA := Lib.hid hA
        have PP := Lib.hid hp
        have hszb := hC.size
        clear hC hA hp B0 CC
        have gx := XF.out _ CB.out.bel
        have gl := XL.out _ CB.out.bel
        by_cases hlt : k < m3
        · obtain ⟨bb, off, e, rfl, _, hbb, he, e0, e1, e2, e3⟩ := (Lo.out.on CB.out.bel).cll hlt
          have EK := Lib.hid he
          have d0 := cell_regrown e0
          have d1 := cell_regrown gx
          clear he
          by_cases heq : e.client = c
          · go_wp2_with fail
            refine wp_region_quiet_below (by kernel_rfl) (by kernel_rfl) ?_
            repeat (go_big_quiet_step (fail))
            refine wpQuiet_nil ?_
            intro w6 hw
            have hb := below_of_regrown hw
            have C6 := Lib.hid (CB.out.below hb)
            have A6 := Lib.hid (CA.out.below hb)
            have hs6 := hb.size
            clear hw hb d0 d1 e0 e1 e2 e3 gx gl
            go_wp2
            go_roundw
            case rel => exact ⟨k + 1, rb, by go_num, by omega, by omega, by rw [others_more EK.out, if_pos heq, List.append_nil]; exact hrb.out, C6.out, A6.out, by omega, p, PP.out, hpp⟩
            case measure => simp [intOf]; omega
          · go_wp2_with fail
            refine wp_region_quiet_below (by kernel_rfl) (by kernel_rfl) ?_
            repeat (go_big_quiet_step (fail))
            refine wpQuiet_nil ?_
            intro w6 hw
            have hb := below_of_regrown hw
            have C6 := Lib.hid (CB.out.below hb)
            have A6 := Lib.hid (CA.out.below hb)
            have g0 := (hb.cell (p := ⟨bb, off + k * 4, none⟩) hbb).trans e0
            have g1 := (hb.cell (p := ⟨bb, off + k * 4 + 1, none⟩) hbb).trans e1
            have g2 := (hb.cell (p := ⟨bb, off + k * 4 + 2, none⟩) hbb).trans e2
            have g3 := (hb.cell (p := ⟨bb, off + k * 4 + 3, none⟩) hbb).trans e3
            have hs6 := hb.size
            have hs7 := C6.out.size
            have hqp : q ≠ p := by omega
            clear hw hb d0 d1 e0 e1 e2 e3 gx gl
            go_wp2_with (at_builtin; refine wpList_append_where _ rfl _ _ 26 rfl w5.heap.size 30 i0 _ 4 32 Mo.underlying26 hi hz0 hz1 hz2 rfl (by decide) _ rb.length (rb.flatMap Cll.enc) rfl (C6.out.own.alloc _) ⟨w6.heap.size, 0, none⟩ 1 1 (Cll.enc e) rfl rfl (new_cells _ _ _ _ rfl) (Cll.one _) (by omega) (by unfold maxLen; omega) (by omega) (by simp; omega) ?_; intro v7 w7 hown hg hw7; have C7 := Lib.hid (C6.out.appended hown hg); have Q7 := Lib.hid hw7; have hs8 := hg.size; have A7 := Lib.hid (A6.out.beside hg (.inl (fun e => by have e' := QQ.out.symm.trans (e.trans PP.out); injection e' with e'; exact hqp e')) (fun g e => by have e' := e.symm.trans PP.out; injection e' with e'; omega)); clear hown hg hw7)
            simp only [World.size_alloc] at hs8
            go_roundw
            case rel =>
              refine ⟨k + 1, rb ++ [e], by go_num, by omega, by simp; omega, by show rb ++ [e] = others (ks2.take (k + 1)) c; rw [others_more EK.out, if_neg heq, ← hrb.out], C7.out, A7.out, by omega, ?_⟩
              rcases Q7.out with h | h
              · exact ⟨p, h.trans PP.out, hpp⟩
              · exact ⟨_, h, .inr (by simp; omega)⟩
            case measure => simp [intOf]; omega
        · obtain rfl : m3 = k := by omega
          have hrb2 := hrb.out
          rw [List.take_of_length_le (by have := MKo.out; omega)] at hrb2
          obtain rfl : ra = rb := by rw [RA.out, hrb2]; exact HO2.out.1.symm
          obtain ⟨Ab, nb, cb, rfl, hnb, hfb⟩ := CB.out.flat
          obtain rfl : nb = na := by omega
          obtain ⟨A', n', c', e1, hn', hfa⟩ := CA.out.flat
          injection e1 with q1 q2 q3
          subst q1; subst q2; subst q3
          have FA := Lib.hid (hfa.mono (Nat.zero_le w5.heap.size) (Nat.le_refl _))
          clear hfa
          have FB := Lib.hid (hfb.mono (Nat.zero_le w5.heap.size) (Nat.le_refl _))
          have FL := Lib.hid (Lo.out.on CB.out.bel)
          have BB := Lib.hid (HB.out.trans (CB.out.bel.mono HB.out.size))
          have hm3 : m3 = nb + 1 := by
            have h1 := HO2.out.2
            rw [← hrb2] at h1
            have := MKo.out
            omega
          have hm3i : ((m3 : Int) == (nb : Int) + 1) = true := by simp; omega
          have hw3 : IntKind.i64.wrap ((nb : Int) + 1) = (nb : Int) + 1 := IntWalk.i64_in _ (by omega)
          clear hrb2 hrb hfb gx gl CA CB hm3
          go_wp2_with fail
          refine (callsValid_any _ _ _ ks2 _ FL.out (by omega)).mono ?_
          rintro e w7 ⟨rfl, hb⟩
          rw [HK.out]
          have FA7 := Lib.hid (FA.out.on hb)
          have FB7 := Lib.hid (FB.out.on hb)
          have BB7 := Lib.hid (BB.out.trans (hb.mono BB.out.size))
          clear hb FA FB FL
          go_wp2_with fail
          refine (sameCalls_same _ _ nb _ _ ra _ FA7.out FB7.out (by omega)).mono ?_
          rintro e w8 ⟨rfl, hb⟩
          have BB8 := Lib.hid (BB7.out.trans (hb.mono BB7.out.size))
          clear hb FA7 FB7
          go_wp2
          go_ret
          exact ⟨rfl, BB8.out⟩
end Go.Proofs.YtemgilofjbnoaaaGreatDoor
namespace Go.Proofs.YtemgilofjbnoaaaGreatDoor.fnCallOthers
open Go Go.Conc Go.ChangeShapes Go.WideShapes Go.ChangeAt Go.RowKit
set_option linter.unusedVariables false
set_option maxRecDepth 100000 in
theorem lifted (os : Os) (started : os.Started) (H : Type) (enc : TypeId × Value → H) :
    ReturnsInLeavingWide {} Tryz.checked os 3 .any (fun w args => (Rows.fnCallOthersSpec.pre enc Tryz.prog Tryz.f3 Rows.fnCallOthersRow.domain false w args ∧ laidMetH Tryz.prog laidList w) ∧ sizedMet enc Tryz.prog Tryz.f3 (OpenSpec.ofChange Rows.fnCallOthersSpec) false w args)
      (Rows.fnCallOthersSpec.post enc Tryz.prog Tryz.f3 false true false false) := by
  refine leaving_and (C := Tryz.checked) (X := fun w _ => laidMetH Tryz.prog laidList w) (fun _ _ _ hh h => h.of_heap hh) ownK started Tryz.func3
    (ChangeSpec.witness_at (enc := enc) (C := Tryz.checked) (os := os) (X := fun w _ => laidMetH Tryz.prog laidList w) false (laidWorld os) #[.slice none 0 0] 8 rfl (by kernel_rfl) (by kernel_rfl) (by kernel_rfl) (by kernel_rfl) (by kernel_rfl) laid_metH) ?_
  intro W base args ds gs before hval0 hW hL
  have hval : ∀ (j : Nat) t v, Tryz.f3.params[j]? = some t → args[j]? = some v → Value.okWide Tryz.prog W .any base t v := hval0
  have hW' := hW
  obtain ⟨p, q, hA0, hV, rfl, hfz, hnd⟩ := hW
  have hA : DataW.TrodAll enc Tryz.prog W 0 (fun _ => true) true Tryz.f3.params.toList args.toList ds p := hA0
  rw [Tryz.params3] at hA hval
  obtain ⟨v0, vs0, d0, ds0, p0, q0, hargs, rfl, rfl, h0, r0⟩ := trodAll_cons hA
  obtain ⟨rfl, rfl, rfl⟩ := trodAll_nil r0
  obtain rfl : args = #[v0] := by cases args; simp_all
  have hV' : DataW.TrodVars enc Tryz.prog W (fun _ => true) ["loop.example/chainfiles/impl.errTake"] gs q := hV
  obtain ⟨g1, rfl⟩ := trodVars_len hV'
  obtain ⟨ea, he⟩ := err_of_laid hL
  have k0 := h0
  have lt0 : ∀ x ∈ p0, x.block < W.heap.size := by obtain ⟨m, hm⟩ := k0; exact DataW.trod_lt m _ _ _ hm
  obtain ⟨A0, n0, c0, l0, rfl, f0, g0⟩ := reads_bytes (hval 0 22 v0 rfl rfl) h0
  clear hA0 hval0
  obtain ⟨M, last, o, w', t', e1, e2, e3, e4⟩ := mo_run fmo3 (by kernel_rfl) (by decide) (by kernel_rfl) #[.slice A0 n0 c0] W (fun w hw => callOthers_walk A0 n0 c0 l0 ea w (he.brk hw) (brk_flat hw f0) g0)
  refine ⟨M, last, o, w', t', e1, e2, e3, e4.mono fun v hp => ?_⟩
  obtain ⟨rfl, bel⟩ := hp
  exact ⟨_, _, _, [], _, _, hW', trodAll_mk1 (shut_bool Tryz.underlying4 _), (trodAll_cons_mk (BelowT.trod laidOut (by kernel_rfl) (of_decide_eq_true (by kernel_rfl)) k0 bel lt0) trodAll_mk0), BelowT.trodVars bel hV', bel.frame _, fun h => by cases h⟩
theorem over : Rows.fnCallOthersRow.holds Tryz.pinned (OpenSpec.ofChange Rows.fnCallOthersSpec) :=
  OpenClaim.holds_of_wide_leaving 3 Tryz.f3 rfl rfl rfl rfl rfl rfl rfl ⟨rfl, rfl, rfl, rfl, rfl⟩ rfl rfl rfl rfl rfl (by kernel_rfl) Tryz.func3 (by kernel_rfl)
    (of_decide_eq_true (by kernel_rfl)) (by unfold Func.isWrapper; first | (rw [if_pos (by decide +kernel)]; kernel_rfl) | (rw [if_neg (by decide +kernel)]; exact ⟨rfl, rfl⟩))
    (fun os started H enc _ => lifted os started H enc)
theorem proved : Rows.FnCallOthersCardSaid :=
  tied_goes .later [.sentinel] true Rows.fnCallOthersCard.stood.harness true
    over (by kernel_rfl) fnCallOthers_row_tie rfl ⟨rfl, rfl⟩ (by kernel_rfl) rfl
    (fun f fn hf hfn => by
      obtain rfl : f = 3 := Option.some.inj ((show Tryz.prog.funcNamed "loop.example/chainfiles/laws.FnCallOthers" = some 3 by kernel_rfl).symm.trans hf) |>.symm
      obtain rfl : fn = Tryz.f3 := (Option.some.inj (Tryz.func3.symm.trans hfn)).symm
      exact ⟨by kernel_rfl, fun j t ht => by
        rw [Tryz.params3] at ht
        rcases j with _ | j
        · obtain rfl : 22 = t := by simpa using ht
          exact (show Tryz.prog.wantsStandIn 22 = false by kernel_rfl)
        · simp at ht⟩)
    (by kernel_rfl)
#print axioms proved
end Go.Proofs.YtemgilofjbnoaaaGreatDoor.fnCallOthers
