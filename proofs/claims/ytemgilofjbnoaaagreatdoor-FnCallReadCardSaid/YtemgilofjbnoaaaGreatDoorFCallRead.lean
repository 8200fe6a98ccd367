/- The tied card 'Rows.FnCallReadCardSaid', out of the row's statement 'Rows.FnCallReadSaid': the law returns true for every input, on every tape, free of races, and each argument reads behind the call as it read before; the variable errTake laid. The walk is callRead_walk; here it is carried from the model over to the true program and lifted into the given row. -/
import Derived.Test.YtemgilofjbnoaaaGreatDoorVQ1
import Derived.Test.YtemgilofjbnoaaaGreatDoorVC1
import Derived.Test.YtemgilofjbnoaaaGreatDoorVD1
import Derived.Test.YtemgilofjbnoaaaGreatDoorVP1
import Derived.Test.YtemgilofjbnoaaaGreatDoorVB1
import Derived.Test.YtemgilofjbnoaaaGreatDoorVL1
import Derived.Test.YtemgilofjbnoaaaGreatDoorVB3
namespace Go.Proofs.YtemgilofjbnoaaaGreatDoor
open Go.RowKit Go.Sort
set_option maxRecDepth 100000 in
set_option maxHeartbeats 16000000 in
theorem callRead_walk (A : Option Addr) (n c : Nat) (l : List Int) (a : Addr) (w : World) (he : ErrAt a w) (h : Flat encU8 1 w 0 w.heap.size A n c l) (hl : ∀ x ∈ l, 0 ≤ x ∧ x ≤ 255) :
    Calls Mo.prog 4 #[.slice A n c] w fun e w' => e = .returned (.bool true) ∧ Below w.heap.size w w' := by
  have H := Lib.hid h
  have HL := Lib.hid hl
  have HE := Lib.hid he
  clear h hl he
  by_cases hn : 1048576 < n
  · go_enter Mo.func4, Tryz.ntmps4
    go_wp2
    go_ret
    exact ⟨rfl, Below.refl _ _⟩
  go_enter Mo.func4, Tryz.ntmps4
  go_wp2_with fail
  refine (drawCallRun_any _ _ _ l _ H.out HL.out).mono ?_
  rintro e w1 ⟨view, A1, n1, c1, r, B1, m1, d1, ks, x, rfl, h1, h3, h4, hm6, h6, h7, hb1⟩
  obtain ⟨hn1, hl1⟩ := nods_ok h1 h3 h4
  have HG := Lib.hid hl1
  have HM1 := Lib.hid h7.len
  have Vc := Lib.hid ((Var.row h6 view).alloc (.cells #[.int .i64 x.client, .int .i64 x.number, .int .i64 x.what.key, .int .i64 x.what.value] 30))
  have Xx := Lib.hid (show KVar ((w1.alloc (.cells #[.int .i64 view, .slice A1 n1 c1] 25)).alloc (.cells #[.int .i64 x.client, .int .i64 x.number, .int .i64 x.what.key, .int .i64 x.what.value] 30)) (w1.heap.size + 1) x by
    have h := KVar.new (w1.alloc (.cells #[.int .i64 view, .slice A1 n1 c1] 25)) x
    rwa [World.size_alloc] at h)
  have Lk := Lib.hid (((h7.mono (Nat.zero_le _) (Nat.le_refl _)).box (.cells #[.int .i64 view, .slice A1 n1 c1] 25)).box (.cells #[.int .i64 x.client, .int .i64 x.number, .int .i64 x.what.key, .int .i64 x.what.value] 30))
  have HB := Lib.hid ((hb1.alloc hb1.size (.cells #[.int .i64 view, .slice A1 n1 c1] 25)).alloc (hb1.alloc hb1.size _).size (.cells #[.int .i64 x.client, .int .i64 x.number, .int .i64 x.what.key, .int .i64 x.what.value] 30))
  clear h1 h4 h6 h7 hb1 H HL hl1
  obtain ⟨o, ho⟩ : ∃ o, callM view r ks x = o := ⟨_, rfl⟩
  rcases o with _ | ⟨⟨v2, r2⟩, ks2⟩
  · have HO := Lib.hid ho
    clear ho
    have fvc0 := Vc.out.c0
    have fvc1 := Vc.out.c1
    have fvcl := Vc.out.lt
    have fxx0 := Xx.out.c0
    have fxx1 := Xx.out.c1
    have fxx2 := Xx.out.c2
    have fxx3 := Xx.out.c3
    have fxxl := Xx.out.lt
    go_wp2_with fail
    refine (callRun_any a view _ _ _ r _ _ _ ks x _ (HE.out.below HB.out) Vc.out.nods Lk.out hn1 HG.out (by omega)).mono ?_
    rintro e w2 hq
    obtain ⟨A2, c2, B2, d2, rfl, hq2, hq4, hb⟩ := CallRes.not hq HO.out
    clear hq
    have HQ2 := Lib.hid hq2
    have HQ4 := Lib.hid hq4
    clear hq2 hq4
    clear fvc0 fvc1 fvcl fxx0 fxx1 fxx2 fxx3 fxxl
    have NVc := Lib.hid (Vc.out.on hb)
    have NXx := Lib.hid (Xx.out.on hb)
    have NLk := Lib.hid (Lk.out.on hb)
    have NB := Lib.hid (HB.out.trans (hb.mono HB.out.size))
    clear HB Vc Xx Lk hb
    have Vc := Lib.hid NVc.out
    clear NVc
    have Xx := Lib.hid NXx.out
    clear NXx
    have Lk := Lib.hid NLk.out
    clear NLk
    have HB := Lib.hid NB.out
    clear NB
    have fvc0 := Vc.out.c0
    have fvc1 := Vc.out.c1
    have fvcl := Vc.out.lt
    have fxx0 := Xx.out.c0
    have fxx1 := Xx.out.c1
    have fxx2 := Xx.out.c2
    have fxx3 := Xx.out.c3
    have fxxl := Xx.out.lt
    have NVc := Lib.hid (Vc.out.alloc (.cells #[.int .i64 0, .slice A2 0 c2] 25))
    have NXx := Lib.hid (Xx.out.alloc (.cells #[.int .i64 0, .slice A2 0 c2] 25))
    have NLk := Lib.hid (Lk.out.box (.cells #[.int .i64 0, .slice A2 0 c2] 25))
    have NB := Lib.hid (HB.out.alloc HB.out.size (.cells #[.int .i64 0, .slice A2 0 c2] 25))
    have NVo := Lib.hid (Var.new HQ2.out 0)
    clear HB Vc Xx Lk
    have Vc := Lib.hid NVc.out
    clear NVc
    have Vo := Lib.hid NVo.out
    clear NVo
    have Xx := Lib.hid NXx.out
    clear NXx
    have Lk := Lib.hid NLk.out
    clear NLk
    have HB := Lib.hid NB.out
    clear NB
    have Lo := Lib.hid (HQ4.out.box (.cells #[.int .i64 0, .slice A2 0 c2] 25))
    clear HQ2 HQ4
    clear fvc0 fvc1 fvcl fxx0 fxx1 fxx2 fxx3 fxxl
    have fvc0 := Vc.out.c0
    have fvc1 := Vc.out.c1
    have fvcl := Vc.out.lt
    have fvo0 := Vo.out.c0
    have fvo1 := Vo.out.c1
    have fvol := Vo.out.lt
    have fxx0 := Xx.out.c0
    have fxx1 := Xx.out.c1
    have fxx2 := Xx.out.c2
    have fxx3 := Xx.out.c3
    have fxxl := Xx.out.lt
    go_wp2_with fail
    refine (specCallRun_any view _ _ _ r _ _ _ ks x _ Vc.out.nods Lk.out hn1 HG.out (by omega)).mono ?_
    rintro e w3 hq
    obtain ⟨A3, c3, B3, d3, rfl, hq2, hq4, hb⟩ := CallRes.not hq HO.out
    clear hq
    have HQ2 := Lib.hid hq2
    have HQ4 := Lib.hid hq4
    clear hq2 hq4
    clear fvc0 fvc1 fvcl fvo0 fvo1 fvol fxx0 fxx1 fxx2 fxx3 fxxl
    have NVc := Lib.hid (Vc.out.on hb)
    have NVo := Lib.hid (Vo.out.on hb)
    have NXx := Lib.hid (Xx.out.on hb)
    have NLk := Lib.hid (Lk.out.on hb)
    have NLo := Lib.hid (Lo.out.on hb)
    have NB := Lib.hid (HB.out.trans (hb.mono HB.out.size))
    clear HB Vc Vo Xx Lk Lo hb
    have Vc := Lib.hid NVc.out
    clear NVc
    have Vo := Lib.hid NVo.out
    clear NVo
    have Xx := Lib.hid NXx.out
    clear NXx
    have Lk := Lib.hid NLk.out
    clear NLk
    have Lo := Lib.hid NLo.out
    clear NLo
    have HB := Lib.hid NB.out
    clear NB
    have fvc0 := Vc.out.c0
    have fvc1 := Vc.out.c1
    have fvcl := Vc.out.lt
    have fvo0 := Vo.out.c0
    have fvo1 := Vo.out.c1
    have fvol := Vo.out.lt
    have fxx0 := Xx.out.c0
    have fxx1 := Xx.out.c1
    have fxx2 := Xx.out.c2
    have fxx3 := Xx.out.c3
    have fxxl := Xx.out.lt
    have NVc := Lib.hid (Vc.out.alloc (.cells #[.int .i64 0, .slice A3 0 c3] 25))
    have NVo := Lib.hid (Vo.out.alloc (.cells #[.int .i64 0, .slice A3 0 c3] 25))
    have NXx := Lib.hid (Xx.out.alloc (.cells #[.int .i64 0, .slice A3 0 c3] 25))
    have NLk := Lib.hid (Lk.out.box (.cells #[.int .i64 0, .slice A3 0 c3] 25))
    have NLo := Lib.hid (Lo.out.box (.cells #[.int .i64 0, .slice A3 0 c3] 25))
    have NB := Lib.hid (HB.out.alloc HB.out.size (.cells #[.int .i64 0, .slice A3 0 c3] 25))
    have NVw := Lib.hid (Var.new HQ2.out 0)
    clear HB Vc Vo Xx Lk Lo
    have Vc := Lib.hid NVc.out
    clear NVc
    have Vo := Lib.hid NVo.out
    clear NVo
    have Vw := Lib.hid NVw.out
    clear NVw
    have Xx := Lib.hid NXx.out
    clear NXx
    have Lk := Lib.hid NLk.out
    clear NLk
    have Lo := Lib.hid NLo.out
    clear NLo
    have HB := Lib.hid NB.out
    clear NB
    have Lw := Lib.hid (HQ4.out.box (.cells #[.int .i64 0, .slice A3 0 c3] 25))
    clear HQ2 HQ4
    clear fvc0 fvc1 fvcl fvo0 fvo1 fvol fxx0 fxx1 fxx2 fxx3 fxxl
    have fvc0 := Vc.out.c0
    have fvc1 := Vc.out.c1
    have fvcl := Vc.out.lt
    have fvo0 := Vo.out.c0
    have fvo1 := Vo.out.c1
    have fvol := Vo.out.lt
    have fvw0 := Vw.out.c0
    have fvw1 := Vw.out.c1
    have fvwl := Vw.out.lt
    have fxx0 := Xx.out.c0
    have fxx1 := Xx.out.c1
    have fxx2 := Xx.out.c2
    have fxx3 := Xx.out.c3
    have fxxl := Xx.out.lt
    go_wp2_with fail
    refine (sameCalls_same _ _ 0 _ _ [] _ Lo.out Lw.out (by omega)).mono ?_
    rintro e w4 ⟨rfl, hb⟩
    clear fvc0 fvc1 fvcl fvo0 fvo1 fvol fvw0 fvw1 fvwl fxx0 fxx1 fxx2 fxx3 fxxl
    have NVc := Lib.hid (Vc.out.on hb)
    have NVo := Lib.hid (Vo.out.on hb)
    have NVw := Lib.hid (Vw.out.on hb)
    have NXx := Lib.hid (Xx.out.on hb)
    have NLk := Lib.hid (Lk.out.on hb)
    have NLo := Lib.hid (Lo.out.on hb)
    have NLw := Lib.hid (Lw.out.on hb)
    have NB := Lib.hid (HB.out.trans (hb.mono HB.out.size))
    clear HB Vc Vo Vw Xx Lk Lo Lw hb
    have Vc := Lib.hid NVc.out
    clear NVc
    have Vo := Lib.hid NVo.out
    clear NVo
    have Vw := Lib.hid NVw.out
    clear NVw
    have Xx := Lib.hid NXx.out
    clear NXx
    have Lk := Lib.hid NLk.out
    clear NLk
    have Lo := Lib.hid NLo.out
    clear NLo
    have Lw := Lib.hid NLw.out
    clear NLw
    have HB := Lib.hid NB.out
    clear NB
    have fvc0 := Vc.out.c0
    have fvc1 := Vc.out.c1
    have fvcl := Vc.out.lt
    have fvo0 := Vo.out.c0
    have fvo1 := Vo.out.c1
    have fvol := Vo.out.lt
    have fvw0 := Vw.out.c0
    have fvw1 := Vw.out.c1
    have fvwl := Vw.out.lt
    have fxx0 := Xx.out.c0
    have fxx1 := Xx.out.c1
    have fxx2 := Xx.out.c2
    have fxx3 := Xx.out.c3
    have fxxl := Xx.out.lt
    go_wp2_with fail
    refine (sameChain_same 0 _ _ 0 _ _ [] _ Vo.out.nods Vw.out.nods (by omega) (fun x h => by cases h)).mono ?_
    rintro e w5 ⟨rfl, hb⟩
    clear fvc0 fvc1 fvcl fvo0 fvo1 fvol fvw0 fvw1 fvwl fxx0 fxx1 fxx2 fxx3 fxxl
    have NVc := Lib.hid (Vc.out.on hb)
    have NVo := Lib.hid (Vo.out.on hb)
    have NVw := Lib.hid (Vw.out.on hb)
    have NXx := Lib.hid (Xx.out.on hb)
    have NLk := Lib.hid (Lk.out.on hb)
    have NLo := Lib.hid (Lo.out.on hb)
    have NLw := Lib.hid (Lw.out.on hb)
    have NB := Lib.hid (HB.out.trans (hb.mono HB.out.size))
    clear HB Vc Vo Vw Xx Lk Lo Lw hb
    have Vc := Lib.hid NVc.out
    clear NVc
    have Vo := Lib.hid NVo.out
    clear NVo
    have Vw := Lib.hid NVw.out
    clear NVw
    have Xx := Lib.hid NXx.out
    clear NXx
    have Lk := Lib.hid NLk.out
    clear NLk
    have Lo := Lib.hid NLo.out
    clear NLo
    have Lw := Lib.hid NLw.out
    clear NLw
    have HB := Lib.hid NB.out
    clear NB
    have fvc0 := Vc.out.c0
    have fvc1 := Vc.out.c1
    have fvcl := Vc.out.lt
    have fvo0 := Vo.out.c0
    have fvo1 := Vo.out.c1
    have fvol := Vo.out.lt
    have fvw0 := Vw.out.c0
    have fvw1 := Vw.out.c1
    have fvwl := Vw.out.lt
    have fxx0 := Xx.out.c0
    have fxx1 := Xx.out.c1
    have fxx2 := Xx.out.c2
    have fxx3 := Xx.out.c3
    have fxxl := Xx.out.lt
    go_wp2_with fail
    refine (sameCalls_same _ _ 0 _ _ [] _ Lo.out Lw.out (by omega)).mono ?_
    rintro e w6 ⟨rfl, hb⟩
    clear fvc0 fvc1 fvcl fvo0 fvo1 fvol fvw0 fvw1 fvwl fxx0 fxx1 fxx2 fxx3 fxxl
    have NVc := Lib.hid (Vc.out.on hb)
    have NVo := Lib.hid (Vo.out.on hb)
    have NVw := Lib.hid (Vw.out.on hb)
    have NXx := Lib.hid (Xx.out.on hb)
    have NLk := Lib.hid (Lk.out.on hb)
    have NLo := Lib.hid (Lo.out.on hb)
    have NLw := Lib.hid (Lw.out.on hb)
    have NB := Lib.hid (HB.out.trans (hb.mono HB.out.size))
    clear HB Vc Vo Vw Xx Lk Lo Lw hb
    have Vc := Lib.hid NVc.out
    clear NVc
    have Vo := Lib.hid NVo.out
    clear NVo
    have Vw := Lib.hid NVw.out
    clear NVw
    have Xx := Lib.hid NXx.out
    clear NXx
    have Lk := Lib.hid NLk.out
    clear NLk
    have Lo := Lib.hid NLo.out
    clear NLo
    have Lw := Lib.hid NLw.out
    clear NLw
    have HB := Lib.hid NB.out
    clear NB
    have fvc0 := Vc.out.c0
    have fvc1 := Vc.out.c1
    have fvcl := Vc.out.lt
    have fvo0 := Vo.out.c0
    have fvo1 := Vo.out.c1
    have fvol := Vo.out.lt
    have fvw0 := Vw.out.c0
    have fvw1 := Vw.out.c1
    have fvwl := Vw.out.lt
    have fxx0 := Xx.out.c0
    have fxx1 := Xx.out.c1
    have fxx2 := Xx.out.c2
    have fxx3 := Xx.out.c3
    have fxxl := Xx.out.lt
    go_wp2_with fail
    refine (sameChain_same 0 _ _ 0 _ _ [] _ Vo.out.nods Vw.out.nods (by omega) (fun x h => by cases h)).mono ?_
    rintro e w7 ⟨rfl, hb⟩
    clear fvc0 fvc1 fvcl fvo0 fvo1 fvol fvw0 fvw1 fvwl fxx0 fxx1 fxx2 fxx3 fxxl
    have NVc := Lib.hid (Vc.out.on hb)
    have NVo := Lib.hid (Vo.out.on hb)
    have NVw := Lib.hid (Vw.out.on hb)
    have NXx := Lib.hid (Xx.out.on hb)
    have NLk := Lib.hid (Lk.out.on hb)
    have NLo := Lib.hid (Lo.out.on hb)
    have NLw := Lib.hid (Lw.out.on hb)
    have NB := Lib.hid (HB.out.trans (hb.mono HB.out.size))
    clear HB Vc Vo Vw Xx Lk Lo Lw hb
    have Vc := Lib.hid NVc.out
    clear NVc
    have Vo := Lib.hid NVo.out
    clear NVo
    have Vw := Lib.hid NVw.out
    clear NVw
    have Xx := Lib.hid NXx.out
    clear NXx
    have Lk := Lib.hid NLk.out
    clear NLk
    have Lo := Lib.hid NLo.out
    clear NLo
    have Lw := Lib.hid NLw.out
    clear NLw
    have HB := Lib.hid NB.out
    clear NB
    have fvc0 := Vc.out.c0
    have fvc1 := Vc.out.c1
    have fvcl := Vc.out.lt
    have fvo0 := Vo.out.c0
    have fvo1 := Vo.out.c1
    have fvol := Vo.out.lt
    have fvw0 := Vw.out.c0
    have fvw1 := Vw.out.c1
    have fvwl := Vw.out.lt
    have fxx0 := Xx.out.c0
    have fxx1 := Xx.out.c1
    have fxx2 := Xx.out.c2
    have fxx3 := Xx.out.c3
    have fxxl := Xx.out.lt
    go_wp2
    go_ret
    exact ⟨rfl, HB.out⟩
  have HO := Lib.hid ho
  have HP := Lib.hid (call_good ho)
  have HK := Lib.hid (call_calls ho)
  have HG2 := Lib.hid (good_logs (call_good ho))
  clear ho
  have fvc0 := Vc.out.c0
  have fvc1 := Vc.out.c1
  have fvcl := Vc.out.lt
  have fxx0 := Xx.out.c0
  have fxx1 := Xx.out.c1
  have fxx2 := Xx.out.c2
  have fxx3 := Xx.out.c3
  have fxxl := Xx.out.lt
  go_wp2_with fail
  refine (callRun_any a view _ _ _ r _ _ _ ks x _ (HE.out.below HB.out) Vc.out.nods Lk.out hn1 HG.out (by omega)).mono ?_
  rintro e w2 hq
  obtain ⟨A2, n2, c2, B2, m2, d2, rfl, hq1, hq3, hq2, hq4, hb⟩ := CallRes.yes hq HO.out
  clear hq
  have MLo := Lib.hid hq1
  have MKo := Lib.hid hq3
  clear hq1 hq3
  have HQ2 := Lib.hid hq2
  have HQ4 := Lib.hid hq4
  clear hq2 hq4
  clear fvc0 fvc1 fvcl fxx0 fxx1 fxx2 fxx3 fxxl
  have NVc := Lib.hid (Vc.out.on hb)
  have NXx := Lib.hid (Xx.out.on hb)
  have NLk := Lib.hid (Lk.out.on hb)
  have NB := Lib.hid (HB.out.trans (hb.mono HB.out.size))
  clear HB Vc Xx Lk hb
  have Vc := Lib.hid NVc.out
  clear NVc
  have Xx := Lib.hid NXx.out
  clear NXx
  have Lk := Lib.hid NLk.out
  clear NLk
  have HB := Lib.hid NB.out
  clear NB
  have fvc0 := Vc.out.c0
  have fvc1 := Vc.out.c1
  have fvcl := Vc.out.lt
  have fxx0 := Xx.out.c0
  have fxx1 := Xx.out.c1
  have fxx2 := Xx.out.c2
  have fxx3 := Xx.out.c3
  have fxxl := Xx.out.lt
  have NVc := Lib.hid (Vc.out.alloc (.cells #[.int .i64 v2, .slice A2 n2 c2] 25))
  have NXx := Lib.hid (Xx.out.alloc (.cells #[.int .i64 v2, .slice A2 n2 c2] 25))
  have NLk := Lib.hid (Lk.out.box (.cells #[.int .i64 v2, .slice A2 n2 c2] 25))
  have NB := Lib.hid (HB.out.alloc HB.out.size (.cells #[.int .i64 v2, .slice A2 n2 c2] 25))
  have NVo := Lib.hid (Var.new HQ2.out v2)
  clear HB Vc Xx Lk
  have Vc := Lib.hid NVc.out
  clear NVc
  have Vo := Lib.hid NVo.out
  clear NVo
  have Xx := Lib.hid NXx.out
  clear NXx
  have Lk := Lib.hid NLk.out
  clear NLk
  have HB := Lib.hid NB.out
  clear NB
  have Lo := Lib.hid (HQ4.out.box (.cells #[.int .i64 v2, .slice A2 n2 c2] 25))
  clear HQ2 HQ4
  clear fvc0 fvc1 fvcl fxx0 fxx1 fxx2 fxx3 fxxl
  have fvc0 := Vc.out.c0
  have fvc1 := Vc.out.c1
  have fvcl := Vc.out.lt
  have fvo0 := Vo.out.c0
  have fvo1 := Vo.out.c1
  have fvol := Vo.out.lt
  have fxx0 := Xx.out.c0
  have fxx1 := Xx.out.c1
  have fxx2 := Xx.out.c2
  have fxx3 := Xx.out.c3
  have fxxl := Xx.out.lt
  go_wp2_with fail
  refine (specCallRun_any view _ _ _ r _ _ _ ks x _ Vc.out.nods Lk.out hn1 HG.out (by omega)).mono ?_
  rintro e w3 hq
  obtain ⟨A3, n3, c3, B3, m3, d3, rfl, hq1, hq3, hq2, hq4, hb⟩ := CallRes.yes hq HO.out
  clear hq
  have MLw := Lib.hid hq1
  have MKw := Lib.hid hq3
  clear hq1 hq3
  have HQ2 := Lib.hid hq2
  have HQ4 := Lib.hid hq4
  clear hq2 hq4
  clear fvc0 fvc1 fvcl fvo0 fvo1 fvol fxx0 fxx1 fxx2 fxx3 fxxl
  have NVc := Lib.hid (Vc.out.on hb)
  have NVo := Lib.hid (Vo.out.on hb)
  have NXx := Lib.hid (Xx.out.on hb)
  have NLk := Lib.hid (Lk.out.on hb)
  have NLo := Lib.hid (Lo.out.on hb)
  have NB := Lib.hid (HB.out.trans (hb.mono HB.out.size))
  clear HB Vc Vo Xx Lk Lo hb
  have Vc := Lib.hid NVc.out
  clear NVc
  have Vo := Lib.hid NVo.out
  clear NVo
  have Xx := Lib.hid NXx.out
  clear NXx
  have Lk := Lib.hid NLk.out
  clear NLk
  have Lo := Lib.hid NLo.out
  clear NLo
  have HB := Lib.hid NB.out
  clear NB
  have fvc0 := Vc.out.c0
  have fvc1 := Vc.out.c1
  have fvcl := Vc.out.lt
  have fvo0 := Vo.out.c0
  have fvo1 := Vo.out.c1
  have fvol := Vo.out.lt
  have fxx0 := Xx.out.c0
  have fxx1 := Xx.out.c1
  have fxx2 := Xx.out.c2
  have fxx3 := Xx.out.c3
  have fxxl := Xx.out.lt
  have NVc := Lib.hid (Vc.out.alloc (.cells #[.int .i64 v2, .slice A3 n3 c3] 25))
  have NVo := Lib.hid (Vo.out.alloc (.cells #[.int .i64 v2, .slice A3 n3 c3] 25))
  have NXx := Lib.hid (Xx.out.alloc (.cells #[.int .i64 v2, .slice A3 n3 c3] 25))
  have NLk := Lib.hid (Lk.out.box (.cells #[.int .i64 v2, .slice A3 n3 c3] 25))
  have NLo := Lib.hid (Lo.out.box (.cells #[.int .i64 v2, .slice A3 n3 c3] 25))
  have NB := Lib.hid (HB.out.alloc HB.out.size (.cells #[.int .i64 v2, .slice A3 n3 c3] 25))
  have NVw := Lib.hid (Var.new HQ2.out v2)
  clear HB Vc Vo Xx Lk Lo
  have Vc := Lib.hid NVc.out
  clear NVc
  have Vo := Lib.hid NVo.out
  clear NVo
  have Vw := Lib.hid NVw.out
  clear NVw
  have Xx := Lib.hid NXx.out
  clear NXx
  have Lk := Lib.hid NLk.out
  clear NLk
  have Lo := Lib.hid NLo.out
  clear NLo
  have HB := Lib.hid NB.out
  clear NB
  have Lw := Lib.hid (HQ4.out.box (.cells #[.int .i64 v2, .slice A3 n3 c3] 25))
  clear HQ2 HQ4
  clear fvc0 fvc1 fvcl fvo0 fvo1 fvol fxx0 fxx1 fxx2 fxx3 fxxl
  have fvc0 := Vc.out.c0
  have fvc1 := Vc.out.c1
  have fvcl := Vc.out.lt
  have fvo0 := Vo.out.c0
  have fvo1 := Vo.out.c1
  have fvol := Vo.out.lt
  have fvw0 := Vw.out.c0
  have fvw1 := Vw.out.c1
  have fvwl := Vw.out.lt
  have fxx0 := Xx.out.c0
  have fxx1 := Xx.out.c1
  have fxx2 := Xx.out.c2
  have fxx3 := Xx.out.c3
  have fxxl := Xx.out.lt
  have hn2 : n3 ≤ 1048576 := by have h5 : r2.length ≤ 5 := HP.out.2.2.2.1; have := MLw.out; omega
  have hm2 : m3 ≤ 6 := by have h5 := callsOk_len HK.out; have := MKw.out; omega
  obtain rfl : n3 = n2 := by rw [← MLo.out, ← MLw.out]
  obtain rfl : m3 = m2 := by rw [← MKo.out, ← MKw.out]
  go_wp2_with fail
  refine (sameCalls_same _ _ m3 _ _ ks2 _ Lo.out Lw.out (by omega)).mono ?_
  rintro e w4 ⟨rfl, hb⟩
  clear fvc0 fvc1 fvcl fvo0 fvo1 fvol fvw0 fvw1 fvwl fxx0 fxx1 fxx2 fxx3 fxxl
  have NVc := Lib.hid (Vc.out.on hb)
  have NVo := Lib.hid (Vo.out.on hb)
  have NVw := Lib.hid (Vw.out.on hb)
  have NXx := Lib.hid (Xx.out.on hb)
  have NLk := Lib.hid (Lk.out.on hb)
  have NLo := Lib.hid (Lo.out.on hb)
  have NLw := Lib.hid (Lw.out.on hb)
  have NB := Lib.hid (HB.out.trans (hb.mono HB.out.size))
  clear HB Vc Vo Vw Xx Lk Lo Lw hb
  have Vc := Lib.hid NVc.out
  clear NVc
  have Vo := Lib.hid NVo.out
  clear NVo
  have Vw := Lib.hid NVw.out
  clear NVw
  have Xx := Lib.hid NXx.out
  clear NXx
  have Lk := Lib.hid NLk.out
  clear NLk
  have Lo := Lib.hid NLo.out
  clear NLo
  have Lw := Lib.hid NLw.out
  clear NLw
  have HB := Lib.hid NB.out
  clear NB
  have fvc0 := Vc.out.c0
  have fvc1 := Vc.out.c1
  have fvcl := Vc.out.lt
  have fvo0 := Vo.out.c0
  have fvo1 := Vo.out.c1
  have fvol := Vo.out.lt
  have fvw0 := Vw.out.c0
  have fvw1 := Vw.out.c1
  have fvwl := Vw.out.lt
  have fxx0 := Xx.out.c0
  have fxx1 := Xx.out.c1
  have fxx2 := Xx.out.c2
  have fxx3 := Xx.out.c3
  have fxxl := Xx.out.lt
  go_wp2_with fail
  refine (sameChain_same v2 _ _ n3 _ _ r2 _ Vo.out.nods Vw.out.nods (by omega) HG2.out).mono ?_
  rintro e w5 ⟨rfl, hb⟩
  clear fvc0 fvc1 fvcl fvo0 fvo1 fvol fvw0 fvw1 fvwl fxx0 fxx1 fxx2 fxx3 fxxl
  have NVc := Lib.hid (Vc.out.on hb)
  have NVo := Lib.hid (Vo.out.on hb)
  have NVw := Lib.hid (Vw.out.on hb)
  have NXx := Lib.hid (Xx.out.on hb)
  have NLk := Lib.hid (Lk.out.on hb)
  have NLo := Lib.hid (Lo.out.on hb)
  have NLw := Lib.hid (Lw.out.on hb)
  have NB := Lib.hid (HB.out.trans (hb.mono HB.out.size))
  clear HB Vc Vo Vw Xx Lk Lo Lw hb
  have Vc := Lib.hid NVc.out
  clear NVc
  have Vo := Lib.hid NVo.out
  clear NVo
  have Vw := Lib.hid NVw.out
  clear NVw
  have Xx := Lib.hid NXx.out
  clear NXx
  have Lk := Lib.hid NLk.out
  clear NLk
  have Lo := Lib.hid NLo.out
  clear NLo
  have Lw := Lib.hid NLw.out
  clear NLw
  have HB := Lib.hid NB.out
  clear NB
  have fvc0 := Vc.out.c0
  have fvc1 := Vc.out.c1
  have fvcl := Vc.out.lt
  have fvo0 := Vo.out.c0
  have fvo1 := Vo.out.c1
  have fvol := Vo.out.lt
  have fvw0 := Vw.out.c0
  have fvw1 := Vw.out.c1
  have fvwl := Vw.out.lt
  have fxx0 := Xx.out.c0
  have fxx1 := Xx.out.c1
  have fxx2 := Xx.out.c2
  have fxx3 := Xx.out.c3
  have fxxl := Xx.out.lt
  clear fvc0 fvc1 fvcl fvo0 fvo1 fvol fvw0 fvw1 fvwl fxx0 fxx1 fxx2 fxx3 fxxl
  clear Vw Lw
  have fvc0 := Vc.out.c0
  have fvc1 := Vc.out.c1
  have fvcl := Vc.out.lt
  have fvo0 := Vo.out.c0
  have fvo1 := Vo.out.c1
  have fvol := Vo.out.lt
  have fxx0 := Xx.out.c0
  have fxx1 := Xx.out.c1
  have fxx2 := Xx.out.c2
  have fxx3 := Xx.out.c3
  have fxxl := Xx.out.lt
  obtain ⟨p1, hp1⟩ : ∃ p, (chainRead v2 r2 x.what.key).1 = p := ⟨_, rfl⟩
  obtain ⟨p2, hp2⟩ : ∃ p, (chainRead v2 r2 x.what.key).2 = p := ⟨_, rfl⟩
  have HP1 := Lib.hid hp1
  have HP2 := Lib.hid hp2
  clear hp1 hp2
  go_wp2_with fail
  refine (chainRead_any v2 _ _ _ r2 x.what.key _ Vo.out.nods hn2 HG2.out).mono ?_
  rintro e w6 ⟨rfl, hb⟩
  rw [HP1.out, HP2.out]
  clear fvc0 fvc1 fvcl fvo0 fvo1 fvol fxx0 fxx1 fxx2 fxx3 fxxl
  have NVc := Lib.hid (Vc.out.on hb)
  have NVo := Lib.hid (Vo.out.on hb)
  have NXx := Lib.hid (Xx.out.on hb)
  have NLk := Lib.hid (Lk.out.on hb)
  have NLo := Lib.hid (Lo.out.on hb)
  have NB := Lib.hid (HB.out.trans (hb.mono HB.out.size))
  clear HB Vc Vo Xx Lk Lo hb
  have Vc := Lib.hid NVc.out
  clear NVc
  have Vo := Lib.hid NVo.out
  clear NVo
  have Xx := Lib.hid NXx.out
  clear NXx
  have Lk := Lib.hid NLk.out
  clear NLk
  have Lo := Lib.hid NLo.out
  clear NLo
  have HB := Lib.hid NB.out
  clear NB
  have fvc0 := Vc.out.c0
  have fvc1 := Vc.out.c1
  have fvcl := Vc.out.lt
  have fvo0 := Vo.out.c0
  have fvo1 := Vo.out.c1
  have fvol := Vo.out.lt
  have fxx0 := Xx.out.c0
  have fxx1 := Xx.out.c1
  have fxx2 := Xx.out.c2
  have fxx3 := Xx.out.c3
  have fxxl := Xx.out.lt
  cases hnew : callsNew ks x.client x.number
  · skip
    go_wp2_with fail
    refine (callsNew_any _ _ _ ks x.client x.number _ Lk.out (by omega)).mono ?_
    rintro e w7 ⟨rfl, hb⟩
    rw [hnew]
    have NVc := Lib.hid (Vc.out.on hb)
    have NVo := Lib.hid (Vo.out.on hb)
    have NXx := Lib.hid (Xx.out.on hb)
    have NLk := Lib.hid (Lk.out.on hb)
    have NLo := Lib.hid (Lo.out.on hb)
    have NB := Lib.hid (HB.out.trans (hb.mono HB.out.size))
    clear HB Vc Vo Xx Lk Lo hb
    have Vc := Lib.hid NVc.out
    clear NVc
    have Vo := Lib.hid NVo.out
    clear NVo
    have Xx := Lib.hid NXx.out
    clear NXx
    have Lk := Lib.hid NLk.out
    clear NLk
    have Lo := Lib.hid NLo.out
    clear NLo
    have HB := Lib.hid NB.out
    clear NB
    have fvc0 := Vc.out.c0
    have fvc1 := Vc.out.c1
    have fvcl := Vc.out.lt
    have fvo0 := Vo.out.c0
    have fvo1 := Vo.out.c1
    have fvol := Vo.out.lt
    have fxx0 := Xx.out.c0
    have fxx1 := Xx.out.c1
    have fxx2 := Xx.out.c2
    have fxx3 := Xx.out.c3
    have fxxl := Xx.out.lt
    go_wp2
    go_ret
    exact ⟨rfl, HB.out⟩
  · have hr := call_read HO.out hnew
    have e1 : p1 = x.what.value := by rw [← HP1.out, hr]
    have e2 : p2 = true := by rw [← HP2.out, hr]
    subst e1; subst e2
    clear hr HP1 HP2
    go_wp2_with fail
    refine (callsNew_any _ _ _ ks x.client x.number _ Lk.out (by omega)).mono ?_
    rintro e w7 ⟨rfl, hb⟩
    rw [hnew]
    have NVc := Lib.hid (Vc.out.on hb)
    have NVo := Lib.hid (Vo.out.on hb)
    have NXx := Lib.hid (Xx.out.on hb)
    have NLk := Lib.hid (Lk.out.on hb)
    have NLo := Lib.hid (Lo.out.on hb)
    have NB := Lib.hid (HB.out.trans (hb.mono HB.out.size))
    clear HB Vc Vo Xx Lk Lo hb
    have Vc := Lib.hid NVc.out
    clear NVc
    have Vo := Lib.hid NVo.out
    clear NVo
    have Xx := Lib.hid NXx.out
    clear NXx
    have Lk := Lib.hid NLk.out
    clear NLk
    have Lo := Lib.hid NLo.out
    clear NLo
    have HB := Lib.hid NB.out
    clear NB
    have fvc0 := Vc.out.c0
    have fvc1 := Vc.out.c1
    have fvcl := Vc.out.lt
    have fvo0 := Vo.out.c0
    have fvo1 := Vo.out.c1
    have fvol := Vo.out.lt
    have fxx0 := Xx.out.c0
    have fxx1 := Xx.out.c1
    have fxx2 := Xx.out.c2
    have fxx3 := Xx.out.c3
    have fxxl := Xx.out.lt
    go_wp2
    go_ret
    exact ⟨rfl, HB.out⟩
end Go.Proofs.YtemgilofjbnoaaaGreatDoor
namespace Go.Proofs.YtemgilofjbnoaaaGreatDoor.fnCallRead
open Go Go.Conc Go.ChangeShapes Go.WideShapes Go.ChangeAt Go.RowKit
set_option linter.unusedVariables false
set_option maxRecDepth 100000 in
theorem lifted (os : Os) (started : os.Started) (H : Type) (enc : TypeId × Value → H) :
    ReturnsInLeavingWide {} Tryz.checked os 4 .any (fun w args => (Rows.fnCallReadSpec.pre enc Tryz.prog Tryz.f4 Rows.fnCallReadRow.domain false w args ∧ laidMetH Tryz.prog laidList w) ∧ sizedMet enc Tryz.prog Tryz.f4 (OpenSpec.ofChange Rows.fnCallReadSpec) false w args)
      (Rows.fnCallReadSpec.post enc Tryz.prog Tryz.f4 false true false false) := by
  refine leaving_and (C := Tryz.checked) (X := fun w _ => laidMetH Tryz.prog laidList w) (fun _ _ _ hh h => h.of_heap hh) ownK started Tryz.func4
    (ChangeSpec.witness_at (enc := enc) (C := Tryz.checked) (os := os) (X := fun w _ => laidMetH Tryz.prog laidList w) false (laidWorld os) #[.slice none 0 0] 8 rfl (by kernel_rfl) (by kernel_rfl) (by kernel_rfl) (by kernel_rfl) (by kernel_rfl) laid_metH) ?_
  intro W base args ds gs before hval0 hW hL
  have hval : ∀ (j : Nat) t v, Tryz.f4.params[j]? = some t → args[j]? = some v → Value.okWide Tryz.prog W .any base t v := hval0
  have hW' := hW
  obtain ⟨p, q, hA0, hV, rfl, hfz, hnd⟩ := hW
  have hA : DataW.TrodAll enc Tryz.prog W 0 (fun _ => true) true Tryz.f4.params.toList args.toList ds p := hA0
  rw [Tryz.params4] at hA hval
  obtain ⟨v0, vs0, d0, ds0, p0, q0, hargs, rfl, rfl, h0, r0⟩ := trodAll_cons hA
  obtain ⟨rfl, rfl, rfl⟩ := trodAll_nil r0
  obtain rfl : args = #[v0] := by cases args; simp_all
  have hV' : DataW.TrodVars enc Tryz.prog W (fun _ => true) ["loop.example/chainfiles/impl.errTake"] gs q := hV
  obtain ⟨g1, rfl⟩ := trodVars_len hV'
  obtain ⟨ea, he⟩ := err_of_laid hL
  have k0 := h0
  have lt0 : ∀ x ∈ p0, x.block < W.heap.size := by obtain ⟨m, hm⟩ := k0; exact DataW.trod_lt m _ _ _ hm
  obtain ⟨A0, n0, c0, l0, rfl, f0, g0⟩ := reads_bytes (hval 0 22 v0 rfl rfl) h0
  clear hA0 hval0
  obtain ⟨M, last, o, w', t', e1, e2, e3, e4⟩ := mo_run fmo4 (by kernel_rfl) (by decide) (by kernel_rfl) #[.slice A0 n0 c0] W (fun w hw => callRead_walk A0 n0 c0 l0 ea w (he.brk hw) (brk_flat hw f0) g0)
  refine ⟨M, last, o, w', t', e1, e2, e3, e4.mono fun v hp => ?_⟩
  obtain ⟨rfl, bel⟩ := hp
  exact ⟨_, _, _, [], _, _, hW', trodAll_mk1 (shut_bool Tryz.underlying4 _), (trodAll_cons_mk (BelowT.trod laidOut (by kernel_rfl) (of_decide_eq_true (by kernel_rfl)) k0 bel lt0) trodAll_mk0), BelowT.trodVars bel hV', bel.frame _, fun h => by cases h⟩
theorem over : Rows.fnCallReadRow.holds Tryz.pinned (OpenSpec.ofChange Rows.fnCallReadSpec) :=
  OpenClaim.holds_of_wide_leaving 4 Tryz.f4 rfl rfl rfl rfl rfl rfl rfl ⟨rfl, rfl, rfl, rfl, rfl⟩ rfl rfl rfl rfl rfl (by kernel_rfl) Tryz.func4 (by kernel_rfl)
    (of_decide_eq_true (by kernel_rfl)) (by unfold Func.isWrapper; first | (rw [if_pos (by decide +kernel)]; kernel_rfl) | (rw [if_neg (by decide +kernel)]; exact ⟨rfl, rfl⟩))
    (fun os started H enc _ => lifted os started H enc)
theorem proved : Rows.FnCallReadCardSaid :=
  tied_goes .later [.sentinel] true Rows.fnCallReadCard.stood.harness true
    over (by kernel_rfl) fnCallRead_row_tie rfl ⟨rfl, rfl⟩ (by kernel_rfl) rfl
    (fun f fn hf hfn => by
      obtain rfl : f = 4 := Option.some.inj ((show Tryz.prog.funcNamed "loop.example/chainfiles/laws.FnCallRead" = some 4 by kernel_rfl).symm.trans hf) |>.symm
      obtain rfl : fn = Tryz.f4 := (Option.some.inj (Tryz.func4.symm.trans hfn)).symm
      exact ⟨by kernel_rfl, fun j t ht => by
        rw [Tryz.params4] at ht
        rcases j with _ | j
        · obtain rfl : 22 = t := by simpa using ht
          exact (show Tryz.prog.wantsStandIn 22 = false by kernel_rfl)
        · simp at ht⟩)
    (by kernel_rfl)
#print axioms proved
end Go.Proofs.YtemgilofjbnoaaaGreatDoor.fnCallRead
