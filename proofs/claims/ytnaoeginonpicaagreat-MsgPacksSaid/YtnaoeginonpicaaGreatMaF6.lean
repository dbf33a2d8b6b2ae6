/- Texts that are built one behind the other: XMq0, XCmEq, XEq, XEb, XMp, XMk, XGt1, XGt2, XGt3, XMq, XMl, XMh, XMw0, XKp1. No condition. -/
import Derived.Test.YtnaoeginonpicaaGreatMaF5
import Derived.Deep.CutBlock
set_option maxRecDepth 100000
set_option linter.unusedVariables false
open List renaming setIfInBounds_toArray → sIB, set_cons_zero → sCZ, set_cons_succ → sCS
/- msgs.get of a kind that there is none, msgs.Unpack of nothing. -/
namespace Go.Proofs.YtnaoeginonpicaaGreat
open Go Go.RowKit Go.Gv
theorem gI_nil:gI (some [])=(0,none):=by
 unfold gI rInt rNum
 rfl
theorem gI_none:gI none=(0,none):=by
 unfold gI rInt rNum
 rfl
theorem gI_kd0:okKd (gI (some [])).1=false:=by rw [gI_nil];rfl
theorem gI_st0:(gI (gI (gI (some [])).2).2).2=none:=by rw [gI_nil];dsimp only;rw [gI_none];dsimp only;rw [gI_none]
theorem results_cellA_tmp0 {P:Program} {fn:Func} {p u:Tmp} {ty:TypeId} (h:fn.results=#[.cell p ty,.tmp u]) (tmps:Array Value) (w:World) (g:Nat) (cs:List Value) {d:TypeDesc}
 (hp:tmps.getD p undef=.pointer (some ⟨g,0,none⟩)) (hc:∀ j u,cs[j]? = some u→w.cell? ⟨g,j,none⟩=some u) (hu:P.underlying ty=some d) (hd:aggDesc d=true) (hi:(P.info? ty).map (·.size)=some cs.length) :
 (results fn tmps).run P w=.ok (.tuple #[.agg cs.toArray,tmps.getD u undef]) w:=by
 have hp':tmps[p]?.getD undef=.pointer (some ⟨g,0,none⟩):=by simpa using hp
 simp [results,h,hp',asAddr,run_loadA w ty d hu hd ⟨g,0,none⟩ cs hi (fun j u hu=>by rw [add_mk,Nat.zero_add];exact hc j u hu)]
theorem RdR_nil00 {R:Nat→Prop} {N:Nat} {w:World}:RdR R N w (.slice none 0 0) []:=⟨⟨(fun b hb=>by cases hb),Rd.nil _ _⟩,(fun h=>by simp at h),Nat.zero_le _⟩
set_option maxHeartbeats 8000000 in
theorem get0_Q:∀ (R:Nat→Prop) (r:Nat) (s:RSt) (a b c:Int) (w:World),RrR 132 R w r s→(∀ k,R k→k < w.heap.size)→I64 a∧okKd a=false→True→I64 b→I64 c→
 Calls Tryz.prog 41 #[.pointer (some ⟨r,0,none⟩),.agg (mg0C a b c).toArray] w fun e w'=>e=.returned (.agg (mg0C a b c).toArray)∧RrR 132 R w' r s∧Mod R w w':=by
 intro R r s a b c w hR hB hk ha hb hc
 have HRD:=Lib.hid hR
 have HBR:=Lib.hid hB
 have HMR:=hid (MgR.one (mg0_rd hk.1 hb hc (fun _=>False) w))
 have K1:=hid (show ¬ a=1 by rintro rfl;exact absurd hk.2 (by decide))
 have K2:=hid (show ¬ a=2 by rintro rfl;exact absurd hk.2 (by decide))
 have K3:=hid (show ¬ a=3 by rintro rfl;exact absurd hk.2 (by decide))
 have K4:=hid (show ¬ a=4 by rintro rfl;exact absurd hk.2 (by decide))
 have K5:=hid (show ¬ a=5 by rintro rfl;exact absurd hk.2 (by decide))
 have K6:=hid (show ¬ a=6 by rintro rfl;exact absurd hk.2 (by decide))
 have K7:=hid (show ¬ a=7 by rintro rfl;exact absurd hk.2 (by decide))
 have K8:=hid (show ¬ a=8 by rintro rfl;exact absurd hk.2 (by decide))
 have K9:=hid (show ¬ a=9 by rintro rfl;exact absurd hk.2 (by decide))
 have K10:=hid (show ¬ a=10 by rintro rfl;exact absurd hk.2 (by decide))
 have K11:=hid (show ¬ a=11 by rintro rfl;exact absurd hk.2 (by decide))
 have K12:=hid (show ¬ a=12 by rintro rfl;exact absurd hk.2 (by decide))
 have K13:=hid (show ¬ a=13 by rintro rfl;exact absurd hk.2 (by decide))
 have K14:=hid (show ¬ a=14 by rintro rfl;exact absurd hk.2 (by decide))
 clear hR hB hk hb hc ha
 go_enter Tryz.func41,Tryz.ntmps41
 go_upto_region 1 with (fail)
 obtain ⟨w1,hw1⟩:∃ zz,zz=((w.alloc (.cells ((mg0C a b c):List Value).toArray 61)).alloc (.cells ((mg0C 0 0 0):List Value).toArray 61)):=⟨_,rfl⟩
 change Code.wp _ _ _ _ ((w.alloc (.cells ((mg0C a b c):List Value).toArray 61)).alloc (.cells ((mg0C 0 0 0):List Value).toArray 61))
 rw [← hw1]
 have HB3:=hid (show Cs w1 (w.heap.size) ((mg0C a b c):List Value).toArray 61 by rw [hw1];exact (Cs.new _ _ _).alloc _)
 have HB4:=hid (show Cs w1 (w.heap.size+1) ((mg0C 0 0 0):List Value).toArray 61 by rw [hw1];exact Cs_newN _ _ _ (by simp))
 have hm:Mod (fun _=>False) w w1:=by rw [hw1];exact ((Mod.refl _ _).alloc _).alloc _
 have HM0:=hid (show Mod (fun k=>(R k)) w w1 from hm.mono (fun _ _ h=>h.elim))
 have hs1:w1.heap.size=w.heap.size+2:=by rw [hw1];simp
 have Hx1:=hid (HRD.out.mod hm (fun _ _ h=>h))
 clear HRD
 clear hw1 hm
 go_upto_region 1 with (fail)
 refine Aa 98 [5,6] [0,1] (fun a0 HA0=>?_)
 have oe3:=ev HA0 3 rfl
 refine QSeq.pure rfl (.pointer (some ⟨w.heap.size,0,none⟩)) (fun E=>Ad rfl Tryz.underlying61 rfl (by kernel_rfl) (E.v oe3)) ?_
 refine QSeq.pure rfl (.int .i64 a) (fun E=>Aj rfl Tryz.underlying3 rfl (E.d 0 0) (Cs.seg1 (segs:=(mg0 a b c).segs (zCe.cells zS) (zPm.cells zS) (zPr.cells zS zS zS) (zOp.cells zS) (zDc.cells zS zS zS zS)) HB3.out (ns:=mgN) rfl 0 rfl (o:=0) (k:=0) rfl rfl rfl)) ?_
 refine QSeq.nil (t':=[_,_]) rfl ?_
 obtain rfl:=HA0.out
 clear HA0 oe3
 simp only [pz,Act.put,sIB,sCZ,sCS]
 go_upto_region 2 with (fail)
 refine Aa 98 [8,7] [0,1] (fun a0 HA0=>?_)
 have oe6:=ev HA0 6 rfl
 refine QSeq.pure rfl (.bool false) (fun E=>An rfl (E.v oe6) rfl (Ag _ _ _ _ _ _) (Al _ _ _ Tryz.underlying3) (congrArg Value.bool (Bb K1.out))) ?_
 refine QSeq.pure rfl _ (fun E=>Af rfl (E.d 0 0)) ?_
 refine QSeq.nil (t':=[_,_]) rfl ?_
 obtain rfl:=HA0.out
 clear HA0 oe6
 simp only [pz,Act.put,sIB,sCZ,sCS]
 go_upto_region 4 with (fail)
 refine Aa 98 [13,12] [0,1] (fun a0 HA0=>?_)
 have oe6:=ev HA0 6 rfl
 refine QSeq.pure rfl (.bool false) (fun E=>An rfl (E.v oe6) rfl (Ag _ _ _ _ _ _) (Al _ _ _ Tryz.underlying3) (congrArg Value.bool (Bb K2.out))) ?_
 refine QSeq.pure rfl _ (fun E=>Af rfl (E.d 0 0)) ?_
 refine QSeq.nil (t':=[_,_]) rfl ?_
 obtain rfl:=HA0.out
 clear HA0 oe6
 simp only [pz,Act.put,sIB,sCZ,sCS]
 go_upto_region 6 with (fail)
 refine Aa 98 [18,17] [0,1] (fun a0 HA0=>?_)
 have oe6:=ev HA0 6 rfl
 refine QSeq.pure rfl (.bool false) (fun E=>An rfl (E.v oe6) rfl (Ag _ _ _ _ _ _) (Al _ _ _ Tryz.underlying3) (congrArg Value.bool (Bb K3.out))) ?_
 refine QSeq.pure rfl _ (fun E=>Af rfl (E.d 0 0)) ?_
 refine QSeq.nil (t':=[_,_]) rfl ?_
 obtain rfl:=HA0.out
 clear HA0 oe6
 simp only [pz,Act.put,sIB,sCZ,sCS]
 go_upto_region 8 with (fail)
 refine Aa 98 [23,22] [0,1] (fun a0 HA0=>?_)
 have oe6:=ev HA0 6 rfl
 refine QSeq.pure rfl (.bool false) (fun E=>An rfl (E.v oe6) rfl (Ag _ _ _ _ _ _) (Al _ _ _ Tryz.underlying3) (congrArg Value.bool (Bb K4.out))) ?_
 refine QSeq.pure rfl _ (fun E=>Af rfl (E.d 0 0)) ?_
 refine QSeq.nil (t':=[_,_]) rfl ?_
 obtain rfl:=HA0.out
 clear HA0 oe6
 simp only [pz,Act.put,sIB,sCZ,sCS]
 go_upto_region 10 with (fail)
 refine Aa 98 [28,27] [0,1] (fun a0 HA0=>?_)
 have oe6:=ev HA0 6 rfl
 refine QSeq.pure rfl (.bool false) (fun E=>An rfl (E.v oe6) rfl (Ag _ _ _ _ _ _) (Al _ _ _ Tryz.underlying3) (congrArg Value.bool (Bb K5.out))) ?_
 refine QSeq.pure rfl _ (fun E=>Af rfl (E.d 0 0)) ?_
 refine QSeq.nil (t':=[_,_]) rfl ?_
 obtain rfl:=HA0.out
 clear HA0 oe6
 simp only [pz,Act.put,sIB,sCZ,sCS]
 go_upto_region 12 with (fail)
 refine Aa 98 [39,38] [0,1] (fun a0 HA0=>?_)
 have oe6:=ev HA0 6 rfl
 refine QSeq.pure rfl (.bool false) (fun E=>An rfl (E.v oe6) rfl (Ag _ _ _ _ _ _) (Al _ _ _ Tryz.underlying3) (congrArg Value.bool (Bb K6.out))) ?_
 refine QSeq.pure rfl _ (fun E=>Af rfl (E.d 0 0)) ?_
 refine QSeq.nil (t':=[_,_]) rfl ?_
 obtain rfl:=HA0.out
 clear HA0 oe6
 simp only [pz,Act.put,sIB,sCZ,sCS]
 go_upto_region 14 with (fail)
 refine Aa 98 [44,43] [0,1] (fun a0 HA0=>?_)
 have oe6:=ev HA0 6 rfl
 refine QSeq.pure rfl (.bool false) (fun E=>An rfl (E.v oe6) rfl (Ag _ _ _ _ _ _) (Al _ _ _ Tryz.underlying3) (congrArg Value.bool (Bb K7.out))) ?_
 refine QSeq.pure rfl _ (fun E=>Af rfl (E.d 0 0)) ?_
 refine QSeq.nil (t':=[_,_]) rfl ?_
 obtain rfl:=HA0.out
 clear HA0 oe6
 simp only [pz,Act.put,sIB,sCZ,sCS]
 go_upto_region 16 with (fail)
 refine Aa 98 [49,48] [0,1] (fun a0 HA0=>?_)
 have oe6:=ev HA0 6 rfl
 refine QSeq.pure rfl (.bool false) (fun E=>An rfl (E.v oe6) rfl (Ag _ _ _ _ _ _) (Al _ _ _ Tryz.underlying3) (congrArg Value.bool (Bb K8.out))) ?_
 refine QSeq.pure rfl _ (fun E=>Af rfl (E.d 0 0)) ?_
 refine QSeq.nil (t':=[_,_]) rfl ?_
 obtain rfl:=HA0.out
 clear HA0 oe6
 simp only [pz,Act.put,sIB,sCZ,sCS]
 go_upto_region 18 with (fail)
 refine Aa 98 [54,53] [0,1] (fun a0 HA0=>?_)
 have oe6:=ev HA0 6 rfl
 refine QSeq.pure rfl (.bool false) (fun E=>An rfl (E.v oe6) rfl (Ag _ _ _ _ _ _) (Al _ _ _ Tryz.underlying3) (congrArg Value.bool (Bb K9.out))) ?_
 refine QSeq.pure rfl _ (fun E=>Af rfl (E.d 0 0)) ?_
 refine QSeq.nil (t':=[_,_]) rfl ?_
 obtain rfl:=HA0.out
 clear HA0 oe6
 simp only [pz,Act.put,sIB,sCZ,sCS]
 go_upto_region 20 with (fail)
 refine Aa 98 [62,61] [0,1] (fun a0 HA0=>?_)
 have oe6:=ev HA0 6 rfl
 refine QSeq.pure rfl (.bool false) (fun E=>An rfl (E.v oe6) rfl (Ag _ _ _ _ _ _) (Al _ _ _ Tryz.underlying3) (congrArg Value.bool (Bb K10.out))) ?_
 refine QSeq.pure rfl _ (fun E=>Af rfl (E.d 0 0)) ?_
 refine QSeq.nil (t':=[_,_]) rfl ?_
 obtain rfl:=HA0.out
 clear HA0 oe6
 simp only [pz,Act.put,sIB,sCZ,sCS]
 go_upto_region 22 with (fail)
 refine Aa 98 [67,66] [0,1] (fun a0 HA0=>?_)
 have oe6:=ev HA0 6 rfl
 refine QSeq.pure rfl (.bool false) (fun E=>An rfl (E.v oe6) rfl (Ag _ _ _ _ _ _) (Al _ _ _ Tryz.underlying3) (congrArg Value.bool (Bb K11.out))) ?_
 refine QSeq.pure rfl _ (fun E=>Af rfl (E.d 0 0)) ?_
 refine QSeq.nil (t':=[_,_]) rfl ?_
 obtain rfl:=HA0.out
 clear HA0 oe6
 simp only [pz,Act.put,sIB,sCZ,sCS]
 go_upto_region 24 with (fail)
 refine Aa 98 [72,71] [0,1] (fun a0 HA0=>?_)
 have oe6:=ev HA0 6 rfl
 refine QSeq.pure rfl (.bool false) (fun E=>An rfl (E.v oe6) rfl (Ag _ _ _ _ _ _) (Al _ _ _ Tryz.underlying3) (congrArg Value.bool (Bb K12.out))) ?_
 refine QSeq.pure rfl _ (fun E=>Af rfl (E.d 0 0)) ?_
 refine QSeq.nil (t':=[_,_]) rfl ?_
 obtain rfl:=HA0.out
 clear HA0 oe6
 simp only [pz,Act.put,sIB,sCZ,sCS]
 go_upto_region 26 with (fail)
 refine Aa 98 [77,76] [0,1] (fun a0 HA0=>?_)
 have oe6:=ev HA0 6 rfl
 refine QSeq.pure rfl (.bool false) (fun E=>An rfl (E.v oe6) rfl (Ag _ _ _ _ _ _) (Al _ _ _ Tryz.underlying3) (congrArg Value.bool (Bb K13.out))) ?_
 refine QSeq.pure rfl _ (fun E=>Af rfl (E.d 0 0)) ?_
 refine QSeq.nil (t':=[_,_]) rfl ?_
 obtain rfl:=HA0.out
 clear HA0 oe6
 simp only [pz,Act.put,sIB,sCZ,sCS]
 go_upto_region 28 with (fail)
 refine Aa 98 [86,85] [0,1] (fun a0 HA0=>?_)
 have oe6:=ev HA0 6 rfl
 refine QSeq.pure rfl (.bool false) (fun E=>An rfl (E.v oe6) rfl (Ag _ _ _ _ _ _) (Al _ _ _ Tryz.underlying3) (congrArg Value.bool (Bb K14.out))) ?_
 refine QSeq.pure rfl _ (fun E=>Af rfl (E.d 0 0)) ?_
 refine QSeq.nil (t':=[_,_]) rfl ?_
 obtain rfl:=HA0.out
 clear HA0 oe6
 simp only [pz,Act.put,sIB,sCZ,sCS]
 go_upto_region 30 with (fail)
 refine Aa 98 [97,99] [0,1] (fun a0 HA0=>?_)
 have oe3:=ev HA0 3 rfl
 have oe4:=ev HA0 4 rfl
 refine QSeq.pure rfl _ (fun E=>Am rfl Tryz.underlying61 rfl (off:=0) (cs:=(mg0C a b c)) (by kernel_rfl) (E.v oe3) (Cs.whole HB3.out)) ?_
 refine QSeq.go fun act E=>?_
 refine Aq rfl (Ac rfl) rfl HB4.out (off:=0) (vs:=(mg0C a b c)) (by kernel_rfl) HMR.out (by show 0+295≤295;decide) (E.v oe4) (ec (E.d 0 0)) ?_
 intro u30_1 qc0 hm
 have qB4:=qc0.eqv (b:=((mg0C a b c):List Value).toArray) (A5 _ _ rfl)
 clear qc0
 have Hx2:=hid qB4
 have zu30_1:=hm.size
 have Cx3:=hid (show Mod (fun k=>(k=w.heap.size+1)) w1 u30_1 from hm)
 clear hm
 clear act E qB4 HB4
 refine QSeq.nil (t':=[_,_]) rfl ?_
 obtain rfl:=HA0.out
 clear HA0 oe3 oe4
 simp only [pz,Act.put,sIB,sCZ,sCS,List.set_nil]
 go_wp2
 exact bodyPost_ret (A7 rfl _ _ (w.heap.size+1) (mg0C a b c) rfl (fun k u hu=>by rw [Hx2.out.cell];simpa using hu) Tryz.underlying61 rfl (by kernel_rfl)) rfl ⟨rfl,(Hx1.out.mod Cx3.out (sB HBR)),(HM0.out.trans Cx3.out (by intro k h1 h2;first|exact h2|omega))⟩
set_option maxHeartbeats 4000000 in
theorem Unpack0_Q (w:World):Calls Tryz.prog 11 #[.slice none 0 0] w fun e w'=>e=.returned (.tuple #[.agg (mg0C 0 0 0).toArray,.bool false])∧Mod (fun _=>False) w w':=by
 go_enter Tryz.func11,Tryz.ntmps11
 go_upto_region 1 with (fail)
 obtain ⟨w1,hw1⟩:∃ zz,zz=(w.alloc (.cells ((mg0C 0 0 0):List Value).toArray 61)):=⟨_,rfl⟩
 change Code.wp _ _ _ _ (w.alloc (.cells ((mg0C 0 0 0):List Value).toArray 61))
 rw [← hw1]
 have HB2:=hid (show Cs w1 (w.heap.size) ((mg0C 0 0 0):List Value).toArray 61 by rw [hw1];exact Cs.new _ _ _)
 have hm:Mod (fun _=>False) w w1:=by rw [hw1];exact (Mod.refl _ _).alloc _
 have HM0:=hid (show Mod (fun _=>False) w w1 from hm.mono (fun _ _ h=>h.elim))
 have hs1:w1.heap.size=w.heap.size+1:=by rw [hw1];simp
 clear hw1 hm
 go_upto_region 1 with (fail)
 refine Aa 43 [8,9,4] [0,1,2] (fun a0 HA0=>?_)
 have oe0:=ev HA0 0 rfl
 refine QSeq.pure rfl _ (fun E=>Ai rfl (E.v oe0)) ?_
 refine QSeq.call rfl rfl Tryz.func40 (NewReader_R (R:=fun _=>False) (N:=900000) RdR_nil00 (by decide)) (fun E=>Aw (E.d 0 0)) ?_
 rintro e u1_1 ⟨r1,rfl,qrd,hm⟩
 refine ⟨_,rfl,?_⟩
 have Hx1:=hid qrd
 have zu1_1:=hm.size
 have Cx2:=hid (show Mod (fun _=>False) w1 u1_1 from hm)
 clear hm
 clear qrd
 refine QSeq.pure rfl _ (fun E=>Af rfl (E.d 1 0)) ?_
 refine QSeq.nil (t':=[_,_,_]) rfl ?_
 obtain rfl:=HA0.out
 clear HA0 oe0
 simp only [pz,Act.put,sIB,sCZ,sCS]
 have HOG:=hid (MgR.one (mg0_rd (gI_I64 (some [])) (gI_I64 (gI (some [])).2) (gI_I64 (gI (gI (some [])).2).2) (fun _=>False) w))
 go_upto_region 2 with (fail)
 refine Aa 43 [10,11,12,13,14,15,16,17,18,5,53] [0,1,2,3,4,5,6,7,8,9,10] (fun a0 HA0=>?_)
 have oe4:=ev HA0 4 rfl
 refine QSeq.pure rfl _ (fun E=>Ai rfl (E.v oe4)) ?_
 refine QSeq.pure rfl _ (fun E=>Ai rfl (E.v oe4)) ?_
 refine QSeq.call rfl rfl Tryz.func42 (cI_Q Hx1.out) (fun E=>Az (E.d 1 0) rfl) ?_
 rintro e u2_2 ⟨rfl,qrd,hm⟩
 refine ⟨_,rfl,?_⟩
 have Hx3:=hid qrd
 have zu2_2:=hm.size
 have Cx4:=hid (show Mod (fun k=>(New w1 u1_1 k)) u1_1 u2_2 from hm)
 clear hm
 clear qrd Hx1
 refine QSeq.pure rfl _ (fun E=>Ai rfl (E.v oe4)) ?_
 refine QSeq.call rfl rfl Tryz.func42 (cI_Q Hx3.out) (fun E=>Az (E.d 3 0) rfl) ?_
 rintro e u2_4 ⟨rfl,qrd,hm⟩
 refine ⟨_,rfl,?_⟩
 have Hx5:=hid qrd
 have zu2_4:=hm.size
 have HMu2_4:=hid hm
 have Cx6:=hid (Mod.goS (S':=(fun k=>(New w1 u1_1 k))) Cx4.out hm (fun _ h=>h) (by intro k h0 h2;exact h2))
 clear hm Cx4
 clear qrd Hx3
 refine QSeq.pure rfl _ (fun E=>Ai rfl (E.v oe4)) ?_
 refine QSeq.call rfl rfl Tryz.func42 (cI_Q Hx5.out) (fun E=>Az (E.d 5 0) rfl) ?_
 rintro e u2_6 ⟨rfl,qrd,hm⟩
 refine ⟨_,rfl,?_⟩
 have Hx7:=hid qrd
 have zu2_6:=hm.size
 have HMu2_6:=hid hm
 have Cx8:=hid (Mod.goS (S':=(fun k=>(New w1 u1_1 k))) Cx6.out hm (fun _ h=>h) (by intro k h0 h2;exact h2))
 clear hm Cx6
 clear qrd Hx5
 refine QSeq.go fun act E=>?_
 refine qc_run rfl (Ac rfl) (v:=.agg ((mg0C (gI (some [])).1 (gI (gI (some [])).2).1 (gI (gI (gI (some [])).2).2).1):List Value).toArray) (ex_build rfl (z:=(mg0C 0 0 0)) (places:=[(0,1),(1,1),(2,1),(3,37),(40,38),(78,38),(116,38),(154,1),(155,1),(156,1),(157,6),(163,11),(174,38),(212,1),(213,35),(248,34),(282,4),(286,1),(287,8)]) (by kernel_rfl) (parts:=[(0,.int .i64 (gI (some [])).1),(1,.int .i64 (gI (gI (some [])).2).1),(2,.int .i64 (gI (gI (gI (some [])).2).2).1)]) (by simp only [List.map_toArray,List.map_cons,List.map_nil,show act.eval (.tmp 12)=.int .i64 (gI (some [])).1 from (E.d 2 4),show act.eval (.tmp 14)=.int .i64 (gI (gI (some [])).2).1 from (E.d 4 2),show act.eval (.tmp 16)=.int .i64 (gI (gI (gI (some [])).2).2).1 from (E.d 6 0)];try rfl) (r:=(mg0C (gI (some [])).1 (gI (gI (some [])).2).1 (gI (gI (gI (some [])).2).2).1)) (by exact (laid_segs (ns:=mgN) rfl [(0,.int .i64 (gI (some [])).1),(1,.int .i64 (gI (gI (some [])).2).1),(2,.int .i64 (gI (gI (gI (some [])).2).2).1)] (zMg.segs (zCe.cells zS) (zPm.cells zS) (zPr.cells zS zS zS) (zOp.cells zS) (zDc.cells zS zS zS zS)) rfl ⟨rfl,rfl,rfl,trivial⟩).trans rfl)) ?_
 clear act E
 refine QSeq.call rfl rfl Tryz.func41 (get0_Q _ _ _ _ _ _ _ Hx7.out (by intro k h1;omega) ⟨gI_I64 _,gI_kd0⟩ trivial (gI_I64 _) (gI_I64 _)) (fun E=>Az (E.d 0 7) (E.d 7 0)) ?_
 rintro e u2_8 ⟨rfl,qrd,hm⟩
 rw [gI_st0] at qrd
 refine ⟨_,rfl,?_⟩
 have Hx9:=hid qrd
 have zu2_8:=hm.size
 have HMu2_8:=hid hm
 have Cx10:=hid (Mod.goS (S':=(fun k=>(New w1 u1_1 k))) Cx8.out hm (fun _ h=>h) (by intro k h0 h2;exact h2))
 clear hm Cx8
 clear qrd Hx7
 refine QSeq.go fun act E=>?_
 refine qc_alloc rfl (Ac rfl) rfl (z:=(mg0C 0 0 0)) (by kernel_rfl) ?_
 intro u2_9 qB5 hm
 have zl2_9:=qB5.lt
 have Hx11:=hid qB5
 have zu2_9:=hm.size
 have HMu2_9:=hid hm
 have Cx12:=hid (Cx10.out.goE hm)
 clear hm Cx10
 clear act E qB5
 refine QSeq.go fun act E=>?_
 refine Aq rfl (Ac rfl) rfl Hx11.out (off:=0) (vs:=(mg0C (gI (some [])).1 (gI (gI (some [])).2).1 (gI (gI (gI (some [])).2).2).1)) (by kernel_rfl) HOG.out (by show 0+295≤295;decide) (E.d 9 0) (ec (E.d 8 1)) ?_
 intro u2_10 qc0 hm
 have qB5:=qc0.eqv (b:=((mg0C (gI (some [])).1 (gI (gI (some [])).2).1 (gI (gI (gI (some [])).2).2).1):List Value).toArray) (A5 _ _ rfl)
 clear qc0
 have Hx13:=hid qB5
 have zu2_10:=hm.size
 have HMu2_10:=hid hm
 have Cx14:=hid (Mod.goS (S':=(fun k=>(New w1 u1_1 k))) Cx12.out hm (fun _ h=>h) (by intro k h0 h2;omega))
 clear hm Cx12
 clear act E qB5 Hx11
 have Hx15:=hid ((Hx9.out.mod HMu2_9.out (fun _ _ h=>h)).mod HMu2_10.out (by intro k h1 h2;omega))
 clear Hx9 HMu2_4 HMu2_6 HMu2_8 HMu2_9 HMu2_10
 refine QSeq.nil (t':=[_,_,_,_,_,_,_,_,_,_,_]) rfl ?_
 obtain rfl:=HA0.out
 clear HA0 oe4
 simp only [pz,Act.put,sIB,sCZ,sCS,List.set_nil]
 have HZO:=hid (MgR.one (mg0_rd (k:=0) (f:=0) (t:=0) A4 A4 A4 (fun _=>False) w))
 go_upto_region 3 with (fail)
 refine Aa 43 [19,20,21,22,23,24,25,26] [0,1,2,3,4,5,6,7] (fun a0 HA0=>?_)
 have oe4:=ev HA0 4 rfl
 refine QSeq.pure rfl _ (fun E=>Ai rfl (E.v oe4)) ?_
 refine QSeq.go fun act E=>?_
 refine Ap (args:=#[.pointer (some ⟨r1,0,none⟩)]) rfl (Ac rfl) rfl Tryz.func43 (Aw (E.d 0 0)) (OK_R Hx15.out) ?_
 rintro e w2 ⟨rfl,hw2⟩
 obtain rfl:u2_10=w2:=by first|exact hw2|exact hw2.symm
 refine ⟨_,rfl,?_⟩
 clear act E
 refine QSeq.pure rfl (.bool true) (fun E=>ex_not rfl (E.d 1 0)) ?_
 refine QSeq.pure rfl _ (fun E=>Ai rfl (E.d 2 0)) ?_
 refine QSeq.skip rfl (fun E=>((Ae rfl rfl (E.sz 22 (by decide)) (E.d 3 0)).trans rfl)) ?_
 refine QSeq.skip rfl (fun E=>((Ae rfl rfl (E.sz 22 (by decide)) (E.d 3 1)).trans rfl)) ?_
 refine QSeq.skip rfl (fun E=>((Ae rfl rfl (E.sz 22 (by decide)) (E.d 3 2)).trans rfl)) ?_
 refine QSeq.pure rfl (.bool true) (fun E=>ex_pick rfl (E.d 3 3) rfl (E.d 6 0)) ?_
 refine QSeq.nil (t':=[_,_,_,_,_,_,_,_]) rfl ?_
 obtain rfl:=HA0.out
 clear HA0 oe4
 simp only [pz,Act.put,sIB,sCZ,sCS]
 go_upto_region 4 with (fail)
 refine Aa 43 [27,44,3] [0,1,2] (fun a0 HA0=>?_)
 have oe2:=ev HA0 2 rfl
 refine QSeq.pure rfl (.agg ((mg0C 0 0 0):List Value).toArray) (fun E=>ex_build0 rfl (r:=((mg0C 0 0 0):List Value).toArray) (by kernel_rfl)) ?_
 refine QSeq.go fun act E=>?_
 refine Aq rfl (Ac rfl) rfl ((HB2.out.mod Cx2.out (fun h=>h)).mod Cx14.out (by intro h2;omega)) (off:=0) (vs:=(mg0C 0 0 0)) (by kernel_rfl) HZO.out (by show 0+295≤295;decide) (E.v oe2) (ec (E.d 0 0)) ?_
 intro u4_1 qc0 hm
 have qB2:=qc0.eqv (b:=((mg0C 0 0 0):List Value).toArray) (A5 _ _ rfl)
 clear qc0
 have Hx16:=hid qB2
 have zu4_1:=hm.size
 have Cx17:=hid (show Mod (fun k=>(k=w.heap.size)) u2_10 u4_1 from hm)
 clear hm
 clear act E qB2 HB2
 refine QSeq.pure rfl (.bool false) (fun E=>Af rfl rfl) ?_
 refine QSeq.nil (t':=[_,_,_]) rfl ?_
 obtain rfl:=HA0.out
 clear HA0 oe2
 simp only [pz,Act.put,sIB,sCZ,sCS,List.set_nil]
 go_wp2
 exact bodyPost_ret (results_cellA_tmp0 rfl _ _ w.heap.size (mg0C 0 0 0) rfl (fun k u hu=>by rw [Hx16.out.cell];simpa using hu) Tryz.underlying61 rfl (by kernel_rfl)) rfl ⟨rfl,(((HM0.out.trans Cx2.out (fun _ _ h=>h.elim)).trans Cx14.out (by intro k h1 h2;omega)).trans Cx17.out (by intro k h1 h2;omega))⟩
end Go.Proofs.YtnaoeginonpicaaGreat

/- Equality of commitments, names and signatures. -/
namespace Go.Proofs.YtnaoeginonpicaaGreat
open Go Go.RowKit Go.Gv
theorem size_run {P:Program} {T:TypeId} {n:Nat} (h:(P.info? T).map (·.size)=some n) (w:World):(sizeOf T).run P w=.ok n w:=by
 cases hq:P.info? T with
 | none=>rw [hq] at h;cases h
 | some i=>rw [hq] at h;simp [sizeOf,typeInfo,hq];exact Option.some.inj h
theorem part_agg {P:Program} {T:TypeId} {n:Nat} {d:TypeDesc} (hu:P.underlying T=some d) (hd:aggDesc d=true) (h:(P.info? T).map (·.size)=some n) (cs:Array Value) (off:Nat) (w:World):(part T cs off).run P w=.ok (.agg (cs.extract off (off+n))) w:=by
 have hagg:(isAgg T).run P w=.ok true w:=by
  unfold isAgg
  rw [Sem.run_bind,run_underlying hu w]
  cases d<;>simp_all [aggDesc]
 simp [part,hagg,size_run h]
theorem part_one {P:Program} {T:TypeId} {d:TypeDesc} (hu:P.underlying T=some d) (hd:aggDesc d=false) {cs:Array Value} {off:Nat} {v:Value} (hv:cs[off]? = some v) (w:World):(part T cs off).run P w=.ok v w:=by
 have hagg:(isAgg T).run P w=.ok false w:=by
  unfold isAgg
  rw [Sem.run_bind,run_underlying hu w]
  cases d<;>simp_all [aggDesc]
 simp [part,hagg,hv]
end Go.Proofs.YtnaoeginonpicaaGreat

/- Equality of flat things (all cells are ints): they are equal where their cells are. -/
namespace Go.Proofs.YtnaoeginonpicaaGreat
open Go Go.RowKit Go.Gv
/-- cells that are ints of these kinds -/
def KI:List IntKind→List Value→Prop
 | [],[]=>True
 | k :: ks,v :: vs=>(∃ a,v=.int k a)∧KI ks vs
 | _,_=>False
theorem KI.len:∀ {ks:List IntKind} {vs:List Value},KI ks vs→vs.length=ks.length
 | [],[],_=>rfl
 | k :: ks,v :: vs,h=>by simp [KI.len h.2]
 | [],v :: vs,h=>h.elim
 | k :: ks,[],h=>h.elim
theorem KI.append:∀ {ks ks':List IntKind} {a b:List Value},KI ks a→KI ks' b→KI (ks ++ ks') (a ++ b)
 | [],ks',[],b,_,h=>h
 | k :: ks,ks',v :: vs,b,h,h'=>⟨h.1,KI.append h.2 h'⟩
 | [],_,v :: vs,_,h,_=>h.elim
 | k :: ks,_,[],_,h,_=>h.elim
theorem KI.split:∀ {ks ks':List IntKind} {vs:List Value},KI (ks ++ ks') vs→∃ a b,vs=a ++ b∧KI ks a∧KI ks' b
 | [],ks',vs,h=>⟨[],vs,rfl,trivial,h⟩
 | k :: ks,ks',v :: vs,h=>by
  obtain ⟨a,b,rfl,h1,h2⟩:=KI.split h.2
  exact ⟨v :: a,b,rfl,⟨h.1,h1⟩,h2⟩
 | k :: ks,_,[],h=>h.elim
theorem KI.ints {k:IntKind}:∀ {n:Nat} {h:List Int},h.length=n→KI (List.replicate n k) (h.map (Value.int k))
 | 0,[],_=>trivial
 | n+1,a :: h,e=>⟨⟨a,rfl⟩,KI.ints (by simpa using e)⟩
theorem KI.rep {k:IntKind}:∀ {n:Nat} {vs:List Value},KI (List.replicate n k) vs→∃ h:List Int,h.length=n∧vs=h.map (Value.int k)
 | 0,[],_=>⟨[],rfl,rfl⟩
 | 0,v :: vs,h=>h.elim
 | n+1,[],h=>h.elim
 | n+1,v :: vs,h=>by
  obtain ⟨a,rfl⟩:=h.1
  obtain ⟨l,e,rfl⟩:=KI.rep h.2
  exact ⟨a :: l,by simp [e],rfl⟩
def EqW (P:Program) (d:Nat) (T:TypeId) (ks:List IntKind):Prop:=∀ (xs ys:List Value) (c:Bool) (w:World),KI ks xs→KI ks ys→(c=true↔xs=ys)→(Op.equalIn d T (.agg xs.toArray) (.agg ys.toArray)).run P w=.ok c w
def EqT (P:Program) (d:Nat) (T:TypeId) (ks:List IntKind):Prop:=∀ (A B:List Value) (off:Nat) (xs ys:List Value) (c:Bool) (w:World),KI ks xs→KI ks ys→(c=true↔xs=ys)→(A.drop off).take ks.length=xs→(B.drop off).take ks.length=ys→
 ∃ x y,(part T A.toArray off).run P w=.ok x w∧(part T B.toArray off).run P w=.ok y w∧(Op.equalIn d T x y).run P w=.ok c w
theorem ex_bool (p:Prop):∃ c:Bool,(c=true↔p):=by
 rcases Classical.em p with h|h
 ·exact ⟨true,by simp [h]⟩
 ·exact ⟨false,by simp [h]⟩
theorem bool_of {c d:Bool} (h:c=true↔d=true):c=d:=by cases c<;>cases d<;>simp_all
variable {P:Program}
theorem drop_one {A:List Value} {off:Nat} {v:Value} (h:(A.drop off).take 1=[v]):A.toArray[off]? = some v:=by
 have h1:((A.drop off).take 1)[0]? = some v:=by rw [h];rfl
 rw [List.getElem?_take,List.getElem?_drop] at h1
 simpa using h1
theorem EqT.int {d:Nat} {T:TypeId} {k:IntKind} (hu:P.underlying T=some (.int k)):EqT P (d+1) T [k]:=by
 intro A B off xs ys c w hx hy hc ha hb
 match xs,ys,hx,hy with
 | [x],[y],⟨⟨a,e⟩,_⟩,⟨⟨b,e'⟩,_⟩=>
  subst e e'
  refine ⟨_,_,part_one hu rfl (drop_one ha) w,part_one hu rfl (drop_one hb) w,?_⟩
  rw [run_equalIn_int w d T k k a b hu,show (a == b)=c from bool_of (by rw [hc];simp)]
theorem EqT.agg {d:Nat} {T:TypeId} {ks:List IntKind} {de:TypeDesc} (h:EqW P d T ks) (hu:P.underlying T=some de) (hd:aggDesc de=true) (hs:(P.info? T).map (·.size)=some ks.length):EqT P d T ks:=by
 intro A B off xs ys c w hx hy hc ha hb
 have e:∀ (A:List Value),A.toArray.extract off (off+ks.length)=((A.drop off).take ks.length).toArray:=fun A=>by
  apply Array.ext'
  simp [List.extract_eq_take_drop,Nat.add_sub_cancel_left]
 have p1:=part_agg hu hd hs A.toArray off w
 have p2:=part_agg hu hd hs B.toArray off w
 rw [e,ha] at p1
 rw [e,hb] at p2
 exact ⟨_,_,p1,p2,h xs ys c w hx hy hc⟩
theorem EqW.ints {d:Nat} {T e:TypeId} {n:Nat} {k:IntKind} (ht:P.underlying T=some (.array n e)) (he:P.underlying e=some (.int k)) (hs:(P.info? e).map (·.size)=some 1):EqW P (d+2) T (List.replicate n k):=by
 intro xs ys c w hx hy hc
 obtain ⟨a,ha,rfl⟩:=hx.rep
 obtain ⟨b,hb,rfl⟩:=hy.rep
 rw [run_equalIn_ints w d T e n ht he hs a b ha hb]
 rw [show decide (a=b)=c from bool_of (by
  rw [hc,decide_eq_true_iff]
  exact ⟨fun h=>by rw [h],fun h=>(List.map_inj_right (fun x y h=>by injection h)).1 h⟩)]
def FsE (P:Program) (d:Nat):Nat→List Field→List (List IntKind)→Prop
 | _,[],[]=>True
 | off,f :: fs,ks :: l=>f.name ≠ "_" ∧ f.offset=off∧EqT P d f.type ks∧FsE P d (off+ks.length) fs l
 | _,_,_=>False
theorem eqFields_all {d:Nat}:∀ (fs:List Field) (l:List (List IntKind)) (pre pre' xs ys:List Value) (c:Bool) (w:World),FsE P d pre.length fs l→pre'.length=pre.length→KI l.flatten xs→KI l.flatten ys→(c=true↔xs=ys)→
 (Op.eqFields d (pre ++ xs).toArray (pre' ++ ys).toArray fs).run P w=.ok c w
 | [],[],pre,pre',xs,ys,c,w,_,_,hx,hy,hc=>by
  match xs,ys,hx,hy,hc with
  | [],[],_,_,hc=>obtain rfl:c=true:=hc.2 rfl;simp [Op.eqFields]
 | [],_ :: _,_,_,_,_,_,_,h,_,_,_,_=>h.elim
 | _ :: _,[],_,_,_,_,_,_,h,_,_,_,_=>h.elim
 | f :: fs,ks :: l,pre,pre',xs,ys,c,w,⟨h1,h2,h3,h4⟩,hp,hx,hy,hc=>by
  obtain ⟨a,b,rfl,ha,hb⟩:=KI.split (by simpa using hx)
  obtain ⟨a',b',rfl,ha',hb'⟩:=KI.split (by simpa using hy)
  have la:=ha.len
  have la':=ha'.len
  obtain ⟨c1,hc1⟩:=ex_bool (a=a')
  obtain ⟨c2,hc2⟩:=ex_bool (b=b')
  obtain ⟨x,y,p1,p2,q⟩:=h3 (pre ++ (a ++ b)) (pre' ++ (a' ++ b')) pre.length a a' c1 w ha ha' hc1 (by rw [List.drop_left,← la,List.take_left]) (by rw [← hp,List.drop_left,← la',List.take_left])
  have ih:=eqFields_all fs l (pre ++ a) (pre' ++ a') b b' c2 w (by rw [List.length_append,la];exact h4) (by rw [List.length_append,List.length_append,hp,la,la']) hb hb' hc2
  rw [List.append_assoc,List.append_assoc] at ih
  unfold Op.eqFields
  rw [if_pos h1,h2]
  simp only [Sem.run_bind,p1,p2,q,Result.andThen_ok]
  have hcc:c=(c1 && c2):=bool_of (by
   rw [hc,Bool.and_eq_true,hc1,hc2]
   exact ⟨fun h=>List.append_inj h (by rw [la,la']),fun h=>by rw [h.1,h.2]⟩)
  subst hcc
  cases c1
  ·simp
  ·simp [ih]
theorem EqW.struct {d:Nat} {T:TypeId} {fs:Array Field} (l:List (List IntKind)) (hu:P.underlying T=some (.struct fs)) (hs:P.stoodInHeld T=false) (hl:FsE P d 0 fs.toList l):EqW P (d+1) T l.flatten:=by
 intro xs ys c w hx hy hc
 have hf:P.fieldsOf T=fs:=by unfold Program.fieldsOf;rw [hu]
 rw [run_equalIn_struct w d T xs.toArray ys.toArray (by rw [hf];exact hu) hs,hf]
 exact eqFields_all fs.toList l [] [] xs ys c w hl rfl hx hy hc
theorem EqW.run {T:TypeId} {ks:List IntKind} (h:EqW P 10000 T ks) {xs ys:List Value} (hx:KI ks xs) (hy:KI ks ys) {c:Bool} (hc:c=true↔xs=ys) (w:World):(binOp .eql T (.agg xs.toArray) (.agg ys.toArray)).run P w=.ok (.bool (c)) w:=by
 rw [run_eql_struct,h xs ys c w hx hy hc]
 rfl
theorem EqW.runN {T:TypeId} {ks:List IntKind} (h:EqW P 10000 T ks) {xs ys:List Value} (hx:KI ks xs) (hy:KI ks ys) {c:Bool} (hc:c=true↔xs=ys) (w:World):(binOp .neq T (.agg xs.toArray) (.agg ys.toArray)).run P w=.ok (.bool (!c)) w:=by
 rw [run_neq_struct,h xs ys c w hx hy hc]
 rfl
abbrev i3:List IntKind:=[.i64,.i64,.i64]
abbrev kHash:List IntKind:=List.replicate 32 .u8
theorem eqT_int {d:Nat}:EqT Tryz.prog (d+1) 3 [.i64]:=EqT.int Tryz.underlying3
theorem eqT_u64 {d:Nat}:EqT Tryz.prog (d+1) 30 [.u64]:=EqT.int Tryz.underlying30
theorem eqT_hash {d:Nat}:EqT Tryz.prog (d+2) 25 kHash:=EqT.agg (EqW.ints Tryz.underlying25 Tryz.underlying5 (by kernel_rfl)) Tryz.underlying25 rfl (by kernel_rfl)
theorem eqW_name {d:Nat}:EqW Tryz.prog (d+2) 23 [.i64,.i64]:=EqW.struct [[.i64],[.i64]] Tryz.underlying23 (by kernel_rfl) ⟨by decide,rfl,eqT_int,by decide,rfl,eqT_int,trivial⟩
theorem eqT_name {d:Nat}:EqT Tryz.prog (d+2) 23 [.i64,.i64]:=EqT.agg eqW_name Tryz.underlying23 rfl (by kernel_rfl)
theorem eqW_sig {d:Nat}:EqW Tryz.prog (d+2) 27 [.i64,.i64]:=EqW.struct [[.i64],[.i64]] Tryz.underlying27 (by kernel_rfl) ⟨by decide,rfl,eqT_int,by decide,rfl,eqT_int,trivial⟩
theorem eqT_sig {d:Nat}:EqT Tryz.prog (d+2) 27 [.i64,.i64]:=EqT.agg eqW_sig Tryz.underlying27 rfl (by kernel_rfl)
theorem eqW_stamp {d:Nat}:EqW Tryz.prog (d+3) 32 [[.i64],[.i64,.i64],kHash,[.u64],[.i64,.i64]].flatten:=
 EqW.struct [[.i64],[.i64,.i64],kHash,[.u64],[.i64,.i64]] Tryz.underlying32 (by kernel_rfl) ⟨by decide,rfl,eqT_int,by decide,rfl,eqT_name,by decide,rfl,eqT_hash,by decide,rfl,eqT_u64,by decide,rfl,eqT_sig,trivial⟩
theorem eqW_ack {d:Nat}:EqW Tryz.prog (d+3) 37 [[.i64],[.i64,.i64],kHash,[.u64],[.i64,.i64]].flatten:=
 EqW.struct [[.i64],[.i64,.i64],kHash,[.u64],[.i64,.i64]] Tryz.underlying37 (by kernel_rfl) ⟨by decide,rfl,eqT_int,by decide,rfl,eqT_name,by decide,rfl,eqT_hash,by decide,rfl,eqT_u64,by decide,rfl,eqT_sig,trivial⟩
theorem eqW_vote {d:Nat}:EqW Tryz.prog (d+3) 49 [[.i64],[.i64],[.i64],[.i64],kHash,[.i64,.i64]].flatten:=
 EqW.struct [[.i64],[.i64],[.i64],[.i64],kHash,[.i64,.i64]] Tryz.underlying49 (by kernel_rfl) ⟨by decide,rfl,eqT_int,by decide,rfl,eqT_int,by decide,rfl,eqT_int,by decide,rfl,eqT_int,by decide,rfl,eqT_hash,by decide,rfl,eqT_sig,trivial⟩
theorem eqW_deny {d:Nat}:EqW Tryz.prog (d+3) 56 [[.i64],[.i64],[.i64,.i64]].flatten:=
 EqW.struct [[.i64],[.i64],[.i64,.i64]] Tryz.underlying56 (by kernel_rfl) ⟨by decide,rfl,eqT_int,by decide,rfl,eqT_int,by decide,rfl,eqT_sig,trivial⟩
theorem eqW_commit {d:Nat}:EqW Tryz.prog (d+3) 29 [[.i64,.i64],kHash,[.i64],[.i64,.i64]].flatten:=
 EqW.struct [[.i64,.i64],kHash,[.i64],[.i64,.i64]] Tryz.underlying29 (by kernel_rfl) ⟨by decide,rfl,eqT_name,by decide,rfl,eqT_hash,by decide,rfl,eqT_int,by decide,rfl,eqT_sig,trivial⟩
theorem eqW_entry {d:Nat}:EqW Tryz.prog (d+3) 51 [[.i64,.i64],kHash,[.u64]].flatten:=
 EqW.struct [[.i64,.i64],kHash,[.u64]] Tryz.underlying51 (by kernel_rfl) ⟨by decide,rfl,eqT_name,by decide,rfl,eqT_hash,by decide,rfl,eqT_u64,trivial⟩
theorem ki_hash {h:List Int} (e:h.length=32):KI kHash (h.map bv):=KI.ints e
theorem ki_st {x:St} (h:x.OK):KI [[.i64],[.i64,.i64],kHash,[.u64],[.i64,.i64]].flatten x.cells:=by
 have:=KI.append (ks:=[.i64,.i64,.i64]) (a:=[.int .i64 x.rp,.int .i64 x.cl,.int .i64 x.sq]) ⟨⟨_,rfl⟩,⟨_,rfl⟩,⟨_,rfl⟩,trivial⟩ (KI.append (ki_hash h.h.1) (ks':=[.u64,.i64,.i64]) (b:=[.int .u64 (x.tm:Nat),.int .i64 x.sb,.int .i64 x.mr]) ⟨⟨_,rfl⟩,⟨_,rfl⟩,⟨_,rfl⟩,trivial⟩)
 exact this
theorem ki_vt {x:Vt} (h:x.OK):KI [[.i64],[.i64],[.i64],[.i64],kHash,[.i64,.i64]].flatten x.cells:=by
 have:=KI.append (ks:=[.i64,.i64,.i64,.i64]) (a:=[.int .i64 x.kd,.int .i64 x.ep,.int .i64 x.rd,.int .i64 x.rp]) ⟨⟨_,rfl⟩,⟨_,rfl⟩,⟨_,rfl⟩,⟨_,rfl⟩,trivial⟩ (KI.append (ki_hash h.h.1) (ks':=[.i64,.i64]) (b:=[.int .i64 x.sb,.int .i64 x.mr]) ⟨⟨_,rfl⟩,⟨_,rfl⟩,trivial⟩)
 exact this
theorem ki_dn (x:Dn):KI [[.i64],[.i64],[.i64,.i64]].flatten x.cells:=⟨⟨_,rfl⟩,⟨_,rfl⟩,⟨_,rfl⟩,⟨_,rfl⟩,trivial⟩
theorem ki_en {x:En} (h:x.OK):KI [[.i64,.i64],kHash,[.u64]].flatten x.cells:=by
 have:=KI.append (ks:=[.i64,.i64]) (a:=[.int .i64 x.cl,.int .i64 x.sq]) ⟨⟨_,rfl⟩,⟨_,rfl⟩,trivial⟩ (KI.append (ki_hash h.h.1) (ks':=[.u64]) (b:=[.int .u64 (x.tm:Nat)]) ⟨⟨_,rfl⟩,trivial⟩)
 exact this
theorem ki_cm {x:Cm} (h:x.h.length=32):KI [[.i64,.i64],kHash,[.i64],[.i64,.i64]].flatten x.cells:=by
 have:=KI.append (ks:=[.i64,.i64]) (a:=[.int .i64 x.cl,.int .i64 x.sq]) ⟨⟨_,rfl⟩,⟨_,rfl⟩,trivial⟩ (KI.append (ki_hash h) (ks':=[.i64,.i64,.i64]) (b:=[.int .i64 x.ln,.int .i64 x.sb,.int .i64 x.mr]) ⟨⟨_,rfl⟩,⟨_,rfl⟩,⟨_,rfl⟩,trivial⟩)
 exact this
end Go.Proofs.YtnaoeginonpicaaGreat

/- Whether two things are one, in plain words. -/
namespace Go.Proofs.YtnaoeginonpicaaGreat
open Go Go.RowKit Go.Gv
noncomputable def eqb {α:Type} (x y:α):Bool:=@decide (x=y) (Classical.propDecidable _)
theorem eqb_iff {α:Type} {x y:α}:eqb x y=true↔x=y:=by unfold eqb;exact @decide_eq_true_iff _ (Classical.propDecidable _)
theorem eqb_rfl {α:Type} (x:α):eqb x x=true:=eqb_iff.2 rfl
theorem eqb_ne {α:Type} {x y:α} (h:¬ x=y):eqb x y=false:=by
 cases hq:eqb x y with
 | false=>rfl
 | true=>exact absurd (eqb_iff.1 hq) h
theorem ne_tt {a b:Int} (h:a≠b):(!(a == b))=true:=by simp [h]
theorem ne_ff {a b:Int} (h:a=b):(!(a == b))=false:=by simp [h]
theorem dec_eqb {α:Type} (x y:α) [h:Decidable (x=y)]:decide (x=y)=eqb x y:=by
 rw [Bool.eq_iff_iff,eqb_iff,decide_eq_true_iff]
theorem agg_guardE (op:BinOp) (T:TypeId) (x y:Operand) (a b:Array Value) (h:Tryz.prog.eqGuardType Tryz.prog.depth T=false) (w:World):(eqGuard op T x y (.agg a) (.agg b)).run Tryz.prog w=.ok () w:=run_eqGuard_agg (P:=Tryz.prog) w op T x y a b h
theorem hash_inj {a b:List Int} (h:a.map bv=b.map bv):a=b:=(List.map_inj_right (fun a b e=>by injection e)).1 h
theorem ki_2 (a b:Int):KI [.i64,.i64] [Value.int .i64 a,Value.int .i64 b]:=⟨⟨_,rfl⟩,⟨_,rfl⟩,trivial⟩
theorem two_iff (a b c d:Int):eqb (a,b) (c,d)=true↔([Value.int .i64 a,Value.int .i64 b]=[Value.int .i64 c,Value.int .i64 d]):=by
 rw [eqb_iff]
 simp
theorem st_iff {x y:St} (hx:x.OK) (hy:y.OK):eqb x y=true↔x.cells=y.cells:=by
 rw [eqb_iff]
 refine ⟨fun h=>by rw [h],fun h=>?_⟩
 have h1:=List.append_inj h rfl
 have h2:=List.append_inj h1.2 (by simp [hx.h.1,hy.h.1])
 have h3:=hash_inj h2.1
 have h4:=h1.1
 have h5:=h2.2
 simp only [List.cons.injEq,Value.int.injEq,and_true,true_and,Int.ofNat_inj] at h4 h5
 cases x;cases y
 simp_all
theorem vt_iff {x y:Vt} (hx:x.OK) (hy:y.OK):eqb x y=true↔x.cells=y.cells:=by
 rw [eqb_iff]
 refine ⟨fun h=>by rw [h],fun h=>?_⟩
 have h1:=List.append_inj h rfl
 have h2:=List.append_inj h1.2 (by simp [hx.h.1,hy.h.1])
 have h3:=hash_inj h2.1
 have h4:=h1.1
 have h5:=h2.2
 simp only [List.cons.injEq,Value.int.injEq,and_true,true_and,Int.ofNat_inj] at h4 h5
 cases x;cases y
 simp_all
theorem cm_iff {x y:Cm} (hx:x.OK) (hy:y.OK):eqb x y=true↔x.cells=y.cells:=by
 rw [eqb_iff]
 refine ⟨fun h=>by rw [h],fun h=>?_⟩
 have h1:=List.append_inj h rfl
 have h2:=List.append_inj h1.2 (by simp [hx.2.1,hy.2.1])
 have h3:=hash_inj h2.1
 have h4:=h1.1
 have h5:=h2.2
 simp only [List.cons.injEq,Value.int.injEq,and_true,true_and,Int.ofNat_inj] at h4 h5
 cases x;cases y
 simp_all
theorem en_iff {x y:En} (hx:x.OK) (hy:y.OK):eqb x y=true↔x.cells=y.cells:=by
 rw [eqb_iff]
 refine ⟨fun h=>by rw [h],fun h=>?_⟩
 have h1:=List.append_inj h rfl
 have h2:=List.append_inj h1.2 (by simp [hx.h.1,hy.h.1])
 have h3:=hash_inj h2.1
 have h4:=h1.1
 have h5:=h2.2
 simp only [List.cons.injEq,Value.int.injEq,and_true,true_and,Int.ofNat_inj] at h4 h5
 cases x;cases y
 simp_all
theorem dn_iff {x y:Dn} (hx:x.OK) (hy:y.OK):eqb x y=true↔x.cells=y.cells:=by
 rw [eqb_iff]
 refine ⟨fun h=>by rw [h],fun h=>?_⟩
 simp only [Dn.cells,List.cons.injEq,Value.int.injEq,and_true,true_and] at h
 cases x;cases y
 simp_all
theorem ce_eqb (x y:Ce):(eqb x.c y.c && eqb x.l y.l)=eqb x y:=by
 rw [Bool.eq_iff_iff,Bool.and_eq_true,eqb_iff,eqb_iff,eqb_iff]
 cases x;cases y
 simp
theorem beq_I (a b:Int):(a == b)=true↔a=b:=by simp
theorem pm_eqb (x y:Pm):(((((x.rp == y.rp) && (x.ep == y.ep)) && (((x.fl:Nat):Int) == ((y.fl:Nat):Int))) && eqb (x.sb,x.mr) (y.sb,y.mr)) && eqb x.l y.l)=eqb x y:=by
 rw [Bool.eq_iff_iff]
 simp only [Bool.and_eq_true,eqb_iff,beq_I,Int.ofNat_inj,Prod.mk.injEq]
 cases x;cases y
 simp only [Pm.mk.injEq]
 constructor
 ·rintro ⟨⟨⟨⟨h1,h2⟩,h3⟩,h4,h5⟩,h6⟩;exact ⟨h1,h2,h3,h6,h4,h5⟩
 ·rintro ⟨h1,h2,h3,h6,h4,h5⟩;exact ⟨⟨⟨⟨h1,h2⟩,h3⟩,h4,h5⟩,h6⟩
theorem op_eqb (x y:Op):(((x.ix == y.ix) && eqb x.nc y.nc) && eqb x.pl y.pl)=eqb x y:=by
 rw [Bool.eq_iff_iff]
 simp only [Bool.and_eq_true,eqb_iff,beq_I]
 cases x;cases y
 simp only [Op.mk.injEq]
 constructor
 ·rintro ⟨⟨h1,h2⟩,h3⟩;exact ⟨h1,h3,h2⟩
 ·rintro ⟨h1,h3,h2⟩;exact ⟨⟨h1,h2⟩,h3⟩
theorem tb_eqb (x y:Tb):((!(x.ix == y.ix)) || (!eqb x.l y.l))=!eqb x y:=by
 have h:((x.ix == y.ix) && eqb x.l y.l)=eqb x y:=by
  rw [Bool.eq_iff_iff]
  simp only [Bool.and_eq_true,eqb_iff,beq_I]
  cases x;cases y
  simp
 rw [← h]
 cases (x.ix == y.ix)<;>cases eqb x.l y.l<;>rfl
theorem ba_eqb (x y:Ba) (h:(((((!(x.ep == y.ep)) || (!(((x.tm:Nat):Int) == ((y.tm:Nat):Int)))) || (!(((x.ps.length:Nat):Int) == ((y.ps.length:Nat):Int)))) || (!eqb x.os y.os)) || (!eqb x.ts y.ts))=false):eqb x.ps y.ps=eqb x y:=by
 simp only [Bool.or_eq_false_iff,Bool.not_eq_false',eqb_iff,beq_I,Int.ofNat_inj] at h
 obtain ⟨⟨⟨⟨h1,h2⟩,h3⟩,h4⟩,h5⟩:=h
 rw [Bool.eq_iff_iff,eqb_iff,eqb_iff]
 cases x;cases y
 simp_all
theorem ba_neb (x y:Ba) (h:(((((!(x.ep == y.ep)) || (!(((x.tm:Nat):Int) == ((y.tm:Nat):Int)))) || (!(((x.ps.length:Nat):Int) == ((y.ps.length:Nat):Int)))) || (!eqb x.os y.os)) || (!eqb x.ts y.ts))=true):eqb x y=false:=by
 refine eqb_ne fun e=>?_
 subst e
 simp [eqb_rfl] at h
theorem take_ne {α:Type} {l m:List α} {k:Nat} (h1:k < l.length) (h2:k < m.length) (h:¬ l[k]=m[k]):eqb l m=false:=eqb_ne fun e=>h (by subst e;rfl)
theorem take_all {α:Type} {l m:List α} {k:Nat} (h1:l.length≤k) (h2:m.length≤k) (h:l.take k=m.take k):eqb l m=true:=by
 rw [List.take_of_length_le h1,List.take_of_length_le h2] at h
 exact eqb_iff.2 h
theorem take_succ2 {α:Type} {l m:List α} {k:Nat} (h1:k < l.length) (h2:k < m.length) (h:l.take k=m.take k) (he:l[k]=m[k]):l.take (k+1)=m.take (k+1):=by
 rw [List.take_succ_eq_append_getElem h1,List.take_succ_eq_append_getElem h2,h,he]
/-- a function that says whether two things are one; two lists -/
def Eqs {α:Type} (A:Rep α) (F:FuncId):Prop:=∀ (R R2:Nat→Prop) (cs ds:List Value) (x y:α) (w:World),A.rd R w cs x→A.rd R2 w ds y→(∀ k,R k→k < w.heap.size)→(∀ k,R2 k→k < w.heap.size)→
 Calls Tryz.prog F #[.agg cs.toArray,.agg ds.toArray] w fun e w'=>e=.returned (.bool (eqb x y))∧Mod (fun _=>False) w w'
def EqsL {α:Type} (A:Rep α) (F:FuncId):Prop:=∀ (R R2:Nat→Prop) (v v2:Value) (l m:List α) (w:World),RdS A R w v l→RdS A R2 w v2 m→(∀ k,R k→k < w.heap.size)→(∀ k,R2 k→k < w.heap.size)→
 Calls Tryz.prog F #[v,v2] w fun e w'=>e=.returned (.bool (eqb l m))∧Mod (fun _=>False) w w'
theorem Same_B {R R2:Nat→Prop} {N N2:Nat} {va vb:Value} {a b:List Int} {w:World} (ha:RdR R N w va a) (hb:RdR R2 N2 w vb b) :
 Calls Tryz.prog 17 #[va,vb] w fun e w'=>e=.returned (.bool (eqb a b))∧Mod (fun _=>False) w w':=
 (Same_R ha hb).mono fun _ _ ⟨he,hm⟩=>⟨he.trans (by rw [dec_eqb]),hm⟩
end Go.Proofs.YtnaoeginonpicaaGreat

/- msgs.put. -/
namespace Go.Proofs.YtnaoeginonpicaaGreat
open Go Go.RowKit Go.Gv
set_option maxHeartbeats 8000000 in
theorem put_Q:∀ (R R2:Nat→Prop) (g:Nat) (bs:List Int) (cs:List Value) (x:Mg) (w:World),WrR R 900000 w g bs→(∀ k,R k→k < w.heap.size)→MgR.rd R2 w cs x→(∀ k,R2 k→k < w.heap.size)→(∀ k,R k→R2 k→False)→(bs ++ A8 x).length≤900000→
 Calls Tryz.prog 68 #[.pointer (some ⟨g,0,none⟩),.agg cs.toArray] w fun e w'=>e=.returned (.bool (okKd x.kd))∧WrR (fun k=>R k∨New w w' k) 900000 w' g (bs ++ A8 x)∧Mod R w w':=by
 intro R R2 g bs cs x w hW hB hx hB2 hD hl
 obtain ⟨c5,c10,c11,c15,c18,rfl,hok,h5,h10,h11,h15,h18⟩:=hx
 have HLN:=hid (Mg.lns hok h5 h10 h11 h15 h18)
 obtain ⟨d_ps,d_os,d_ts,d_l,rfl,hokd,hd0,hd1,hd2,hd3⟩:=h18
 have HC5:=hid (CeR.len h5)
 have H5:=Lib.hid h5
 have HC10:=hid (PmR.len h10)
 have H10:=Lib.hid h10
 have HC11:=hid (PrR.len h11)
 have H11:=Lib.hid h11
 have HC15:=hid (OpR.len h15)
 have H15:=Lib.hid h15
 have HD0:=Lib.hid hd0
 have HD1:=Lib.hid hd1
 have HD2:=Lib.hid hd2
 have HD3:=Lib.hid hd3
 have HW:=Lib.hid hW
 have HBR:=Lib.hid hB
 have HBT:=Lib.hid hB2
 have HDJ:=Lib.hid hD
 have HOK:=Lib.hid hok
 have HOD:=Lib.hid hokd
 have HL:=Lib.hid hl
 clear hW hB hB2 hD hl hok hokd h5 h10 h11 h15 hd0 hd1 hd2 hd3
 go_enter Tryz.func68,Tryz.ntmps68
 go_upto_region 1 with (fail)
 obtain ⟨w1,hw1⟩:∃ zz,zz=(w.alloc (.cells ((x.segs c5 c10 c11 c15 (x.dc.cells d_ps d_os d_ts d_l)).flatten:List Value).toArray 61)):=⟨_,rfl⟩
 change Code.wp _ _ _ _ (w.alloc (.cells ((x.segs c5 c10 c11 c15 (x.dc.cells d_ps d_os d_ts d_l)).flatten:List Value).toArray 61))
 rw [← hw1]
 have HB3:=hid (show Cs w1 (w.heap.size) ((x.segs c5 c10 c11 c15 (x.dc.cells d_ps d_os d_ts d_l)).flatten:List Value).toArray 61 by rw [hw1];exact Cs.new _ _ _)
 have hm:Mod (fun _=>False) w w1:=by rw [hw1];exact (Mod.refl _ _).alloc _
 have HM0:=hid (show Mod (fun k=>(R k)) w w1 from hm.mono (fun _ _ h=>h.elim))
 have hs1:w1.heap.size=w.heap.size+1:=by rw [hw1];simp
 have Hx1:=hid (HW.out.mod hm (fun _ _ h=>h))
 clear HW
 have Hx2:=hid (H5.out.mod hm (fun _ _ h=>h))
 clear H5
 have Hx3:=hid (H10.out.mod hm (fun _ _ h=>h))
 clear H10
 have Hx4:=hid (H11.out.mod hm (fun _ _ h=>h))
 clear H11
 have Hx5:=hid (H15.out.mod hm (fun _ _ h=>h))
 clear H15
 have Hx6:=hid (HD0.out.mod hm (fun _ _ h=>h))
 clear HD0
 have Hx7:=hid (HD1.out.mod hm (fun _ _ h=>h))
 clear HD1
 have Hx8:=hid (HD2.out.mod hm (fun _ _ h=>h))
 clear HD2
 have Hx9:=hid (HD3.out.mod hm (fun _ _ h=>h))
 clear HD3
 clear hw1 hm
 go_upto_region 1 with (fail)
 refine Aa 120 [5,6] [0,1] (fun a0 HA0=>?_)
 have oe3:=ev HA0 3 rfl
 refine QSeq.pure rfl (.pointer (some ⟨w.heap.size,0,none⟩)) (fun E=>Ad rfl Tryz.underlying61 rfl (by kernel_rfl) (E.v oe3)) ?_
 refine QSeq.pure rfl (.int .i64 x.kd) (fun E=>Aj rfl Tryz.underlying3 rfl (E.d 0 0) (Cs.seg1 HB3.out HLN.out 0 rfl (o:=0) (k:=0) rfl rfl rfl)) ?_
 refine QSeq.nil (t':=[_,_]) rfl ?_
 obtain rfl:=HA0.out
 clear HA0 oe3
 simp only [pz,Act.put,sIB,sCZ,sCS]
 by_cases h1:x.kd=1
 ·have K1:=Lib.hid h1
  clear h1
  go_upto_region 3 with (fail)
  refine Aa 120 [8,7] [0,1] (fun a0 HA0=>?_)
  have oe6:=ev HA0 6 rfl
  refine QSeq.pure rfl (.bool true) (fun E=>An rfl (E.v oe6) rfl (Ag _ _ _ _ _ _) (Al _ _ _ Tryz.underlying3) (congrArg Value.bool (Bi K1.out))) ?_
  refine QSeq.pure rfl _ (fun E=>Af rfl (E.d 0 0)) ?_
  refine QSeq.nil (t':=[_,_]) rfl ?_
  obtain rfl:=HA0.out
  clear HA0 oe6
  simp only [pz,Act.put,sIB,sCZ,sCS]
  have HE:=hid (show A8 x=cmB x.cm by unfold A8;rw [K1.out];rfl)
  rw [HE.out] at HL
  have HQ:=hid (show okKd x.kd=true by rw [K1.out];rfl)
  go_upto_region 4 with (fail)
  refine Aa 120 [9,10,11,12] [0,1,2,3] (fun a0 HA0=>?_)
  have oe0:=ev HA0 0 rfl
  have oe3:=ev HA0 3 rfl
  refine QSeq.pure rfl _ (fun E=>Ai rfl (E.v oe0)) ?_
  refine QSeq.pure rfl (.pointer (some ⟨w.heap.size,3,none⟩)) (fun E=>Ad rfl Tryz.underlying61 rfl (by kernel_rfl) (E.v oe3)) ?_
  refine QSeq.pure rfl _ (fun E=>Am rfl Tryz.underlying29 rfl (off:=3) (cs:=(x.cm.cells)) (by rw [Cm.len HOK.out.cm.2.1];exact size_commit) (E.d 1 0) (Cs.seg HB3.out HLN.out 3 rfl rfl)) ?_
  refine QSeq.call rfl rfl Tryz.func97 (PutCm_Q _ (fun _=>False) _ _ _ x.cm _ Hx1.out (by intro k h1;have hb:=HBR.out k h1;omega) ⟨rfl,HOK.out.cm⟩ (fun _ h=>h.elim) (fun _ _ h=>h.elim) (by have:=HL.out;simp only [List.length_append] at this ⊢; omega)) (fun E=>Az (E.d 0 2) (E.d 2 0)) ?_
  rintro e u4_3 ⟨rfl,qwr,hm⟩
  refine ⟨_,rfl,?_⟩
  have Hx10:=hid (qwr.widen (R':=(fun k=>(R k)∨(New w1 u4_3 k))) (fun _ h=>h) (Nat.le_refl _))
  have zu4_3:=hm.size
  have Cx11:=hid (show Mod (fun k=>(R k)) w1 u4_3 from hm)
  clear hm
  clear qwr Hx1
  refine QSeq.nil (t':=[_,_,_,_]) rfl ?_
  obtain rfl:=HA0.out
  clear HA0 oe0 oe3
  simp only [pz,Act.put,sIB,sCZ,sCS]
  go_upto_region 34 with (fail)
  refine Aa 120 [4] [0] (fun a0 HA0=>?_)
  refine QSeq.pure rfl (.bool true) (fun E=>Af rfl rfl) ?_
  refine QSeq.nil (t':=[_]) rfl ?_
  obtain rfl:=HA0.out
  clear HA0
  simp only [pz,Act.put,sIB,sCZ,sCS]
  go_wp2
  go_ret
  have hq:=(Hx10.out.widen (R':=(fun k=>R k∨New w u4_3 k)) (by intro k h1;rcases h1 with h1|h1<;>first|exact Or.inl h1|(right;omega)) (Nat.le_refl _))
  (try simp only [List.append_assoc] at hq)
  exact ⟨by rw [HQ.out];rfl,by rw [HE.out];simpa only [List.append_assoc] using hq,(HM0.out.trans Cx11.out (fun _ _ h=>h))⟩
 have K1:=Lib.hid h1
 clear h1
 go_upto_region 3 with (fail)
 refine Aa 120 [8,7] [0,1] (fun a0 HA0=>?_)
 have oe6:=ev HA0 6 rfl
 refine QSeq.pure rfl (.bool false) (fun E=>An rfl (E.v oe6) rfl (Ag _ _ _ _ _ _) (Al _ _ _ Tryz.underlying3) (congrArg Value.bool (Bb K1.out))) ?_
 refine QSeq.pure rfl _ (fun E=>Af rfl (E.d 0 0)) ?_
 refine QSeq.nil (t':=[_,_]) rfl ?_
 obtain rfl:=HA0.out
 clear HA0 oe6
 simp only [pz,Act.put,sIB,sCZ,sCS]
 by_cases h2:x.kd=2
 ·have K2:=Lib.hid h2
  clear h2
  go_upto_region 5 with (fail)
  refine Aa 120 [14,13] [0,1] (fun a0 HA0=>?_)
  have oe6:=ev HA0 6 rfl
  refine QSeq.pure rfl (.bool true) (fun E=>An rfl (E.v oe6) rfl (Ag _ _ _ _ _ _) (Al _ _ _ Tryz.underlying3) (congrArg Value.bool (Bi K2.out))) ?_
  refine QSeq.pure rfl _ (fun E=>Af rfl (E.d 0 0)) ?_
  refine QSeq.nil (t':=[_,_]) rfl ?_
  obtain rfl:=HA0.out
  clear HA0 oe6
  simp only [pz,Act.put,sIB,sCZ,sCS]
  have HE:=hid (show A8 x=stB x.st by unfold A8;rw [K2.out];rfl)
  rw [HE.out] at HL
  have HQ:=hid (show okKd x.kd=true by rw [K2.out];rfl)
  go_upto_region 6 with (fail)
  refine Aa 120 [15,16,17,18] [0,1,2,3] (fun a0 HA0=>?_)
  have oe0:=ev HA0 0 rfl
  have oe3:=ev HA0 3 rfl
  refine QSeq.pure rfl _ (fun E=>Ai rfl (E.v oe0)) ?_
  refine QSeq.pure rfl (.pointer (some ⟨w.heap.size,40,none⟩)) (fun E=>Ad rfl Tryz.underlying61 rfl (by kernel_rfl) (E.v oe3)) ?_
  refine QSeq.pure rfl _ (fun E=>Am rfl Tryz.underlying32 rfl (off:=40) (cs:=(x.st.cells)) (by rw [St.len HOK.out.st];kernel_rfl) (E.d 1 0) (Cs.seg HB3.out HLN.out 4 rfl rfl)) ?_
  refine QSeq.call rfl rfl Tryz.func98 (PutSt_Q _ (fun _=>False) _ _ _ x.st _ Hx1.out (by intro k h1;have hb:=HBR.out k h1;omega) ⟨rfl,HOK.out.st⟩ (fun _ h=>h.elim) (fun _ _ h=>h.elim) (by have:=HL.out;simp only [List.length_append] at this ⊢; omega)) (fun E=>Az (E.d 0 2) (E.d 2 0)) ?_
  rintro e u6_3 ⟨rfl,qwr,hm⟩
  refine ⟨_,rfl,?_⟩
  have Hx12:=hid (qwr.widen (R':=(fun k=>(R k)∨(New w1 u6_3 k))) (fun _ h=>h) (Nat.le_refl _))
  have zu6_3:=hm.size
  have Cx13:=hid (show Mod (fun k=>(R k)) w1 u6_3 from hm)
  clear hm
  clear qwr Hx1
  refine QSeq.nil (t':=[_,_,_,_]) rfl ?_
  obtain rfl:=HA0.out
  clear HA0 oe0 oe3
  simp only [pz,Act.put,sIB,sCZ,sCS]
  go_upto_region 34 with (fail)
  refine Aa 120 [4] [0] (fun a0 HA0=>?_)
  refine QSeq.pure rfl (.bool true) (fun E=>Af rfl rfl) ?_
  refine QSeq.nil (t':=[_]) rfl ?_
  obtain rfl:=HA0.out
  clear HA0
  simp only [pz,Act.put,sIB,sCZ,sCS]
  go_wp2
  go_ret
  have hq:=(Hx12.out.widen (R':=(fun k=>R k∨New w u6_3 k)) (by intro k h1;rcases h1 with h1|h1<;>first|exact Or.inl h1|(right;omega)) (Nat.le_refl _))
  (try simp only [List.append_assoc] at hq)
  exact ⟨by rw [HQ.out];rfl,by rw [HE.out];simpa only [List.append_assoc] using hq,(HM0.out.trans Cx13.out (fun _ _ h=>h))⟩
 have K2:=Lib.hid h2
 clear h2
 go_upto_region 5 with (fail)
 refine Aa 120 [14,13] [0,1] (fun a0 HA0=>?_)
 have oe6:=ev HA0 6 rfl
 refine QSeq.pure rfl (.bool false) (fun E=>An rfl (E.v oe6) rfl (Ag _ _ _ _ _ _) (Al _ _ _ Tryz.underlying3) (congrArg Value.bool (Bb K2.out))) ?_
 refine QSeq.pure rfl _ (fun E=>Af rfl (E.d 0 0)) ?_
 refine QSeq.nil (t':=[_,_]) rfl ?_
 obtain rfl:=HA0.out
 clear HA0 oe6
 simp only [pz,Act.put,sIB,sCZ,sCS]
 by_cases h3:x.kd=3
 ·have K3:=Lib.hid h3
  clear h3
  go_upto_region 7 with (fail)
  refine Aa 120 [20,19] [0,1] (fun a0 HA0=>?_)
  have oe6:=ev HA0 6 rfl
  refine QSeq.pure rfl (.bool true) (fun E=>An rfl (E.v oe6) rfl (Ag _ _ _ _ _ _) (Al _ _ _ Tryz.underlying3) (congrArg Value.bool (Bi K3.out))) ?_
  refine QSeq.pure rfl _ (fun E=>Af rfl (E.d 0 0)) ?_
  refine QSeq.nil (t':=[_,_]) rfl ?_
  obtain rfl:=HA0.out
  clear HA0 oe6
  simp only [pz,Act.put,sIB,sCZ,sCS]
  have HE:=hid (show A8 x=ceB x.ce by unfold A8;rw [K3.out];rfl)
  rw [HE.out] at HL
  have HQ:=hid (show okKd x.kd=true by rw [K3.out];rfl)
  go_upto_region 8 with (fail)
  refine Aa 120 [21,22,23,24] [0,1,2,3] (fun a0 HA0=>?_)
  have oe0:=ev HA0 0 rfl
  have oe3:=ev HA0 3 rfl
  refine QSeq.pure rfl _ (fun E=>Ai rfl (E.v oe0)) ?_
  refine QSeq.pure rfl (.pointer (some ⟨w.heap.size,78,none⟩)) (fun E=>Ad rfl Tryz.underlying61 rfl (by kernel_rfl) (E.v oe3)) ?_
  refine QSeq.pure rfl _ (fun E=>Am rfl Tryz.underlying35 rfl (off:=78) (cs:=(c5)) (by rw [HC5.out];kernel_rfl) (E.d 1 0) (Cs.seg HB3.out HLN.out 5 rfl rfl)) ?_
  refine QSeq.call rfl rfl Tryz.func99 (PutCe_Q _ R2 _ _ _ x.ce _ Hx1.out (by intro k h1;have hb:=HBR.out k h1;omega) Hx2.out (by intro k h1;have hb:=HBT.out k h1;omega) (by intro k h1 h2;first|omega|(have hb:=HBR.out k h1;omega)|(have hb:=HBT.out k h2;omega)|exact HDJ.out k h1 h2|exact HDJ.out k h2 h1|(have hb:=HBR.out k h1;have hb2:=HBT.out k h2;omega)) (by have:=HL.out;simp only [List.length_append] at this ⊢; omega)) (fun E=>Az (E.d 0 2) (E.d 2 0)) ?_
  rintro e u8_3 ⟨rfl,qwr,hm⟩
  refine ⟨_,rfl,?_⟩
  have Hx14:=hid (qwr.widen (R':=(fun k=>(R k)∨(New w1 u8_3 k))) (fun _ h=>h) (Nat.le_refl _))
  have zu8_3:=hm.size
  have Cx15:=hid (show Mod (fun k=>(R k)) w1 u8_3 from hm)
  clear hm
  clear qwr Hx1
  refine QSeq.nil (t':=[_,_,_,_]) rfl ?_
  obtain rfl:=HA0.out
  clear HA0 oe0 oe3
  simp only [pz,Act.put,sIB,sCZ,sCS]
  go_upto_region 34 with (fail)
  refine Aa 120 [4] [0] (fun a0 HA0=>?_)
  refine QSeq.pure rfl (.bool true) (fun E=>Af rfl rfl) ?_
  refine QSeq.nil (t':=[_]) rfl ?_
  obtain rfl:=HA0.out
  clear HA0
  simp only [pz,Act.put,sIB,sCZ,sCS]
  go_wp2
  go_ret
  have hq:=(Hx14.out.widen (R':=(fun k=>R k∨New w u8_3 k)) (by intro k h1;rcases h1 with h1|h1<;>first|exact Or.inl h1|(right;omega)) (Nat.le_refl _))
  (try simp only [List.append_assoc] at hq)
  exact ⟨by rw [HQ.out];rfl,by rw [HE.out];simpa only [List.append_assoc] using hq,(HM0.out.trans Cx15.out (fun _ _ h=>h))⟩
 have K3:=Lib.hid h3
 clear h3
 go_upto_region 7 with (fail)
 refine Aa 120 [20,19] [0,1] (fun a0 HA0=>?_)
 have oe6:=ev HA0 6 rfl
 refine QSeq.pure rfl (.bool false) (fun E=>An rfl (E.v oe6) rfl (Ag _ _ _ _ _ _) (Al _ _ _ Tryz.underlying3) (congrArg Value.bool (Bb K3.out))) ?_
 refine QSeq.pure rfl _ (fun E=>Af rfl (E.d 0 0)) ?_
 refine QSeq.nil (t':=[_,_]) rfl ?_
 obtain rfl:=HA0.out
 clear HA0 oe6
 simp only [pz,Act.put,sIB,sCZ,sCS]
 by_cases h4:x.kd=4
 ·have K4:=Lib.hid h4
  clear h4
  go_upto_region 9 with (fail)
  refine Aa 120 [26,25] [0,1] (fun a0 HA0=>?_)
  have oe6:=ev HA0 6 rfl
  refine QSeq.pure rfl (.bool true) (fun E=>An rfl (E.v oe6) rfl (Ag _ _ _ _ _ _) (Al _ _ _ Tryz.underlying3) (congrArg Value.bool (Bi K4.out))) ?_
  refine QSeq.pure rfl _ (fun E=>Af rfl (E.d 0 0)) ?_
  refine QSeq.nil (t':=[_,_]) rfl ?_
  obtain rfl:=HA0.out
  clear HA0 oe6
  simp only [pz,Act.put,sIB,sCZ,sCS]
  have HE:=hid (show A8 x=stB x.ak by unfold A8;rw [K4.out];rfl)
  rw [HE.out] at HL
  have HQ:=hid (show okKd x.kd=true by rw [K4.out];rfl)
  go_upto_region 10 with (fail)
  refine Aa 120 [27,28,29,30] [0,1,2,3] (fun a0 HA0=>?_)
  have oe0:=ev HA0 0 rfl
  have oe3:=ev HA0 3 rfl
  refine QSeq.pure rfl _ (fun E=>Ai rfl (E.v oe0)) ?_
  refine QSeq.pure rfl (.pointer (some ⟨w.heap.size,116,none⟩)) (fun E=>Ad rfl Tryz.underlying61 rfl (by kernel_rfl) (E.v oe3)) ?_
  refine QSeq.pure rfl _ (fun E=>Am rfl Tryz.underlying37 rfl (off:=116) (cs:=(x.ak.cells)) (by rw [St.len HOK.out.ak];kernel_rfl) (E.d 1 0) (Cs.seg HB3.out HLN.out 6 rfl rfl)) ?_
  refine QSeq.call rfl rfl Tryz.func100 (PutAk_Q _ (fun _=>False) _ _ _ x.ak _ Hx1.out (by intro k h1;have hb:=HBR.out k h1;omega) ⟨rfl,HOK.out.ak⟩ (fun _ h=>h.elim) (fun _ _ h=>h.elim) (by have:=HL.out;simp only [List.length_append] at this ⊢; omega)) (fun E=>Az (E.d 0 2) (E.d 2 0)) ?_
  rintro e u10_3 ⟨rfl,qwr,hm⟩
  refine ⟨_,rfl,?_⟩
  have Hx16:=hid (qwr.widen (R':=(fun k=>(R k)∨(New w1 u10_3 k))) (fun _ h=>h) (Nat.le_refl _))
  have zu10_3:=hm.size
  have Cx17:=hid (show Mod (fun k=>(R k)) w1 u10_3 from hm)
  clear hm
  clear qwr Hx1
  refine QSeq.nil (t':=[_,_,_,_]) rfl ?_
  obtain rfl:=HA0.out
  clear HA0 oe0 oe3
  simp only [pz,Act.put,sIB,sCZ,sCS]
  go_upto_region 34 with (fail)
  refine Aa 120 [4] [0] (fun a0 HA0=>?_)
  refine QSeq.pure rfl (.bool true) (fun E=>Af rfl rfl) ?_
  refine QSeq.nil (t':=[_]) rfl ?_
  obtain rfl:=HA0.out
  clear HA0
  simp only [pz,Act.put,sIB,sCZ,sCS]
  go_wp2
  go_ret
  have hq:=(Hx16.out.widen (R':=(fun k=>R k∨New w u10_3 k)) (by intro k h1;rcases h1 with h1|h1<;>first|exact Or.inl h1|(right;omega)) (Nat.le_refl _))
  (try simp only [List.append_assoc] at hq)
  exact ⟨by rw [HQ.out];rfl,by rw [HE.out];simpa only [List.append_assoc] using hq,(HM0.out.trans Cx17.out (fun _ _ h=>h))⟩
 have K4:=Lib.hid h4
 clear h4
 go_upto_region 9 with (fail)
 refine Aa 120 [26,25] [0,1] (fun a0 HA0=>?_)
 have oe6:=ev HA0 6 rfl
 refine QSeq.pure rfl (.bool false) (fun E=>An rfl (E.v oe6) rfl (Ag _ _ _ _ _ _) (Al _ _ _ Tryz.underlying3) (congrArg Value.bool (Bb K4.out))) ?_
 refine QSeq.pure rfl _ (fun E=>Af rfl (E.d 0 0)) ?_
 refine QSeq.nil (t':=[_,_]) rfl ?_
 obtain rfl:=HA0.out
 clear HA0 oe6
 simp only [pz,Act.put,sIB,sCZ,sCS]
 by_cases h5:x.kd=5
 ·have K5:=Lib.hid h5
  clear h5
  go_upto_region 11 with (fail)
  refine Aa 120 [32,31] [0,1] (fun a0 HA0=>?_)
  have oe6:=ev HA0 6 rfl
  refine QSeq.pure rfl (.bool true) (fun E=>An rfl (E.v oe6) rfl (Ag _ _ _ _ _ _) (Al _ _ _ Tryz.underlying3) (congrArg Value.bool (Bi K5.out))) ?_
  refine QSeq.pure rfl _ (fun E=>Af rfl (E.d 0 0)) ?_
  refine QSeq.nil (t':=[_,_]) rfl ?_
  obtain rfl:=HA0.out
  clear HA0 oe6
  simp only [pz,Act.put,sIB,sCZ,sCS]
  have HE:=hid (show A8 x=encI x.ep ++ encI x.rn ++ encN x.tm by unfold A8;rw [K5.out];rfl)
  rw [HE.out] at HL
  have HQ:=hid (show okKd x.kd=true by rw [K5.out];rfl)
  go_upto_region 12 with (fail)
  generalize ha0:Act.mk _ _=a0
  have oe0:a0.eval (.tmp 0)=.pointer (some ⟨g,0,none⟩):=by rw [← ha0];rfl
  have oe3:a0.eval (.tmp 3)=.pointer (some ⟨w.heap.size,0,none⟩):=by rw [← ha0];rfl
  have hsz0:a0.tmps.size=120:=by rw [← ha0];rfl
  have HA0:=hid ha0
  clear ha0
  refine A3 120 hsz0 [33,34,35,36,37,38,39,40,41,42] (fun k=>(R k)) (fun k j=>(k=0∧((R j)))∨(k=1∧((R j)))∨(k=2∧((R j)))) (by intro k j h;(try dsimp only at h ⊢);rcases h with ⟨-,h⟩|⟨-,h⟩|⟨-,h⟩;(exact h);(exact h);(exact h)) [qi (.pointer (some ⟨g,0,none⟩)),qi (.pointer (some ⟨w.heap.size,154,none⟩)),qi (.int .i64 x.ep),qi (.pointer (some ⟨g,0,none⟩)),qi (.pointer (some ⟨w.heap.size,155,none⟩)),qi (.int .i64 x.rn),qi (.pointer (some ⟨g,0,none⟩)),qi (.pointer (some ⟨w.heap.size,156,none⟩)),qi (.int .u64 (x.tm:Nat)),qi (.pointer (some ⟨g,0,none⟩))] ⟨Ab,Ab,Ab,Ab,Ab,Ab,Ab,Ab,Ab,Ab,trivial⟩ [3,6,9] ⟨?_,?_,?_,?_,?_,?_,?_,?_,?_,?_,trivial⟩ ?_
  ·exact stq (fun E=>Ai rfl (E.v oe0))
  ·exact stq (fun E=>Ad rfl Tryz.underlying61 rfl (by kernel_rfl) (E.v oe3))
  ·exact stq (fun E=>Aj rfl Tryz.underlying3 rfl (E.d 1) (Cs.seg1 (HB3.out.mod E.m (by intro h2;rcases h2 with ⟨h0,h2⟩|h2<;>first|omega|(have hb:=HBR.out _ h2;omega))) HLN.out 7 rfl (o:=154) (k:=0) rfl rfl rfl))
  ·exact Ah rfl
  ·exact stq (fun E=>Ad rfl Tryz.underlying61 rfl (by kernel_rfl) (E.v oe3))
  ·exact stq (fun E=>Aj rfl Tryz.underlying3 rfl (E.d 4) (Cs.seg1 (HB3.out.mod E.m (by intro h2;rcases h2 with ⟨h0,h2⟩|h2<;>first|omega|(have hb:=HBR.out _ h2;omega))) HLN.out 8 rfl (o:=155) (k:=0) rfl rfl rfl))
  ·exact Ah rfl
  ·exact stq (fun E=>Ad rfl Tryz.underlying61 rfl (by kernel_rfl) (E.v oe3))
  ·exact stq (fun E=>Aj rfl Tryz.underlying30 rfl (E.d 7) (Cs.seg1 (HB3.out.mod E.m (by intro h2;rcases h2 with ⟨h0,h2⟩|h2<;>first|omega|(have hb:=HBR.out _ h2;omega))) HLN.out 9 rfl (o:=156) (k:=0) rfl rfl rfl))
  ·exact Ah rfl
  intro u12_0 hr
  have zu12_0:=hr.size
  have Cx18:=hid (hr.new (S:=(fun k=>(R k))))
  have Hx19:=hid (Hx1.out.mod hr (by intro k h1 h2;have hb:=HBR.out k h1;omega))
  clear Hx1
  clear hr
  refine QChain.go fun Z act E=>?_
  refine Ap (args:=#[.pointer (some ⟨g,0,none⟩),.int .i64 x.ep]) rfl (Ac rfl) rfl Tryz.func67 (Az (E.d 0) (E.d 2)) (Bo Hx19.out HOK.out.ep (by have:=HL.out;simp only [List.length_append] at this ⊢; omega)) ?_
  rintro e u12_1a ⟨rfl,qwr,hm⟩
  have zu12_1a:=hm.size
  refine ⟨_,rfl,hm.mono (by intro k hk h;first|omega|exact Or.inl ⟨(by have hb:=HBR.out k h;omega),Or.inl ⟨rfl,h⟩⟩),(fun _=>rfl),?_⟩
  intro u12_1 hr
  have zu12_1:=hr.size
  have Hx20:=hid ((qwr.widen (R':=(fun k=>(R k)∨(New u12_0 u12_1a k))) (fun _ h=>h) (Nat.le_refl _)).mod hr (by intro k h1 h2;rcases h1 with h1|h1<;>first|omega|(have hb:=HBR.out k h1;omega)))
  have Cx21:=hid (Cx18.out.goM hm hr (fun _ _ h=>h))
  clear Cx18 hm hr Z act E qwr Hx19
  refine QChain.go fun Z act E=>?_
  refine Ap (args:=#[.pointer (some ⟨g,0,none⟩),.int .i64 x.rn]) rfl (Ac rfl) rfl Tryz.func67 (Az (E.d 3) (E.d 5)) (Bo Hx20.out HOK.out.rn (by have:=HL.out;simp only [List.length_append] at this ⊢; omega)) ?_
  rintro e u12_2a ⟨rfl,qwr,hm⟩
  have zu12_2a:=hm.size
  refine ⟨_,rfl,hm.mono (by intro k hk h;rcases h with h|h<;>first|omega|exact Or.inl ⟨(by have hb:=HBR.out k h;omega),Or.inr (Or.inl ⟨rfl,h⟩)⟩),(fun _=>rfl),?_⟩
  intro u12_2 hr
  have zu12_2:=hr.size
  have Hx22:=hid ((qwr.widen (R':=(fun k=>(R k)∨(New u12_0 u12_1a k)∨(New u12_1 u12_2a k))) (by intro k h1;simp only [or_assoc] at h1 ⊢; exact h1) (Nat.le_refl _)).mod hr (by intro k h1 h2;rcases h1 with h1|h1|h1<;>first|omega|(have hb:=HBR.out k h1;omega)))
  have Cx23:=hid (Cx21.out.goM hm hr (by intro k h0 h2;rcases h2 with h2|h2<;>first|omega|exact h2))
  clear Cx21 hm hr Z act E qwr Hx20
  refine QChain.go fun Z act E=>?_
  refine Ap (args:=#[.pointer (some ⟨g,0,none⟩),.int .u64 (x.tm:Nat)]) rfl (Ac rfl) rfl Tryz.func96 (Az (E.d 6) (E.d 8)) (WNum_Q Hx22.out HOK.out.tm (by have:=HL.out;simp only [List.length_append] at this ⊢; omega)) ?_
  rintro e u12_3a ⟨rfl,qwr,hm⟩
  have zu12_3a:=hm.size
  refine ⟨_,rfl,hm.mono (by intro k hk h;rcases h with h|h|h<;>first|omega|exact Or.inl ⟨(by have hb:=HBR.out k h;omega),Or.inr (Or.inr (⟨rfl,h⟩))⟩),(fun _=>rfl),?_⟩
  intro u12_3 hr
  have zu12_3:=hr.size
  have Hx24:=hid ((qwr.widen (R':=(fun k=>(R k)∨(New u12_0 u12_1a k)∨(New u12_1 u12_2a k)∨(New u12_2 u12_3a k))) (by intro k h1;simp only [or_assoc] at h1 ⊢; exact h1) (Nat.le_refl _)).mod hr (by intro k h1 h2;rcases h1 with h1|h1|h1|h1<;>first|omega|(have hb:=HBR.out k h1;omega)))
  have Cx25:=hid (Cx23.out.goM hm hr (by intro k h0 h2;rcases h2 with h2|h2|h2<;>first|omega|exact h2))
  clear Cx23 hm hr Z act E qwr Hx22
  refine QChain.nil fun vs hl hzz hrows hne=>?_
  obtain ⟨Z,hYZ,hZb,hV⟩:=hzz
  have f0:=fvi hV hl 0
  have f3:=fvi hV hl 3
  have f6:=fvi hV hl 6
  have f9:=fvi hV hl 9
  rw [show vs=[gw vs 0,gw vs 1,gw vs 2,gw vs 3,gw vs 4,gw vs 5,gw vs 6,gw vs 7,gw vs 8,gw vs 9] from (Be hl).trans rfl]
  have ha0:=HA0.out
  subst ha0
  clear HA0 hV hYZ hZb hsz0 hrows hne oe0 oe3
  simp only [Au,Act.put,sIB,sCZ,sCS,f0,f3,f6,f9]
  clear hl f0 f3 f6 f9
  go_upto_region 34 with (fail)
  refine Aa 120 [4] [0] (fun a0 HA0=>?_)
  refine QSeq.pure rfl (.bool true) (fun E=>Af rfl rfl) ?_
  refine QSeq.nil (t':=[_]) rfl ?_
  obtain rfl:=HA0.out
  clear HA0
  simp only [pz,Act.put,sIB,sCZ,sCS]
  go_wp2
  go_ret
  have hq:=(Hx24.out.widen (R':=(fun k=>R k∨New w u12_3 k)) (by intro k h1;rcases h1 with h1|h1|h1|h1<;>first|exact Or.inl h1|(right;omega)) (Nat.le_refl _))
  (try simp only [List.append_assoc] at hq)
  exact ⟨by rw [HQ.out];rfl,by rw [HE.out];simpa only [List.append_assoc] using hq,(HM0.out.trans Cx25.out (fun _ _ h=>h))⟩
 have K5:=Lib.hid h5
 clear h5
 go_upto_region 11 with (fail)
 refine Aa 120 [32,31] [0,1] (fun a0 HA0=>?_)
 have oe6:=ev HA0 6 rfl
 refine QSeq.pure rfl (.bool false) (fun E=>An rfl (E.v oe6) rfl (Ag _ _ _ _ _ _) (Al _ _ _ Tryz.underlying3) (congrArg Value.bool (Bb K5.out))) ?_
 refine QSeq.pure rfl _ (fun E=>Af rfl (E.d 0 0)) ?_
 refine QSeq.nil (t':=[_,_]) rfl ?_
 obtain rfl:=HA0.out
 clear HA0 oe6
 simp only [pz,Act.put,sIB,sCZ,sCS]
 by_cases h6:x.kd=6
 ·have K6:=Lib.hid h6
  clear h6
  go_upto_region 13 with (fail)
  refine Aa 120 [44,43] [0,1] (fun a0 HA0=>?_)
  have oe6:=ev HA0 6 rfl
  refine QSeq.pure rfl (.bool true) (fun E=>An rfl (E.v oe6) rfl (Ag _ _ _ _ _ _) (Al _ _ _ Tryz.underlying3) (congrArg Value.bool (Bi K6.out))) ?_
  refine QSeq.pure rfl _ (fun E=>Af rfl (E.d 0 0)) ?_
  refine QSeq.nil (t':=[_,_]) rfl ?_
  obtain rfl:=HA0.out
  clear HA0 oe6
  simp only [pz,Act.put,sIB,sCZ,sCS]
  have HE:=hid (show A8 x=pmB x.pm by unfold A8;rw [K6.out];rfl)
  rw [HE.out] at HL
  have HQ:=hid (show okKd x.kd=true by rw [K6.out];rfl)
  go_upto_region 14 with (fail)
  refine Aa 120 [45,46,47,48] [0,1,2,3] (fun a0 HA0=>?_)
  have oe0:=ev HA0 0 rfl
  have oe3:=ev HA0 3 rfl
  refine QSeq.pure rfl _ (fun E=>Ai rfl (E.v oe0)) ?_
  refine QSeq.pure rfl (.pointer (some ⟨w.heap.size,157,none⟩)) (fun E=>Ad rfl Tryz.underlying61 rfl (by kernel_rfl) (E.v oe3)) ?_
  refine QSeq.pure rfl _ (fun E=>Am rfl Tryz.underlying40 rfl (off:=157) (cs:=(c10)) (by rw [HC10.out];kernel_rfl) (E.d 1 0) (Cs.seg HB3.out HLN.out 10 rfl rfl)) ?_
  refine QSeq.call rfl rfl Tryz.func101 (PutPm_Q _ R2 _ _ _ x.pm _ Hx1.out (by intro k h1;have hb:=HBR.out k h1;omega) Hx3.out (by intro k h1;have hb:=HBT.out k h1;omega) (by intro k h1 h2;first|omega|(have hb:=HBR.out k h1;omega)|(have hb:=HBT.out k h2;omega)|exact HDJ.out k h1 h2|exact HDJ.out k h2 h1|(have hb:=HBR.out k h1;have hb2:=HBT.out k h2;omega)) (by have:=HL.out;simp only [List.length_append] at this ⊢; omega)) (fun E=>Az (E.d 0 2) (E.d 2 0)) ?_
  rintro e u14_3 ⟨rfl,qwr,hm⟩
  refine ⟨_,rfl,?_⟩
  have Hx26:=hid (qwr.widen (R':=(fun k=>(R k)∨(New w1 u14_3 k))) (fun _ h=>h) (Nat.le_refl _))
  have zu14_3:=hm.size
  have Cx27:=hid (show Mod (fun k=>(R k)) w1 u14_3 from hm)
  clear hm
  clear qwr Hx1
  refine QSeq.nil (t':=[_,_,_,_]) rfl ?_
  obtain rfl:=HA0.out
  clear HA0 oe0 oe3
  simp only [pz,Act.put,sIB,sCZ,sCS]
  go_upto_region 34 with (fail)
  refine Aa 120 [4] [0] (fun a0 HA0=>?_)
  refine QSeq.pure rfl (.bool true) (fun E=>Af rfl rfl) ?_
  refine QSeq.nil (t':=[_]) rfl ?_
  obtain rfl:=HA0.out
  clear HA0
  simp only [pz,Act.put,sIB,sCZ,sCS]
  go_wp2
  go_ret
  have hq:=(Hx26.out.widen (R':=(fun k=>R k∨New w u14_3 k)) (by intro k h1;rcases h1 with h1|h1<;>first|exact Or.inl h1|(right;omega)) (Nat.le_refl _))
  (try simp only [List.append_assoc] at hq)
  exact ⟨by rw [HQ.out];rfl,by rw [HE.out];simpa only [List.append_assoc] using hq,(HM0.out.trans Cx27.out (fun _ _ h=>h))⟩
 have K6:=Lib.hid h6
 clear h6
 go_upto_region 13 with (fail)
 refine Aa 120 [44,43] [0,1] (fun a0 HA0=>?_)
 have oe6:=ev HA0 6 rfl
 refine QSeq.pure rfl (.bool false) (fun E=>An rfl (E.v oe6) rfl (Ag _ _ _ _ _ _) (Al _ _ _ Tryz.underlying3) (congrArg Value.bool (Bb K6.out))) ?_
 refine QSeq.pure rfl _ (fun E=>Af rfl (E.d 0 0)) ?_
 refine QSeq.nil (t':=[_,_]) rfl ?_
 obtain rfl:=HA0.out
 clear HA0 oe6
 simp only [pz,Act.put,sIB,sCZ,sCS]
 by_cases h7:x.kd=7
 ·have K7:=Lib.hid h7
  clear h7
  go_upto_region 15 with (fail)
  refine Aa 120 [50,49] [0,1] (fun a0 HA0=>?_)
  have oe6:=ev HA0 6 rfl
  refine QSeq.pure rfl (.bool true) (fun E=>An rfl (E.v oe6) rfl (Ag _ _ _ _ _ _) (Al _ _ _ Tryz.underlying3) (congrArg Value.bool (Bi K7.out))) ?_
  refine QSeq.pure rfl _ (fun E=>Af rfl (E.d 0 0)) ?_
  refine QSeq.nil (t':=[_,_]) rfl ?_
  obtain rfl:=HA0.out
  clear HA0 oe6
  simp only [pz,Act.put,sIB,sCZ,sCS]
  have HE:=hid (show A8 x=prB x.pr by unfold A8;rw [K7.out];rfl)
  rw [HE.out] at HL
  have HQ:=hid (show okKd x.kd=true by rw [K7.out];rfl)
  go_upto_region 16 with (fail)
  refine Aa 120 [51,52,53,54] [0,1,2,3] (fun a0 HA0=>?_)
  have oe0:=ev HA0 0 rfl
  have oe3:=ev HA0 3 rfl
  refine QSeq.pure rfl _ (fun E=>Ai rfl (E.v oe0)) ?_
  refine QSeq.pure rfl (.pointer (some ⟨w.heap.size,163,none⟩)) (fun E=>Ad rfl Tryz.underlying61 rfl (by kernel_rfl) (E.v oe3)) ?_
  refine QSeq.pure rfl _ (fun E=>Am rfl Tryz.underlying47 rfl (off:=163) (cs:=(c11)) (by rw [HC11.out];kernel_rfl) (E.d 1 0) (Cs.seg HB3.out HLN.out 11 rfl rfl)) ?_
  refine QSeq.call rfl rfl Tryz.func102 (PutPr_Q _ R2 _ _ _ x.pr _ Hx1.out (by intro k h1;have hb:=HBR.out k h1;omega) Hx4.out (by intro k h1;have hb:=HBT.out k h1;omega) (by intro k h1 h2;first|omega|(have hb:=HBR.out k h1;omega)|(have hb:=HBT.out k h2;omega)|exact HDJ.out k h1 h2|exact HDJ.out k h2 h1|(have hb:=HBR.out k h1;have hb2:=HBT.out k h2;omega)) (by have:=HL.out;simp only [List.length_append] at this ⊢; omega)) (fun E=>Az (E.d 0 2) (E.d 2 0)) ?_
  rintro e u16_3 ⟨rfl,qwr,hm⟩
  refine ⟨_,rfl,?_⟩
  have Hx28:=hid (qwr.widen (R':=(fun k=>(R k)∨(New w1 u16_3 k))) (fun _ h=>h) (Nat.le_refl _))
  have zu16_3:=hm.size
  have Cx29:=hid (show Mod (fun k=>(R k)) w1 u16_3 from hm)
  clear hm
  clear qwr Hx1
  refine QSeq.nil (t':=[_,_,_,_]) rfl ?_
  obtain rfl:=HA0.out
  clear HA0 oe0 oe3
  simp only [pz,Act.put,sIB,sCZ,sCS]
  go_upto_region 34 with (fail)
  refine Aa 120 [4] [0] (fun a0 HA0=>?_)
  refine QSeq.pure rfl (.bool true) (fun E=>Af rfl rfl) ?_
  refine QSeq.nil (t':=[_]) rfl ?_
  obtain rfl:=HA0.out
  clear HA0
  simp only [pz,Act.put,sIB,sCZ,sCS]
  go_wp2
  go_ret
  have hq:=(Hx28.out.widen (R':=(fun k=>R k∨New w u16_3 k)) (by intro k h1;rcases h1 with h1|h1<;>first|exact Or.inl h1|(right;omega)) (Nat.le_refl _))
  (try simp only [List.append_assoc] at hq)
  exact ⟨by rw [HQ.out];rfl,by rw [HE.out];simpa only [List.append_assoc] using hq,(HM0.out.trans Cx29.out (fun _ _ h=>h))⟩
 have K7:=Lib.hid h7
 clear h7
 go_upto_region 15 with (fail)
 refine Aa 120 [50,49] [0,1] (fun a0 HA0=>?_)
 have oe6:=ev HA0 6 rfl
 refine QSeq.pure rfl (.bool false) (fun E=>An rfl (E.v oe6) rfl (Ag _ _ _ _ _ _) (Al _ _ _ Tryz.underlying3) (congrArg Value.bool (Bb K7.out))) ?_
 refine QSeq.pure rfl _ (fun E=>Af rfl (E.d 0 0)) ?_
 refine QSeq.nil (t':=[_,_]) rfl ?_
 obtain rfl:=HA0.out
 clear HA0 oe6
 simp only [pz,Act.put,sIB,sCZ,sCS]
 by_cases h8:x.kd=8
 ·have K8:=Lib.hid h8
  clear h8
  go_upto_region 17 with (fail)
  refine Aa 120 [56,55] [0,1] (fun a0 HA0=>?_)
  have oe6:=ev HA0 6 rfl
  refine QSeq.pure rfl (.bool true) (fun E=>An rfl (E.v oe6) rfl (Ag _ _ _ _ _ _) (Al _ _ _ Tryz.underlying3) (congrArg Value.bool (Bi K8.out))) ?_
  refine QSeq.pure rfl _ (fun E=>Af rfl (E.d 0 0)) ?_
  refine QSeq.nil (t':=[_,_]) rfl ?_
  obtain rfl:=HA0.out
  clear HA0 oe6
  simp only [pz,Act.put,sIB,sCZ,sCS]
  have HE:=hid (show A8 x=vtB x.vt by unfold A8;rw [K8.out];rfl)
  rw [HE.out] at HL
  have HQ:=hid (show okKd x.kd=true by rw [K8.out];rfl)
  go_upto_region 18 with (fail)
  refine Aa 120 [57,58,59,60] [0,1,2,3] (fun a0 HA0=>?_)
  have oe0:=ev HA0 0 rfl
  have oe3:=ev HA0 3 rfl
  refine QSeq.pure rfl _ (fun E=>Ai rfl (E.v oe0)) ?_
  refine QSeq.pure rfl (.pointer (some ⟨w.heap.size,174,none⟩)) (fun E=>Ad rfl Tryz.underlying61 rfl (by kernel_rfl) (E.v oe3)) ?_
  refine QSeq.pure rfl _ (fun E=>Am rfl Tryz.underlying49 rfl (off:=174) (cs:=(x.vt.cells)) (by rw [Vt.len HOK.out.vt];kernel_rfl) (E.d 1 0) (Cs.seg HB3.out HLN.out 12 rfl rfl)) ?_
  refine QSeq.call rfl rfl Tryz.func103 (PutVt_Q _ (fun _=>False) _ _ _ x.vt _ Hx1.out (by intro k h1;have hb:=HBR.out k h1;omega) ⟨rfl,HOK.out.vt⟩ (fun _ h=>h.elim) (fun _ _ h=>h.elim) (by have:=HL.out;simp only [List.length_append] at this ⊢; omega)) (fun E=>Az (E.d 0 2) (E.d 2 0)) ?_
  rintro e u18_3 ⟨rfl,qwr,hm⟩
  refine ⟨_,rfl,?_⟩
  have Hx30:=hid (qwr.widen (R':=(fun k=>(R k)∨(New w1 u18_3 k))) (fun _ h=>h) (Nat.le_refl _))
  have zu18_3:=hm.size
  have Cx31:=hid (show Mod (fun k=>(R k)) w1 u18_3 from hm)
  clear hm
  clear qwr Hx1
  refine QSeq.nil (t':=[_,_,_,_]) rfl ?_
  obtain rfl:=HA0.out
  clear HA0 oe0 oe3
  simp only [pz,Act.put,sIB,sCZ,sCS]
  go_upto_region 34 with (fail)
  refine Aa 120 [4] [0] (fun a0 HA0=>?_)
  refine QSeq.pure rfl (.bool true) (fun E=>Af rfl rfl) ?_
  refine QSeq.nil (t':=[_]) rfl ?_
  obtain rfl:=HA0.out
  clear HA0
  simp only [pz,Act.put,sIB,sCZ,sCS]
  go_wp2
  go_ret
  have hq:=(Hx30.out.widen (R':=(fun k=>R k∨New w u18_3 k)) (by intro k h1;rcases h1 with h1|h1<;>first|exact Or.inl h1|(right;omega)) (Nat.le_refl _))
  (try simp only [List.append_assoc] at hq)
  exact ⟨by rw [HQ.out];rfl,by rw [HE.out];simpa only [List.append_assoc] using hq,(HM0.out.trans Cx31.out (fun _ _ h=>h))⟩
 have K8:=Lib.hid h8
 clear h8
 go_upto_region 17 with (fail)
 refine Aa 120 [56,55] [0,1] (fun a0 HA0=>?_)
 have oe6:=ev HA0 6 rfl
 refine QSeq.pure rfl (.bool false) (fun E=>An rfl (E.v oe6) rfl (Ag _ _ _ _ _ _) (Al _ _ _ Tryz.underlying3) (congrArg Value.bool (Bb K8.out))) ?_
 refine QSeq.pure rfl _ (fun E=>Af rfl (E.d 0 0)) ?_
 refine QSeq.nil (t':=[_,_]) rfl ?_
 obtain rfl:=HA0.out
 clear HA0 oe6
 simp only [pz,Act.put,sIB,sCZ,sCS]
 by_cases h9:x.kd=9
 ·have K9:=Lib.hid h9
  clear h9
  go_upto_region 19 with (fail)
  refine Aa 120 [62,61] [0,1] (fun a0 HA0=>?_)
  have oe6:=ev HA0 6 rfl
  refine QSeq.pure rfl (.bool true) (fun E=>An rfl (E.v oe6) rfl (Ag _ _ _ _ _ _) (Al _ _ _ Tryz.underlying3) (congrArg Value.bool (Bi K9.out))) ?_
  refine QSeq.pure rfl _ (fun E=>Af rfl (E.d 0 0)) ?_
  refine QSeq.nil (t':=[_,_]) rfl ?_
  obtain rfl:=HA0.out
  clear HA0 oe6
  simp only [pz,Act.put,sIB,sCZ,sCS]
  have HE:=hid (show A8 x=encI x.ix ++ enB x.en by unfold A8;rw [K9.out];rfl)
  rw [HE.out] at HL
  have HQ:=hid (show okKd x.kd=true by rw [K9.out];rfl)
  go_upto_region 20 with (fail)
  refine Aa 120 [63,64,65,66] [0,1,2,3] (fun a0 HA0=>?_)
  have oe0:=ev HA0 0 rfl
  have oe3:=ev HA0 3 rfl
  refine QSeq.pure rfl _ (fun E=>Ai rfl (E.v oe0)) ?_
  refine QSeq.pure rfl (.pointer (some ⟨w.heap.size,212,none⟩)) (fun E=>Ad rfl Tryz.underlying61 rfl (by kernel_rfl) (E.v oe3)) ?_
  refine QSeq.pure rfl (.int .i64 x.ix) (fun E=>Aj rfl Tryz.underlying3 rfl (E.d 1 0) (Cs.seg1 HB3.out HLN.out 13 rfl (o:=212) (k:=0) rfl rfl rfl)) ?_
  refine QSeq.call rfl rfl Tryz.func67 (Bo Hx1.out HOK.out.ix (by have:=HL.out;simp only [List.length_append] at this ⊢; omega)) (fun E=>Az (E.d 0 2) (E.d 2 0)) ?_
  rintro e u20_3 ⟨rfl,qwr,hm⟩
  refine ⟨_,rfl,?_⟩
  have Hx32:=hid (qwr.widen (R':=(fun k=>(R k)∨(New w1 u20_3 k))) (fun _ h=>h) (Nat.le_refl _))
  have zu20_3:=hm.size
  have Cx33:=hid (show Mod (fun k=>(R k)) w1 u20_3 from hm)
  clear hm
  clear qwr Hx1
  refine QSeq.nil (t':=[_,_,_,_]) rfl ?_
  obtain rfl:=HA0.out
  clear HA0 oe0 oe3
  simp only [pz,Act.put,sIB,sCZ,sCS]
  go_upto_region 21 with (fail)
  refine Aa 120 [67,68,69,70] [0,1,2,3] (fun a0 HA0=>?_)
  have oe0:=ev HA0 0 rfl
  have oe3:=ev HA0 3 rfl
  refine QSeq.pure rfl _ (fun E=>Ai rfl (E.v oe0)) ?_
  refine QSeq.pure rfl (.pointer (some ⟨w.heap.size,213,none⟩)) (fun E=>Ad rfl Tryz.underlying61 rfl (by kernel_rfl) (E.v oe3)) ?_
  refine QSeq.pure rfl _ (fun E=>Am rfl Tryz.underlying51 rfl (off:=213) (cs:=(x.en.cells)) (by rw [En.len HOK.out.en];kernel_rfl) (E.d 1 0) (Cs.seg (HB3.out.mod Cx33.out (by intro h2;first|omega|(have hb:=HBR.out _ h2;omega))) HLN.out 14 rfl rfl)) ?_
  refine QSeq.call rfl rfl Tryz.func104 (PutEn_Q _ (fun _=>False) _ _ _ x.en _ Hx32.out (by intro k h1;rcases h1 with h1|h1<;>first|omega|(have hb:=HBR.out k h1;omega)) ⟨rfl,HOK.out.en⟩ (fun _ h=>h.elim) (fun _ _ h=>h.elim) (by have:=HL.out;simp only [List.length_append] at this ⊢; omega)) (fun E=>Az (E.d 0 2) (E.d 2 0)) ?_
  rintro e u21_3 ⟨rfl,qwr,hm⟩
  refine ⟨_,rfl,?_⟩
  have Hx34:=hid (qwr.widen (R':=(fun k=>(R k)∨(New w1 u20_3 k)∨(New u20_3 u21_3 k))) (by intro k h1;simp only [or_assoc] at h1 ⊢; exact h1) (Nat.le_refl _))
  have zu21_3:=hm.size
  have Cx35:=hid (show Mod (fun k=>(R k)∨(New w1 u20_3 k)) u20_3 u21_3 from hm)
  clear hm
  clear qwr Hx32
  refine QSeq.nil (t':=[_,_,_,_]) rfl ?_
  obtain rfl:=HA0.out
  clear HA0 oe0 oe3
  simp only [pz,Act.put,sIB,sCZ,sCS]
  go_upto_region 34 with (fail)
  refine Aa 120 [4] [0] (fun a0 HA0=>?_)
  refine QSeq.pure rfl (.bool true) (fun E=>Af rfl rfl) ?_
  refine QSeq.nil (t':=[_]) rfl ?_
  obtain rfl:=HA0.out
  clear HA0
  simp only [pz,Act.put,sIB,sCZ,sCS]
  go_wp2
  go_ret
  have hq:=(Hx34.out.widen (R':=(fun k=>R k∨New w u21_3 k)) (by intro k h1;rcases h1 with h1|h1|h1<;>first|exact Or.inl h1|(right;omega)) (Nat.le_refl _))
  (try simp only [List.append_assoc] at hq)
  exact ⟨by rw [HQ.out];rfl,by rw [HE.out];simpa only [List.append_assoc] using hq,((HM0.out.trans Cx33.out (fun _ _ h=>h)).trans Cx35.out (by intro k h1 h2;rcases h2 with h2|h2<;>first|exact h2|omega|(have hb:=HBR.out k h2;omega)))⟩
 have K9:=Lib.hid h9
 clear h9
 go_upto_region 19 with (fail)
 refine Aa 120 [62,61] [0,1] (fun a0 HA0=>?_)
 have oe6:=ev HA0 6 rfl
 refine QSeq.pure rfl (.bool false) (fun E=>An rfl (E.v oe6) rfl (Ag _ _ _ _ _ _) (Al _ _ _ Tryz.underlying3) (congrArg Value.bool (Bb K9.out))) ?_
 refine QSeq.pure rfl _ (fun E=>Af rfl (E.d 0 0)) ?_
 refine QSeq.nil (t':=[_,_]) rfl ?_
 obtain rfl:=HA0.out
 clear HA0 oe6
 simp only [pz,Act.put,sIB,sCZ,sCS]
 by_cases h10:x.kd=10
 ·have K10:=Lib.hid h10
  clear h10
  go_upto_region 22 with (fail)
  refine Aa 120 [72,71] [0,1] (fun a0 HA0=>?_)
  have oe6:=ev HA0 6 rfl
  refine QSeq.pure rfl (.bool true) (fun E=>An rfl (E.v oe6) rfl (Ag _ _ _ _ _ _) (Al _ _ _ Tryz.underlying3) (congrArg Value.bool (Bi K10.out))) ?_
  refine QSeq.pure rfl _ (fun E=>Af rfl (E.d 0 0)) ?_
  refine QSeq.nil (t':=[_,_]) rfl ?_
  obtain rfl:=HA0.out
  clear HA0 oe6
  simp only [pz,Act.put,sIB,sCZ,sCS]
  have HE:=hid (show A8 x=opB x.op by unfold A8;rw [K10.out];rfl)
  rw [HE.out] at HL
  have HQ:=hid (show okKd x.kd=true by rw [K10.out];rfl)
  go_upto_region 23 with (fail)
  refine Aa 120 [73,74,75,76] [0,1,2,3] (fun a0 HA0=>?_)
  have oe0:=ev HA0 0 rfl
  have oe3:=ev HA0 3 rfl
  refine QSeq.pure rfl _ (fun E=>Ai rfl (E.v oe0)) ?_
  refine QSeq.pure rfl (.pointer (some ⟨w.heap.size,248,none⟩)) (fun E=>Ad rfl Tryz.underlying61 rfl (by kernel_rfl) (E.v oe3)) ?_
  refine QSeq.pure rfl _ (fun E=>Am rfl Tryz.underlying54 rfl (off:=248) (cs:=(c15)) (by rw [HC15.out];kernel_rfl) (E.d 1 0) (Cs.seg HB3.out HLN.out 15 rfl rfl)) ?_
  refine QSeq.call rfl rfl Tryz.func105 (PutOp_Q _ R2 _ _ _ x.op _ Hx1.out (by intro k h1;have hb:=HBR.out k h1;omega) Hx5.out (by intro k h1;have hb:=HBT.out k h1;omega) (by intro k h1 h2;first|omega|(have hb:=HBR.out k h1;omega)|(have hb:=HBT.out k h2;omega)|exact HDJ.out k h1 h2|exact HDJ.out k h2 h1|(have hb:=HBR.out k h1;have hb2:=HBT.out k h2;omega)) (by have:=HL.out;simp only [List.length_append] at this ⊢; omega)) (fun E=>Az (E.d 0 2) (E.d 2 0)) ?_
  rintro e u23_3 ⟨rfl,qwr,hm⟩
  refine ⟨_,rfl,?_⟩
  have Hx36:=hid (qwr.widen (R':=(fun k=>(R k)∨(New w1 u23_3 k))) (fun _ h=>h) (Nat.le_refl _))
  have zu23_3:=hm.size
  have Cx37:=hid (show Mod (fun k=>(R k)) w1 u23_3 from hm)
  clear hm
  clear qwr Hx1
  refine QSeq.nil (t':=[_,_,_,_]) rfl ?_
  obtain rfl:=HA0.out
  clear HA0 oe0 oe3
  simp only [pz,Act.put,sIB,sCZ,sCS]
  go_upto_region 34 with (fail)
  refine Aa 120 [4] [0] (fun a0 HA0=>?_)
  refine QSeq.pure rfl (.bool true) (fun E=>Af rfl rfl) ?_
  refine QSeq.nil (t':=[_]) rfl ?_
  obtain rfl:=HA0.out
  clear HA0
  simp only [pz,Act.put,sIB,sCZ,sCS]
  go_wp2
  go_ret
  have hq:=(Hx36.out.widen (R':=(fun k=>R k∨New w u23_3 k)) (by intro k h1;rcases h1 with h1|h1<;>first|exact Or.inl h1|(right;omega)) (Nat.le_refl _))
  (try simp only [List.append_assoc] at hq)
  exact ⟨by rw [HQ.out];rfl,by rw [HE.out];simpa only [List.append_assoc] using hq,(HM0.out.trans Cx37.out (fun _ _ h=>h))⟩
 have K10:=Lib.hid h10
 clear h10
 go_upto_region 22 with (fail)
 refine Aa 120 [72,71] [0,1] (fun a0 HA0=>?_)
 have oe6:=ev HA0 6 rfl
 refine QSeq.pure rfl (.bool false) (fun E=>An rfl (E.v oe6) rfl (Ag _ _ _ _ _ _) (Al _ _ _ Tryz.underlying3) (congrArg Value.bool (Bb K10.out))) ?_
 refine QSeq.pure rfl _ (fun E=>Af rfl (E.d 0 0)) ?_
 refine QSeq.nil (t':=[_,_]) rfl ?_
 obtain rfl:=HA0.out
 clear HA0 oe6
 simp only [pz,Act.put,sIB,sCZ,sCS]
 by_cases h11:x.kd=11
 ·have K11:=Lib.hid h11
  clear h11
  go_upto_region 24 with (fail)
  refine Aa 120 [78,77] [0,1] (fun a0 HA0=>?_)
  have oe6:=ev HA0 6 rfl
  refine QSeq.pure rfl (.bool true) (fun E=>An rfl (E.v oe6) rfl (Ag _ _ _ _ _ _) (Al _ _ _ Tryz.underlying3) (congrArg Value.bool (Bi K11.out))) ?_
  refine QSeq.pure rfl _ (fun E=>Af rfl (E.d 0 0)) ?_
  refine QSeq.nil (t':=[_,_]) rfl ?_
  obtain rfl:=HA0.out
  clear HA0 oe6
  simp only [pz,Act.put,sIB,sCZ,sCS]
  have HE:=hid (show A8 x=encI x.ix by unfold A8;rw [K11.out];rfl)
  rw [HE.out] at HL
  have HQ:=hid (show okKd x.kd=true by rw [K11.out];rfl)
  go_upto_region 25 with (fail)
  refine Aa 120 [79,80,81,82] [0,1,2,3] (fun a0 HA0=>?_)
  have oe0:=ev HA0 0 rfl
  have oe3:=ev HA0 3 rfl
  refine QSeq.pure rfl _ (fun E=>Ai rfl (E.v oe0)) ?_
  refine QSeq.pure rfl (.pointer (some ⟨w.heap.size,212,none⟩)) (fun E=>Ad rfl Tryz.underlying61 rfl (by kernel_rfl) (E.v oe3)) ?_
  refine QSeq.pure rfl (.int .i64 x.ix) (fun E=>Aj rfl Tryz.underlying3 rfl (E.d 1 0) (Cs.seg1 HB3.out HLN.out 13 rfl (o:=212) (k:=0) rfl rfl rfl)) ?_
  refine QSeq.call rfl rfl Tryz.func67 (Bo Hx1.out HOK.out.ix (by have:=HL.out;simp only [List.length_append] at this ⊢; omega)) (fun E=>Az (E.d 0 2) (E.d 2 0)) ?_
  rintro e u25_3 ⟨rfl,qwr,hm⟩
  refine ⟨_,rfl,?_⟩
  have Hx38:=hid (qwr.widen (R':=(fun k=>(R k)∨(New w1 u25_3 k))) (fun _ h=>h) (Nat.le_refl _))
  have zu25_3:=hm.size
  have Cx39:=hid (show Mod (fun k=>(R k)) w1 u25_3 from hm)
  clear hm
  clear qwr Hx1
  refine QSeq.nil (t':=[_,_,_,_]) rfl ?_
  obtain rfl:=HA0.out
  clear HA0 oe0 oe3
  simp only [pz,Act.put,sIB,sCZ,sCS]
  go_upto_region 34 with (fail)
  refine Aa 120 [4] [0] (fun a0 HA0=>?_)
  refine QSeq.pure rfl (.bool true) (fun E=>Af rfl rfl) ?_
  refine QSeq.nil (t':=[_]) rfl ?_
  obtain rfl:=HA0.out
  clear HA0
  simp only [pz,Act.put,sIB,sCZ,sCS]
  go_wp2
  go_ret
  have hq:=(Hx38.out.widen (R':=(fun k=>R k∨New w u25_3 k)) (by intro k h1;rcases h1 with h1|h1<;>first|exact Or.inl h1|(right;omega)) (Nat.le_refl _))
  (try simp only [List.append_assoc] at hq)
  exact ⟨by rw [HQ.out];rfl,by rw [HE.out];simpa only [List.append_assoc] using hq,(HM0.out.trans Cx39.out (fun _ _ h=>h))⟩
 have K11:=Lib.hid h11
 clear h11
 go_upto_region 24 with (fail)
 refine Aa 120 [78,77] [0,1] (fun a0 HA0=>?_)
 have oe6:=ev HA0 6 rfl
 refine QSeq.pure rfl (.bool false) (fun E=>An rfl (E.v oe6) rfl (Ag _ _ _ _ _ _) (Al _ _ _ Tryz.underlying3) (congrArg Value.bool (Bb K11.out))) ?_
 refine QSeq.pure rfl _ (fun E=>Af rfl (E.d 0 0)) ?_
 refine QSeq.nil (t':=[_,_]) rfl ?_
 obtain rfl:=HA0.out
 clear HA0 oe6
 simp only [pz,Act.put,sIB,sCZ,sCS]
 by_cases h12:x.kd=12
 ·have K12:=Lib.hid h12
  clear h12
  go_upto_region 26 with (fail)
  refine Aa 120 [84,83] [0,1] (fun a0 HA0=>?_)
  have oe6:=ev HA0 6 rfl
  refine QSeq.pure rfl (.bool true) (fun E=>An rfl (E.v oe6) rfl (Ag _ _ _ _ _ _) (Al _ _ _ Tryz.underlying3) (congrArg Value.bool (Bi K12.out))) ?_
  refine QSeq.pure rfl _ (fun E=>Af rfl (E.d 0 0)) ?_
  refine QSeq.nil (t':=[_,_]) rfl ?_
  obtain rfl:=HA0.out
  clear HA0 oe6
  simp only [pz,Act.put,sIB,sCZ,sCS]
  have HE:=hid (show A8 x=dnB x.dn by unfold A8;rw [K12.out];rfl)
  rw [HE.out] at HL
  have HQ:=hid (show okKd x.kd=true by rw [K12.out];rfl)
  go_upto_region 27 with (fail)
  refine Aa 120 [85,86,87,88] [0,1,2,3] (fun a0 HA0=>?_)
  have oe0:=ev HA0 0 rfl
  have oe3:=ev HA0 3 rfl
  refine QSeq.pure rfl _ (fun E=>Ai rfl (E.v oe0)) ?_
  refine QSeq.pure rfl (.pointer (some ⟨w.heap.size,282,none⟩)) (fun E=>Ad rfl Tryz.underlying61 rfl (by kernel_rfl) (E.v oe3)) ?_
  refine QSeq.pure rfl _ (fun E=>Am rfl Tryz.underlying56 rfl (off:=282) (cs:=(x.dn.cells)) (by kernel_rfl) (E.d 1 0) (Cs.seg HB3.out HLN.out 16 rfl rfl)) ?_
  refine QSeq.call rfl rfl Tryz.func106 (PutDn_Q _ (fun _=>False) _ _ _ x.dn _ Hx1.out (by intro k h1;have hb:=HBR.out k h1;omega) ⟨rfl,HOK.out.dn⟩ (fun _ h=>h.elim) (fun _ _ h=>h.elim) (by have:=HL.out;simp only [List.length_append] at this ⊢; omega)) (fun E=>Az (E.d 0 2) (E.d 2 0)) ?_
  rintro e u27_3 ⟨rfl,qwr,hm⟩
  refine ⟨_,rfl,?_⟩
  have Hx40:=hid (qwr.widen (R':=(fun k=>(R k)∨(New w1 u27_3 k))) (fun _ h=>h) (Nat.le_refl _))
  have zu27_3:=hm.size
  have Cx41:=hid (show Mod (fun k=>(R k)) w1 u27_3 from hm)
  clear hm
  clear qwr Hx1
  refine QSeq.nil (t':=[_,_,_,_]) rfl ?_
  obtain rfl:=HA0.out
  clear HA0 oe0 oe3
  simp only [pz,Act.put,sIB,sCZ,sCS]
  go_upto_region 34 with (fail)
  refine Aa 120 [4] [0] (fun a0 HA0=>?_)
  refine QSeq.pure rfl (.bool true) (fun E=>Af rfl rfl) ?_
  refine QSeq.nil (t':=[_]) rfl ?_
  obtain rfl:=HA0.out
  clear HA0
  simp only [pz,Act.put,sIB,sCZ,sCS]
  go_wp2
  go_ret
  have hq:=(Hx40.out.widen (R':=(fun k=>R k∨New w u27_3 k)) (by intro k h1;rcases h1 with h1|h1<;>first|exact Or.inl h1|(right;omega)) (Nat.le_refl _))
  (try simp only [List.append_assoc] at hq)
  exact ⟨by rw [HQ.out];rfl,by rw [HE.out];simpa only [List.append_assoc] using hq,(HM0.out.trans Cx41.out (fun _ _ h=>h))⟩
 have K12:=Lib.hid h12
 clear h12
 go_upto_region 26 with (fail)
 refine Aa 120 [84,83] [0,1] (fun a0 HA0=>?_)
 have oe6:=ev HA0 6 rfl
 refine QSeq.pure rfl (.bool false) (fun E=>An rfl (E.v oe6) rfl (Ag _ _ _ _ _ _) (Al _ _ _ Tryz.underlying3) (congrArg Value.bool (Bb K12.out))) ?_
 refine QSeq.pure rfl _ (fun E=>Af rfl (E.d 0 0)) ?_
 refine QSeq.nil (t':=[_,_]) rfl ?_
 obtain rfl:=HA0.out
 clear HA0 oe6
 simp only [pz,Act.put,sIB,sCZ,sCS]
 by_cases h13:x.kd=13
 ·have K13:=Lib.hid h13
  clear h13
  go_upto_region 28 with (fail)
  refine Aa 120 [90,89] [0,1] (fun a0 HA0=>?_)
  have oe6:=ev HA0 6 rfl
  refine QSeq.pure rfl (.bool true) (fun E=>An rfl (E.v oe6) rfl (Ag _ _ _ _ _ _) (Al _ _ _ Tryz.underlying3) (congrArg Value.bool (Bi K13.out))) ?_
  refine QSeq.pure rfl _ (fun E=>Af rfl (E.d 0 0)) ?_
  refine QSeq.nil (t':=[_,_]) rfl ?_
  obtain rfl:=HA0.out
  clear HA0 oe6
  simp only [pz,Act.put,sIB,sCZ,sCS]
  have HE:=hid (show A8 x=encI x.ix ++ (encN (Bg x.rp).length ++ Bg x.rp) by unfold A8;rw [K13.out];rfl)
  rw [HE.out] at HL
  have HQ:=hid (show okKd x.kd=true by rw [K13.out];rfl)
  go_upto_region 29 with (fail)
  generalize ha0:Act.mk _ _=a0
  have oe0:a0.eval (.tmp 0)=.pointer (some ⟨g,0,none⟩):=by rw [← ha0];rfl
  have oe3:a0.eval (.tmp 3)=.pointer (some ⟨w.heap.size,0,none⟩):=by rw [← ha0];rfl
  have hsz0:a0.tmps.size=120:=by rw [← ha0];rfl
  have HA0:=hid ha0
  clear ha0
  refine A3 120 hsz0 [91,92,93,94,95,96,97,98] (fun k=>(R k)) (fun k j=>(k=0∧((R j)))∨(k=1∧((R j)))) (by intro k j h;(try dsimp only at h ⊢);rcases h with ⟨-,h⟩|⟨-,h⟩;(exact h);(exact h)) [qi (.pointer (some ⟨g,0,none⟩)),qi (.pointer (some ⟨w.heap.size,212,none⟩)),qi (.int .i64 x.ix),qi (.pointer (some ⟨g,0,none⟩)),qi (.pointer (some ⟨w.heap.size,286,none⟩)),qi (.string x.rp),qr w1.heap.size (fun j=>R j) (fun R w v=>RdR R 1000000 w v (Bg x.rp)),qi (.pointer (some ⟨g,0,none⟩))] ⟨Ab,Ab,Ab,Ab,Ab,Ab,(qr_stable rdR_cells),Ab,trivial⟩ [3,7] ⟨?_,?_,?_,?_,?_,?_,?_,?_,trivial⟩ ?_
  ·exact stq (fun E=>Ai rfl (E.v oe0))
  ·exact stq (fun E=>Ad rfl Tryz.underlying61 rfl (by kernel_rfl) (E.v oe3))
  ·exact stq (fun E=>Aj rfl Tryz.underlying3 rfl (E.d 1) (Cs.seg1 (HB3.out.mod E.m (by intro h2;rcases h2 with ⟨h0,h2⟩|h2<;>first|omega|(have hb:=HBR.out _ h2;omega))) HLN.out 13 rfl (o:=212) (k:=0) rfl rfl rfl))
  ·exact Ah rfl
  ·exact stq (fun E=>Ad rfl Tryz.underlying61 rfl (by kernel_rfl) (E.v oe3))
  ·exact stq (fun E=>Aj rfl Tryz.underlying9 rfl (E.d 4) (Cs.seg1 (HB3.out.mod E.m (by intro h2;rcases h2 with ⟨h0,h2⟩|h2<;>first|omega|(have hb:=HBR.out _ h2;omega))) HLN.out 17 rfl (o:=286) (k:=0) rfl rfl rfl))
  ·refine Av rfl rfl rfl fun _ _ _ _ hZ hm _ _ _ hd _ _=>?_
   have h5:=hd ⟨5,.data⟩ (by simp) rfl _ rfl
   exact qe_strB rfl (Ac rfl) rfl h5 (by have:=HL.out;simp only [List.length_append] at this;rw [← bytesOf_len];omega) (by have:=hm.size;omega) (fun j hj=>(hZ j hj).2) (fun _ _ h=>h)
  ·exact Ah rfl
  intro u29_0 hr
  have zu29_0:=hr.size
  have Cx42:=hid (hr.new (S:=(fun k=>(R k))))
  have Hx43:=hid (Hx1.out.mod hr (by intro k h1 h2;have hb:=HBR.out k h1;omega))
  clear Hx1
  clear hr
  refine QChain.go fun Z act E=>?_
  refine Ap (args:=#[.pointer (some ⟨g,0,none⟩),.int .i64 x.ix]) rfl (Ac rfl) rfl Tryz.func67 (Az (E.d 0) (E.d 2)) (Bo Hx43.out HOK.out.ix (by have:=HL.out;simp only [List.length_append] at this ⊢; omega)) ?_
  rintro e u29_1a ⟨rfl,qwr,hm⟩
  have zu29_1a:=hm.size
  refine ⟨_,rfl,hm.mono (by intro k hk h;first|omega|exact Or.inl ⟨(by have hb:=HBR.out k h;omega),Or.inl ⟨rfl,h⟩⟩),(fun _=>rfl),?_⟩
  intro u29_1 hr
  have zu29_1:=hr.size
  have Hx44:=hid ((qwr.widen (R':=(fun k=>(R k)∨(New u29_0 u29_1a k))) (fun _ h=>h) (Nat.le_refl _)).mod hr (by intro k h1 h2;rcases h1 with h1|h1<;>first|omega|(have hb:=HBR.out k h1;omega)))
  have Cx45:=hid (Cx42.out.goM hm hr (fun _ _ h=>h))
  clear Cx42 hm hr Z act E qwr Hx43
  refine QChain.go fun Z act E=>?_
  have h6q:qr w1.heap.size (fun j=>R j) (fun R w v=>RdR R 1000000 w v (Bg x.rp)) Z ([] ++ [.pointer (some ⟨g,0,none⟩)]) (act.eval (.tmp 97)) _:=E.d 6
  obtain ⟨R2q,hR2,hrd2⟩:=h6q
  refine Ap (args:=#[.pointer (some ⟨g,0,none⟩),act.eval (.tmp 97)]) rfl (Ac rfl) rfl Tryz.func107 (Az (E.d 3) rfl) (WRow_Q Hx44.out hrd2 (by intro k h1 h2;have hr2:=hR2 k h1;rcases h2 with h2|h2<;>first|exact hr2.2.1 ⟨(by have hb:=HBR.out k h2;omega),h2⟩|exact hr2.2.2 ⟨by omega,E.YZ k (by (try dsimp only);omega)⟩) (by have:=HL.out;simp only [List.length_append] at this ⊢; omega)) ?_
  rintro e u29_2a ⟨rfl,qwr,hm⟩
  have zu29_2a:=hm.size
  refine ⟨_,rfl,hm.mono (by intro k hk h;rcases h with h|h<;>first|omega|exact Or.inl ⟨(by have hb:=HBR.out k h;omega),Or.inr (⟨rfl,h⟩)⟩),(fun _=>rfl),?_⟩
  intro u29_2 hr
  have zu29_2:=hr.size
  have Hx46:=hid ((qwr.widen (R':=(fun k=>(R k)∨(New u29_0 u29_1a k)∨(New u29_1 u29_2a k))) (by intro k h1;simp only [or_assoc] at h1 ⊢; exact h1) (Nat.le_refl _)).mod hr (by intro k h1 h2;rcases h1 with h1|h1|h1<;>first|omega|(have hb:=HBR.out k h1;omega)))
  have Cx47:=hid (Cx45.out.goM hm hr (by intro k h0 h2;rcases h2 with h2|h2<;>first|omega|exact h2))
  clear Cx45 hm hr qwr Hx44
  refine QChain.nil fun vs hl hzz hrows hne=>?_
  obtain ⟨Z,hYZ,hZb,hV⟩:=hzz
  have f0:=fvi hV hl 0
  have f3:=fvi hV hl 3
  have f7:=fvi hV hl 7
  rw [show vs=[gw vs 0,gw vs 1,gw vs 2,gw vs 3,gw vs 4,gw vs 5,gw vs 6,gw vs 7] from (Be hl).trans rfl]
  have ha0:=HA0.out
  subst ha0
  clear HA0 hV hYZ hZb hsz0 hrows hne oe0 oe3
  simp only [Au,Act.put,sIB,sCZ,sCS,f0,f3,f7]
  clear hl f0 f3 f7
  go_upto_region 34 with (fail)
  refine Aa 120 [4] [0] (fun a0 HA0=>?_)
  refine QSeq.pure rfl (.bool true) (fun E=>Af rfl rfl) ?_
  refine QSeq.nil (t':=[_]) rfl ?_
  obtain rfl:=HA0.out
  clear HA0
  simp only [pz,Act.put,sIB,sCZ,sCS]
  go_wp2
  go_ret
  have hq:=(Hx46.out.widen (R':=(fun k=>R k∨New w u29_2 k)) (by intro k h1;rcases h1 with h1|h1|h1<;>first|exact Or.inl h1|(right;omega)) (Nat.le_refl _))
  (try simp only [List.append_assoc] at hq)
  exact ⟨by rw [HQ.out];rfl,by rw [HE.out];simpa only [List.append_assoc] using hq,(HM0.out.trans Cx47.out (fun _ _ h=>h))⟩
 have K13:=Lib.hid h13
 clear h13
 go_upto_region 28 with (fail)
 refine Aa 120 [90,89] [0,1] (fun a0 HA0=>?_)
 have oe6:=ev HA0 6 rfl
 refine QSeq.pure rfl (.bool false) (fun E=>An rfl (E.v oe6) rfl (Ag _ _ _ _ _ _) (Al _ _ _ Tryz.underlying3) (congrArg Value.bool (Bb K13.out))) ?_
 refine QSeq.pure rfl _ (fun E=>Af rfl (E.d 0 0)) ?_
 refine QSeq.nil (t':=[_,_]) rfl ?_
 obtain rfl:=HA0.out
 clear HA0 oe6
 simp only [pz,Act.put,sIB,sCZ,sCS]
 by_cases h14:x.kd=14
 ·have K14:=Lib.hid h14
  clear h14
  go_upto_region 30 with (fail)
  refine Aa 120 [100,99] [0,1] (fun a0 HA0=>?_)
  have oe6:=ev HA0 6 rfl
  refine QSeq.pure rfl (.bool true) (fun E=>An rfl (E.v oe6) rfl (Ag _ _ _ _ _ _) (Al _ _ _ Tryz.underlying3) (congrArg Value.bool (Bi K14.out))) ?_
  refine QSeq.pure rfl _ (fun E=>Af rfl (E.d 0 0)) ?_
  refine QSeq.nil (t':=[_,_]) rfl ?_
  obtain rfl:=HA0.out
  clear HA0 oe6
  simp only [pz,Act.put,sIB,sCZ,sCS]
  have HE:=hid (show A8 x=encI x.dc.ep ++ encI x.dc.rn ++ baB x.dc.ba ++ listB vtB x.dc.l by unfold A8;rw [K14.out];rfl)
  rw [HE.out] at HL
  have HQ:=hid (show okKd x.kd=true by rw [K14.out];rfl)
  go_upto_region 31 with (fail)
  generalize ha0:Act.mk _ _=a0
  have oe0:a0.eval (.tmp 0)=.pointer (some ⟨g,0,none⟩):=by rw [← ha0];rfl
  have oe3:a0.eval (.tmp 3)=.pointer (some ⟨w.heap.size,0,none⟩):=by rw [← ha0];rfl
  have hsz0:a0.tmps.size=120:=by rw [← ha0];rfl
  have HA0:=hid ha0
  clear ha0
  refine A3 120 hsz0 [101,102,103,104,105,106,107,108,109] (fun k=>(R k)) (fun k j=>(k=0∧((R j)))∨(k=1∧((R j)))) (by intro k j h;(try dsimp only at h ⊢);rcases h with ⟨-,h⟩|⟨-,h⟩;(exact h);(exact h)) [qi (.pointer (some ⟨g,0,none⟩)),qi (.pointer (some ⟨w.heap.size,287,none⟩)),qi (.pointer (some ⟨w.heap.size,287,none⟩)),qi (.int .i64 x.dc.ep),qi (.pointer (some ⟨g,0,none⟩)),qi (.pointer (some ⟨w.heap.size,287,none⟩)),qi (.pointer (some ⟨w.heap.size,288,none⟩)),qi (.int .i64 x.dc.rn),qi (.pointer (some ⟨g,0,none⟩))] ⟨Ab,Ab,Ab,Ab,Ab,Ab,Ab,Ab,Ab,trivial⟩ [4,8] ⟨?_,?_,?_,?_,?_,?_,?_,?_,?_,trivial⟩ ?_
  ·exact stq (fun E=>Ai rfl (E.v oe0))
  ·exact stq (fun E=>Ad rfl Tryz.underlying61 rfl (by kernel_rfl) (E.v oe3))
  ·exact stq (fun E=>Ad rfl Tryz.underlying59 rfl (by kernel_rfl) (E.d 1))
  ·exact stq (fun E=>Aj rfl Tryz.underlying3 rfl (E.d 2) (Cs.seg1 (HB3.out.mod E.m (by intro h2;rcases h2 with ⟨h0,h2⟩|h2<;>first|omega|(have hb:=HBR.out _ h2;omega))) HLN.out 18 rfl (o:=287) (k:=0) rfl rfl rfl))
  ·exact Ah rfl
  ·exact stq (fun E=>Ad rfl Tryz.underlying61 rfl (by kernel_rfl) (E.v oe3))
  ·exact stq (fun E=>Ad rfl Tryz.underlying59 rfl (by kernel_rfl) (E.d 5))
  ·exact stq (fun E=>Aj rfl Tryz.underlying3 rfl (E.d 6) (Cs.seg1 (HB3.out.mod E.m (by intro h2;rcases h2 with ⟨h0,h2⟩|h2<;>first|omega|(have hb:=HBR.out _ h2;omega))) HLN.out 18 rfl (o:=287) (k:=1) rfl rfl rfl))
  ·exact Ah rfl
  intro u31_0 hr
  have zu31_0:=hr.size
  have Cx48:=hid (hr.new (S:=(fun k=>(R k))))
  have Hx49:=hid (Hx1.out.mod hr (by intro k h1 h2;have hb:=HBR.out k h1;omega))
  clear Hx1
  clear hr
  refine QChain.go fun Z act E=>?_
  refine Ap (args:=#[.pointer (some ⟨g,0,none⟩),.int .i64 x.dc.ep]) rfl (Ac rfl) rfl Tryz.func67 (Az (E.d 0) (E.d 3)) (Bo Hx49.out HOD.out.1 (by have:=HL.out;simp only [List.length_append] at this ⊢; omega)) ?_
  rintro e u31_1a ⟨rfl,qwr,hm⟩
  have zu31_1a:=hm.size
  refine ⟨_,rfl,hm.mono (by intro k hk h;first|omega|exact Or.inl ⟨(by have hb:=HBR.out k h;omega),Or.inl ⟨rfl,h⟩⟩),(fun _=>rfl),?_⟩
  intro u31_1 hr
  have zu31_1:=hr.size
  have Hx50:=hid ((qwr.widen (R':=(fun k=>(R k)∨(New u31_0 u31_1a k))) (fun _ h=>h) (Nat.le_refl _)).mod hr (by intro k h1 h2;rcases h1 with h1|h1<;>first|omega|(have hb:=HBR.out k h1;omega)))
  have Cx51:=hid (Cx48.out.goM hm hr (fun _ _ h=>h))
  clear Cx48 hm hr Z act E qwr Hx49
  refine QChain.go fun Z act E=>?_
  refine Ap (args:=#[.pointer (some ⟨g,0,none⟩),.int .i64 x.dc.rn]) rfl (Ac rfl) rfl Tryz.func67 (Az (E.d 4) (E.d 7)) (Bo Hx50.out HOD.out.2.1 (by have:=HL.out;simp only [List.length_append] at this ⊢; omega)) ?_
  rintro e u31_2a ⟨rfl,qwr,hm⟩
  have zu31_2a:=hm.size
  refine ⟨_,rfl,hm.mono (by intro k hk h;rcases h with h|h<;>first|omega|exact Or.inl ⟨(by have hb:=HBR.out k h;omega),Or.inr (⟨rfl,h⟩)⟩),(fun _=>rfl),?_⟩
  intro u31_2 hr
  have zu31_2:=hr.size
  have Hx52:=hid ((qwr.widen (R':=(fun k=>(R k)∨(New u31_0 u31_1a k)∨(New u31_1 u31_2a k))) (by intro k h1;simp only [or_assoc] at h1 ⊢; exact h1) (Nat.le_refl _)).mod hr (by intro k h1 h2;rcases h1 with h1|h1|h1<;>first|omega|(have hb:=HBR.out k h1;omega)))
  have Cx53:=hid (Cx51.out.goM hm hr (by intro k h0 h2;rcases h2 with h2|h2<;>first|omega|exact h2))
  clear Cx51 hm hr Z act E qwr Hx50
  refine QChain.nil fun vs hl hzz hrows hne=>?_
  obtain ⟨Z,hYZ,hZb,hV⟩:=hzz
  have f0:=fvi hV hl 0
  have f4:=fvi hV hl 4
  have f8:=fvi hV hl 8
  rw [show vs=[gw vs 0,gw vs 1,gw vs 2,gw vs 3,gw vs 4,gw vs 5,gw vs 6,gw vs 7,gw vs 8] from (Be hl).trans rfl]
  have ha0:=HA0.out
  subst ha0
  clear HA0 hV hYZ hZb hsz0 hrows hne oe0 oe3
  simp only [Au,Act.put,sIB,sCZ,sCS,f0,f4,f8]
  clear hl f0 f4 f8
  go_upto_region 32 with (fail)
  refine Aa 120 [110,111,112,113,114] [0,1,2,3,4] (fun a0 HA0=>?_)
  have oe0:=ev HA0 0 rfl
  have oe3:=ev HA0 3 rfl
  refine QSeq.pure rfl _ (fun E=>Ai rfl (E.v oe0)) ?_
  refine QSeq.pure rfl (.pointer (some ⟨w.heap.size,287,none⟩)) (fun E=>Ad rfl Tryz.underlying61 rfl (by kernel_rfl) (E.v oe3)) ?_
  refine QSeq.pure rfl (.pointer (some ⟨w.heap.size,289,none⟩)) (fun E=>Ad rfl Tryz.underlying59 rfl (by kernel_rfl) (E.d 1 0)) ?_
  refine QSeq.pure rfl _ (fun E=>Am rfl Tryz.underlying45 rfl (off:=289) (cs:=[.int .i64 x.dc.ba.ep,.int .u64 (x.dc.ba.tm:Nat),d_ps,d_os,d_ts]) (by kernel_rfl) (E.d 2 0) (Cs.segA (HB3.out.mod Cx53.out (by intro h2;first|omega|(have hb:=HBR.out _ h2;omega))) HLN.out 18 rfl (o:=287) (k:=2) rfl rfl rfl)) ?_
  refine QSeq.call rfl rfl Tryz.func108 (PutBa_Q _ R2 _ _ _ x.dc.ba _ Hx52.out (by intro k h1;rcases h1 with h1|h1|h1<;>first|omega|(have hb:=HBR.out k h1;omega)) ⟨_,_,_,rfl,HOD.out.2.2,(Hx6.out.mod Cx53.out (by intro k h1 h2;first|omega|(have hb:=HBT.out k h1;omega)|(have hb:=HBR.out k h2;omega)|exact HDJ.out k h1 h2|exact HDJ.out k h2 h1|(have hb:=HBT.out k h1;have hb2:=HBR.out k h2;omega))),(Hx7.out.mod Cx53.out (by intro k h1 h2;first|omega|(have hb:=HBT.out k h1;omega)|(have hb:=HBR.out k h2;omega)|exact HDJ.out k h1 h2|exact HDJ.out k h2 h1|(have hb:=HBT.out k h1;have hb2:=HBR.out k h2;omega))),(Hx8.out.mod Cx53.out (by intro k h1 h2;first|omega|(have hb:=HBT.out k h1;omega)|(have hb:=HBR.out k h2;omega)|exact HDJ.out k h1 h2|exact HDJ.out k h2 h1|(have hb:=HBT.out k h1;have hb2:=HBR.out k h2;omega)))⟩ (by intro k h1;have hb:=HBT.out k h1;omega) (by intro k h1 h2;rcases h1 with h1|h1|h1<;>first|omega|(have hb:=HBR.out k h1;omega)|(have hb:=HBT.out k h2;omega)|exact HDJ.out k h1 h2|exact HDJ.out k h2 h1|(have hb:=HBR.out k h1;have hb2:=HBT.out k h2;omega)) (by have:=HL.out;simp only [List.length_append] at this ⊢; omega)) (fun E=>Az (E.d 0 3) (E.d 3 0)) ?_
  rintro e u32_4 ⟨rfl,qwr,hm⟩
  refine ⟨_,rfl,?_⟩
  have Hx54:=hid (qwr.widen (R':=(fun k=>(R k)∨(New u31_0 u31_1a k)∨(New u31_1 u31_2a k)∨(New u31_2 u32_4 k))) (by intro k h1;simp only [or_assoc] at h1 ⊢; exact h1) (Nat.le_refl _))
  have zu32_4:=hm.size
  have Cx55:=hid (show Mod (fun k=>(R k)∨(New u31_0 u31_1a k)∨(New u31_1 u31_2a k)) u31_2 u32_4 from hm)
  clear hm
  clear qwr Hx52
  refine QSeq.nil (t':=[_,_,_,_,_]) rfl ?_
  obtain rfl:=HA0.out
  clear HA0 oe0 oe3
  simp only [pz,Act.put,sIB,sCZ,sCS]
  go_upto_region 33 with (fail)
  refine Aa 120 [115,116,117,118,119] [0,1,2,3,4] (fun a0 HA0=>?_)
  have oe0:=ev HA0 0 rfl
  have oe3:=ev HA0 3 rfl
  refine QSeq.pure rfl _ (fun E=>Ai rfl (E.v oe0)) ?_
  refine QSeq.pure rfl (.pointer (some ⟨w.heap.size,287,none⟩)) (fun E=>Ad rfl Tryz.underlying61 rfl (by kernel_rfl) (E.v oe3)) ?_
  refine QSeq.pure rfl (.pointer (some ⟨w.heap.size,294,none⟩)) (fun E=>Ad rfl Tryz.underlying59 rfl (by kernel_rfl) (E.d 1 0)) ?_
  refine QSeq.pure rfl (d_l) (fun E=>Aj rfl Tryz.underlying57 rfl (E.d 2 0) (Cs.seg1 ((HB3.out.mod Cx53.out (by intro h2;first|omega|(have hb:=HBR.out _ h2;omega))).mod Cx55.out (by intro h2;rcases h2 with h2|h2|h2<;>first|omega|(have hb:=HBR.out _ h2;omega))) HLN.out 18 rfl (o:=287) (k:=7) rfl rfl rfl)) ?_
  refine QSeq.call rfl rfl Tryz.func109 (PutList_Vt _ _ _ _ _ _ _ Hx54.out (by intro k h1;rcases h1 with h1|h1|h1|h1<;>first|omega|(have hb:=HBR.out k h1;omega)) ((Hx9.out.mod Cx53.out (by intro k h1 h2;first|omega|(have hb:=HBT.out k h1;omega)|(have hb:=HBR.out k h2;omega)|exact HDJ.out k h1 h2|exact HDJ.out k h2 h1|(have hb:=HBT.out k h1;have hb2:=HBR.out k h2;omega))).mod Cx55.out (by intro k h1 h2;rcases h2 with h2|h2|h2<;>first|omega|(have hb:=HBT.out k h1;omega)|(have hb:=HBR.out k h2;omega)|exact HDJ.out k h1 h2|exact HDJ.out k h2 h1|(have hb:=HBT.out k h1;have hb2:=HBR.out k h2;omega))) (by intro k h1;have hb:=HBT.out k h1;omega) (by intro k h1 h2;rcases h1 with h1|h1|h1|h1<;>first|omega|(have hb:=HBR.out k h1;omega)|(have hb:=HBT.out k h2;omega)|exact HDJ.out k h1 h2|exact HDJ.out k h2 h1|(have hb:=HBR.out k h1;have hb2:=HBT.out k h2;omega)) (by have:=HL.out;simp only [List.length_append] at this ⊢; omega)) (fun E=>args3 (E.d 0 3) (E.d 3 0) rfl) ?_
  rintro e u33_4 ⟨rfl,qwr,hm⟩
  refine ⟨_,rfl,?_⟩
  have Hx56:=hid (qwr.widen (R':=(fun k=>(R k)∨(New u31_0 u31_1a k)∨(New u31_1 u31_2a k)∨(New u31_2 u32_4 k)∨(New u32_4 u33_4 k))) (by intro k h1;simp only [or_assoc] at h1 ⊢; exact h1) (Nat.le_refl _))
  have zu33_4:=hm.size
  have Cx57:=hid (show Mod (fun k=>(R k)∨(New u31_0 u31_1a k)∨(New u31_1 u31_2a k)∨(New u31_2 u32_4 k)) u32_4 u33_4 from hm)
  clear hm
  clear qwr Hx54
  refine QSeq.nil (t':=[_,_,_,_,_]) rfl ?_
  obtain rfl:=HA0.out
  clear HA0 oe0 oe3
  simp only [pz,Act.put,sIB,sCZ,sCS]
  go_upto_region 34 with (fail)
  refine Aa 120 [4] [0] (fun a0 HA0=>?_)
  refine QSeq.pure rfl (.bool true) (fun E=>Af rfl rfl) ?_
  refine QSeq.nil (t':=[_]) rfl ?_
  obtain rfl:=HA0.out
  clear HA0
  simp only [pz,Act.put,sIB,sCZ,sCS]
  go_wp2
  go_ret
  have hq:=(Hx56.out.widen (R':=(fun k=>R k∨New w u33_4 k)) (by intro k h1;rcases h1 with h1|h1|h1|h1|h1<;>first|exact Or.inl h1|(right;omega)) (Nat.le_refl _))
  (try simp only [List.append_assoc] at hq)
  exact ⟨by rw [HQ.out];rfl,by rw [HE.out];simpa only [List.append_assoc] using hq,(((HM0.out.trans Cx53.out (fun _ _ h=>h)).trans Cx55.out (by intro k h1 h2;rcases h2 with h2|h2|h2<;>first|exact h2|omega|(have hb:=HBR.out k h2;omega))).trans Cx57.out (by intro k h1 h2;rcases h2 with h2|h2|h2|h2<;>first|exact h2|omega|(have hb:=HBR.out k h2;omega)))⟩
 have K14:=Lib.hid h14
 clear h14
 go_upto_region 30 with (fail)
 refine Aa 120 [100,99] [0,1] (fun a0 HA0=>?_)
 have oe6:=ev HA0 6 rfl
 refine QSeq.pure rfl (.bool false) (fun E=>An rfl (E.v oe6) rfl (Ag _ _ _ _ _ _) (Al _ _ _ Tryz.underlying3) (congrArg Value.bool (Bb K14.out))) ?_
 refine QSeq.pure rfl _ (fun E=>Af rfl (E.d 0 0)) ?_
 refine QSeq.nil (t':=[_,_]) rfl ?_
 obtain rfl:=HA0.out
 clear HA0 oe6
 simp only [pz,Act.put,sIB,sCZ,sCS]
 go_upto_region 2 with (fail)
 refine Aa 120 [4] [0] (fun a0 HA0=>?_)
 refine QSeq.pure rfl (.bool false) (fun E=>Af rfl rfl) ?_
 refine QSeq.nil (t':=[_]) rfl ?_
 obtain rfl:=HA0.out
 clear HA0
 simp only [pz,Act.put,sIB,sCZ,sCS]
 have HE:=hid (show A8 x=[] by unfold A8;rw [if_neg K1.out,if_neg K2.out,if_neg K3.out,if_neg K4.out,if_neg K5.out,if_neg K6.out,if_neg K7.out,if_neg K8.out,if_neg K9.out,if_neg K10.out,if_neg K11.out,if_neg K12.out,if_neg K13.out,if_neg K14.out])
 have HQ:=hid (show okKd x.kd=false by unfold okKd;rw [decide_eq_false_iff_not];have k1:=K1.out;have k2:=K2.out;have k3:=K3.out;have k4:=K4.out;have k5:=K5.out;have k6:=K6.out;have k7:=K7.out;have k8:=K8.out;have k9:=K9.out;have k10:=K10.out;have k11:=K11.out;have k12:=K12.out;have k13:=K13.out;have k14:=K14.out;omega)
 skip
 go_wp2
 go_ret
 exact ⟨by rw [HQ.out];rfl,by rw [HE.out,List.append_nil];exact (Hx1.out.widen (R':=(fun k=>R k∨New w w1 k)) (fun _ h=>Or.inl h) (Nat.le_refl _)),HM0.out⟩
end Go.Proofs.YtnaoeginonpicaaGreat

/- msgs.Pack. -/
namespace Go.Proofs.YtnaoeginonpicaaGreat
open Go Go.RowKit Go.Gv
theorem callsB {P:Program} {F:FuncId} {args:Array Value} {w:World} {b c:Bool} {Q:World→Prop} (h:b=c) (hc:Calls P F args w fun e w'=>e=.returned (.bool b)∧Q w'):Calls P F args w fun e w'=>e=.returned (.bool c)∧Q w':=h▸hc
set_option maxHeartbeats 4000000 in
theorem Pack_Q:∀ (R2:Nat→Prop) (cs:List Value) (x:Mg) (w:World),MgR.rd R2 w cs x→(∀ k,R2 k→k < w.heap.size)→(Bj x).length≤900000→
 Calls Tryz.prog 16 #[.agg cs.toArray] w fun e w'=>∃ v,e=.returned (.tuple #[v,.bool (packs x)])∧OwR (New w w') 900000 w' v (if packs x=true then Bj x else [])∧Mod (fun _=>False) w w':=by
 intro R2 cs x w hx hB2 hl
 obtain ⟨RB,hRB⟩:∃ z,z=(if packs x=true then Bj x else []):=⟨_,rfl⟩
 rw [← hRB]
 obtain ⟨pk,hpk⟩:∃ z,z=packs x:=⟨_,rfl⟩
 rw [← hpk]
 have HRB:=Lib.hid hRB
 have HPK:=Lib.hid hpk
 clear hRB hpk
 have HRD:=Lib.hid hx
 obtain ⟨c5,c10,c11,c15,c18,rfl,hok,h5,h10,h11,h15,h18⟩:=hx
 have HLN:=hid (Mg.lns hok h5 h10 h11 h15 h18)
 have HCL:=hid (MgR.len HRD.out)
 have HOK:=Lib.hid hok
 clear hok h5 h10 h11 h15 h18
 have HBT:=Lib.hid hB2
 have HL:=hid (show ([] ++ encI x.kd ++ encI x.fr ++ encI x.to ++ A8 x).length≤900000 by simpa only [Bj,List.nil_append,List.append_assoc] using hl)
 clear hB2 hl
 go_enter Tryz.func16,Tryz.ntmps16
 go_upto_region 1 with (fail)
 obtain ⟨w1,hw1⟩:∃ zz,zz=(w.alloc (.cells ((x.segs c5 c10 c11 c15 c18).flatten:List Value).toArray 61)):=⟨_,rfl⟩
 change Code.wp _ _ _ _ (w.alloc (.cells ((x.segs c5 c10 c11 c15 c18).flatten:List Value).toArray 61))
 rw [← hw1]
 have HB1:=hid (show Cs w1 (w.heap.size) ((x.segs c5 c10 c11 c15 c18).flatten:List Value).toArray 61 by rw [hw1];exact Cs.new _ _ _)
 have hm:Mod (fun _=>False) w w1:=by rw [hw1];exact (Mod.refl _ _).alloc _
 have HM0:=hid (show Mod (fun _=>False) w w1 from hm.mono (fun _ _ h=>h.elim))
 have hs1:w1.heap.size=w.heap.size+1:=by rw [hw1];simp
 have Hx1:=hid (HRD.out.mod hm (fun _ _ h=>h))
 clear HRD
 clear hw1 hm
 go_upto_region 1 with (fail)
 generalize ha0:Act.mk _ _=a0
 have oe1:a0.eval (.tmp 1)=.pointer (some ⟨w.heap.size,0,none⟩):=by rw [← ha0];rfl
 have hsz0:a0.tmps.size=26:=by rw [← ha0];rfl
 have HA0:=hid ha0
 clear ha0
 refine A1 26 hsz0 [6,7,8,9,10,11,12,13,14,15,4] [qv 0,qi (.pointer (some ⟨w.heap.size,0,none⟩)),qi (.int .i64 x.kd),qv 1,qi (.pointer (some ⟨w.heap.size,1,none⟩)),qi (.int .i64 x.fr),qv 2,qi (.pointer (some ⟨w.heap.size,2,none⟩)),qi (.int .i64 x.to),qv 3,qv 3] ⟨Ak,Ab,Ab,Ak,Ab,Ab,Ak,Ab,Ab,Ak,Ak,trivial⟩ [0,3,6,9] ⟨?_,?_,?_,?_,?_,?_,?_,?_,?_,?_,?_,trivial⟩ ?_
 ·exact Ah rfl
 ·exact stq (fun E=>Ad rfl Tryz.underlying61 rfl (by kernel_rfl) (E.v oe1))
 ·exact stq (fun E=>Aj rfl Tryz.underlying3 rfl (E.d 1) (Cs.seg1 (HB1.out.mod E.m.old (by intro h2;omega)) HLN.out 0 rfl (o:=0) (k:=0) rfl rfl rfl))
 ·exact Ah rfl
 ·exact stq (fun E=>Ad rfl Tryz.underlying61 rfl (by kernel_rfl) (E.v oe1))
 ·exact stq (fun E=>Aj rfl Tryz.underlying3 rfl (E.d 4) (Cs.seg1 (HB1.out.mod E.m.old (by intro h2;omega)) HLN.out 1 rfl (o:=1) (k:=0) rfl rfl rfl))
 ·exact Ah rfl
 ·exact stq (fun E=>Ad rfl Tryz.underlying61 rfl (by kernel_rfl) (E.v oe1))
 ·exact stq (fun E=>Aj rfl Tryz.underlying3 rfl (E.d 7) (Cs.seg1 (HB1.out.mod E.m.old (by intro h2;omega)) HLN.out 2 rfl (o:=2) (k:=0) rfl rfl rfl))
 ·exact Ah rfl
 ·refine Av rfl rfl rfl fun _ _ _ _ _ _ _ _ _ hd _ _=>?_
  have h9:=hd ⟨9,.data⟩ (by simp) rfl _ rfl
  exact Bd rfl (Ac rfl) (Af rfl rfl) QE.refl h9
 intro u1_0 hr
 have zu1_0:=hr.size
 have Cx2:=hid (hr.new (S:=(fun _=>False)))
 clear hr
 refine QChain.go fun Z act E=>?_
 refine Ap (args:=#[]) rfl (Ac rfl) rfl Tryz.func66 args0 (NewWriter_Q _) ?_
 rintro e u1_1a ⟨g,rfl,qwr,hm⟩
 have zu1_1a:=hm.size
 refine ⟨_,rfl,hm.mono (fun _ _ h=>h.elim),(fun _=>rfl),?_⟩
 intro u1_1 hr
 have zu1_1:=hr.size
 have Hx3:=hid ((qwr.widen (R':=(fun k=>(New u1_0 u1_1a k))) (fun _ h=>h) (Nat.le_refl _)).mod hr (by intro k h1 h2;omega))
 have Cx4:=hid (Cx2.out.go hm hr)
 clear Cx2 hm hr Z act E qwr
 refine QChain.go fun Z act E=>?_
 refine Ap (args:=#[.pointer (some ⟨g,0,none⟩),.int .i64 x.kd]) rfl (Ac rfl) rfl Tryz.func67 (Az (chv (v:=.pointer (some ⟨g,0,none⟩)) (E.d 0)) (E.d 2)) (Bo Hx3.out HOK.out.kd (by have:=HL.out;simp only [List.length_append] at this ⊢; omega)) ?_
 rintro e u1_2a ⟨rfl,qwr,hm⟩
 have zu1_2a:=hm.size
 refine ⟨_,rfl,hm.mono (by intro k hk h;omega),(fun _=>rfl),?_⟩
 intro u1_2 hr
 have zu1_2:=hr.size
 have Hx5:=hid ((qwr.widen (R':=(fun k=>(New u1_0 u1_1a k)∨(New u1_1 u1_2a k))) (fun _ h=>h) (Nat.le_refl _)).mod hr (by intro k h1 h2;omega))
 have Cx6:=hid (Cx4.out.goM hm hr (by intro k h0 h2;omega))
 clear Cx4 hm hr Z act E qwr Hx3
 refine QChain.go fun Z act E=>?_
 refine Ap (args:=#[.pointer (some ⟨g,0,none⟩),.int .i64 x.fr]) rfl (Ac rfl) rfl Tryz.func67 (Az (chv (v:=.pointer (some ⟨g,0,none⟩)) (E.d 3)) (E.d 5)) (Bo Hx5.out HOK.out.fr (by have:=HL.out;simp only [List.length_append] at this ⊢; omega)) ?_
 rintro e u1_3a ⟨rfl,qwr,hm⟩
 have zu1_3a:=hm.size
 refine ⟨_,rfl,hm.mono (by intro k hk h;omega),(fun _=>rfl),?_⟩
 intro u1_3 hr
 have zu1_3:=hr.size
 have Hx7:=hid ((qwr.widen (R':=(fun k=>(New u1_0 u1_1a k)∨(New u1_1 u1_2a k)∨(New u1_2 u1_3a k))) (by intro k h1;omega) (Nat.le_refl _)).mod hr (by intro k h1 h2;omega))
 have Cx8:=hid (Cx6.out.goM hm hr (by intro k h0 h2;omega))
 clear Cx6 hm hr Z act E qwr Hx5
 refine QChain.go fun Z act E=>?_
 refine Ap (args:=#[.pointer (some ⟨g,0,none⟩),.int .i64 x.to]) rfl (Ac rfl) rfl Tryz.func67 (Az (chv (v:=.pointer (some ⟨g,0,none⟩)) (E.d 6)) (E.d 8)) (Bo Hx7.out HOK.out.to (by have:=HL.out;simp only [List.length_append] at this ⊢; omega)) ?_
 rintro e u1_4a ⟨rfl,qwr,hm⟩
 have zu1_4a:=hm.size
 refine ⟨_,rfl,hm.mono (by intro k hk h;omega),(fun _=>rfl),?_⟩
 intro u1_4 hr
 have zu1_4:=hr.size
 have Hx9:=hid ((qwr.widen (R':=(fun k=>(New u1_0 u1_1a k)∨(New u1_1 u1_2a k)∨(New u1_2 u1_3a k)∨(New u1_3 u1_4a k))) (by intro k h1;omega) (Nat.le_refl _)).mod hr (by intro k h1 h2;omega))
 have Cx10:=hid (Cx8.out.goM hm hr (by intro k h0 h2;omega))
 clear Cx8 hm hr Z act E qwr Hx7
 refine QChain.nil fun vs hl hzz hrows hne=>?_
 obtain ⟨Z,hYZ,hZb,hV⟩:=hzz
 have f0:=fvc hV hl 0
 have f3:=fvc hV hl 3
 have f6:=fvc hV hl 6
 have f9:=fvc hV hl 9
 have f10:=fvc hV hl 10
 rw [show vs=[gw vs 0,gw vs 1,gw vs 2,gw vs 3,gw vs 4,gw vs 5,gw vs 6,gw vs 7,gw vs 8,gw vs 9,gw vs 10] from (Be hl).trans rfl]
 have ha0:=HA0.out
 subst ha0
 clear HA0 hV hYZ hZb hsz0 hrows hne oe1
 simp only [Au,Act.put,sIB,sCZ,sCS,f0,f3,f6,f9,f10]
 clear hl f0 f3 f6 f9 f10
 by_cases hk:okKd x.kd=true
 ·have HK:=Lib.hid hk
  clear hk
  go_upto_region 2 with (fail)
  refine Aa 26 [16,17,18,19] [0,1,2,3] (fun a0 HA0=>?_)
  have oe1:=ev HA0 1 rfl
  have oe4:=ev HA0 4 rfl
  refine QSeq.pure rfl _ (fun E=>Ai rfl (E.v oe4)) ?_
  refine QSeq.pure rfl _ (fun E=>Am rfl Tryz.underlying61 rfl (off:=0) (cs:=((x.segs c5 c10 c11 c15 c18).flatten)) (by rw [HCL.out];kernel_rfl) (E.v oe1) (Cs.whole (HB1.out.mod Cx10.out (fun h=>h)))) ?_
  refine QSeq.call rfl rfl Tryz.func68 (callsB HK.out (put_Q _ R2 _ _ _ x _ Hx9.out (by intro k h1;omega) (Hx1.out.mod Cx10.out (fun _ _ h=>h)) (by intro k h1;have hb:=HBT.out k h1;omega) (by intro k h1 h2;have hb:=HBT.out k h2;omega) (by have:=HL.out;simp only [List.length_append] at this ⊢; omega))) (fun E=>Az (E.d 0 1) (E.d 1 0)) ?_
  rintro e u2_2 ⟨rfl,qwr,hm⟩
  refine ⟨_,rfl,?_⟩
  have Hx11:=hid (qwr.widen (R':=(fun k=>(New u1_0 u1_1a k)∨(New u1_1 u1_2a k)∨(New u1_2 u1_3a k)∨(New u1_3 u1_4a k)∨(New u1_4 u2_2 k))) (by intro k h1;omega) (Nat.le_refl _))
  have zu2_2:=hm.size
  have Cx12:=hid (show Mod (fun k=>(New u1_0 u1_1a k)∨(New u1_1 u1_2a k)∨(New u1_2 u1_3a k)∨(New u1_3 u1_4a k)) u1_4 u2_2 from hm)
  clear hm
  clear qwr Hx9
  refine QSeq.pure rfl (.bool false) (fun E=>ex_not rfl (E.d 2 0)) ?_
  refine QSeq.nil (t':=[_,_,_,_]) rfl ?_
  obtain rfl:=HA0.out
  clear HA0 oe1 oe4
  simp only [pz,Act.put,sIB,sCZ,sCS]
  go_upto_region 4 with (fail)
  refine Aa 26 [20,21,5] [0,1,2] (fun a0 HA0=>?_)
  have oe4:=ev HA0 4 rfl
  refine QSeq.pure rfl _ (fun E=>Ai rfl (E.v oe4)) ?_
  refine QSeq.call rfl rfl Tryz.func69 (WBytes_Q Hx11.out) (fun E=>Aw (E.d 0 0)) ?_
  rintro e u4_1 ⟨vb,rfl,qout,hm⟩
  obtain ⟨aob,capb,rfl⟩:=qout.shape
  refine ⟨_,rfl,?_⟩
  have Hx13:=hid qout
  have zu4_1:=hm.size
  have Cx14:=hid (show Mod (fun _=>False) u2_2 u4_1 from hm)
  clear hm
  clear qout
  refine QSeq.pure rfl _ (fun E=>Af rfl (E.d 1 0)) ?_
  refine QSeq.nil (t':=[_,_,_]) rfl ?_
  obtain rfl:=HA0.out
  clear HA0 oe4
  simp only [pz,Act.put,sIB,sCZ,sCS]
  have HE:=hid (show Bj x=[] ++ encI x.kd ++ encI x.fr ++ encI x.to ++ A8 x by simp only [Bj,List.nil_append,List.append_assoc])
  by_cases hn:65536 < ([] ++ encI x.kd ++ encI x.fr ++ encI x.to ++ A8 x).length
  ·skip
   go_upto_region 5 with (fail)
   refine Aa 26 [22,23,24] [0,1,2] (fun a0 HA0=>?_)
   have oe5:=ev HA0 5 rfl
   refine QSeq.pure rfl _ (fun E=>Ai rfl (E.v oe5)) ?_
   refine QSeq.pure rfl (.int .i64 (([] ++ encI x.kd ++ encI x.fr ++ encI x.to ++ A8 x).length)) (fun E=>A0 rfl (E.d 0 0) Tryz.underlying52) ?_
   refine QSeq.pure rfl (.bool true) (fun E=>An rfl (E.d 1 0) rfl (Ag _ _ _ _ _ _) (run_gtr_i _ _ _ Tryz.underlying3) (congrArg Value.bool (decide_eq_true (by omega)))) ?_
   refine QSeq.nil (t':=[_,_,_]) rfl ?_
   obtain rfl:=HA0.out
   clear HA0 oe5
   simp only [pz,Act.put,sIB,sCZ,sCS]
   go_upto_region 6 with (fail)
   refine Aa 26 [2,3] [0,1] (fun a0 HA0=>?_)
   refine QSeq.pure rfl (.slice none 0 0) (fun E=>Af rfl rfl) ?_
   refine QSeq.pure rfl (.bool false) (fun E=>Af rfl rfl) ?_
   refine QSeq.nil (t':=[_,_]) rfl ?_
   obtain rfl:=HA0.out
   clear HA0
   simp only [pz,Act.put,sIB,sCZ,sCS]
   have HP:=hid (show packs x=false by unfold packs;rw [HE.out,HK.out,Bool.true_and,decide_eq_false_iff_not];omega)
   go_wp2
   go_ret2
   exact ⟨.slice none 0 0,by rw [HPK.out,HP.out];rfl,by rw [show RB=[] by rw [HRB.out,HP.out];rfl];exact ⟨Own.nil _ _ _ _,(fun g h=>by cases h),Nat.zero_le _⟩,(((HM0.out.trans Cx10.out (fun _ _ h=>h.elim)).trans Cx12.out (by intro k h1 h2;omega)).trans Cx14.out (fun _ _ h=>h.elim))⟩
  go_upto_region 5 with (fail)
  refine Aa 26 [22,23,24] [0,1,2] (fun a0 HA0=>?_)
  have oe5:=ev HA0 5 rfl
  refine QSeq.pure rfl _ (fun E=>Ai rfl (E.v oe5)) ?_
  refine QSeq.pure rfl (.int .i64 (([] ++ encI x.kd ++ encI x.fr ++ encI x.to ++ A8 x).length)) (fun E=>A0 rfl (E.d 0 0) Tryz.underlying52) ?_
  refine QSeq.pure rfl (.bool false) (fun E=>An rfl (E.d 1 0) rfl (Ag _ _ _ _ _ _) (run_gtr_i _ _ _ Tryz.underlying3) (congrArg Value.bool (decide_eq_false (by omega)))) ?_
  refine QSeq.nil (t':=[_,_,_]) rfl ?_
  obtain rfl:=HA0.out
  clear HA0 oe5
  simp only [pz,Act.put,sIB,sCZ,sCS]
  go_upto_region 7 with (fail)
  refine Aa 26 [25,2,3] [0,1,2] (fun a0 HA0=>?_)
  have oe5:=ev HA0 5 rfl
  refine QSeq.pure rfl _ (fun E=>Ai rfl (E.v oe5)) ?_
  refine QSeq.pure rfl _ (fun E=>Af rfl (E.d 0 0)) ?_
  refine QSeq.pure rfl (.bool true) (fun E=>Af rfl rfl) ?_
  refine QSeq.nil (t':=[_,_,_]) rfl ?_
  obtain rfl:=HA0.out
  clear HA0 oe5
  simp only [pz,Act.put,sIB,sCZ,sCS]
  have HP:=hid (show packs x=true by unfold packs;rw [HE.out,HK.out,Bool.true_and,decide_eq_true_eq];omega)
  go_wp2
  go_ret2
  exact ⟨.slice aob (([] ++ encI x.kd ++ encI x.fr ++ encI x.to ++ A8 x).length) capb,by rw [HPK.out,HP.out];rfl,by rw [show RB=[] ++ encI x.kd ++ encI x.fr ++ encI x.to ++ A8 x by rw [HRB.out,HP.out];exact HE.out];exact (Hx13.out.widen (R':=(fun k=>New w u4_1 k)) (by intro k h1;omega) (Nat.le_refl _)),(((HM0.out.trans Cx10.out (fun _ _ h=>h.elim)).trans Cx12.out (by intro k h1 h2;omega)).trans Cx14.out (fun _ _ h=>h.elim))⟩
 have HK:=hid (Bool.eq_false_iff.2 hk)
 clear hk
 go_upto_region 2 with (fail)
 refine Aa 26 [16,17,18,19] [0,1,2,3] (fun a0 HA0=>?_)
 have oe1:=ev HA0 1 rfl
 have oe4:=ev HA0 4 rfl
 refine QSeq.pure rfl _ (fun E=>Ai rfl (E.v oe4)) ?_
 refine QSeq.pure rfl _ (fun E=>Am rfl Tryz.underlying61 rfl (off:=0) (cs:=((x.segs c5 c10 c11 c15 c18).flatten)) (by rw [HCL.out];kernel_rfl) (E.v oe1) (Cs.whole (HB1.out.mod Cx10.out (fun h=>h)))) ?_
 refine QSeq.call rfl rfl Tryz.func68 (callsB HK.out (put_Q _ R2 _ _ _ x _ Hx9.out (by intro k h1;omega) (Hx1.out.mod Cx10.out (fun _ _ h=>h)) (by intro k h1;have hb:=HBT.out k h1;omega) (by intro k h1 h2;have hb:=HBT.out k h2;omega) (by have:=HL.out;simp only [List.length_append] at this ⊢; omega))) (fun E=>Az (E.d 0 1) (E.d 1 0)) ?_
 rintro e u2_2 ⟨rfl,qwr,hm⟩
 refine ⟨_,rfl,?_⟩
 have Hx15:=hid (qwr.widen (R':=(fun k=>(New u1_0 u1_1a k)∨(New u1_1 u1_2a k)∨(New u1_2 u1_3a k)∨(New u1_3 u1_4a k)∨(New u1_4 u2_2 k))) (by intro k h1;omega) (Nat.le_refl _))
 have zu2_2:=hm.size
 have Cx16:=hid (show Mod (fun k=>(New u1_0 u1_1a k)∨(New u1_1 u1_2a k)∨(New u1_2 u1_3a k)∨(New u1_3 u1_4a k)) u1_4 u2_2 from hm)
 clear hm
 clear qwr Hx9
 refine QSeq.pure rfl (.bool true) (fun E=>ex_not rfl (E.d 2 0)) ?_
 refine QSeq.nil (t':=[_,_,_,_]) rfl ?_
 obtain rfl:=HA0.out
 clear HA0 oe1 oe4
 simp only [pz,Act.put,sIB,sCZ,sCS]
 go_upto_region 3 with (fail)
 refine Aa 26 [2,3] [0,1] (fun a0 HA0=>?_)
 refine QSeq.pure rfl (.slice none 0 0) (fun E=>Af rfl rfl) ?_
 refine QSeq.pure rfl (.bool false) (fun E=>Af rfl rfl) ?_
 refine QSeq.nil (t':=[_,_]) rfl ?_
 obtain rfl:=HA0.out
 clear HA0
 simp only [pz,Act.put,sIB,sCZ,sCS]
 have HP:=hid (show packs x=false by unfold packs;rw [HK.out];rfl)
 go_wp2
 go_ret2
 exact ⟨.slice none 0 0,by rw [HPK.out,HP.out];rfl,by rw [show RB=[] by rw [HRB.out,HP.out];rfl];exact ⟨Own.nil _ _ _ _,(fun g h=>by cases h),Nat.zero_le _⟩,((HM0.out.trans Cx10.out (fun _ _ h=>h.elim)).trans Cx16.out (by intro k h1 h2;omega))⟩
end Go.Proofs.YtnaoeginonpicaaGreat

/- Small parts of messages, read. -/
namespace Go.Proofs.YtnaoeginonpicaaGreat
open Go Go.RowKit Go.Gv
end Go.Proofs.YtnaoeginonpicaaGreat

/- Parts of messages, read. -/
namespace Go.Proofs.YtnaoeginonpicaaGreat
open Go Go.RowKit Go.Gv
end Go.Proofs.YtnaoeginonpicaaGreat

/- More parts of messages, read. -/
namespace Go.Proofs.YtnaoeginonpicaaGreat
open Go Go.RowKit Go.Gv
end Go.Proofs.YtnaoeginonpicaaGreat

/- msgs.get. -/
namespace Go.Proofs.YtnaoeginonpicaaGreat
open Go Go.RowKit Go.Gv
end Go.Proofs.YtnaoeginonpicaaGreat

/- What is read of a message was packed so; what was packed is read as it was, but for what its kind does not name. No walk here. -/
namespace Go.Proofs.YtnaoeginonpicaaGreat
open Go Go.RowKit Go.Gv
end Go.Proofs.YtnaoeginonpicaaGreat

/- Messages with nothing in them but their kind, whom they are from and to: packed, read back. No walk here. -/
namespace Go.Proofs.YtnaoeginonpicaaGreat
open Go Go.RowKit Go.Gv
theorem ite_len {c:Prop} [Decidable c] {a b:List Int} {n:Nat} (ha:a.length≤n) (hb:b.length≤n):(if c then a else b).length≤n:=by by_cases h:c<;>simp [h,ha,hb]
theorem encI_len5 (n:Int) (h:I64 n):(encI n).length≤10:=by
 unfold encI
 refine (Bq ?_).2
 unfold I64 at h
 unfold U64
 omega
theorem zBody_len (k f t:Int):(A8 (mg0 k f t)).length≤500:=by
 have e0:=encI_len5 0 (by unfold I64;decide)
 have e1:=encI_len5 (IntKind.i64.wrap (0+1)) (I64_wrap _)
 have n0:=(Bq (n:=0) (by unfold U64;decide)).2
 have el:∀ {α:Type} (f:α→List Int),(listB f []).length≤10:=fun f=>by simp only [listB,List.length_append,List.map_nil,List.flatten_nil,List.length_nil];exact e0
 have l1:=el stB
 have l2:=el ceB
 have l3:=el pmB
 have l4:=el opB
 have l5:=el tbB
 have l6:=el vtB
 have hz:zH32.length=32:=by simp [zH32]
 have hb:(baB zBa).length≤60:=by simp only [baB,zBa,List.length_append];omega
 have hs:(stB zSt).length≤150:=by simp only [stB,zSt,nameB,sigB,List.length_append];omega
 have hc:(cmB zCm).length≤150:=by simp only [cmB,zCm,nameB,sigB,List.length_append];omega
 have hbe:(Bg ByteArray.empty).length=0:=by rw [bytesOf_len];rfl
 unfold A8
 refine ite_len ?_ ?_
 ·exact Nat.le_trans hc (by decide)
 refine ite_len ?_ ?_
 ·exact Nat.le_trans hs (by decide)
 refine ite_len ?_ ?_
 ·have:(ceB zCe).length≤200:=by
   have h:(cmB zCe.c).length≤150:=hc
   have h2:(listB stB zCe.l).length≤10:=l1
   simp only [ceB,List.length_append];omega
  exact Nat.le_trans this (by decide)
 refine ite_len ?_ ?_
 ·exact Nat.le_trans hs (by decide)
 refine ite_len ?_ ?_
 ·show (encI 0 ++ encI 0 ++ encN 0).length≤500
  simp only [List.length_append];omega
 refine ite_len ?_ ?_
 ·have:(pmB zPm).length≤100:=by simp only [pmB,zPm,sigB,List.length_append];omega
  exact Nat.le_trans this (by decide)
 refine ite_len ?_ ?_
 ·have:(prB zPr).length≤200:=by simp only [prB,zPr,sigB,List.length_append];omega
  exact Nat.le_trans this (by decide)
 refine ite_len ?_ ?_
 ·have:(vtB zVt).length≤200:=by simp only [vtB,zVt,sigB,List.length_append];omega
  exact Nat.le_trans this (by decide)
 refine ite_len ?_ ?_
 ·have:(enB zEn).length≤200:=by simp only [enB,zEn,nameB,List.length_append];omega
  show (encI 0 ++ enB zEn).length≤500
  simp only [List.length_append];omega
 refine ite_len ?_ ?_
 ·have:(opB zOp).length≤200:=by simp only [opB,zOp,List.length_append,List.length_nil];omega
  exact Nat.le_trans this (by decide)
 refine ite_len ?_ ?_
 ·exact Nat.le_trans e0 (by decide)
 refine ite_len ?_ ?_
 ·have:(dnB zDn).length≤200:=by simp only [dnB,zDn,sigB,List.length_append];omega
  exact Nat.le_trans this (by decide)
 refine ite_len ?_ ?_
 ·show (encI 0 ++ (encN (Bg ByteArray.empty).length ++ Bg ByteArray.empty)).length≤500
  rw [hbe]
  simp only [List.length_append];omega
 refine ite_len ?_ ?_
 ·have:(dcB zDc).length≤200:=by simp only [dcB,zDc,List.length_append];omega
  exact Nat.le_trans this (by decide)
 exact Nat.zero_le _
theorem packB_mg0_len {k f t:Int} (hk:I64 k) (hf:I64 f) (ht:I64 t):(Bj (mg0 k f t)).length≤600:=by
 have h1:=encI_len5 k hk
 have h2:=encI_len5 f hf
 have h3:=encI_len5 t ht
 have h4:=zBody_len k f t
 show (encI k ++ encI f ++ encI t ++ A8 (mg0 k f t)).length≤600
 simp only [List.length_append];omega
theorem packs_mg0 {k f t:Int} (h:okKd k=true) (hk:I64 k) (hf:I64 f) (ht:I64 t):packs (mg0 k f t)=true:=by
 have:=packB_mg0_len hk hf ht
 unfold packs
 rw [show okKd (mg0 k f t).kd=true from h,Bool.true_and,decide_eq_true_eq]
 omega
theorem packB_head {x:Mg} (h:okKd x.kd=true):∃ l,Bj x=x.kd :: l:=by
 have hq:1≤x.kd∧x.kd≤14:=by unfold okKd at h;simpa using h
 refine ⟨encI x.fr ++ encI x.to ++ A8 x,?_⟩
 unfold Bj
 rw [show encI x.kd=[x.kd] by unfold encI;rw [encN_lt (by omega)];simp;omega]
 simp
end Go.Proofs.YtnaoeginonpicaaGreat

/- gavellaw06.wakes. -/
namespace Go.Proofs.YtnaoeginonpicaaGreat
open Go Go.RowKit Go.Gv
theorem packs_110:packs (mg0 11 0 0)=true:=packs_mg0 rfl (by unfold I64;decide) A4 A4
theorem packB_pos0 {x:Mg} (h:okKd x.kd=true):0 < (Bj x).length:=by obtain ⟨l,e⟩:=packB_head h;rw [e];simp
theorem callsP {P:Program} {F:FuncId} {args:Array Value} {w:World} {b c:Bool} {Q:Value→World→Prop} (h:b=c) (hc:Calls P F args w fun e w'=>∃ v,e=.returned (.tuple #[v,.bool b])∧Q v w'):Calls P F args w fun e w'=>∃ v,e=.returned (.tuple #[v,.bool c])∧Q v w':=h▸hc
set_option maxHeartbeats 4000000 in
theorem wakes06 (w:World):Calls Tryz.prog 15 #[] w fun e w'=>e=.returned (.bool true)∧Mod (fun _=>False) w w':=by
 go_enter Tryz.func15,Tryz.ntmps15
 go_upto_region 1 with (fail)
 have HM0:=hid (Mod.refl (fun _=>False) w)
 have HZO:=hid (MgR.one (mg0_rd (k:=0) (f:=0) (t:=0) A4 A4 A4 (fun _=>False) w))
 go_upto_region 1 with (fail)
 refine Aa 24 [6,5,7,8,1,29,2] [0,1,2,3,4,5,6] (fun a0 HA0=>?_)
 refine QSeq.call rfl rfl Tryz.func11 (Unpack0_Q _) (fun E=>Aw rfl) ?_
 rintro e u1_0 ⟨rfl,hm⟩
 refine ⟨_,rfl,?_⟩
 have zu1_0:=hm.size
 have Cx1:=hid (show Mod (fun _=>False) w u1_0 from hm)
 clear hm
 refine QSeq.pure rfl _ (fun E=>Ai rfl (E.d 0 0)) ?_
 refine QSeq.pure rfl (.agg (mg0C 0 0 0).toArray) (fun E=>ex_extract rfl (E.d 1 0) rfl) ?_
 refine QSeq.pure rfl (.bool false) (fun E=>ex_extract rfl (E.d 1 1) rfl) ?_
 refine QSeq.go fun act E=>?_
 refine qc_alloc rfl (Ac rfl) rfl (z:=(mg0C 0 0 0)) (by kernel_rfl) ?_
 intro u1_4 qB1 hm
 have zl1_4:=qB1.lt
 have Hx2:=hid qB1
 have zu1_4:=hm.size
 have HMu1_4:=hid hm
 have Cx3:=hid (Cx1.out.goE hm)
 clear hm Cx1
 clear act E qB1
 refine QSeq.go fun act E=>?_
 refine Aq rfl (Ac rfl) rfl Hx2.out (off:=0) (vs:=(mg0C 0 0 0)) (by kernel_rfl) HZO.out (by show 0+295≤295;decide) (E.d 4 0) (ec (E.d 2 2)) ?_
 intro u1_5 qc0 hm
 have qB1:=qc0.eqv (b:=((mg0C 0 0 0):List Value).toArray) (A5 _ _ rfl)
 clear qc0
 have Hx4:=hid qB1
 have zu1_5:=hm.size
 have HMu1_5:=hid hm
 have Cx5:=hid (Mod.goS (S':=(fun _=>False)) Cx3.out hm (fun _ h=>h) (by intro k h0 h2;omega))
 clear hm Cx3
 clear act E qB1 Hx2
 refine QSeq.pure rfl _ (fun E=>Af rfl (E.d 3 2)) ?_
 clear HMu1_4 HMu1_5
 refine QSeq.nil (t':=[_,_,_,_,_,_,_]) rfl ?_
 obtain rfl:=HA0.out
 clear HA0
 simp only [pz,Act.put,sIB,sCZ,sCS,List.set_nil]
 go_upto_region 2 with (fail)
 refine Aa 24 [10,11,9,12,13,3,4] [0,1,2,3,4,5,6] (fun a0 HA0=>?_)
 refine QSeq.pure rfl (.agg ((mg0C 11 0 0):List Value).toArray) (fun E=>ex_build rfl (z:=(mg0C 0 0 0)) (places:=[(0,1),(1,1),(2,1),(3,37),(40,38),(78,38),(116,38),(154,1),(155,1),(156,1),(157,6),(163,11),(174,38),(212,1),(213,35),(248,34),(282,4),(286,1),(287,8)]) (by kernel_rfl) (parts:=[(0,.int .i64 11)]) (by simp only [List.map_toArray,List.map_cons,List.map_nil];try rfl) (r:=(mg0C 11 0 0)) (by exact (laid_segs (ns:=mgN) rfl [(0,.int .i64 11)] (zMg.segs (zCe.cells zS) (zPm.cells zS) (zPr.cells zS zS zS) (zOp.cells zS) (zDc.cells zS zS zS zS)) rfl ⟨rfl,trivial⟩).trans rfl)) ?_
 refine QSeq.call rfl rfl Tryz.func16 (callsP packs_110 (Pack_Q _ _ (mg0 11 0 0) _ (mg0_rd (k:=11) (f:=0) (t:=0) (by unfold I64;decide) A4 A4 (fun _=>False) _) (fun _ h=>h.elim) (Nat.le_trans (packB_mg0_len (by unfold I64;decide) A4 A4) (by decide)))) (fun E=>Aw (E.d 0 0)) ?_
 rintro e u2_1 ⟨vpb,rfl,qpb,hm⟩
 rw [packs_110] at qpb
 replace qpb:=(show OwR _ _ _ _ (Bj (mg0 11 0 0)) from qpb)
 obtain ⟨aopb,cappb,rfl⟩:=qpb.shape
 refine ⟨_,rfl,?_⟩
 have Hx6:=hid qpb
 have zu2_1:=hm.size
 have Cx7:=hid (show Mod (fun _=>False) u1_5 u2_1 from hm)
 clear hm
 clear qpb
 refine QSeq.pure rfl _ (fun E=>Ai rfl (E.d 1 0)) ?_
 refine QSeq.pure rfl (.slice aopb ((Bj (mg0 11 0 0)).length) cappb) (fun E=>ex_extract rfl (E.d 2 0) rfl) ?_
 refine QSeq.pure rfl (.bool true) (fun E=>ex_extract rfl (E.d 2 1) rfl) ?_
 refine QSeq.pure rfl _ (fun E=>Af rfl (E.d 3 1)) ?_
 refine QSeq.pure rfl _ (fun E=>Af rfl (E.d 4 1)) ?_
 refine QSeq.nil (t':=[_,_,_,_,_,_,_]) rfl ?_
 obtain rfl:=HA0.out
 clear HA0
 simp only [pz,Act.put,sIB,sCZ,sCS]
 have HP:=hid (packB_pos0 (x:=mg0 11 0 0) rfl)
 go_upto_region 3 with (fail)
 refine Aa 24 [14,15,16,17,18,19,20,21,22,23,0] [0,1,2,3,4,5,6,7,8,9,10] (fun a0 HA0=>?_)
 have oe2:=ev HA0 2 rfl
 have oe3:=ev HA0 3 rfl
 have oe4:=ev HA0 4 rfl
 refine QSeq.pure rfl _ (fun E=>Ai rfl (E.v oe2)) ?_
 refine QSeq.pure rfl (.bool true) (fun E=>ex_not rfl (E.d 0 0)) ?_
 refine QSeq.pure rfl _ (fun E=>Ai rfl (E.d 1 0)) ?_
 refine QSeq.pureG rfl (.bool true) (fun E=>((Ae rfl rfl (E.sz 16 (by decide)) (E.d 2 0)).trans rfl)) (fun E=>Ai rfl (E.v oe4)) ?_
 refine QSeq.pure rfl (.bool true) (fun E=>ex_pick rfl (E.d 2 1) (E.d 3 0) rfl) ?_
 refine QSeq.pure rfl _ (fun E=>Ai rfl (E.d 4 0)) ?_
 refine QSeq.pureG rfl (.slice aopb ((Bj (mg0 11 0 0)).length) cappb) (fun E=>((Ae rfl rfl (E.sz 19 (by decide)) (E.d 5 0)).trans rfl)) (fun E=>Ai rfl (E.v oe3)) ?_
 refine QSeq.pureG rfl (.int .i64 ((Bj (mg0 11 0 0)).length)) (fun E=>((Ae rfl rfl (E.sz 19 (by decide)) (E.d 5 1)).trans rfl)) (fun E=>A0 rfl (E.d 6 0) Tryz.underlying52) ?_
 refine QSeq.pureG rfl (.bool true) (fun E=>((Ae rfl rfl (E.sz 19 (by decide)) (E.d 5 2)).trans rfl)) (fun E=>An rfl (E.d 7 0) rfl (Ag _ _ _ _ _ _) (run_gtr_i _ _ _ Tryz.underlying3) (congrArg Value.bool (decide_eq_true (show (0:Int) < (((Bj (mg0 11 0 0)).length:Nat):Int) by have:=HP.out;omega)))) ?_
 refine QSeq.pure rfl (.bool true) (fun E=>ex_pick rfl (E.d 5 3) (E.d 8 0) rfl) ?_
 refine QSeq.pure rfl _ (fun E=>Af rfl (E.d 9 0)) ?_
 refine QSeq.nil (t':=[_,_,_,_,_,_,_,_,_,_,_]) rfl ?_
 obtain rfl:=HA0.out
 clear HA0 oe2 oe3 oe4
 simp only [pz,Act.put,sIB,sCZ,sCS]
 go_wp2
 go_ret
 exact ⟨rfl,((HM0.out.trans Cx5.out (fun _ _ h=>h.elim)).trans Cx7.out (fun _ _ h=>h.elim))⟩
end Go.Proofs.YtnaoeginonpicaaGreat

/- gavelkeep: comparisons of lists, certificates, promises, openings. -/
namespace Go.Proofs.YtnaoeginonpicaaGreat
open Go Go.RowKit Go.Gv
theorem fm3' {P:Prop} (h:P:=by
 intro R R2 v v2 l m w hs ht hB hB2
 obtain ⟨ao,cap,rfl⟩:=hs.shape
 obtain ⟨bo,bcap,rfl⟩:=ht.shape
 have hlm:l.length≤maxLen:=hs.bd
 rw [Ax] at hlm
 have HS:=Lib.hid hs
 have HT:=Lib.hid ht
 have HBR:=Lib.hid hB
 have HBT:=Lib.hid hB2
 clear hs ht hB hB2
 go_enter va',vb'
 go_upto_region 1 with (fail)
 have HM0:=hid (Mod.refl (fun _=>False) w)
 by_cases hl:l.length=m.length
 rotate_left
 ·skip
  go_upto_region 1 with (fail)
  refine Aa 26 [6,7,8,9,10] [0,1,2,3,4] (fun a0 HA0=>?_)
  have oe0:=ev HA0 0 rfl
  have oe1:=ev HA0 1 rfl
  refine QSeq.pure rfl _ (fun E=>Ai rfl (E.v oe0)) ?_
  refine QSeq.pure rfl (.int .i64 l.length) (fun E=>A0 rfl (E.d 0 0) vc') ?_
  refine QSeq.pure rfl _ (fun E=>Ai rfl (E.v oe1)) ?_
  refine QSeq.pure rfl (.int .i64 m.length) (fun E=>A0 rfl (E.d 2 0) vc') ?_
  refine QSeq.pure rfl (.bool true) (fun E=>An rfl (E.d 1 2) (E.d 3 0) (Ag _ _ _ _ _ _) (run_neq_i _ _ _ Tryz.underlying3) (congrArg Value.bool (ne_tt (by omega)))) ?_
  refine QSeq.nil (t':=[_,_,_,_,_]) rfl ?_
  obtain rfl:=HA0.out
  clear HA0 oe0 oe1
  simp only [pz,Act.put,sIB,sCZ,sCS]
  go_upto_region 2 with (fail)
  refine Aa 26 [4] [0] (fun a0 HA0=>?_)
  refine QSeq.pure rfl (.bool false) (fun E=>Af rfl rfl) ?_
  refine QSeq.nil (t':=[_]) rfl ?_
  obtain rfl:=HA0.out
  clear HA0
  simp only [pz,Act.put,sIB,sCZ,sCS]
  go_wp2
  go_ret
  exact ⟨Bm (eqb_ne fun e=>hl (by rw [e])).symm,HM0.out⟩
 ·skip
  go_upto_region 1 with (fail)
  refine Aa 26 [6,7,8,9,10] [0,1,2,3,4] (fun a0 HA0=>?_)
  have oe0:=ev HA0 0 rfl
  have oe1:=ev HA0 1 rfl
  refine QSeq.pure rfl _ (fun E=>Ai rfl (E.v oe0)) ?_
  refine QSeq.pure rfl (.int .i64 l.length) (fun E=>A0 rfl (E.d 0 0) vc') ?_
  refine QSeq.pure rfl _ (fun E=>Ai rfl (E.v oe1)) ?_
  refine QSeq.pure rfl (.int .i64 m.length) (fun E=>A0 rfl (E.d 2 0) vc') ?_
  refine QSeq.pure rfl (.bool false) (fun E=>An rfl (E.d 1 2) (E.d 3 0) (Ag _ _ _ _ _ _) (run_neq_i _ _ _ Tryz.underlying3) (congrArg Value.bool (ne_ff (by omega)))) ?_
  refine QSeq.nil (t':=[_,_,_,_,_]) rfl ?_
  obtain rfl:=HA0.out
  clear HA0 oe0 oe1
  simp only [pz,Act.put,sIB,sCZ,sCS]
  go_upto_region 3 with (fail)
  refine Aa 26 [5] [0] (fun a0 HA0=>?_)
  refine QSeq.pure rfl (.int .i64 0) (fun E=>Af rfl rfl) ?_
  refine QSeq.nil (t':=[_]) rfl ?_
  obtain rfl:=HA0.out
  clear HA0
  simp only [pz,Act.put,sIB,sCZ,sCS]
  have HLE:=Lib.hid hl
  clear hl
  go_wp2
  go_loopw [5] (fun ti wr=>∃ k:Nat,ti=.int .i64 (k:Int)∧k≤l.length∧l.take k=m.take k∧w.heap.size≤wr.heap.size∧RdS vd' R wr (.slice ao l.length cap) l∧RdS vd' R2 wr (.slice bo m.length bcap) m∧Mod (fun _=>False) w wr) (fun ti _=>l.length - (intOf ti).toNat)
  case atStart=>exact ⟨0,rfl,Nat.zero_le _,rfl,Nat.le_refl _,HS.out,HT.out,HM0.out⟩
  case round=>
   obtain ⟨k,rfl,hk,htk,hz,hs,ht,hm⟩:=hrel
   obtain ⟨wl,rfl⟩:∃ x,x=wr:=⟨_,rfl⟩
   have HS2:=Lib.hid hs
   have HT2:=Lib.hid ht
   have HML:=Lib.hid hm
   have HTK:=Lib.hid htk
   clear hs ht hm htk HS HT HM0
   by_cases hlt:k < l.length
   ·have hlt2:k < m.length:=by have:=HLE.out;omega
    go_upto_region 4 with (fail)
    refine Aa 26 [11,12,13,14] [0,1,2,3] (fun a0 HA0=>?_)
    have oe0:=ev HA0 0 rfl
    have oe5:=ev HA0 5 rfl
    refine QSeq.pure rfl _ (fun E=>Ai rfl (E.v oe5)) ?_
    refine QSeq.pure rfl _ (fun E=>Ai rfl (E.v oe0)) ?_
    refine QSeq.pure rfl (.int .i64 l.length) (fun E=>A0 rfl (E.d 1 0) vc') ?_
    refine QSeq.pure rfl (.bool true) (fun E=>An rfl (E.d 0 2) (E.d 2 0) (Ag _ _ _ _ _ _) (A6 _ _ _ Tryz.underlying3) (congrArg Value.bool (decide_eq_true (by omega)))) ?_
    refine QSeq.nil (t':=[_,_,_,_]) rfl ?_
    obtain rfl:=HA0.out
    clear HA0 oe0 oe5
    simp only [pz,Act.put,sIB,sCZ,sCS]
    have hat:=HS2.out.at hlt
    obtain ⟨g1,o1,c1,eao,hrg,hrd,hcs⟩:=hat
    subst eao
    obtain ⟨x,hx⟩:∃ z,z=l[k]:=⟨_,rfl⟩
    rw [← hx] at hrd
    have HX1:=Lib.hid hx
    have hcl:c1.length=38:=vd'.len hrd
    have HCL1:=Lib.hid hcl
    have HAT1:=hid (show CellsAt R wl g1 (o1+k * 38) c1 from ⟨hrg,hcs⟩)
    have HRD1:=Lib.hid hrd
    clear hcl hcs hrd hrg hx
    have hat:=HT2.out.at hlt2
    obtain ⟨g2,o2,c2,eao,hrg,hrd,hcs⟩:=hat
    subst eao
    obtain ⟨y,hy⟩:∃ z,z=m[k]:=⟨_,rfl⟩
    rw [← hy] at hrd
    have HX2:=Lib.hid hy
    have hcl:c2.length=38:=vd'.len hrd
    have HCL2:=Lib.hid hcl
    have HAT2:=hid (show CellsAt R2 wl g2 (o2+k * 38) c2 from ⟨hrg,hcs⟩)
    have HRD2:=Lib.hid hrd
    clear hcl hcs hrd hrg hy
    obtain ⟨b,hb⟩:∃ b,b=eqb x y:=⟨_,rfl⟩
    have HB:=Lib.hid hb
    clear hb
    obtain ⟨rfl,hok1⟩:=HRD1.out
    obtain ⟨rfl,hok2⟩:=HRD2.out
    have HO1:=Lib.hid hok1
    have HO2:=Lib.hid hok2
    clear hok1 hok2
    clear HRD1
    clear HRD2
    go_upto_region 6 with (fail)
    generalize ha0:Act.mk _ _=a0
    have oe0:a0.eval (.tmp 0)=.slice (some ⟨g1,o1,none⟩) l.length cap:=by rw [← ha0];rfl
    have oe1:a0.eval (.tmp 1)=.slice (some ⟨g2,o2,none⟩) m.length bcap:=by rw [← ha0];rfl
    have oe5:a0.eval (.tmp 5)=.int .i64 ((k:Nat):Int):=by rw [← ha0];rfl
    have hsz0:a0.tmps.size=26:=by rw [← ha0];rfl
    have HA0:=hid ha0
    clear ha0
    refine A1 26 hsz0 [17,18,19,20,21,22,23,24,25] [qi (.slice (some ⟨g1,o1,none⟩) l.length cap),qi (.int .i64 ((k:Nat):Int)),qi (.pointer (some ⟨g1,o1+k * 38,none⟩)),qi (.agg x.cells.toArray),qi (.slice (some ⟨g2,o2,none⟩) m.length bcap),qi (.int .i64 ((k:Nat):Int)),qi (.pointer (some ⟨g2,o2+k * 38,none⟩)),qi (.agg y.cells.toArray),qi (.bool (!b))] ⟨Ab,Ab,Ab,Ab,Ab,Ab,Ab,Ab,Ab,trivial⟩ [] ⟨?_,?_,?_,?_,?_,?_,?_,?_,?_,trivial⟩ ?_
    ·exact stq (fun E=>Ai rfl (E.v oe0))
    ·exact stq (fun E=>Ai rfl (E.v oe5))
    ·exact stq (fun E=>Bk (i:=k) (s:=38) rfl vc' (by kernel_rfl) (E.d 0) (E.d 1) (by first|exact hlt|exact hlt2))
    ·exact stq (fun E=>Am rfl ve' rfl (off:=o1+k * 38) (cs:=x.cells) (by rw [HCL1.out];kernel_rfl) (E.d 2) (fun j u hu=>((HAT1.out.mod E.m.old (by intro k h1 h2;have hb:=HBR.out k h1;omega))).2 j u hu))
    ·exact stq (fun E=>Ai rfl (E.v oe1))
    ·exact stq (fun E=>Ai rfl (E.v oe5))
    ·exact stq (fun E=>Bk (i:=k) (s:=38) rfl vc' (by kernel_rfl) (E.d 4) (E.d 5) (by first|exact hlt|exact hlt2))
    ·exact stq (fun E=>Am rfl ve' rfl (off:=o2+k * 38) (cs:=y.cells) (by rw [HCL2.out];kernel_rfl) (E.d 6) (fun j u hu=>((HAT2.out.mod E.m.old (by intro k h1 h2;have hb:=HBT.out k h1;omega))).2 j u hu))
    ·exact stq (fun E=>An rfl (E.d 3) (E.d 7) (agg_guardE _ _ _ _ _ _ (by kernel_rfl) _) (EqW.runN vf' (vg' HO1.out) (vg' HO2.out) (vh' HO1.out HO2.out) _) (congrArg (fun z=>Value.bool (!z)) HB.out.symm))
    intro u6_0 hr
    have zu6_0:=hr.size
    have Cx1:=hid (hr.new (S:=(fun _=>False)))
    clear hr
    refine QChain.nil fun vs hl hzz hrows hne=>?_
    obtain ⟨Z,hYZ,hZb,hV⟩:=hzz
    have f0:=fvi hV hl 0
    have f1:=fvi hV hl 1
    have f4:=fvi hV hl 4
    have f5:=fvi hV hl 5
    have f8:=fvi hV hl 8
    rw [show vs=[gw vs 0,gw vs 1,gw vs 2,gw vs 3,gw vs 4,gw vs 5,gw vs 6,gw vs 7,gw vs 8] from (Be hl).trans rfl]
    have ha0:=HA0.out
    subst ha0
    clear HA0 hV hYZ hZb hsz0 hrows hne oe0 oe1 oe5
    simp only [Au,Act.put,sIB,sCZ,sCS,f0,f1,f4,f5,f8]
    clear hl f0 f1 f4 f5 f8
    cases b with
    | false=>
     go_upto_region 7 with (fail)
     refine Aa 26 [4] [0] (fun a0 HA0=>?_)
     refine QSeq.pure rfl (.bool false) (fun E=>Af rfl rfl) ?_
     refine QSeq.nil (t':=[_]) rfl ?_
     obtain rfl:=HA0.out
     clear HA0
     simp only [pz,Act.put,sIB,sCZ,sCS]
     go_wp2
     go_ret
     exact ⟨Bm (take_ne hlt hlt2 (fun e=>by have h:=HB.out;rw [HX1.out,HX2.out,e,eqb_rfl] at h;cases h)).symm,(HML.out.trans Cx1.out (fun _ _ h=>h.elim))⟩
    | true=>
     go_upto_region 5 with (fail)
     refine Aa 26 [15,16,5] [0,1,2] (fun a0 HA0=>?_)
     have oe5:=ev HA0 5 rfl
     refine QSeq.pure rfl _ (fun E=>Ai rfl (E.y 2 oe5)) ?_
     refine QSeq.pure rfl (.int .i64 (((k:Nat):Int)+1)) (fun E=>An rfl (E.d 0 0) rfl (Ag _ _ _ _ _ _) (run_add_i _ _ Tryz.underlying3) (congrArg (Value.int .i64) (IntWalk.i64_in _ (by omega)))) ?_
     refine QSeq.pure rfl _ (fun E=>Af rfl (E.d 1 0)) ?_
     refine QSeq.nil (t':=[_,_,_]) rfl ?_
     obtain rfl:=HA0.out
     clear HA0 oe5
     simp only [pz,Act.put,sIB,sCZ,sCS]
     go_wp2
     go_roundw
     case rel=>exact ⟨k+1,by go_num,by omega,take_succ2 hlt hlt2 HTK.out (by have h:=eqb_iff.1 HB.out.symm;rw [HX1.out,HX2.out] at h;exact h),by omega,(HS2.out.mod Cx1.out (fun _ _ h=>h)),(HT2.out.mod Cx1.out (fun _ _ h=>h)),(HML.out.trans Cx1.out (fun _ _ h=>h.elim))⟩
     case measure=>simp [intOf]<;>omega
   ·skip
    go_upto_region 4 with (fail)
    refine Aa 26 [11,12,13,14] [0,1,2,3] (fun a0 HA0=>?_)
    have oe0:=ev HA0 0 rfl
    have oe5:=ev HA0 5 rfl
    refine QSeq.pure rfl _ (fun E=>Ai rfl (E.v oe5)) ?_
    refine QSeq.pure rfl _ (fun E=>Ai rfl (E.v oe0)) ?_
    refine QSeq.pure rfl (.int .i64 l.length) (fun E=>A0 rfl (E.d 1 0) vc') ?_
    refine QSeq.pure rfl (.bool false) (fun E=>An rfl (E.d 0 2) (E.d 2 0) (Ag _ _ _ _ _ _) (A6 _ _ _ Tryz.underlying3) (congrArg Value.bool (decide_eq_false (by omega)))) ?_
    refine QSeq.nil (t':=[_,_,_,_]) rfl ?_
    obtain rfl:=HA0.out
    clear HA0 oe0 oe5
    simp only [pz,Act.put,sIB,sCZ,sCS]
    go_upto_region 8 with (fail)
    refine Aa 26 [4] [0] (fun a0 HA0=>?_)
    refine QSeq.pure rfl (.bool true) (fun E=>Af rfl rfl) ?_
    refine QSeq.nil (t':=[_]) rfl ?_
    obtain rfl:=HA0.out
    clear HA0
    simp only [pz,Act.put,sIB,sCZ,sCS]
    go_wp2
    go_ret
    exact ⟨Bm (take_all (by omega) (by have:=HLE.out;omega) HTK.out).symm,HML.out⟩):P:=h
open Go.Proofs renaming Tryz.func92→va',Tryz.ntmps92→vb',Tryz.underlying33→vc',Tryz.underlying32→ve' in
open Go.Proofs.YtnaoeginonpicaaGreat renaming StR→vd',eqW_stamp→vf',ki_st→vg',st_iff→vh' in
set_option maxHeartbeats 4000000 in
theorem EqL_St:EqsL StR 92:=
 fm3'
set_option maxHeartbeats 4000000 in
theorem EqL_Dn:EqsL DnR 128:=by
 intro R R2 v v2 l m w hs ht hB hB2
 obtain ⟨ao,cap,rfl⟩:=hs.shape
 obtain ⟨bo,bcap,rfl⟩:=ht.shape
 have hlm:l.length≤maxLen:=hs.bd
 rw [Ax] at hlm
 have HS:=Lib.hid hs
 have HT:=Lib.hid ht
 have HBR:=Lib.hid hB
 have HBT:=Lib.hid hB2
 clear hs ht hB hB2
 go_enter Tryz.func128,Tryz.ntmps128
 go_upto_region 1 with (fail)
 have HM0:=hid (Mod.refl (fun _=>False) w)
 by_cases hl:l.length=m.length
 rotate_left
 ·skip
  go_upto_region 1 with (fail)
  refine Aa 26 [6,7,8,9,10] [0,1,2,3,4] (fun a0 HA0=>?_)
  have oe0:=ev HA0 0 rfl
  have oe1:=ev HA0 1 rfl
  refine QSeq.pure rfl _ (fun E=>Ai rfl (E.v oe0)) ?_
  refine QSeq.pure rfl (.int .i64 l.length) (fun E=>A0 rfl (E.d 0 0) Tryz.underlying125) ?_
  refine QSeq.pure rfl _ (fun E=>Ai rfl (E.v oe1)) ?_
  refine QSeq.pure rfl (.int .i64 m.length) (fun E=>A0 rfl (E.d 2 0) Tryz.underlying125) ?_
  refine QSeq.pure rfl (.bool true) (fun E=>An rfl (E.d 1 2) (E.d 3 0) (Ag _ _ _ _ _ _) (run_neq_i _ _ _ Tryz.underlying3) (congrArg Value.bool (ne_tt (by omega)))) ?_
  refine QSeq.nil (t':=[_,_,_,_,_]) rfl ?_
  obtain rfl:=HA0.out
  clear HA0 oe0 oe1
  simp only [pz,Act.put,sIB,sCZ,sCS]
  go_upto_region 2 with (fail)
  refine Aa 26 [4] [0] (fun a0 HA0=>?_)
  refine QSeq.pure rfl (.bool false) (fun E=>Af rfl rfl) ?_
  refine QSeq.nil (t':=[_]) rfl ?_
  obtain rfl:=HA0.out
  clear HA0
  simp only [pz,Act.put,sIB,sCZ,sCS]
  go_wp2
  go_ret
  exact ⟨Bm (eqb_ne fun e=>hl (by rw [e])).symm,HM0.out⟩
 ·skip
  go_upto_region 1 with (fail)
  refine Aa 26 [6,7,8,9,10] [0,1,2,3,4] (fun a0 HA0=>?_)
  have oe0:=ev HA0 0 rfl
  have oe1:=ev HA0 1 rfl
  refine QSeq.pure rfl _ (fun E=>Ai rfl (E.v oe0)) ?_
  refine QSeq.pure rfl (.int .i64 l.length) (fun E=>A0 rfl (E.d 0 0) Tryz.underlying125) ?_
  refine QSeq.pure rfl _ (fun E=>Ai rfl (E.v oe1)) ?_
  refine QSeq.pure rfl (.int .i64 m.length) (fun E=>A0 rfl (E.d 2 0) Tryz.underlying125) ?_
  refine QSeq.pure rfl (.bool false) (fun E=>An rfl (E.d 1 2) (E.d 3 0) (Ag _ _ _ _ _ _) (run_neq_i _ _ _ Tryz.underlying3) (congrArg Value.bool (ne_ff (by omega)))) ?_
  refine QSeq.nil (t':=[_,_,_,_,_]) rfl ?_
  obtain rfl:=HA0.out
  clear HA0 oe0 oe1
  simp only [pz,Act.put,sIB,sCZ,sCS]
  go_upto_region 3 with (fail)
  refine Aa 26 [5] [0] (fun a0 HA0=>?_)
  refine QSeq.pure rfl (.int .i64 0) (fun E=>Af rfl rfl) ?_
  refine QSeq.nil (t':=[_]) rfl ?_
  obtain rfl:=HA0.out
  clear HA0
  simp only [pz,Act.put,sIB,sCZ,sCS]
  have HLE:=Lib.hid hl
  clear hl
  go_wp2
  go_loopw [5] (fun ti wr=>∃ k:Nat,ti=.int .i64 (k:Int)∧k≤l.length∧l.take k=m.take k∧w.heap.size≤wr.heap.size∧RdS DnR R wr (.slice ao l.length cap) l∧RdS DnR R2 wr (.slice bo m.length bcap) m∧Mod (fun _=>False) w wr) (fun ti _=>l.length - (intOf ti).toNat)
  case atStart=>exact ⟨0,rfl,Nat.zero_le _,rfl,Nat.le_refl _,HS.out,HT.out,HM0.out⟩
  case round=>
   obtain ⟨k,rfl,hk,htk,hz,hs,ht,hm⟩:=hrel
   obtain ⟨wl,rfl⟩:∃ x,x=wr:=⟨_,rfl⟩
   have HS2:=Lib.hid hs
   have HT2:=Lib.hid ht
   have HML:=Lib.hid hm
   have HTK:=Lib.hid htk
   clear hs ht hm htk HS HT HM0
   by_cases hlt:k < l.length
   ·have hlt2:k < m.length:=by have:=HLE.out;omega
    go_upto_region 4 with (fail)
    refine Aa 26 [11,12,13,14] [0,1,2,3] (fun a0 HA0=>?_)
    have oe0:=ev HA0 0 rfl
    have oe5:=ev HA0 5 rfl
    refine QSeq.pure rfl _ (fun E=>Ai rfl (E.v oe5)) ?_
    refine QSeq.pure rfl _ (fun E=>Ai rfl (E.v oe0)) ?_
    refine QSeq.pure rfl (.int .i64 l.length) (fun E=>A0 rfl (E.d 1 0) Tryz.underlying125) ?_
    refine QSeq.pure rfl (.bool true) (fun E=>An rfl (E.d 0 2) (E.d 2 0) (Ag _ _ _ _ _ _) (A6 _ _ _ Tryz.underlying3) (congrArg Value.bool (decide_eq_true (by omega)))) ?_
    refine QSeq.nil (t':=[_,_,_,_]) rfl ?_
    obtain rfl:=HA0.out
    clear HA0 oe0 oe5
    simp only [pz,Act.put,sIB,sCZ,sCS]
    have hat:=HS2.out.at hlt
    obtain ⟨g1,o1,c1,eao,hrg,hrd,hcs⟩:=hat
    subst eao
    obtain ⟨x,hx⟩:∃ z,z=l[k]:=⟨_,rfl⟩
    rw [← hx] at hrd
    have HX1:=Lib.hid hx
    have hcl:c1.length=4:=DnR.len hrd
    have HCL1:=Lib.hid hcl
    have HAT1:=hid (show CellsAt R wl g1 (o1+k * 4) c1 from ⟨hrg,hcs⟩)
    have HRD1:=Lib.hid hrd
    clear hcl hcs hrd hrg hx
    have hat:=HT2.out.at hlt2
    obtain ⟨g2,o2,c2,eao,hrg,hrd,hcs⟩:=hat
    subst eao
    obtain ⟨y,hy⟩:∃ z,z=m[k]:=⟨_,rfl⟩
    rw [← hy] at hrd
    have HX2:=Lib.hid hy
    have hcl:c2.length=4:=DnR.len hrd
    have HCL2:=Lib.hid hcl
    have HAT2:=hid (show CellsAt R2 wl g2 (o2+k * 4) c2 from ⟨hrg,hcs⟩)
    have HRD2:=Lib.hid hrd
    clear hcl hcs hrd hrg hy
    obtain ⟨b,hb⟩:∃ b,b=eqb x y:=⟨_,rfl⟩
    have HB:=Lib.hid hb
    clear hb
    obtain ⟨rfl,hok1⟩:=HRD1.out
    obtain ⟨rfl,hok2⟩:=HRD2.out
    have HO1:=Lib.hid hok1
    have HO2:=Lib.hid hok2
    clear hok1 hok2
    clear HRD1
    clear HRD2
    go_upto_region 6 with (fail)
    generalize ha0:Act.mk _ _=a0
    have oe0:a0.eval (.tmp 0)=.slice (some ⟨g1,o1,none⟩) l.length cap:=by rw [← ha0];rfl
    have oe1:a0.eval (.tmp 1)=.slice (some ⟨g2,o2,none⟩) m.length bcap:=by rw [← ha0];rfl
    have oe5:a0.eval (.tmp 5)=.int .i64 ((k:Nat):Int):=by rw [← ha0];rfl
    have hsz0:a0.tmps.size=26:=by rw [← ha0];rfl
    have HA0:=hid ha0
    clear ha0
    refine A1 26 hsz0 [17,18,19,20,21,22,23,24,25] [qi (.slice (some ⟨g1,o1,none⟩) l.length cap),qi (.int .i64 ((k:Nat):Int)),qi (.pointer (some ⟨g1,o1+k * 4,none⟩)),qi (.agg x.cells.toArray),qi (.slice (some ⟨g2,o2,none⟩) m.length bcap),qi (.int .i64 ((k:Nat):Int)),qi (.pointer (some ⟨g2,o2+k * 4,none⟩)),qi (.agg y.cells.toArray),qi (.bool (!b))] ⟨Ab,Ab,Ab,Ab,Ab,Ab,Ab,Ab,Ab,trivial⟩ [] ⟨?_,?_,?_,?_,?_,?_,?_,?_,?_,trivial⟩ ?_
    ·exact stq (fun E=>Ai rfl (E.v oe0))
    ·exact stq (fun E=>Ai rfl (E.v oe5))
    ·exact stq (fun E=>Bk (i:=k) (s:=4) rfl Tryz.underlying125 (by kernel_rfl) (E.d 0) (E.d 1) (by first|exact hlt|exact hlt2))
    ·exact stq (fun E=>Am rfl Tryz.underlying56 rfl (off:=o1+k * 4) (cs:=x.cells) (by rw [HCL1.out];kernel_rfl) (E.d 2) (fun j u hu=>((HAT1.out.mod E.m.old (by intro k h1 h2;have hb:=HBR.out k h1;omega))).2 j u hu))
    ·exact stq (fun E=>Ai rfl (E.v oe1))
    ·exact stq (fun E=>Ai rfl (E.v oe5))
    ·exact stq (fun E=>Bk (i:=k) (s:=4) rfl Tryz.underlying125 (by kernel_rfl) (E.d 4) (E.d 5) (by first|exact hlt|exact hlt2))
    ·exact stq (fun E=>Am rfl Tryz.underlying56 rfl (off:=o2+k * 4) (cs:=y.cells) (by rw [HCL2.out];kernel_rfl) (E.d 6) (fun j u hu=>((HAT2.out.mod E.m.old (by intro k h1 h2;have hb:=HBT.out k h1;omega))).2 j u hu))
    ·exact stq (fun E=>An rfl (E.d 3) (E.d 7) (agg_guardE _ _ _ _ _ _ (by kernel_rfl) _) (EqW.runN eqW_deny (ki_dn _) (ki_dn _) (dn_iff HO1.out HO2.out) _) (congrArg (fun z=>Value.bool (!z)) HB.out.symm))
    intro u6_0 hr
    have zu6_0:=hr.size
    have Cx1:=hid (hr.new (S:=(fun _=>False)))
    clear hr
    refine QChain.nil fun vs hl hzz hrows hne=>?_
    obtain ⟨Z,hYZ,hZb,hV⟩:=hzz
    have f0:=fvi hV hl 0
    have f1:=fvi hV hl 1
    have f4:=fvi hV hl 4
    have f5:=fvi hV hl 5
    have f8:=fvi hV hl 8
    rw [show vs=[gw vs 0,gw vs 1,gw vs 2,gw vs 3,gw vs 4,gw vs 5,gw vs 6,gw vs 7,gw vs 8] from (Be hl).trans rfl]
    have ha0:=HA0.out
    subst ha0
    clear HA0 hV hYZ hZb hsz0 hrows hne oe0 oe1 oe5
    simp only [Au,Act.put,sIB,sCZ,sCS,f0,f1,f4,f5,f8]
    clear hl f0 f1 f4 f5 f8
    cases b with
    | false=>
     go_upto_region 7 with (fail)
     refine Aa 26 [4] [0] (fun a0 HA0=>?_)
     refine QSeq.pure rfl (.bool false) (fun E=>Af rfl rfl) ?_
     refine QSeq.nil (t':=[_]) rfl ?_
     obtain rfl:=HA0.out
     clear HA0
     simp only [pz,Act.put,sIB,sCZ,sCS]
     go_wp2
     go_ret
     exact ⟨Bm (take_ne hlt hlt2 (fun e=>by have h:=HB.out;rw [HX1.out,HX2.out,e,eqb_rfl] at h;cases h)).symm,(HML.out.trans Cx1.out (fun _ _ h=>h.elim))⟩
    | true=>
     go_upto_region 5 with (fail)
     refine Aa 26 [15,16,5] [0,1,2] (fun a0 HA0=>?_)
     have oe5:=ev HA0 5 rfl
     refine QSeq.pure rfl _ (fun E=>Ai rfl (E.y 2 oe5)) ?_
     refine QSeq.pure rfl (.int .i64 (((k:Nat):Int)+1)) (fun E=>An rfl (E.d 0 0) rfl (Ag _ _ _ _ _ _) (run_add_i _ _ Tryz.underlying3) (congrArg (Value.int .i64) (IntWalk.i64_in _ (by omega)))) ?_
     refine QSeq.pure rfl _ (fun E=>Af rfl (E.d 1 0)) ?_
     refine QSeq.nil (t':=[_,_,_]) rfl ?_
     obtain rfl:=HA0.out
     clear HA0 oe5
     simp only [pz,Act.put,sIB,sCZ,sCS]
     go_wp2
     go_roundw
     case rel=>exact ⟨k+1,by go_num,by omega,take_succ2 hlt hlt2 HTK.out (by have h:=eqb_iff.1 HB.out.symm;rw [HX1.out,HX2.out] at h;exact h),by omega,(HS2.out.mod Cx1.out (fun _ _ h=>h)),(HT2.out.mod Cx1.out (fun _ _ h=>h)),(HML.out.trans Cx1.out (fun _ _ h=>h.elim))⟩
     case measure=>simp [intOf]<;>omega
   ·skip
    go_upto_region 4 with (fail)
    refine Aa 26 [11,12,13,14] [0,1,2,3] (fun a0 HA0=>?_)
    have oe0:=ev HA0 0 rfl
    have oe5:=ev HA0 5 rfl
    refine QSeq.pure rfl _ (fun E=>Ai rfl (E.v oe5)) ?_
    refine QSeq.pure rfl _ (fun E=>Ai rfl (E.v oe0)) ?_
    refine QSeq.pure rfl (.int .i64 l.length) (fun E=>A0 rfl (E.d 1 0) Tryz.underlying125) ?_
    refine QSeq.pure rfl (.bool false) (fun E=>An rfl (E.d 0 2) (E.d 2 0) (Ag _ _ _ _ _ _) (A6 _ _ _ Tryz.underlying3) (congrArg Value.bool (decide_eq_false (by omega)))) ?_
    refine QSeq.nil (t':=[_,_,_,_]) rfl ?_
    obtain rfl:=HA0.out
    clear HA0 oe0 oe5
    simp only [pz,Act.put,sIB,sCZ,sCS]
    go_upto_region 8 with (fail)
    refine Aa 26 [4] [0] (fun a0 HA0=>?_)
    refine QSeq.pure rfl (.bool true) (fun E=>Af rfl rfl) ?_
    refine QSeq.nil (t':=[_]) rfl ?_
    obtain rfl:=HA0.out
    clear HA0
    simp only [pz,Act.put,sIB,sCZ,sCS]
    go_wp2
    go_ret
    exact ⟨Bm (take_all (by omega) (by have:=HLE.out;omega) HTK.out).symm,HML.out⟩
set_option maxHeartbeats 4000000 in
theorem Eq_Ce:Eqs CeR 60:=by
 intro R R2 cs ds x y w hx hy hB hB2
 obtain ⟨vx_l,rfl,hokx,hx_l⟩:=hx
 obtain ⟨ax_l,kx_l,rfl⟩:=hx_l.shape
 have Hx_l:=Lib.hid hx_l
 clear hx_l
 have HOKx:=Lib.hid hokx
 clear hokx
 obtain ⟨vy_l,rfl,hoky,hy_l⟩:=hy
 obtain ⟨ay_l,ky_l,rfl⟩:=hy_l.shape
 have Hy_l:=Lib.hid hy_l
 clear hy_l
 have HOKy:=Lib.hid hoky
 clear hoky
 have HBR:=Lib.hid hB
 have HBT:=Lib.hid hB2
 clear hB hB2
 go_enter Tryz.func60,Tryz.ntmps60
 go_upto_region 1 with (fail)
 obtain ⟨w1,hw1⟩:∃ zz,zz=((w.alloc (.cells (x.cells (.slice ax_l x.l.length kx_l):List Value).toArray 35)).alloc (.cells (y.cells (.slice ay_l y.l.length ky_l):List Value).toArray 35)):=⟨_,rfl⟩
 change Code.wp _ _ _ _ ((w.alloc (.cells (x.cells (.slice ax_l x.l.length kx_l):List Value).toArray 35)).alloc (.cells (y.cells (.slice ay_l y.l.length ky_l):List Value).toArray 35))
 rw [← hw1]
 have HB2:=hid (show Cs w1 (w.heap.size) (x.cells (.slice ax_l x.l.length kx_l):List Value).toArray 35 by rw [hw1];exact (Cs.new _ _ _).alloc _)
 have HB3:=hid (show Cs w1 (w.heap.size+1) (y.cells (.slice ay_l y.l.length ky_l):List Value).toArray 35 by rw [hw1];exact Cs_newN _ _ _ (by simp))
 have hm:Mod (fun _=>False) w w1:=by rw [hw1];exact ((Mod.refl _ _).alloc _).alloc _
 have HM0:=hid (show Mod (fun _=>False) w w1 from hm.mono (fun _ _ h=>h.elim))
 have hs1:w1.heap.size=w.heap.size+2:=by rw [hw1];simp
 have Hx1:=hid (Hx_l.out.mod hm (fun _ _ h=>h))
 clear Hx_l
 have Hx2:=hid (Hy_l.out.mod hm (fun _ _ h=>h))
 clear Hy_l
 clear hw1 hm
 go_upto_region 1 with (fail)
 refine Aa 17 [5,6,7,8,9,10,11,12,13,14,15,16,4] [0,1,2,3,4,5,6,7,8,9,10,11,12] (fun a0 HA0=>?_)
 have oe2:=ev HA0 2 rfl
 have oe3:=ev HA0 3 rfl
 refine QSeq.pure rfl (.pointer (some ⟨w.heap.size,0,none⟩)) (fun E=>Ad rfl Tryz.underlying35 rfl (by kernel_rfl) (E.v oe2)) ?_
 refine QSeq.pure rfl _ (fun E=>Am rfl Tryz.underlying29 rfl (off:=0) (cs:=x.c.cells) (by rw [Cm.len HOKx.out.2.1];exact size_commit) (E.d 0 0) (Cs.midA (pre:=[]) (mid:=x.c.cells) (post:=[.slice ax_l x.l.length kx_l]) HB2.out rfl)) ?_
 refine QSeq.pure rfl (.pointer (some ⟨w.heap.size+1,0,none⟩)) (fun E=>Ad rfl Tryz.underlying35 rfl (by kernel_rfl) (E.v oe3)) ?_
 refine QSeq.pure rfl _ (fun E=>Am rfl Tryz.underlying29 rfl (off:=0) (cs:=y.c.cells) (by rw [Cm.len HOKy.out.2.1];exact size_commit) (E.d 2 0) (Cs.midA (pre:=[]) (mid:=y.c.cells) (post:=[.slice ay_l y.l.length ky_l]) HB3.out rfl)) ?_
 refine QSeq.pure rfl (.bool (eqb x.c y.c)) (fun E=>An rfl (E.d 1 2) (E.d 3 0) (agg_guardE _ _ _ _ _ _ (by kernel_rfl) _) (EqW.run eqW_commit (ki_cm HOKx.out.2.1) (ki_cm HOKy.out.2.1) (cm_iff HOKx.out HOKy.out) _) rfl) ?_
 refine QSeq.pure rfl _ (fun E=>Ai rfl (E.d 4 0)) ?_
 refine QSeq.may (b:=(eqb x.c y.c)) rfl (.pointer (some ⟨w.heap.size,37,none⟩)) (fun E=>((Ae rfl rfl (E.sz 10 (by decide)) (E.d 5 0)).trans (Ar _))) (fun E hb=>Ad rfl Tryz.underlying35 rfl (by kernel_rfl) (E.v oe2)) ?_
 intro v1_6 hw
 have hv1_6:=hid hw
 clear hw
 refine QSeq.may (b:=(eqb x.c y.c)) rfl (.slice ax_l x.l.length kx_l) (fun E=>((Ae rfl rfl (E.sz 10 (by decide)) (E.d 5 1)).trans (Ar _))) (fun E hb=>Aj rfl Tryz.underlying33 rfl ((E.q 6 0 hv1_6.out).1 hb) (Cs.post1 (pre:=[]) (mid:=x.c.cells) (post:=[.slice ax_l x.l.length kx_l]) (m:=37) (k:=0) HB2.out (Cm.len HOKx.out.2.1) rfl rfl)) ?_
 intro v1_7 hw
 have hv1_7:=hid hw
 clear hw
 refine QSeq.may (b:=(eqb x.c y.c)) rfl (.pointer (some ⟨w.heap.size+1,37,none⟩)) (fun E=>((Ae rfl rfl (E.sz 10 (by decide)) (E.d 5 2)).trans (Ar _))) (fun E hb=>Ad rfl Tryz.underlying35 rfl (by kernel_rfl) (E.v oe3)) ?_
 intro v1_8 hw
 have hv1_8:=hid hw
 clear hw
 refine QSeq.may (b:=(eqb x.c y.c)) rfl (.slice ay_l y.l.length ky_l) (fun E=>((Ae rfl rfl (E.sz 10 (by decide)) (E.d 5 3)).trans (Ar _))) (fun E hb=>Aj rfl Tryz.underlying33 rfl ((E.q 8 0 hv1_8.out).1 hb) (Cs.post1 (pre:=[]) (mid:=y.c.cells) (post:=[.slice ay_l y.l.length ky_l]) (m:=37) (k:=0) HB3.out (Cm.len HOKy.out.2.1) rfl rfl)) ?_
 intro v1_9 hw
 have hv1_9:=hid hw
 clear hw
 refine QSeq.mayCall (b:=(eqb x.c y.c)) rfl (.bool (eqb x.l y.l)) (args:=#[.slice ax_l x.l.length kx_l,.slice ay_l y.l.length ky_l]) (fun E=>((Ae rfl rfl (E.sz 10 (by decide)) (E.d 5 4)).trans (Ar _))) rfl Tryz.func92 (fun E hb=>Az ((E.q 7 2 hv1_7.out).1 hb) ((E.q 9 0 hv1_9.out).1 hb)) (fun hb=>EqL_St _ _ _ _ _ _ _ Hx1.out Hx2.out (by intro k h1;have hb:=HBR.out k h1;(try have:=hm.size);omega) (by intro k h1;have hb:=HBT.out k h1;(try have:=hm.size);omega)) ?_
 intro v1_10 u1_10 hw hm
 have hv1_10:=hid hw
 clear hw
 have zu1_10:=hm.size
 have Cx3:=hid (show Mod (fun _=>False) w1 u1_10 from hm)
 clear hm
 refine QSeq.pure rfl (.bool ((eqb x.c y.c) && (eqb x.l y.l))) (fun E=>A2 rfl (E.d 5 5) rfl rfl (Bh fun hb=>(E.q 10 0 hv1_10.out).1 hb)) ?_
 refine QSeq.pure rfl _ (fun E=>Af rfl (E.d 11 0)) ?_
 clear hv1_6 hv1_7 hv1_8 hv1_9 hv1_10
 refine QSeq.nil (t':=[_,_,_,_,_,_,_,_,_,_,_,_,_]) rfl ?_
 obtain rfl:=HA0.out
 clear HA0 oe2 oe3
 simp only [pz,Act.put,sIB,sCZ,sCS]
 go_wp2
 go_ret
 exact ⟨Bm (ce_eqb x y),(HM0.out.trans Cx3.out (fun _ _ h=>h.elim))⟩
theorem fm12' {P:Prop} (h:P:=by
 intro R R2 v v2 l m w hs ht hB hB2
 obtain ⟨ao,cap,rfl⟩:=hs.shape
 obtain ⟨bo,bcap,rfl⟩:=ht.shape
 have hlm:l.length≤maxLen:=hs.bd
 rw [Ax] at hlm
 have HS:=Lib.hid hs
 have HT:=Lib.hid ht
 have HBR:=Lib.hid hB
 have HBT:=Lib.hid hB2
 clear hs ht hB hB2
 go_enter va',vb'
 go_upto_region 1 with (fail)
 have HM0:=hid (Mod.refl (fun _=>False) w)
 by_cases hl:l.length=m.length
 rotate_left
 ·skip
  go_upto_region 1 with (fail)
  refine Aa 27 [6,7,8,9,10] [0,1,2,3,4] (fun a0 HA0=>?_)
  have oe0:=ev HA0 0 rfl
  have oe1:=ev HA0 1 rfl
  refine QSeq.pure rfl _ (fun E=>Ai rfl (E.v oe0)) ?_
  refine QSeq.pure rfl (.int .i64 l.length) (fun E=>A0 rfl (E.d 0 0) vc') ?_
  refine QSeq.pure rfl _ (fun E=>Ai rfl (E.v oe1)) ?_
  refine QSeq.pure rfl (.int .i64 m.length) (fun E=>A0 rfl (E.d 2 0) vc') ?_
  refine QSeq.pure rfl (.bool true) (fun E=>An rfl (E.d 1 2) (E.d 3 0) (Ag _ _ _ _ _ _) (run_neq_i _ _ _ Tryz.underlying3) (congrArg Value.bool (ne_tt (by (first|omega|(simp only [ve'] at *;omega)))))) ?_
  refine QSeq.nil (t':=[_,_,_,_,_]) rfl ?_
  obtain rfl:=HA0.out
  clear HA0 oe0 oe1
  simp only [pz,Act.put,sIB,sCZ,sCS]
  go_upto_region 2 with (fail)
  refine Aa 27 [4] [0] (fun a0 HA0=>?_)
  refine QSeq.pure rfl (.bool false) (fun E=>Af rfl rfl) ?_
  refine QSeq.nil (t':=[_]) rfl ?_
  obtain rfl:=HA0.out
  clear HA0
  simp only [pz,Act.put,sIB,sCZ,sCS]
  go_wp2
  go_ret
  exact ⟨Bm (eqb_ne fun e=>hl (by rw [e])).symm,HM0.out⟩
 ·skip
  go_upto_region 1 with (fail)
  refine Aa 27 [6,7,8,9,10] [0,1,2,3,4] (fun a0 HA0=>?_)
  have oe0:=ev HA0 0 rfl
  have oe1:=ev HA0 1 rfl
  refine QSeq.pure rfl _ (fun E=>Ai rfl (E.v oe0)) ?_
  refine QSeq.pure rfl (.int .i64 l.length) (fun E=>A0 rfl (E.d 0 0) vc') ?_
  refine QSeq.pure rfl _ (fun E=>Ai rfl (E.v oe1)) ?_
  refine QSeq.pure rfl (.int .i64 m.length) (fun E=>A0 rfl (E.d 2 0) vc') ?_
  refine QSeq.pure rfl (.bool false) (fun E=>An rfl (E.d 1 2) (E.d 3 0) (Ag _ _ _ _ _ _) (run_neq_i _ _ _ Tryz.underlying3) (congrArg Value.bool (ne_ff (by (first|omega|(simp only [ve'] at *;omega)))))) ?_
  refine QSeq.nil (t':=[_,_,_,_,_]) rfl ?_
  obtain rfl:=HA0.out
  clear HA0 oe0 oe1
  simp only [pz,Act.put,sIB,sCZ,sCS]
  go_upto_region 3 with (fail)
  refine Aa 27 [11,12,13] [0,1,2] (fun a0 HA0=>?_)
  have oe0:=ev HA0 0 rfl
  refine QSeq.pure rfl _ (fun E=>Ai rfl (E.v oe0)) ?_
  refine QSeq.pure rfl (.int .i64 l.length) (fun E=>A0 rfl (E.d 0 0) vc') ?_
  refine QSeq.pure rfl (.int .i64 0) (fun E=>Ai rfl rfl) ?_
  refine QSeq.nil (t':=[_,_,_]) rfl ?_
  obtain rfl:=HA0.out
  clear HA0 oe0
  simp only [pz,Act.put,sIB,sCZ,sCS]
  have HLE:=Lib.hid hl
  clear hl
  go_wp2
  go_loopw [13,5] (fun ti t5 wr=>∃ k:Nat,ti=.int .i64 (k:Int)∧k≤l.length∧l.take k=m.take k∧w.heap.size≤wr.heap.size∧RdS vd' R wr (.slice ao l.length cap) l∧RdS vd' R2 wr (.slice bo m.length bcap) m∧Mod (fun _=>False) w wr) (fun ti t5 _=>l.length - (intOf ti).toNat)
  case atStart=>exact ⟨0,rfl,Nat.zero_le _,rfl,Nat.le_refl _,HS.out,HT.out,HM0.out⟩
  case round=>
   obtain ⟨k,rfl,hk,htk,hz,hs,ht,hm⟩:=hrel
   obtain ⟨wl,rfl⟩:∃ x,x=wr:=⟨_,rfl⟩
   have HS2:=Lib.hid hs
   have HT2:=Lib.hid ht
   have HML:=Lib.hid hm
   have HTK:=Lib.hid htk
   clear hs ht hm htk HS HT HM0
   by_cases hlt:k < l.length
   ·have hlt2:k < m.length:=by have:=HLE.out;(first|omega|(simp only [ve'] at *;omega))
    go_upto_region 4 with (fail)
    refine Aa 27 [14] [0] (fun a0 HA0=>?_)
    have oe12:=ev HA0 12 rfl
    have oe13:=ev HA0 13 rfl
    refine QSeq.pure rfl (.bool true) (fun E=>An rfl (E.v oe13) (E.v oe12) (Ag _ _ _ _ _ _) (A6 _ _ _ Tryz.underlying3) (congrArg Value.bool (decide_eq_true (by (first|omega|(simp only [ve'] at *;omega)))))) ?_
    refine QSeq.nil (t':=[_]) rfl ?_
    obtain rfl:=HA0.out
    clear HA0 oe12 oe13
    simp only [pz,Act.put,sIB,sCZ,sCS]
    go_upto_region 5 with (fail)
    refine Aa 27 [15,5] [0,1] (fun a0 HA0=>?_)
    have oe13:=ev HA0 13 rfl
    refine QSeq.pure rfl _ (fun E=>Ai rfl (E.v oe13)) ?_
    refine QSeq.pure rfl _ (fun E=>Af rfl (E.d 0 0)) ?_
    refine QSeq.nil (t':=[_,_]) rfl ?_
    obtain rfl:=HA0.out
    clear HA0 oe13
    simp only [pz,Act.put,sIB,sCZ,sCS]
    have hat:=HS2.out.at hlt
    obtain ⟨g1,o1,c1,eao,hrg,hrd,hcs⟩:=hat
    subst eao
    obtain ⟨x,hx⟩:∃ z,z=l[k]:=⟨_,rfl⟩
    rw [← hx] at hrd
    have HX1:=Lib.hid hx
    have hcl:c1.length=ve':=vd'.len hrd
    have HCL1:=Lib.hid hcl
    have HAT1:=hid (show CellsAt R wl g1 (o1+k * ve') c1 from ⟨hrg,hcs⟩)
    have HRD1:=Lib.hid hrd
    clear hcl hcs hrd hrg hx
    have hat:=HT2.out.at hlt2
    obtain ⟨g2,o2,c2,eao,hrg,hrd,hcs⟩:=hat
    subst eao
    obtain ⟨y,hy⟩:∃ z,z=m[k]:=⟨_,rfl⟩
    rw [← hy] at hrd
    have HX2:=Lib.hid hy
    have hcl:c2.length=ve':=vd'.len hrd
    have HCL2:=Lib.hid hcl
    have HAT2:=hid (show CellsAt R2 wl g2 (o2+k * ve') c2 from ⟨hrg,hcs⟩)
    have HRD2:=Lib.hid hrd
    clear hcl hcs hrd hrg hy
    obtain ⟨b,hb⟩:∃ b,b=eqb x y:=⟨_,rfl⟩
    have HB:=Lib.hid hb
    clear hb
    go_upto_region 6 with (fail)
    generalize ha0:Act.mk _ _=a0
    have oe0:a0.eval (.tmp 0)=.slice (some ⟨g1,o1,none⟩) l.length cap:=by rw [← ha0];rfl
    have oe1:a0.eval (.tmp 1)=.slice (some ⟨g2,o2,none⟩) m.length bcap:=by rw [← ha0];rfl
    have oe5:a0.eval (.tmp 5)=.int .i64 ((k:Nat):Int):=by rw [← ha0];rfl
    have hsz0:a0.tmps.size=27:=by rw [← ha0];rfl
    have HA0:=hid ha0
    clear ha0
    refine A1 27 hsz0 [16,17,18,19,20,21,22,23,24,25] [qi (.slice (some ⟨g1,o1,none⟩) l.length cap),qi (.int .i64 ((k:Nat):Int)),qi (.pointer (some ⟨g1,o1+k * ve',none⟩)),qi (.agg c1.toArray),qi (.slice (some ⟨g2,o2,none⟩) m.length bcap),qi (.int .i64 ((k:Nat):Int)),qi (.pointer (some ⟨g2,o2+k * ve',none⟩)),qi (.agg c2.toArray),qi (.bool b),qi (.bool (!b))] ⟨Ab,Ab,Ab,Ab,Ab,Ab,Ab,Ab,Ab,Ab,trivial⟩ [8] ⟨?_,?_,?_,?_,?_,?_,?_,?_,?_,?_,trivial⟩ ?_
    ·exact stq (fun E=>Ai rfl (E.v oe0))
    ·exact stq (fun E=>Ai rfl (E.v oe5))
    ·exact stq (fun E=>Bk (i:=k) (s:=ve') rfl vc' (by kernel_rfl) (E.d 0) (E.d 1) (by first|exact hlt|exact hlt2))
    ·exact stq (fun E=>Am rfl vf' rfl (off:=o1+k * ve') (cs:=c1) (by rw [HCL1.out];kernel_rfl) (E.d 2) (fun j u hu=>((HAT1.out.mod E.m.old (by intro k h1 h2;have hb:=HBR.out k h1;(first|omega|(simp only [ve'] at *;omega))))).2 j u hu))
    ·exact stq (fun E=>Ai rfl (E.v oe1))
    ·exact stq (fun E=>Ai rfl (E.v oe5))
    ·exact stq (fun E=>Bk (i:=k) (s:=ve') rfl vc' (by kernel_rfl) (E.d 4) (E.d 5) (by first|exact hlt|exact hlt2))
    ·exact stq (fun E=>Am rfl vf' rfl (off:=o2+k * ve') (cs:=c2) (by rw [HCL2.out];kernel_rfl) (E.d 6) (fun j u hu=>((HAT2.out.mod E.m.old (by intro k h1 h2;have hb:=HBT.out k h1;(first|omega|(simp only [ve'] at *;omega))))).2 j u hu))
    ·exact Ah rfl
    ·exact stq (fun E=>ex_not rfl (E.d 8))
    intro u6_0 hr
    have zu6_0:=hr.size
    have Cx1:=hid (hr.new (S:=(fun _=>False)))
    clear hr
    refine QChain.go fun Z act E=>?_
    refine Ap (args:=#[.agg c1.toArray,.agg c2.toArray]) rfl (Ac rfl) rfl vg' (Az (E.d 3) (E.d 7)) (HB.out.symm▸vh' _ _ _ _ _ _ _ (HRD1.out.mod Cx1.out (fun _ _ h=>h)) (HRD2.out.mod Cx1.out (fun _ _ h=>h)) (by intro k h1;have hb:=HBR.out k h1;(first|omega|(simp only [ve'] at *;omega))) (by intro k h1;have hb:=HBT.out k h1;(first|omega|(simp only [ve'] at *;omega)))) ?_
    rintro e u6_1a ⟨rfl,hm⟩
    have zu6_1a:=hm.size
    refine ⟨_,rfl,hm.mono (fun _ _ h=>h.elim),(fun _=>rfl),?_⟩
    intro u6_1 hr
    have zu6_1:=hr.size
    have Cx2:=hid (Cx1.out.go hm hr)
    clear Cx1 hm hr Z act E
    refine QChain.nil fun vs hl hzz hrows hne=>?_
    obtain ⟨Z,hYZ,hZb,hV⟩:=hzz
    have f0:=fvi hV hl 0
    have f1:=fvi hV hl 1
    have f4:=fvi hV hl 4
    have f5:=fvi hV hl 5
    have f8:=fvi hV hl 8
    have f9:=fvi hV hl 9
    rw [show vs=[gw vs 0,gw vs 1,gw vs 2,gw vs 3,gw vs 4,gw vs 5,gw vs 6,gw vs 7,gw vs 8,gw vs 9] from (Be hl).trans rfl]
    have ha0:=HA0.out
    subst ha0
    clear HA0 hV hYZ hZb hsz0 hrows hne oe0 oe1 oe5
    simp only [Au,Act.put,sIB,sCZ,sCS,f0,f1,f4,f5,f8,f9]
    clear hl f0 f1 f4 f5 f8 f9
    cases b with
    | false=>
     go_upto_region 7 with (fail)
     refine Aa 27 [4] [0] (fun a0 HA0=>?_)
     refine QSeq.pure rfl (.bool false) (fun E=>Af rfl rfl) ?_
     refine QSeq.nil (t':=[_]) rfl ?_
     obtain rfl:=HA0.out
     clear HA0
     simp only [pz,Act.put,sIB,sCZ,sCS]
     go_wp2
     go_ret
     exact ⟨Bm (take_ne hlt hlt2 (fun e=>by have h:=HB.out;rw [HX1.out,HX2.out,e,eqb_rfl] at h;cases h)).symm,(HML.out.trans Cx2.out (fun _ _ h=>h.elim))⟩
    | true=>
     go_upto_region 8 with (fail)
     refine Aa 27 [26,13] [0,1] (fun a0 HA0=>?_)
     have oe13:=ev HA0 13 rfl
     refine QSeq.pure rfl (.int .i64 (((k:Nat):Int)+1)) (fun E=>An rfl (E.y 1 oe13) rfl (Ag _ _ _ _ _ _) (run_add_i _ _ Tryz.underlying3) (congrArg (Value.int .i64) (IntWalk.i64_in _ (by (first|omega|(simp only [ve'] at *;omega)))))) ?_
     refine QSeq.pure rfl _ (fun E=>Ai rfl (E.d 0 0)) ?_
     refine QSeq.nil (t':=[_,_]) rfl ?_
     obtain rfl:=HA0.out
     clear HA0 oe13
     simp only [pz,Act.put,sIB,sCZ,sCS]
     go_wp2
     go_roundw
     case rel=>exact ⟨k+1,by go_num,by (first|omega|(simp only [ve'] at *;omega)),take_succ2 hlt hlt2 HTK.out (by have h:=eqb_iff.1 HB.out.symm;rw [HX1.out,HX2.out] at h;exact h),by (first|omega|(simp only [ve'] at *;omega)),(HS2.out.mod Cx2.out (fun _ _ h=>h)),(HT2.out.mod Cx2.out (fun _ _ h=>h)),(HML.out.trans Cx2.out (fun _ _ h=>h.elim))⟩
     case measure=>simp [intOf]<;>(first|omega|(simp only [ve'] at *;omega))
   ·skip
    go_upto_region 4 with (fail)
    refine Aa 27 [14] [0] (fun a0 HA0=>?_)
    have oe12:=ev HA0 12 rfl
    have oe13:=ev HA0 13 rfl
    refine QSeq.pure rfl (.bool false) (fun E=>An rfl (E.v oe13) (E.v oe12) (Ag _ _ _ _ _ _) (A6 _ _ _ Tryz.underlying3) (congrArg Value.bool (decide_eq_false (by (first|omega|(simp only [ve'] at *;omega)))))) ?_
    refine QSeq.nil (t':=[_]) rfl ?_
    obtain rfl:=HA0.out
    clear HA0 oe12 oe13
    simp only [pz,Act.put,sIB,sCZ,sCS]
    go_upto_region 9 with (fail)
    refine Aa 27 [4] [0] (fun a0 HA0=>?_)
    refine QSeq.pure rfl (.bool true) (fun E=>Af rfl rfl) ?_
    refine QSeq.nil (t':=[_]) rfl ?_
    obtain rfl:=HA0.out
    clear HA0
    simp only [pz,Act.put,sIB,sCZ,sCS]
    go_wp2
    go_ret
    exact ⟨Bm (take_all (by (first|omega|(simp only [ve'] at *;omega))) (by have:=HLE.out;(first|omega|(simp only [ve'] at *;omega))) HTK.out).symm,HML.out⟩):P:=h
open Go.Proofs renaming Tryz.func93→va',Tryz.ntmps93→vb',Tryz.underlying38→vc',Tryz.underlying35→vf',Tryz.func60→vg' in
open Go.Proofs.YtnaoeginonpicaaGreat renaming CeR→vd',Eq_Ce→vh' in
open Go.Gv renaming n'38→ve' in
set_option maxHeartbeats 4000000 in
theorem EqL_Ce:EqsL CeR 93:=
 fm12'
set_option maxHeartbeats 4000000 in
theorem Eq_Pm:Eqs PmR 61:=by
 intro R R2 cs ds x y w hx hy hB hB2
 obtain ⟨vx_l,rfl,hokx,hx_l⟩:=hx
 obtain ⟨ax_l,kx_l,rfl⟩:=hx_l.shape
 have Hx_l:=Lib.hid hx_l
 clear hx_l
 have HOKx:=Lib.hid hokx
 clear hokx
 obtain ⟨vy_l,rfl,hoky,hy_l⟩:=hy
 obtain ⟨ay_l,ky_l,rfl⟩:=hy_l.shape
 have Hy_l:=Lib.hid hy_l
 clear hy_l
 have HOKy:=Lib.hid hoky
 clear hoky
 have HBR:=Lib.hid hB
 have HBT:=Lib.hid hB2
 clear hB hB2
 go_enter Tryz.func61,Tryz.ntmps61
 go_upto_region 1 with (fail)
 obtain ⟨w1,hw1⟩:∃ zz,zz=((w.alloc (.cells (x.cells (.slice ax_l x.l.length kx_l):List Value).toArray 40)).alloc (.cells (y.cells (.slice ay_l y.l.length ky_l):List Value).toArray 40)):=⟨_,rfl⟩
 change Code.wp _ _ _ _ ((w.alloc (.cells (x.cells (.slice ax_l x.l.length kx_l):List Value).toArray 40)).alloc (.cells (y.cells (.slice ay_l y.l.length ky_l):List Value).toArray 40))
 rw [← hw1]
 have HB2:=hid (show Cs w1 (w.heap.size) (x.cells (.slice ax_l x.l.length kx_l):List Value).toArray 40 by rw [hw1];exact (Cs.new _ _ _).alloc _)
 have HB3:=hid (show Cs w1 (w.heap.size+1) (y.cells (.slice ay_l y.l.length ky_l):List Value).toArray 40 by rw [hw1];exact Cs_newN _ _ _ (by simp))
 have hm:Mod (fun _=>False) w w1:=by rw [hw1];exact ((Mod.refl _ _).alloc _).alloc _
 have HM0:=hid (show Mod (fun _=>False) w w1 from hm.mono (fun _ _ h=>h.elim))
 have hs1:w1.heap.size=w.heap.size+2:=by rw [hw1];simp
 have Hx1:=hid (Hx_l.out.mod hm (fun _ _ h=>h))
 clear Hx_l
 have Hx2:=hid (Hy_l.out.mod hm (fun _ _ h=>h))
 clear Hy_l
 clear hw1 hm
 go_upto_region 1 with (fail)
 refine Aa 38 [5,6,7,8,9,10,11,12,13,14,15,16,17,18,19,20,21,22,23,24,25,26,27,28,29,30,31,32,33,34,35,36,37,4] [0,1,2,3,4,5,6,7,8,9,10,11,12,13,14,15,16,17,18,19,20,21,22,23,24,25,26,27,28,29,30,31,32,33] (fun a0 HA0=>?_)
 have oe2:=ev HA0 2 rfl
 have oe3:=ev HA0 3 rfl
 refine QSeq.pure rfl (.pointer (some ⟨w.heap.size,0,none⟩)) (fun E=>Ad rfl Tryz.underlying40 rfl (by kernel_rfl) (E.v oe2)) ?_
 refine QSeq.pure rfl _ (fun E=>Aj rfl Tryz.underlying3 rfl (E.d 0 0) (Cs.lit1 HB2.out rfl)) ?_
 refine QSeq.pure rfl (.pointer (some ⟨w.heap.size+1,0,none⟩)) (fun E=>Ad rfl Tryz.underlying40 rfl (by kernel_rfl) (E.v oe3)) ?_
 refine QSeq.pure rfl _ (fun E=>Aj rfl Tryz.underlying3 rfl (E.d 2 0) (Cs.lit1 HB3.out rfl)) ?_
 refine QSeq.pure rfl (.bool (x.rp == y.rp)) (fun E=>ex_bin rfl (E.d 1 2) (E.d 3 0) (Ag _ _ _ _ _ _) (Al _ _ _ Tryz.underlying3)) ?_
 refine QSeq.pure rfl _ (fun E=>Ai rfl (E.d 4 0)) ?_
 refine QSeq.may (b:=(x.rp == y.rp)) rfl (.pointer (some ⟨w.heap.size,1,none⟩)) (fun E=>((Ae rfl rfl (E.sz 10 (by decide)) (E.d 5 0)).trans (Ar _))) (fun E hb=>Ad rfl Tryz.underlying40 rfl (by kernel_rfl) (E.v oe2)) ?_
 intro v1_6 hw
 have hv1_6:=hid hw
 clear hw
 refine QSeq.may (b:=(x.rp == y.rp)) rfl (.int .i64 x.ep) (fun E=>((Ae rfl rfl (E.sz 10 (by decide)) (E.d 5 1)).trans (Ar _))) (fun E hb=>Aj rfl Tryz.underlying3 rfl ((E.q 6 0 hv1_6.out).1 hb) (Cs.lit1 HB2.out rfl)) ?_
 intro v1_7 hw
 have hv1_7:=hid hw
 clear hw
 refine QSeq.may (b:=(x.rp == y.rp)) rfl (.pointer (some ⟨w.heap.size+1,1,none⟩)) (fun E=>((Ae rfl rfl (E.sz 10 (by decide)) (E.d 5 2)).trans (Ar _))) (fun E hb=>Ad rfl Tryz.underlying40 rfl (by kernel_rfl) (E.v oe3)) ?_
 intro v1_8 hw
 have hv1_8:=hid hw
 clear hw
 refine QSeq.may (b:=(x.rp == y.rp)) rfl (.int .i64 y.ep) (fun E=>((Ae rfl rfl (E.sz 10 (by decide)) (E.d 5 3)).trans (Ar _))) (fun E hb=>Aj rfl Tryz.underlying3 rfl ((E.q 8 0 hv1_8.out).1 hb) (Cs.lit1 HB3.out rfl)) ?_
 intro v1_9 hw
 have hv1_9:=hid hw
 clear hw
 refine QSeq.may (b:=(x.rp == y.rp)) rfl (.bool (x.ep == y.ep)) (fun E=>((Ae rfl rfl (E.sz 10 (by decide)) (E.d 5 4)).trans (Ar _))) (fun E hb=>ex_bin rfl ((E.q 7 2 hv1_7.out).1 hb) ((E.q 9 0 hv1_9.out).1 hb) (Ag _ _ _ _ _ _) (Al _ _ _ Tryz.underlying3)) ?_
 intro v1_10 hw
 have hv1_10:=hid hw
 clear hw
 refine QSeq.pure rfl (.bool ((x.rp == y.rp) && (x.ep == y.ep))) (fun E=>A2 rfl (E.d 5 5) rfl rfl (Bh fun hb=>(E.q 10 0 hv1_10.out).1 hb)) ?_
 refine QSeq.pure rfl _ (fun E=>Ai rfl (E.d 11 0)) ?_
 refine QSeq.may (b:=((x.rp == y.rp) && (x.ep == y.ep))) rfl (.pointer (some ⟨w.heap.size,2,none⟩)) (fun E=>((Ae rfl rfl (E.sz 17 (by decide)) (E.d 12 0)).trans (Ar _))) (fun E hb=>Ad rfl Tryz.underlying40 rfl (by kernel_rfl) (E.v oe2)) ?_
 intro v1_13 hw
 have hv1_13:=hid hw
 clear hw
 refine QSeq.may (b:=((x.rp == y.rp) && (x.ep == y.ep))) rfl (.int .u64 (x.fl:Nat)) (fun E=>((Ae rfl rfl (E.sz 17 (by decide)) (E.d 12 1)).trans (Ar _))) (fun E hb=>Aj rfl Tryz.underlying30 rfl ((E.q 13 0 hv1_13.out).1 hb) (Cs.lit1 HB2.out rfl)) ?_
 intro v1_14 hw
 have hv1_14:=hid hw
 clear hw
 refine QSeq.may (b:=((x.rp == y.rp) && (x.ep == y.ep))) rfl (.pointer (some ⟨w.heap.size+1,2,none⟩)) (fun E=>((Ae rfl rfl (E.sz 17 (by decide)) (E.d 12 2)).trans (Ar _))) (fun E hb=>Ad rfl Tryz.underlying40 rfl (by kernel_rfl) (E.v oe3)) ?_
 intro v1_15 hw
 have hv1_15:=hid hw
 clear hw
 refine QSeq.may (b:=((x.rp == y.rp) && (x.ep == y.ep))) rfl (.int .u64 (y.fl:Nat)) (fun E=>((Ae rfl rfl (E.sz 17 (by decide)) (E.d 12 3)).trans (Ar _))) (fun E hb=>Aj rfl Tryz.underlying30 rfl ((E.q 15 0 hv1_15.out).1 hb) (Cs.lit1 HB3.out rfl)) ?_
 intro v1_16 hw
 have hv1_16:=hid hw
 clear hw
 refine QSeq.may (b:=((x.rp == y.rp) && (x.ep == y.ep))) rfl (.bool (((x.fl:Nat):Int) == ((y.fl:Nat):Int))) (fun E=>((Ae rfl rfl (E.sz 17 (by decide)) (E.d 12 4)).trans (Ar _))) (fun E hb=>ex_bin rfl ((E.q 14 2 hv1_14.out).1 hb) ((E.q 16 0 hv1_16.out).1 hb) (Ag _ _ _ _ _ _) (Al _ _ _ Tryz.underlying30)) ?_
 intro v1_17 hw
 have hv1_17:=hid hw
 clear hw
 refine QSeq.pure rfl (.bool (((x.rp == y.rp) && (x.ep == y.ep)) && (((x.fl:Nat):Int) == ((y.fl:Nat):Int)))) (fun E=>A2 rfl (E.d 12 5) rfl rfl (Bh fun hb=>(E.q 17 0 hv1_17.out).1 hb)) ?_
 refine QSeq.pure rfl _ (fun E=>Ai rfl (E.d 18 0)) ?_
 refine QSeq.may (b:=(((x.rp == y.rp) && (x.ep == y.ep)) && (((x.fl:Nat):Int) == ((y.fl:Nat):Int)))) rfl (.pointer (some ⟨w.heap.size,4,none⟩)) (fun E=>((Ae rfl rfl (E.sz 24 (by decide)) (E.d 19 0)).trans (Ar _))) (fun E hb=>Ad rfl Tryz.underlying40 rfl (by kernel_rfl) (E.v oe2)) ?_
 intro v1_20 hw
 have hv1_20:=hid hw
 clear hw
 refine QSeq.may (b:=(((x.rp == y.rp) && (x.ep == y.ep)) && (((x.fl:Nat):Int) == ((y.fl:Nat):Int)))) rfl (.agg #[.int .i64 x.sb,.int .i64 x.mr]) (fun E=>((Ae rfl rfl (E.sz 24 (by decide)) (E.d 19 1)).trans (Ar _))) (fun E hb=>Am rfl Tryz.underlying27 rfl (off:=4) (cs:=[.int .i64 x.sb,.int .i64 x.mr]) (by kernel_rfl) ((E.q 20 0 hv1_20.out).1 hb) (Cs.litA HB2.out rfl)) ?_
 intro v1_21 hw
 have hv1_21:=hid hw
 clear hw
 refine QSeq.may (b:=(((x.rp == y.rp) && (x.ep == y.ep)) && (((x.fl:Nat):Int) == ((y.fl:Nat):Int)))) rfl (.pointer (some ⟨w.heap.size+1,4,none⟩)) (fun E=>((Ae rfl rfl (E.sz 24 (by decide)) (E.d 19 2)).trans (Ar _))) (fun E hb=>Ad rfl Tryz.underlying40 rfl (by kernel_rfl) (E.v oe3)) ?_
 intro v1_22 hw
 have hv1_22:=hid hw
 clear hw
 refine QSeq.may (b:=(((x.rp == y.rp) && (x.ep == y.ep)) && (((x.fl:Nat):Int) == ((y.fl:Nat):Int)))) rfl (.agg #[.int .i64 y.sb,.int .i64 y.mr]) (fun E=>((Ae rfl rfl (E.sz 24 (by decide)) (E.d 19 3)).trans (Ar _))) (fun E hb=>Am rfl Tryz.underlying27 rfl (off:=4) (cs:=[.int .i64 y.sb,.int .i64 y.mr]) (by kernel_rfl) ((E.q 22 0 hv1_22.out).1 hb) (Cs.litA HB3.out rfl)) ?_
 intro v1_23 hw
 have hv1_23:=hid hw
 clear hw
 refine QSeq.may (b:=(((x.rp == y.rp) && (x.ep == y.ep)) && (((x.fl:Nat):Int) == ((y.fl:Nat):Int)))) rfl (.bool (eqb (x.sb,x.mr) (y.sb,y.mr))) (fun E=>((Ae rfl rfl (E.sz 24 (by decide)) (E.d 19 4)).trans (Ar _))) (fun E hb=>An rfl ((E.q 21 2 hv1_21.out).1 hb) ((E.q 23 0 hv1_23.out).1 hb) (agg_guardE _ _ _ _ _ _ (by kernel_rfl) _) (EqW.run eqW_sig (ki_2 x.sb x.mr) (ki_2 y.sb y.mr) (two_iff x.sb x.mr y.sb y.mr) _) rfl) ?_
 intro v1_24 hw
 have hv1_24:=hid hw
 clear hw
 refine QSeq.pure rfl (.bool ((((x.rp == y.rp) && (x.ep == y.ep)) && (((x.fl:Nat):Int) == ((y.fl:Nat):Int))) && (eqb (x.sb,x.mr) (y.sb,y.mr)))) (fun E=>A2 rfl (E.d 19 5) rfl rfl (Bh fun hb=>(E.q 24 0 hv1_24.out).1 hb)) ?_
 refine QSeq.pure rfl _ (fun E=>Ai rfl (E.d 25 0)) ?_
 refine QSeq.may (b:=((((x.rp == y.rp) && (x.ep == y.ep)) && (((x.fl:Nat):Int) == ((y.fl:Nat):Int))) && (eqb (x.sb,x.mr) (y.sb,y.mr)))) rfl (.pointer (some ⟨w.heap.size,3,none⟩)) (fun E=>((Ae rfl rfl (E.sz 31 (by decide)) (E.d 26 0)).trans (Ar _))) (fun E hb=>Ad rfl Tryz.underlying40 rfl (by kernel_rfl) (E.v oe2)) ?_
 intro v1_27 hw
 have hv1_27:=hid hw
 clear hw
 refine QSeq.may (b:=((((x.rp == y.rp) && (x.ep == y.ep)) && (((x.fl:Nat):Int) == ((y.fl:Nat):Int))) && (eqb (x.sb,x.mr) (y.sb,y.mr)))) rfl (.slice ax_l x.l.length kx_l) (fun E=>((Ae rfl rfl (E.sz 31 (by decide)) (E.d 26 1)).trans (Ar _))) (fun E hb=>Aj rfl Tryz.underlying38 rfl ((E.q 27 0 hv1_27.out).1 hb) (Cs.lit1 HB2.out rfl)) ?_
 intro v1_28 hw
 have hv1_28:=hid hw
 clear hw
 refine QSeq.may (b:=((((x.rp == y.rp) && (x.ep == y.ep)) && (((x.fl:Nat):Int) == ((y.fl:Nat):Int))) && (eqb (x.sb,x.mr) (y.sb,y.mr)))) rfl (.pointer (some ⟨w.heap.size+1,3,none⟩)) (fun E=>((Ae rfl rfl (E.sz 31 (by decide)) (E.d 26 2)).trans (Ar _))) (fun E hb=>Ad rfl Tryz.underlying40 rfl (by kernel_rfl) (E.v oe3)) ?_
 intro v1_29 hw
 have hv1_29:=hid hw
 clear hw
 refine QSeq.may (b:=((((x.rp == y.rp) && (x.ep == y.ep)) && (((x.fl:Nat):Int) == ((y.fl:Nat):Int))) && (eqb (x.sb,x.mr) (y.sb,y.mr)))) rfl (.slice ay_l y.l.length ky_l) (fun E=>((Ae rfl rfl (E.sz 31 (by decide)) (E.d 26 3)).trans (Ar _))) (fun E hb=>Aj rfl Tryz.underlying38 rfl ((E.q 29 0 hv1_29.out).1 hb) (Cs.lit1 HB3.out rfl)) ?_
 intro v1_30 hw
 have hv1_30:=hid hw
 clear hw
 refine QSeq.mayCall (b:=((((x.rp == y.rp) && (x.ep == y.ep)) && (((x.fl:Nat):Int) == ((y.fl:Nat):Int))) && (eqb (x.sb,x.mr) (y.sb,y.mr)))) rfl (.bool (eqb x.l y.l)) (args:=#[.slice ax_l x.l.length kx_l,.slice ay_l y.l.length ky_l]) (fun E=>((Ae rfl rfl (E.sz 31 (by decide)) (E.d 26 4)).trans (Ar _))) rfl Tryz.func93 (fun E hb=>Az ((E.q 28 2 hv1_28.out).1 hb) ((E.q 30 0 hv1_30.out).1 hb)) (fun hb=>EqL_Ce _ _ _ _ _ _ _ Hx1.out Hx2.out (by intro k h1;have hb:=HBR.out k h1;(try have:=hm.size);omega) (by intro k h1;have hb:=HBT.out k h1;(try have:=hm.size);omega)) ?_
 intro v1_31 u1_31 hw hm
 have hv1_31:=hid hw
 clear hw
 have zu1_31:=hm.size
 have Cx3:=hid (show Mod (fun _=>False) w1 u1_31 from hm)
 clear hm
 refine QSeq.pure rfl (.bool (((((x.rp == y.rp) && (x.ep == y.ep)) && (((x.fl:Nat):Int) == ((y.fl:Nat):Int))) && (eqb (x.sb,x.mr) (y.sb,y.mr))) && (eqb x.l y.l))) (fun E=>A2 rfl (E.d 26 5) rfl rfl (Bh fun hb=>(E.q 31 0 hv1_31.out).1 hb)) ?_
 refine QSeq.pure rfl _ (fun E=>Af rfl (E.d 32 0)) ?_
 clear hv1_6 hv1_7 hv1_8 hv1_9 hv1_10 hv1_13 hv1_14 hv1_15 hv1_16 hv1_17 hv1_20 hv1_21 hv1_22 hv1_23 hv1_24 hv1_27 hv1_28 hv1_29 hv1_30 hv1_31
 refine QSeq.nil (t':=[_,_,_,_,_,_,_,_,_,_,_,_,_,_,_,_,_,_,_,_,_,_,_,_,_,_,_,_,_,_,_,_,_,_]) rfl ?_
 obtain rfl:=HA0.out
 clear HA0 oe2 oe3
 simp only [pz,Act.put,sIB,sCZ,sCS]
 go_wp2
 go_ret
 exact ⟨Bm (pm_eqb x y),(HM0.out.trans Cx3.out (fun _ _ h=>h.elim))⟩
set_option maxHeartbeats 4000000 in
theorem Eq_Op:Eqs OpR 63:=by
 intro R R2 cs ds x y w hx hy hB hB2
 obtain ⟨vx_pl,rfl,hokx,hx_pl⟩:=hx
 obtain ⟨ax_pl,kx_pl,rfl⟩:=hx_pl.shape
 have Hx_pl:=Lib.hid hx_pl
 clear hx_pl
 have HOKx:=Lib.hid hokx
 clear hokx
 obtain ⟨vy_pl,rfl,hoky,hy_pl⟩:=hy
 obtain ⟨ay_pl,ky_pl,rfl⟩:=hy_pl.shape
 have Hy_pl:=Lib.hid hy_pl
 clear hy_pl
 have HOKy:=Lib.hid hoky
 clear hoky
 have HBR:=Lib.hid hB
 have HBT:=Lib.hid hB2
 clear hB hB2
 go_enter Tryz.func63,Tryz.ntmps63
 go_upto_region 1 with (fail)
 obtain ⟨w1,hw1⟩:∃ zz,zz=((w.alloc (.cells (x.cells (.slice ax_pl x.pl.length kx_pl):List Value).toArray 54)).alloc (.cells (y.cells (.slice ay_pl y.pl.length ky_pl):List Value).toArray 54)):=⟨_,rfl⟩
 change Code.wp _ _ _ _ ((w.alloc (.cells (x.cells (.slice ax_pl x.pl.length kx_pl):List Value).toArray 54)).alloc (.cells (y.cells (.slice ay_pl y.pl.length ky_pl):List Value).toArray 54))
 rw [← hw1]
 have HB2:=hid (show Cs w1 (w.heap.size) (x.cells (.slice ax_pl x.pl.length kx_pl):List Value).toArray 54 by rw [hw1];exact (Cs.new _ _ _).alloc _)
 have HB3:=hid (show Cs w1 (w.heap.size+1) (y.cells (.slice ay_pl y.pl.length ky_pl):List Value).toArray 54 by rw [hw1];exact Cs_newN _ _ _ (by simp))
 have hm:Mod (fun _=>False) w w1:=by rw [hw1];exact ((Mod.refl _ _).alloc _).alloc _
 have HM0:=hid (show Mod (fun _=>False) w w1 from hm.mono (fun _ _ h=>h.elim))
 have hs1:w1.heap.size=w.heap.size+2:=by rw [hw1];simp
 have Hx1:=hid (Hx_pl.out.mod hm (fun _ _ h=>h))
 clear Hx_pl
 have Hx2:=hid (Hy_pl.out.mod hm (fun _ _ h=>h))
 clear Hy_pl
 clear hw1 hm
 go_upto_region 1 with (fail)
 refine Aa 24 [5,6,7,8,9,10,11,12,13,14,15,16,17,18,19,20,21,22,23,4] [0,1,2,3,4,5,6,7,8,9,10,11,12,13,14,15,16,17,18,19] (fun a0 HA0=>?_)
 have oe2:=ev HA0 2 rfl
 have oe3:=ev HA0 3 rfl
 refine QSeq.pure rfl (.pointer (some ⟨w.heap.size,0,none⟩)) (fun E=>Ad rfl Tryz.underlying54 rfl (by kernel_rfl) (E.v oe2)) ?_
 refine QSeq.pure rfl _ (fun E=>Aj rfl Tryz.underlying3 rfl (E.d 0 0) (Cs.hd1 HB2.out rfl)) ?_
 refine QSeq.pure rfl (.pointer (some ⟨w.heap.size+1,0,none⟩)) (fun E=>Ad rfl Tryz.underlying54 rfl (by kernel_rfl) (E.v oe3)) ?_
 refine QSeq.pure rfl _ (fun E=>Aj rfl Tryz.underlying3 rfl (E.d 2 0) (Cs.hd1 HB3.out rfl)) ?_
 refine QSeq.pure rfl (.bool (x.ix == y.ix)) (fun E=>ex_bin rfl (E.d 1 2) (E.d 3 0) (Ag _ _ _ _ _ _) (Al _ _ _ Tryz.underlying3)) ?_
 refine QSeq.pure rfl _ (fun E=>Ai rfl (E.d 4 0)) ?_
 refine QSeq.may (b:=(x.ix == y.ix)) rfl (.pointer (some ⟨w.heap.size,2,none⟩)) (fun E=>((Ae rfl rfl (E.sz 10 (by decide)) (E.d 5 0)).trans (Ar _))) (fun E hb=>Ad rfl Tryz.underlying54 rfl (by kernel_rfl) (E.v oe2)) ?_
 intro v1_6 hw
 have hv1_6:=hid hw
 clear hw
 refine QSeq.may (b:=(x.ix == y.ix)) rfl (hv x.nc) (fun E=>((Ae rfl rfl (E.sz 10 (by decide)) (E.d 5 1)).trans (Ar _))) (fun E hb=>Am rfl Tryz.underlying25 rfl (off:=2) (cs:=x.nc.map bv) (by rw [List.length_map,HOKx.out.2.1];exact size_hash) ((E.q 6 0 hv1_6.out).1 hb) (Cs.tlA HB2.out rfl)) ?_
 intro v1_7 hw
 have hv1_7:=hid hw
 clear hw
 refine QSeq.may (b:=(x.ix == y.ix)) rfl (.pointer (some ⟨w.heap.size+1,2,none⟩)) (fun E=>((Ae rfl rfl (E.sz 10 (by decide)) (E.d 5 2)).trans (Ar _))) (fun E hb=>Ad rfl Tryz.underlying54 rfl (by kernel_rfl) (E.v oe3)) ?_
 intro v1_8 hw
 have hv1_8:=hid hw
 clear hw
 refine QSeq.may (b:=(x.ix == y.ix)) rfl (hv y.nc) (fun E=>((Ae rfl rfl (E.sz 10 (by decide)) (E.d 5 3)).trans (Ar _))) (fun E hb=>Am rfl Tryz.underlying25 rfl (off:=2) (cs:=y.nc.map bv) (by rw [List.length_map,HOKy.out.2.1];exact size_hash) ((E.q 8 0 hv1_8.out).1 hb) (Cs.tlA HB3.out rfl)) ?_
 intro v1_9 hw
 have hv1_9:=hid hw
 clear hw
 refine QSeq.may (b:=(x.ix == y.ix)) rfl (.bool (eqb x.nc y.nc)) (fun E=>((Ae rfl rfl (E.sz 10 (by decide)) (E.d 5 4)).trans (Ar _))) (fun E hb=>An rfl ((E.q 7 2 hv1_7.out).1 hb) ((E.q 9 0 hv1_9.out).1 hb) (hv_guard2 _ _ _ _ _ _) (hv_eql HOKx.out.2.1 HOKy.out.2.1 _) (congrArg Value.bool (dec_eqb _ _))) ?_
 intro v1_10 hw
 have hv1_10:=hid hw
 clear hw
 refine QSeq.pure rfl (.bool ((x.ix == y.ix) && (eqb x.nc y.nc))) (fun E=>A2 rfl (E.d 5 5) rfl rfl (Bh fun hb=>(E.q 10 0 hv1_10.out).1 hb)) ?_
 refine QSeq.pure rfl _ (fun E=>Ai rfl (E.d 11 0)) ?_
 refine QSeq.may (b:=((x.ix == y.ix) && (eqb x.nc y.nc))) rfl (.pointer (some ⟨w.heap.size,1,none⟩)) (fun E=>((Ae rfl rfl (E.sz 17 (by decide)) (E.d 12 0)).trans (Ar _))) (fun E hb=>Ad rfl Tryz.underlying54 rfl (by kernel_rfl) (E.v oe2)) ?_
 intro v1_13 hw
 have hv1_13:=hid hw
 clear hw
 refine QSeq.may (b:=((x.ix == y.ix) && (eqb x.nc y.nc))) rfl (.slice ax_pl x.pl.length kx_pl) (fun E=>((Ae rfl rfl (E.sz 17 (by decide)) (E.d 12 1)).trans (Ar _))) (fun E hb=>Aj rfl Tryz.underlying52 rfl ((E.q 13 0 hv1_13.out).1 hb) (Cs.hd1 HB2.out rfl)) ?_
 intro v1_14 hw
 have hv1_14:=hid hw
 clear hw
 refine QSeq.may (b:=((x.ix == y.ix) && (eqb x.nc y.nc))) rfl (.pointer (some ⟨w.heap.size+1,1,none⟩)) (fun E=>((Ae rfl rfl (E.sz 17 (by decide)) (E.d 12 2)).trans (Ar _))) (fun E hb=>Ad rfl Tryz.underlying54 rfl (by kernel_rfl) (E.v oe3)) ?_
 intro v1_15 hw
 have hv1_15:=hid hw
 clear hw
 refine QSeq.may (b:=((x.ix == y.ix) && (eqb x.nc y.nc))) rfl (.slice ay_pl y.pl.length ky_pl) (fun E=>((Ae rfl rfl (E.sz 17 (by decide)) (E.d 12 3)).trans (Ar _))) (fun E hb=>Aj rfl Tryz.underlying52 rfl ((E.q 15 0 hv1_15.out).1 hb) (Cs.hd1 HB3.out rfl)) ?_
 intro v1_16 hw
 have hv1_16:=hid hw
 clear hw
 refine QSeq.mayCall (b:=((x.ix == y.ix) && (eqb x.nc y.nc))) rfl (.bool (eqb x.pl y.pl)) (args:=#[.slice ax_pl x.pl.length kx_pl,.slice ay_pl y.pl.length ky_pl]) (fun E=>((Ae rfl rfl (E.sz 17 (by decide)) (E.d 12 4)).trans (Ar _))) rfl Tryz.func17 (fun E hb=>Az ((E.q 14 2 hv1_14.out).1 hb) ((E.q 16 0 hv1_16.out).1 hb)) (fun hb=>Same_B Hx1.out Hx2.out) ?_
 intro v1_17 u1_17 hw hm
 have hv1_17:=hid hw
 clear hw
 have zu1_17:=hm.size
 have Cx3:=hid (show Mod (fun _=>False) w1 u1_17 from hm)
 clear hm
 refine QSeq.pure rfl (.bool (((x.ix == y.ix) && (eqb x.nc y.nc)) && (eqb x.pl y.pl))) (fun E=>A2 rfl (E.d 12 5) rfl rfl (Bh fun hb=>(E.q 17 0 hv1_17.out).1 hb)) ?_
 refine QSeq.pure rfl _ (fun E=>Af rfl (E.d 18 0)) ?_
 clear hv1_6 hv1_7 hv1_8 hv1_9 hv1_10 hv1_13 hv1_14 hv1_15 hv1_16 hv1_17
 refine QSeq.nil (t':=[_,_,_,_,_,_,_,_,_,_,_,_,_,_,_,_,_,_,_,_]) rfl ?_
 obtain rfl:=HA0.out
 clear HA0 oe2 oe3
 simp only [pz,Act.put,sIB,sCZ,sCS]
 go_wp2
 go_ret
 exact ⟨Bm (op_eqb x y),(HM0.out.trans Cx3.out (fun _ _ h=>h.elim))⟩
open Go.Proofs renaming Tryz.func94→va',Tryz.ntmps94→vb',Tryz.underlying42→vc',Tryz.underlying54→vf',Tryz.func63→vg' in
open Go.Proofs.YtnaoeginonpicaaGreat renaming OpR→vd',Eq_Op→vh' in
open Go.Gv renaming n'34→ve' in
set_option maxHeartbeats 4000000 in
theorem EqL_Op:EqsL OpR 94:=
 fm12'
end Go.Proofs.YtnaoeginonpicaaGreat
