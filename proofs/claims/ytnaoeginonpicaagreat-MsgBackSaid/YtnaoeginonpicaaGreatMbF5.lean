/- Texts that are built one behind the other: XOn, XSq, XOl, XGt1, XGt2, XGt3. No condition. -/
import Derived.Test.YtnaoeginonpicaaGreatMbF4
import Derived.Deep.CutBlock
set_option maxRecDepth 100000
set_option linter.unusedVariables false
open Go renaming Lib.hid→B5
open Go.Proofs renaming Tryz.underlying3→B6,Tryz.underlying61→B7,Tryz.underlying45→C2,Tryz.underlying47→C6,Tryz.underlying43→C8,Tryz.underlying52→D1,Tryz.underlying127→D2,Tryz.underlying59→D3,Tryz.underlying25→D5,Tryz.underlying100→D6,Tryz.func67→D7,Tryz.underlying30→D8,Tryz.underlying4→E0
open List renaming append_assoc→B8,length_append→C0,size_toArray→C3,length_nil→C4,length_cons→C5,map_toArray→C7,map_cons→C9,map_nil→D0,not_mem_nil→D4,mem_cons→D9
open Nat renaming le_refl→B9,le_trans→C1
open List renaming setIfInBounds_toArray → sIB, set_cons_zero → sCZ, set_cons_succ → sCS
namespace Go.Proofs.YtnaoeginonpicaaGreat
open Go Go.RowKit Go.Gv
theorem ite_p {α:Type} {P:α→Prop} {c:Prop} [Decidable c] {a b:α} (ha:P a) (hb:P b):P (if c then a else b):=by
 by_cases h:c
 ·rw [if_pos h];exact ha
 ·rw [if_neg h];exact hb
theorem z_pr (R:Nat→Prop) (w:World):PrR.rd R w (zPr.cells zS zS zS) zPr:=⟨_,_,_,rfl,⟨A4,A4,A4,A4,zBa_OK,A4,A4⟩,RdS.nil _ _ _,RdS.nil _ _ _,RdS.nil _ _ _⟩
theorem z_op (R:Nat→Prop) (w:World):OpR.rd R w (zOp.cells zS) zOp:=⟨_,rfl,⟨A4,HK_zero⟩,⟨⟨(fun b hb=>by cases hb),Rd.nil _ _⟩,(fun h=>absurd h (show ¬ 0 < ([]:List Int).length by decide)),B9 _⟩⟩
theorem z_dc (R:Nat→Prop) (w:World):DcR.rd R w (zDc.cells zS zS zS zS) zDc:=⟨_,_,_,_,rfl,⟨A4,A4,zBa_OK⟩,RdS.nil _ _ _,RdS.nil _ _ _,RdS.nil _ _ _,RdS.nil _ _ _⟩
theorem cp_zce:cpCe zCe:=Nat.zero_le _
theorem cp_zpm:cpPm zPm:=⟨Nat.zero_le _,fun y hy=>by cases hy⟩
theorem cp_zop:cpOp zOp:=Nat.zero_le _
theorem cp_zba:cpBa zBa:=⟨⟨Nat.zero_le _,fun y hy=>by cases hy⟩,⟨Nat.zero_le _,fun y hy=>by cases hy⟩,⟨Nat.zero_le _,fun y hy=>by cases hy⟩⟩
theorem cp_only {x:Mg} (h:cpMg x):cpMg (B4 x):=by
 obtain ⟨h1,h2,h3,h4,h5,h6⟩:=h
 unfold B4
 repeat' (refine ite_p ?_ ?_)
 all_goals exact ⟨by first|exact h1|exact cp_zce,by first|exact h2|exact cp_zpm,by first|exact h3|exact cp_zop,by first|exact h4|exact cp_zba,by first|exact h5|exact cp_zba,by first|exact h6|exact Nat.zero_le _⟩
set_option maxHeartbeats 8000000 in
theorem Only_Q:∀ (R2:Nat→Prop) (x:Mg) (cs:List Value) (w:World),MgR.rd R2 w cs x→(∀ k,R2 k→k < w.heap.size)→cpMg x→
 Calls Tryz.prog 18 #[.agg cs.toArray] w fun e w'=>∃ cs',e=.returned (.agg cs'.toArray)∧MgR.rd (New w w') w' cs' (B4 x)∧Mod (fun _=>False) w w':=by
 intro R2 x cs w hx hB2 hP
 obtain ⟨c5,c10,c11,c15,c18,rfl,hok,h5,h10,h11,h15,h18⟩:=hx
 have HLN:=hid (Mg.lns hok h5 h10 h11 h15 h18)
 have HC5:=hid (CeR.len h5)
 have HO5:=hid (CeR.one h5)
 have H5:=B5 h5
 have HC10:=hid (PmR.len h10)
 have HO10:=hid (PmR.one h10)
 have H10:=B5 h10
 have HC11:=hid (PrR.len h11)
 have HO11:=hid (PrR.one h11)
 have H11:=B5 h11
 have HC15:=hid (OpR.len h15)
 have HO15:=hid (OpR.one h15)
 have H15:=B5 h15
 have HC18:=hid (DcR.len h18)
 have HO18:=hid (DcR.one h18)
 have H18:=B5 h18
 have HBT:=B5 hB2
 have HOK:=B5 hok
 have HP:=B5 hP
 clear hP
 clear hB2 hok h5 h10 h11 h15 h18
 have HZL:=hid (show (Mg.segs (mg0 x.kd x.fr x.to) (zCe.cells zS) (zPm.cells zS) (zPr.cells zS zS zS) (zOp.cells zS) (zDc.cells zS zS zS zS)).map List.length=mgN from rfl)
 have HZK:=hid (show Mg.OK (mg0 x.kd x.fr x.to) from { zMg_OK with kd:=HOK.o.kd,fr:=HOK.o.fr,«to»:=HOK.o.to })
 have HO0:=hid (MgR.one (mg0_rd HOK.o.kd HOK.o.fr HOK.o.to (fun _=>False) w))
 have HZO:=hid (MgR.one (mg0_rd (k:=0) (f:=0) (t:=0) A4 A4 A4 (fun _=>False) w))
 go_enter Tryz.func18,Tryz.ntmps18
 go_upto_region 1 with (fail)
 obtain ⟨w1,hw1⟩:∃ zz,zz=((w.alloc (.cells ((x.segs c5 c10 c11 c15 c18).flatten:List Value).toArray 61)).alloc (.cells ((mg0C 0 0 0):List Value).toArray 61)):=⟨_,rfl⟩
 change Code.wp _ _ _ _ ((w.alloc (.cells ((x.segs c5 c10 c11 c15 c18).flatten:List Value).toArray 61)).alloc (.cells ((mg0C 0 0 0):List Value).toArray 61))
 rw [← hw1]
 have HB1:=hid (show Cs w1 (w.heap.size) ((x.segs c5 c10 c11 c15 c18).flatten:List Value).toArray 61 by rw [hw1];exact (Cs.new _ _ _).alloc _)
 have HB2:=hid (show Cs w1 (w.heap.size+1) ((mg0C 0 0 0):List Value).toArray 61 by rw [hw1];exact Cs_newN _ _ _ bD)
 have hm:Mod (fun _=>False) w w1:=by rw [hw1];exact ((Mod.refl _ _).alloc _).alloc _
 have HM0:=hid (show Mod (fun _=>False) w w1 from hm.mono (fun _ _ h=>h.elim))
 have hs1:w1.heap.size=w.heap.size+2:=by rw [hw1];simp
 have d6:=hid (H5.o.mod hm (fun _ _ h=>h))
 clear H5
 have d7:=hid (H10.o.mod hm (fun _ _ h=>h))
 clear H10
 have d8:=hid (H11.o.mod hm (fun _ _ h=>h))
 clear H11
 have d9:=hid (H15.o.mod hm (fun _ _ h=>h))
 clear H15
 have g5:=hid (H18.o.mod hm (fun _ _ h=>h))
 clear H18
 clear hw1 hm
 go_upto_region 1 with (fail)
 refine Aa 98 [4,5,6,7,8,9,10,3,106] [0,1,2,3,4,5,6,7,8] (fun a0 HA0=>?_)
 have c3:=ev HA0 1 rfl
 refine qfd rfl 0 B7 c3 ?_
 refine QSeq.pure rfl (.int .i64 x.kd) (fun E=>Af rfl B6 rfl (E.d 0 0) (AE HB1.o HLN.o 0 rfl (o:=0) (k:=0) rfl rfl rfl)) ?_
 refine qfd rfl 1 B7 c3 ?_
 refine QSeq.pure rfl (.int .i64 x.fr) (fun E=>Af rfl B6 rfl (E.d 2 0) (AE HB1.o HLN.o 1 rfl (o:=1) (k:=0) rfl rfl rfl)) ?_
 refine qfd rfl 2 B7 c3 ?_
 refine QSeq.pure rfl (.int .i64 x.to) (fun E=>Af rfl B6 rfl (E.d 4 0) (AE HB1.o HLN.o 2 rfl (o:=2) (k:=0) rfl rfl rfl)) ?_
 refine QSeq.go fun act E=>?_
 refine Br rfl (Ab rfl) (v:=.agg ((mg0C x.kd x.fr x.to):List Value).toArray) (Bj rfl (z:=(mg0C 0 0 0)) (places:=[(0,1),(1,1),(2,1),(3,37),(40,38),(78,38),(116,38),(154,1),(155,1),(156,1),(157,6),(163,11),(174,38),(212,1),(213,35),(248,34),(282,4),(286,1),(287,8)]) aD (parts:=[(0,.int .i64 x.kd),(1,.int .i64 x.fr),(2,.int .i64 x.to)]) (by simp only [C7,C9,D0,show act.eval (.tmp 5)=.int .i64 x.kd from (E.d 1 4),show act.eval (.tmp 7)=.int .i64 x.fr from (E.d 3 2),show act.eval (.tmp 9)=.int .i64 x.to from (E.d 5 0)];try rfl) (r:=(mg0C x.kd x.fr x.to)) (by exact (Bi (ns:=mgN) rfl [(0,.int .i64 x.kd),(1,.int .i64 x.fr),(2,.int .i64 x.to)] (zMg.segs (zCe.cells zS) (zPm.cells zS) (zPr.cells zS zS zS) (zOp.cells zS) (zDc.cells zS zS zS zS)) rfl ⟨rfl,rfl,rfl,trivial⟩).trans rfl)) ?_
 clear act E
 refine QSeq.go fun act E=>?_
 refine B3 rfl (Ab rfl) rfl (z:=(mg0C 0 0 0)) aD ?_
 intro p9 qb5 hm
 have x4:=qb5.lt
 have g6:=hid qb5
 have x5:=hm.size
 have g7:=hid (show Mod (fun _=>False) w1 p9 from hm)
 clear hm
 clear act E qb5
 refine QSeq.go fun act E=>?_
 have hlz:((mg0C x.kd x.fr x.to)).length=List.length ((mg0C 0 0 0):List Value):=rfl
 refine Ah rfl (Ab rfl) rfl g6.out (off:=0) (vs:=(mg0C x.kd x.fr x.to)) cO HO0.o bK (E.d 7 0) (ec (E.d 6 1)) ?_
 intro c8 qc0 hm
 have qb5:=qc0.eqv (b:=((mg0C x.kd x.fr x.to):List Value).toArray) (Ap (((mg0C 0 0 0):List Value).toArray) _ dO)
 clear qc0 hlz
 have c6:=hid qb5
 have x6:=hm.size
 have q6:=hid hm
 have c7:=hid (AB (S':=(fun _=>False)) g7.out hm (fun _ h=>h) cG)
 clear hm g7
 clear act E qb5 g6
 clear q6
 refine qe ?_
 clear HA0 c3 a0
 go_upto_region 2 with (fail)
 refine Aa 98 [11,12] [0,1] (fun a0 HA0=>?_)
 have c3:=ev HA0 1 rfl
 refine qfd rfl 0 B7 c3 ?_
 refine QSeq.pure rfl (.int .i64 x.kd) (fun E=>Af rfl B6 rfl (E.d 0 0) (AE (HB1.o.mod c7.out (fun h=>h)) HLN.o 0 rfl (o:=0) (k:=0) rfl rfl rfl)) ?_
 refine qe ?_
 clear HA0 c3 a0
 go_upto_block 0 with (fail)
 go_cut [3] from 14 (fun t3 w'=>t3=.pointer (some ⟨w1.heap.size,0,none⟩)∧∃ (y:Mg) (cy:List Value),y=B4 x∧Cs w' (w1.heap.size) cy.toArray 61∧MgR.rd R2 w' cy y∧Mod (fun k=>k=w1.heap.size) c8 w')
 case first=>
  have hmz:=hid (Mod.refl (fun k=>k=w1.heap.size) c8)
  by_cases h1:x.kd=1
  ·have KK:=B5 h1
   clear h1
   go_upto_region 4 with (fail)
   refine tst 98 B6 (Bl KK.o) rfl (qs ?_)
   have HE:=hid (show B4 x=({ mg0 x.kd x.fr x.to with cm:=x.cm }:Mg) by unfold B4;rw [if_pos KK.o]<;>rfl)
   go_upto_region 5 with (fail)
   refine Aa 98 [16,17,18,101] [0,1,2,3] (fun a0 HA0=>?_)
   have c3:=ev HA0 1 rfl
   have c4:=ev HA0 3 rfl
   refine qfd rfl 3 B7 c3 ?_
   refine QSeq.pure rfl _ (fun E=>Aj rfl Tryz.underlying29 rfl (off:=3) (cs:=(x.cm.cells)) (by rw [Cm.len HOK.o.cm.2.1];exact size_commit) (E.d 0 0) (Cs.seg (HB1.o.mod c7.out (fun h=>h)) HLN.o 3 rfl rfl)) ?_
   refine qfd rfl 3 B7 c4 ?_
   refine QSeq.go fun act E=>?_
   refine Ah rfl (Ab rfl) rfl c6.out (off:=3) (vs:=(x.cm.cells)) (by rw [Cm.len HOK.o.cm.2.1];kernel_rfl) (Cm_one _) (by show 3+_≤295;rw [Cm.len HOK.o.cm.2.1];decide) (E.d 2 0) (ec (E.d 1 1)) ?_
   intro g8 qc0 hm
   have qb5:=qc0.eqv (b:=((Mg.segs ({ mg0 x.kd x.fr x.to with cm:=x.cm }:Mg) (zCe.cells zS) (zPm.cells zS) (zPr.cells zS zS zS) (zOp.cells zS) (zDc.cells zS zS zS zS)).flatten:List Value).toArray) ((A2 HZL.o 3 (by rw [Cm.len HOK.o.cm.2.1];rfl) rfl).trans rfl)
   clear qc0
   have q7:=hid qb5
   have x7:=hm.size
   have q8:=hid (show Mod (fun k=>(k=w1.heap.size)) c8 g8 from hm)
   clear hm
   clear act E qb5 c6
   refine qe ?_
   clear HA0 c3 c4 a0
   have hrz:MgR.rd R2 g8 ((Mg.segs ({ mg0 x.kd x.fr x.to with cm:=x.cm }:Mg) (zCe.cells zS) (zPm.cells zS) (zPr.cells zS zS zS) (zOp.cells zS) (zDc.cells zS zS zS zS)).flatten) ({ mg0 x.kd x.fr x.to with cm:=x.cm }:Mg):=⟨_,_,_,_,_,rfl,{ HZK.o with cm:=HOK.o.cm },zCe_rd _ _,zPm_rd _ _,z_pr _ _,z_op _ _,z_dc _ _⟩
   have HRZ:=B5 hrz
   clear hrz
   go_wp2_with fail
   go_meet
   case rel=>exact ⟨congrArg (fun z=>Value.pointer (some ⟨z,0,none⟩)) aM,_,_,HE.o.symm,q7.out,HRZ.o,(hmz.out.trans q8.out (fun _ _ h=>h))⟩
  have K1:=B5 h1
  clear h1
  go_upto_region 4 with (fail)
  refine tst 98 B6 (Bk K1.o) rfl (qs ?_)
  by_cases h2:x.kd=2
  ·have KK:=B5 h2
   clear h2
   go_upto_region 6 with (fail)
   refine tst 98 B6 (Bl KK.o) rfl (qs ?_)
   have HE:=hid (show B4 x=({ mg0 x.kd x.fr x.to with st:=x.st }:Mg) by unfold B4;rw [if_neg K1.o,if_pos KK.o]<;>rfl)
   go_upto_region 7 with (fail)
   refine Aa 98 [21,22,23,101] [0,1,2,3] (fun a0 HA0=>?_)
   have c3:=ev HA0 1 rfl
   have c4:=ev HA0 3 rfl
   refine qfd rfl 40 B7 c3 ?_
   refine QSeq.pure rfl _ (fun E=>Aj rfl Tryz.underlying32 rfl (off:=40) (cs:=(x.st.cells)) (by rw [St.len HOK.o.st];kernel_rfl) (E.d 0 0) (Cs.seg (HB1.o.mod c7.out (fun h=>h)) HLN.o 4 rfl rfl)) ?_
   refine qfd rfl 40 B7 c4 ?_
   refine QSeq.go fun act E=>?_
   refine Ah rfl (Ab rfl) rfl c6.out (off:=40) (vs:=(x.st.cells)) (by rw [St.len HOK.o.st];kernel_rfl) (St.one _) (by show 40+_≤295;rw [St.len HOK.o.st];decide) (E.d 2 0) (ec (E.d 1 1)) ?_
   intro g9 qc0 hm
   have qb5:=qc0.eqv (b:=((Mg.segs ({ mg0 x.kd x.fr x.to with st:=x.st }:Mg) (zCe.cells zS) (zPm.cells zS) (zPr.cells zS zS zS) (zOp.cells zS) (zDc.cells zS zS zS zS)).flatten:List Value).toArray) ((A2 HZL.o 4 (by rw [St.len HOK.o.st];rfl) rfl).trans rfl)
   clear qc0
   have q9:=hid qb5
   have x8:=hm.size
   have r3:=hid (show Mod (fun k=>(k=w1.heap.size)) c8 g9 from hm)
   clear hm
   clear act E qb5 c6
   refine qe ?_
   clear HA0 c3 c4 a0
   have hrz:MgR.rd R2 g9 ((Mg.segs ({ mg0 x.kd x.fr x.to with st:=x.st }:Mg) (zCe.cells zS) (zPm.cells zS) (zPr.cells zS zS zS) (zOp.cells zS) (zDc.cells zS zS zS zS)).flatten) ({ mg0 x.kd x.fr x.to with st:=x.st }:Mg):=⟨_,_,_,_,_,rfl,{ HZK.o with st:=HOK.o.st },zCe_rd _ _,zPm_rd _ _,z_pr _ _,z_op _ _,z_dc _ _⟩
   have HRZ:=B5 hrz
   clear hrz
   go_wp2_with fail
   go_meet
   case rel=>exact ⟨congrArg (fun z=>Value.pointer (some ⟨z,0,none⟩)) aM,_,_,HE.o.symm,q9.out,HRZ.o,(hmz.out.trans r3.out (fun _ _ h=>h))⟩
  have K2:=B5 h2
  clear h2
  go_upto_region 6 with (fail)
  refine tst 98 B6 (Bk K2.o) rfl (qs ?_)
  by_cases h3:x.kd=3
  ·have KK:=B5 h3
   clear h3
   go_upto_region 8 with (fail)
   refine tst 98 B6 (Bl KK.o) rfl (qs ?_)
   have HE:=hid (show B4 x=({ mg0 x.kd x.fr x.to with ce:=x.ce }:Mg) by unfold B4;rw [if_neg K1.o,if_neg K2.o,if_pos KK.o]<;>rfl)
   go_upto_region 9 with (fail)
   refine Aa 98 [26,27,28,101] [0,1,2,3] (fun a0 HA0=>?_)
   have c3:=ev HA0 1 rfl
   have c4:=ev HA0 3 rfl
   refine qfd rfl 78 B7 c3 ?_
   refine QSeq.pure rfl _ (fun E=>Aj rfl Tryz.underlying35 rfl (off:=78) (cs:=(c5)) gO (E.d 0 0) (Cs.seg (HB1.o.mod c7.out (fun h=>h)) HLN.o 5 rfl rfl)) ?_
   refine qfd rfl 78 B7 c4 ?_
   refine QSeq.go fun act E=>?_
   refine Ah rfl (Ab rfl) rfl c6.out (off:=78) (vs:=c5) gO HO5.o (by show 78+_≤295;rw [HC5.o];decide) (E.d 2 0) (ec (E.d 1 1)) ?_
   intro i7 qc0 hm
   have qb5:=qc0.eqv (b:=((Mg.segs ({ mg0 x.kd x.fr x.to with ce:=x.ce }:Mg) c5 (zPm.cells zS) (zPr.cells zS zS zS) (zOp.cells zS) (zDc.cells zS zS zS zS)).flatten:List Value).toArray) ((A2 HZL.o 5 (by rw [HC5.o];rfl) rfl).trans rfl)
   clear qc0
   have r4:=hid qb5
   have x9:=hm.size
   have i8:=hid (show Mod (fun k=>(k=w1.heap.size)) c8 i7 from hm)
   clear hm
   clear act E qb5 c6
   refine qe ?_
   clear HA0 c3 c4 a0
   have hrz:MgR.rd R2 i7 ((Mg.segs ({ mg0 x.kd x.fr x.to with ce:=x.ce }:Mg) c5 (zPm.cells zS) (zPr.cells zS zS zS) (zOp.cells zS) (zDc.cells zS zS zS zS)).flatten) ({ mg0 x.kd x.fr x.to with ce:=x.ce }:Mg):=⟨_,_,_,_,_,rfl,{ HZK.o with },((d6.out.mod c7.out (fun _ _ h=>h)).mod i8.out (sB HBT)),zPm_rd _ _,z_pr _ _,z_op _ _,z_dc _ _⟩
   have HRZ:=B5 hrz
   clear hrz
   go_wp2_with fail
   go_meet
   case rel=>exact ⟨congrArg (fun z=>Value.pointer (some ⟨z,0,none⟩)) aM,_,_,HE.o.symm,r4.out,HRZ.o,(hmz.out.trans i8.out (fun _ _ h=>h))⟩
  have K3:=B5 h3
  clear h3
  go_upto_region 8 with (fail)
  refine tst 98 B6 (Bk K3.o) rfl (qs ?_)
  by_cases h4:x.kd=4
  ·have KK:=B5 h4
   clear h4
   go_upto_region 10 with (fail)
   refine tst 98 B6 (Bl KK.o) rfl (qs ?_)
   have HE:=hid (show B4 x=({ mg0 x.kd x.fr x.to with ak:=x.ak }:Mg) by unfold B4;rw [if_neg K1.o,if_neg K2.o,if_neg K3.o,if_pos KK.o]<;>rfl)
   go_upto_region 11 with (fail)
   refine Aa 98 [31,32,33,101] [0,1,2,3] (fun a0 HA0=>?_)
   have c3:=ev HA0 1 rfl
   have c4:=ev HA0 3 rfl
   refine qfd rfl 116 B7 c3 ?_
   refine QSeq.pure rfl _ (fun E=>Aj rfl Tryz.underlying37 rfl (off:=116) (cs:=(x.ak.cells)) (by rw [St.len HOK.o.ak];kernel_rfl) (E.d 0 0) (Cs.seg (HB1.o.mod c7.out (fun h=>h)) HLN.o 6 rfl rfl)) ?_
   refine qfd rfl 116 B7 c4 ?_
   refine QSeq.go fun act E=>?_
   refine Ah rfl (Ab rfl) rfl c6.out (off:=116) (vs:=(x.ak.cells)) (by rw [St.len HOK.o.ak];kernel_rfl) (St.one _) (by show 116+_≤295;rw [St.len HOK.o.ak];decide) (E.d 2 0) (ec (E.d 1 1)) ?_
   intro i9 qc0 hm
   have qb5:=qc0.eqv (b:=((Mg.segs ({ mg0 x.kd x.fr x.to with ak:=x.ak }:Mg) (zCe.cells zS) (zPm.cells zS) (zPr.cells zS zS zS) (zOp.cells zS) (zDc.cells zS zS zS zS)).flatten:List Value).toArray) ((A2 HZL.o 6 (by rw [St.len HOK.o.ak];rfl) rfl).trans rfl)
   clear qc0
   have r5:=hid qb5
   have y0:=hm.size
   have r6:=hid (show Mod (fun k=>(k=w1.heap.size)) c8 i9 from hm)
   clear hm
   clear act E qb5 c6
   refine qe ?_
   clear HA0 c3 c4 a0
   have hrz:MgR.rd R2 i9 ((Mg.segs ({ mg0 x.kd x.fr x.to with ak:=x.ak }:Mg) (zCe.cells zS) (zPm.cells zS) (zPr.cells zS zS zS) (zOp.cells zS) (zDc.cells zS zS zS zS)).flatten) ({ mg0 x.kd x.fr x.to with ak:=x.ak }:Mg):=⟨_,_,_,_,_,rfl,{ HZK.o with ak:=HOK.o.ak },zCe_rd _ _,zPm_rd _ _,z_pr _ _,z_op _ _,z_dc _ _⟩
   have HRZ:=B5 hrz
   clear hrz
   go_wp2_with fail
   go_meet
   case rel=>exact ⟨congrArg (fun z=>Value.pointer (some ⟨z,0,none⟩)) aM,_,_,HE.o.symm,r5.out,HRZ.o,(hmz.out.trans r6.out (fun _ _ h=>h))⟩
  have K4:=B5 h4
  clear h4
  go_upto_region 10 with (fail)
  refine tst 98 B6 (Bk K4.o) rfl (qs ?_)
  by_cases h5:x.kd=5
  ·have KK:=B5 h5
   clear h5
   go_upto_region 12 with (fail)
   refine tst 98 B6 (Bl KK.o) rfl (qs ?_)
   have HE:=hid (show B4 x=({ mg0 x.kd x.fr x.to with ep:=x.ep,rn:=x.rn,tm:=x.tm }:Mg) by unfold B4;rw [if_neg K1.o,if_neg K2.o,if_neg K3.o,if_neg K4.o,if_pos KK.o]<;>rfl)
   go_upto_region 13 with (fail)
   generalize ha0:Act.mk _ _=a0
   have c3:a0.eval (.tmp 1)=.pointer (some ⟨w.heap.size,0,none⟩):=by rw [← ha0];rfl
   have c4:a0.eval (.tmp 3)=.pointer (some ⟨w1.heap.size,0,none⟩):=by rw [← ha0];rfl
   have hsz0:a0.tmps.size=98:=by rw [← ha0];rfl
   have HA0:=hid ha0
   clear ha0
   refine A8 98 hsz0 [36,37,38,39,40,41,42,105,43,107,44,109] (fun k=>(k=w1.heap.size)) (fun k j=>(k=0∧((j=w1.heap.size)))∨(k=1∧((j=w1.heap.size)))∨(k=2∧((j=w1.heap.size)))) dJ [qi (.pointer (some ⟨w.heap.size,154,none⟩)),qi (.int .i64 x.ep),qi (.pointer (some ⟨w.heap.size,155,none⟩)),qi (.int .i64 x.rn),qi (.pointer (some ⟨w.heap.size,156,none⟩)),qi (.int .u64 (x.tm:Nat)),qi (.pointer (some ⟨w1.heap.size,154,none⟩)),qv 0,qi (.pointer (some ⟨w1.heap.size,155,none⟩)),qv 1,qi (.pointer (some ⟨w1.heap.size,156,none⟩)),qv 2] ⟨Ad,Ad,Ad,Ad,Ad,Ad,Ad,Ar,Ad,Ar,Ad,Ar,trivial⟩ [7,9,11] ⟨?_,?_,?_,?_,?_,?_,?_,?_,?_,?_,?_,?_,trivial⟩ ?_
   ·exact stq (fun E=>Ae rfl B7 rfl aD (E.v c3))
   ·exact stq (fun E=>Af rfl B6 rfl (E.d 0) (AE ((HB1.o.mod c7.out (fun h=>h)).mod E.m aJ) HLN.o 7 rfl (o:=154) (k:=0) rfl rfl rfl))
   ·exact stq (fun E=>Ae rfl B7 rfl aD (E.v c3))
   ·exact stq (fun E=>Af rfl B6 rfl (E.d 2) (AE ((HB1.o.mod c7.out (fun h=>h)).mod E.m aJ) HLN.o 8 rfl (o:=155) (k:=0) rfl rfl rfl))
   ·exact stq (fun E=>Ae rfl B7 rfl aD (E.v c3))
   ·exact stq (fun E=>Af rfl D8 rfl (E.d 4) (AE ((HB1.o.mod c7.out (fun h=>h)).mod E.m aJ) HLN.o 9 rfl (o:=156) (k:=0) rfl rfl rfl))
   ·exact stq (fun E=>Ae rfl B7 rfl aD (E.v c4))
   ·exact Ai rfl
   ·exact stq (fun E=>Ae rfl B7 rfl aD (E.v c4))
   ·exact Ai rfl
   ·exact stq (fun E=>Ae rfl B7 rfl aD (E.v c4))
   ·exact Ai rfl
   intro y5 hr
   have y6:=hr.size
   have j0:=hid (hr.new (S:=(fun k=>(k=w1.heap.size))))
   have j3:=hid (c6.out.mod hr aJ)
   clear c6
   clear hr
   refine QChain.go fun Z act E=>?_
   refine Ah rfl (Ab rfl) rfl j3.out (off:=154) (vs:=[.int .i64 x.ep]) aD one1 (by show 154+1≤295;decide) (E.d 6) (ec (E.d 1)) ?_
   intro y7 qc0 hm
   have qb5:=qc0.eqv (b:=((Mg.segs ({ mg0 x.kd x.fr x.to with ep:=x.ep }:Mg) (zCe.cells zS) (zPm.cells zS) (zPr.cells zS zS zS) (zOp.cells zS) (zDc.cells zS zS zS zS)).flatten:List Value).toArray) ((A2 HZL.o 7 (rfl) rfl).trans rfl)
   clear qc0
   have y8:=hm.size
   refine ⟨hm.mono bM,(fun _=>rfl),?_⟩
   intro z0 hr
   have z7:=hr.size
   have j4:=hid (qb5.mod hr aJ)
   have j5:=hid (j0.out.goM hm hr (fun _ _ h=>h))
   clear j0 hm hr Z act E qb5 j3
   refine QChain.go fun Z act E=>?_
   refine Ah rfl (Ab rfl) rfl j4.out (off:=155) (vs:=[.int .i64 x.rn]) aD one1 (by show 155+1≤295;decide) (E.d 8) (ec (E.d 3)) ?_
   intro z9 qc0 hm
   have qb5:=qc0.eqv (b:=((Mg.segs ({ mg0 x.kd x.fr x.to with ep:=x.ep,rn:=x.rn }:Mg) (zCe.cells zS) (zPm.cells zS) (zPr.cells zS zS zS) (zOp.cells zS) (zDc.cells zS zS zS zS)).flatten:List Value).toArray) ((A2 (show (Mg.segs ({ mg0 x.kd x.fr x.to with ep:=x.ep }:Mg) (zCe.cells zS) (zPm.cells zS) (zPr.cells zS zS zS) (zOp.cells zS) (zDc.cells zS zS zS zS)).map List.length=mgN from HZL.o) 8 (rfl) rfl).trans rfl)
   clear qc0
   have aa:=hm.size
   refine ⟨hm.mono bM,(fun _=>rfl),?_⟩
   intro ab hr
   have ac:=hr.size
   have j6:=hid (qb5.mod hr aJ)
   have j7:=hid (j5.out.goM hm hr (fun _ _ h=>h))
   clear j5 hm hr Z act E qb5 j4
   refine QChain.go fun Z act E=>?_
   refine Ah rfl (Ab rfl) rfl j6.out (off:=156) (vs:=[.int .u64 (x.tm:Nat)]) aD one1 (by show 156+1≤295;decide) (E.d 10) (ec (E.d 5)) ?_
   intro ae qc0 hm
   have qb5:=qc0.eqv (b:=((Mg.segs ({ mg0 x.kd x.fr x.to with ep:=x.ep,rn:=x.rn,tm:=x.tm }:Mg) (zCe.cells zS) (zPm.cells zS) (zPr.cells zS zS zS) (zOp.cells zS) (zDc.cells zS zS zS zS)).flatten:List Value).toArray) ((A2 (show (Mg.segs ({ mg0 x.kd x.fr x.to with ep:=x.ep,rn:=x.rn }:Mg) (zCe.cells zS) (zPm.cells zS) (zPr.cells zS zS zS) (zOp.cells zS) (zDc.cells zS zS zS zS)).map List.length=mgN from HZL.o) 9 (rfl) rfl).trans rfl)
   clear qc0
   have af:=hm.size
   refine ⟨hm.mono bM,(fun _=>rfl),?_⟩
   intro r7 hr
   have ag:=hr.size
   have r8:=hid (qb5.mod hr aJ)
   have r9:=hid (j7.out.goM hm hr (fun _ _ h=>h))
   clear j7 hm hr Z act E qb5 j6
   refine QChain.nil fun vs hl hzz hrows hne=>?_
   obtain ⟨Z,hYZ,hZb,hV⟩:=hzz
   rw [show vs=[gw vs 0,gw vs 1,gw vs 2,gw vs 3,gw vs 4,gw vs 5,gw vs 6,gw vs 7,gw vs 8,gw vs 9,gw vs 10,gw vs 11] from (Bv hl).trans rfl]
   have ha0:=HA0.o
   subst ha0
   clear HA0 hV hYZ hZb hsz0 hrows hne c3 c4
   simp only [Ax,Act.put,sIB,sCZ,sCS,List.set_nil]
   clear hl
   have hrz:MgR.rd R2 r7 ((Mg.segs ({ mg0 x.kd x.fr x.to with ep:=x.ep,rn:=x.rn,tm:=x.tm }:Mg) (zCe.cells zS) (zPm.cells zS) (zPr.cells zS zS zS) (zOp.cells zS) (zDc.cells zS zS zS zS)).flatten) ({ mg0 x.kd x.fr x.to with ep:=x.ep,rn:=x.rn,tm:=x.tm }:Mg):=⟨_,_,_,_,_,rfl,{ HZK.o with ep:=HOK.o.ep,rn:=HOK.o.rn,tm:=HOK.o.tm },zCe_rd _ _,zPm_rd _ _,z_pr _ _,z_op _ _,z_dc _ _⟩
   have HRZ:=B5 hrz
   clear hrz
   go_wp2_with fail
   go_meet
   case rel=>exact ⟨congrArg (fun z=>Value.pointer (some ⟨z,0,none⟩)) aM,_,_,HE.o.symm,r8.out,HRZ.o,(hmz.out.trans r9.out (fun _ _ h=>h))⟩
  have K5:=B5 h5
  clear h5
  go_upto_region 12 with (fail)
  refine tst 98 B6 (Bk K5.o) rfl (qs ?_)
  by_cases h6:x.kd=6
  ·have KK:=B5 h6
   clear h6
   go_upto_region 14 with (fail)
   refine tst 98 B6 (Bl KK.o) rfl (qs ?_)
   have HE:=hid (show B4 x=({ mg0 x.kd x.fr x.to with pm:=x.pm }:Mg) by unfold B4;rw [if_neg K1.o,if_neg K2.o,if_neg K3.o,if_neg K4.o,if_neg K5.o,if_pos KK.o]<;>rfl)
   go_upto_region 15 with (fail)
   refine Aa 98 [47,48,49,101] [0,1,2,3] (fun a0 HA0=>?_)
   have c3:=ev HA0 1 rfl
   have c4:=ev HA0 3 rfl
   refine qfd rfl 157 B7 c3 ?_
   refine QSeq.pure rfl _ (fun E=>Aj rfl Tryz.underlying40 rfl (off:=157) (cs:=(c10)) gJ (E.d 0 0) (Cs.seg (HB1.o.mod c7.out (fun h=>h)) HLN.o 10 rfl rfl)) ?_
   refine qfd rfl 157 B7 c4 ?_
   refine QSeq.go fun act E=>?_
   refine Ah rfl (Ab rfl) rfl c6.out (off:=157) (vs:=c10) gJ HO10.o (by show 157+_≤295;rw [HC10.o];decide) (E.d 2 0) (ec (E.d 1 1)) ?_
   intro j8 qc0 hm
   have qb5:=qc0.eqv (b:=((Mg.segs ({ mg0 x.kd x.fr x.to with pm:=x.pm }:Mg) (zCe.cells zS) c10 (zPr.cells zS zS zS) (zOp.cells zS) (zDc.cells zS zS zS zS)).flatten:List Value).toArray) ((A2 HZL.o 10 (by rw [HC10.o];rfl) rfl).trans rfl)
   clear qc0
   have s0:=hid qb5
   have ah:=hm.size
   have j9:=hid (show Mod (fun k=>(k=w1.heap.size)) c8 j8 from hm)
   clear hm
   clear act E qb5 c6
   refine qe ?_
   clear HA0 c3 c4 a0
   have hrz:MgR.rd R2 j8 ((Mg.segs ({ mg0 x.kd x.fr x.to with pm:=x.pm }:Mg) (zCe.cells zS) c10 (zPr.cells zS zS zS) (zOp.cells zS) (zDc.cells zS zS zS zS)).flatten) ({ mg0 x.kd x.fr x.to with pm:=x.pm }:Mg):=⟨_,_,_,_,_,rfl,{ HZK.o with },zCe_rd _ _,((d7.out.mod c7.out (fun _ _ h=>h)).mod j9.out (sB HBT)),z_pr _ _,z_op _ _,z_dc _ _⟩
   have HRZ:=B5 hrz
   clear hrz
   go_wp2_with fail
   go_meet
   case rel=>exact ⟨congrArg (fun z=>Value.pointer (some ⟨z,0,none⟩)) aM,_,_,HE.o.symm,s0.out,HRZ.o,(hmz.out.trans j9.out (fun _ _ h=>h))⟩
  have K6:=B5 h6
  clear h6
  go_upto_region 14 with (fail)
  refine tst 98 B6 (Bk K6.o) rfl (qs ?_)
  by_cases h7:x.kd=7
  ·have KK:=B5 h7
   clear h7
   go_upto_region 16 with (fail)
   refine tst 98 B6 (Bl KK.o) rfl (qs ?_)
   have HE:=hid (show B4 x=({ mg0 x.kd x.fr x.to with pr:=x.pr }:Mg) by unfold B4;rw [if_neg K1.o,if_neg K2.o,if_neg K3.o,if_neg K4.o,if_neg K5.o,if_neg K6.o,if_pos KK.o]<;>rfl)
   go_upto_region 17 with (fail)
   refine Aa 98 [52,53,54,101] [0,1,2,3] (fun a0 HA0=>?_)
   have c3:=ev HA0 1 rfl
   have c4:=ev HA0 3 rfl
   refine qfd rfl 163 B7 c3 ?_
   refine QSeq.pure rfl _ (fun E=>Aj rfl C6 rfl (off:=163) (cs:=(c11)) (by rw [HC11.o];kernel_rfl) (E.d 0 0) (Cs.seg (HB1.o.mod c7.out (fun h=>h)) HLN.o 11 rfl rfl)) ?_
   refine qfd rfl 163 B7 c4 ?_
   refine QSeq.go fun act E=>?_
   refine Ah rfl (Ab rfl) rfl c6.out (off:=163) (vs:=c11) (by rw [HC11.o];kernel_rfl) HO11.o (by show 163+_≤295;rw [HC11.o];decide) (E.d 2 0) (ec (E.d 1 1)) ?_
   intro l7 qc0 hm
   have qb5:=qc0.eqv (b:=((Mg.segs ({ mg0 x.kd x.fr x.to with pr:=x.pr }:Mg) (zCe.cells zS) (zPm.cells zS) c11 (zOp.cells zS) (zDc.cells zS zS zS zS)).flatten:List Value).toArray) ((A2 HZL.o 11 (by rw [HC11.o];rfl) rfl).trans rfl)
   clear qc0
   have s5:=hid qb5
   have ai:=hm.size
   have l8:=hid (show Mod (fun k=>(k=w1.heap.size)) c8 l7 from hm)
   clear hm
   clear act E qb5 c6
   refine qe ?_
   clear HA0 c3 c4 a0
   have hrz:MgR.rd R2 l7 ((Mg.segs ({ mg0 x.kd x.fr x.to with pr:=x.pr }:Mg) (zCe.cells zS) (zPm.cells zS) c11 (zOp.cells zS) (zDc.cells zS zS zS zS)).flatten) ({ mg0 x.kd x.fr x.to with pr:=x.pr }:Mg):=⟨_,_,_,_,_,rfl,{ HZK.o with },zCe_rd _ _,zPm_rd _ _,((d8.out.mod c7.out (fun _ _ h=>h)).mod l8.out (sB HBT)),z_op _ _,z_dc _ _⟩
   have HRZ:=B5 hrz
   clear hrz
   go_wp2_with fail
   go_meet
   case rel=>exact ⟨congrArg (fun z=>Value.pointer (some ⟨z,0,none⟩)) aM,_,_,HE.o.symm,s5.out,HRZ.o,(hmz.out.trans l8.out (fun _ _ h=>h))⟩
  have K7:=B5 h7
  clear h7
  go_upto_region 16 with (fail)
  refine tst 98 B6 (Bk K7.o) rfl (qs ?_)
  by_cases h8:x.kd=8
  ·have KK:=B5 h8
   clear h8
   go_upto_region 18 with (fail)
   refine tst 98 B6 (Bl KK.o) rfl (qs ?_)
   have HE:=hid (show B4 x=({ mg0 x.kd x.fr x.to with vt:=x.vt }:Mg) by unfold B4;rw [if_neg K1.o,if_neg K2.o,if_neg K3.o,if_neg K4.o,if_neg K5.o,if_neg K6.o,if_neg K7.o,if_pos KK.o]<;>rfl)
   go_upto_region 19 with (fail)
   refine Aa 98 [57,58,59,101] [0,1,2,3] (fun a0 HA0=>?_)
   have c3:=ev HA0 1 rfl
   have c4:=ev HA0 3 rfl
   refine qfd rfl 174 B7 c3 ?_
   refine QSeq.pure rfl _ (fun E=>Aj rfl Tryz.underlying49 rfl (off:=174) (cs:=(x.vt.cells)) (by rw [Vt.len HOK.o.vt];kernel_rfl) (E.d 0 0) (Cs.seg (HB1.o.mod c7.out (fun h=>h)) HLN.o 12 rfl rfl)) ?_
   refine qfd rfl 174 B7 c4 ?_
   refine QSeq.go fun act E=>?_
   refine Ah rfl (Ab rfl) rfl c6.out (off:=174) (vs:=(x.vt.cells)) (by rw [Vt.len HOK.o.vt];kernel_rfl) (Vt.one _) (by show 174+_≤295;rw [Vt.len HOK.o.vt];decide) (E.d 2 0) (ec (E.d 1 1)) ?_
   intro m7 qc0 hm
   have qb5:=qc0.eqv (b:=((Mg.segs ({ mg0 x.kd x.fr x.to with vt:=x.vt }:Mg) (zCe.cells zS) (zPm.cells zS) (zPr.cells zS zS zS) (zOp.cells zS) (zDc.cells zS zS zS zS)).flatten:List Value).toArray) ((A2 HZL.o 12 (by rw [Vt.len HOK.o.vt];rfl) rfl).trans rfl)
   clear qc0
   have s6:=hid qb5
   have aj:=hm.size
   have s7:=hid (show Mod (fun k=>(k=w1.heap.size)) c8 m7 from hm)
   clear hm
   clear act E qb5 c6
   refine qe ?_
   clear HA0 c3 c4 a0
   have hrz:MgR.rd R2 m7 ((Mg.segs ({ mg0 x.kd x.fr x.to with vt:=x.vt }:Mg) (zCe.cells zS) (zPm.cells zS) (zPr.cells zS zS zS) (zOp.cells zS) (zDc.cells zS zS zS zS)).flatten) ({ mg0 x.kd x.fr x.to with vt:=x.vt }:Mg):=⟨_,_,_,_,_,rfl,{ HZK.o with vt:=HOK.o.vt },zCe_rd _ _,zPm_rd _ _,z_pr _ _,z_op _ _,z_dc _ _⟩
   have HRZ:=B5 hrz
   clear hrz
   go_wp2_with fail
   go_meet
   case rel=>exact ⟨congrArg (fun z=>Value.pointer (some ⟨z,0,none⟩)) aM,_,_,HE.o.symm,s6.out,HRZ.o,(hmz.out.trans s7.out (fun _ _ h=>h))⟩
  have K8:=B5 h8
  clear h8
  go_upto_region 18 with (fail)
  refine tst 98 B6 (Bk K8.o) rfl (qs ?_)
  by_cases h9:x.kd=9
  ·have KK:=B5 h9
   clear h9
   go_upto_region 20 with (fail)
   refine tst 98 B6 (Bl KK.o) rfl (qs ?_)
   have HE:=hid (show B4 x=({ mg0 x.kd x.fr x.to with ix:=x.ix,en:=x.en }:Mg) by unfold B4;rw [if_neg K1.o,if_neg K2.o,if_neg K3.o,if_neg K4.o,if_neg K5.o,if_neg K6.o,if_neg K7.o,if_neg K8.o,if_pos KK.o]<;>rfl)
   go_upto_region 21 with (fail)
   generalize ha0:Act.mk _ _=a0
   have c3:a0.eval (.tmp 1)=.pointer (some ⟨w.heap.size,0,none⟩):=by rw [← ha0];rfl
   have c4:a0.eval (.tmp 3)=.pointer (some ⟨w1.heap.size,0,none⟩):=by rw [← ha0];rfl
   have hsz0:a0.tmps.size=98:=by rw [← ha0];rfl
   have HA0:=hid ha0
   clear ha0
   refine A8 98 hsz0 [62,63,64,65,66,103,67,105] (fun k=>(k=w1.heap.size)) (fun k j=>(k=0∧((j=w1.heap.size)))∨(k=1∧((j=w1.heap.size)))) dJ [qi (.pointer (some ⟨w.heap.size,212,none⟩)),qi (.int .i64 x.ix),qi (.pointer (some ⟨w.heap.size,213,none⟩)),qi (.agg (x.en.cells).toArray),qi (.pointer (some ⟨w1.heap.size,212,none⟩)),qv 0,qi (.pointer (some ⟨w1.heap.size,213,none⟩)),qv 1] ⟨Ad,Ad,Ad,Ad,Ad,Ar,Ad,Ar,trivial⟩ [5,7] ⟨?_,?_,?_,?_,?_,?_,?_,?_,trivial⟩ ?_
   ·exact stq (fun E=>Ae rfl B7 rfl aD (E.v c3))
   ·exact stq (fun E=>Af rfl B6 rfl (E.d 0) (AE ((HB1.o.mod c7.out (fun h=>h)).mod E.m aJ) HLN.o 13 rfl (o:=212) (k:=0) rfl rfl rfl))
   ·exact stq (fun E=>Ae rfl B7 rfl aD (E.v c3))
   ·exact stq (fun E=>Aj rfl Tryz.underlying51 rfl (off:=213) (cs:=(x.en.cells)) (by rw [En.len HOK.o.en];kernel_rfl) (E.d 2) (Cs.seg ((HB1.o.mod c7.out (fun h=>h)).mod E.m aJ) HLN.o 14 rfl rfl))
   ·exact stq (fun E=>Ae rfl B7 rfl aD (E.v c4))
   ·exact Ai rfl
   ·exact stq (fun E=>Ae rfl B7 rfl aD (E.v c4))
   ·exact Ai rfl
   intro am hr
   have ap:=hr.size
   have m8:=hid (hr.new (S:=(fun k=>(k=w1.heap.size))))
   have m9:=hid (c6.out.mod hr aJ)
   clear c6
   clear hr
   refine QChain.go fun Z act E=>?_
   refine Ah rfl (Ab rfl) rfl m9.out (off:=212) (vs:=[.int .i64 x.ix]) aD one1 (by show 212+1≤295;decide) (E.d 4) (ec (E.d 1)) ?_
   intro aq qc0 hm
   have qb5:=qc0.eqv (b:=((Mg.segs ({ mg0 x.kd x.fr x.to with ix:=x.ix }:Mg) (zCe.cells zS) (zPm.cells zS) (zPr.cells zS zS zS) (zOp.cells zS) (zDc.cells zS zS zS zS)).flatten:List Value).toArray) ((A2 HZL.o 13 (rfl) rfl).trans rfl)
   clear qc0
   have ar:=hm.size
   refine ⟨hm.mono bM,(fun _=>rfl),?_⟩
   intro au hr
   have av:=hr.size
   have n5:=hid (qb5.mod hr aJ)
   have n6:=hid (m8.out.goM hm hr (fun _ _ h=>h))
   clear m8 hm hr Z act E qb5 m9
   refine QChain.go fun Z act E=>?_
   refine Ah rfl (Ab rfl) rfl n5.out (off:=213) (vs:=(x.en.cells)) (by rw [En.len HOK.o.en];kernel_rfl) (En.one _) (by show 213+_≤295;rw [En.len HOK.o.en];decide) (E.d 6) (ec (E.d 3)) ?_
   intro aw qc0 hm
   have qb5:=qc0.eqv (b:=((Mg.segs ({ mg0 x.kd x.fr x.to with ix:=x.ix,en:=x.en }:Mg) (zCe.cells zS) (zPm.cells zS) (zPr.cells zS zS zS) (zOp.cells zS) (zDc.cells zS zS zS zS)).flatten:List Value).toArray) ((A2 (show (Mg.segs ({ mg0 x.kd x.fr x.to with ix:=x.ix }:Mg) (zCe.cells zS) (zPm.cells zS) (zPr.cells zS zS zS) (zOp.cells zS) (zDc.cells zS zS zS zS)).map List.length=mgN from HZL.o) 14 (by rw [En.len HOK.o.en];rfl) rfl).trans rfl)
   clear qc0
   have ax:=hm.size
   refine ⟨hm.mono bM,(fun _=>rfl),?_⟩
   intro s8 hr
   have ay:=hr.size
   have t0:=hid (qb5.mod hr aJ)
   have t1:=hid (n6.out.goM hm hr (fun _ _ h=>h))
   clear n6 hm hr Z act E qb5 n5
   refine QChain.nil fun vs hl hzz hrows hne=>?_
   obtain ⟨Z,hYZ,hZb,hV⟩:=hzz
   rw [show vs=[gw vs 0,gw vs 1,gw vs 2,gw vs 3,gw vs 4,gw vs 5,gw vs 6,gw vs 7] from (Bv hl).trans rfl]
   have ha0:=HA0.o
   subst ha0
   clear HA0 hV hYZ hZb hsz0 hrows hne c3 c4
   simp only [Ax,Act.put,sIB,sCZ,sCS,List.set_nil]
   clear hl
   have hrz:MgR.rd R2 s8 ((Mg.segs ({ mg0 x.kd x.fr x.to with ix:=x.ix,en:=x.en }:Mg) (zCe.cells zS) (zPm.cells zS) (zPr.cells zS zS zS) (zOp.cells zS) (zDc.cells zS zS zS zS)).flatten) ({ mg0 x.kd x.fr x.to with ix:=x.ix,en:=x.en }:Mg):=⟨_,_,_,_,_,rfl,{ HZK.o with ix:=HOK.o.ix,en:=HOK.o.en },zCe_rd _ _,zPm_rd _ _,z_pr _ _,z_op _ _,z_dc _ _⟩
   have HRZ:=B5 hrz
   clear hrz
   go_wp2_with fail
   go_meet
   case rel=>exact ⟨congrArg (fun z=>Value.pointer (some ⟨z,0,none⟩)) aM,_,_,HE.o.symm,t0.out,HRZ.o,(hmz.out.trans t1.out (fun _ _ h=>h))⟩
  have K9:=B5 h9
  clear h9
  go_upto_region 20 with (fail)
  refine tst 98 B6 (Bk K9.o) rfl (qs ?_)
  by_cases h10:x.kd=10
  ·have KK:=B5 h10
   clear h10
   go_upto_region 22 with (fail)
   refine tst 98 B6 (Bl KK.o) rfl (qs ?_)
   have HE:=hid (show B4 x=({ mg0 x.kd x.fr x.to with op:=x.op }:Mg) by unfold B4;rw [if_neg K1.o,if_neg K2.o,if_neg K3.o,if_neg K4.o,if_neg K5.o,if_neg K6.o,if_neg K7.o,if_neg K8.o,if_neg K9.o,if_pos KK.o]<;>rfl)
   go_upto_region 23 with (fail)
   refine Aa 98 [70,71,72,101] [0,1,2,3] (fun a0 HA0=>?_)
   have c3:=ev HA0 1 rfl
   have c4:=ev HA0 3 rfl
   refine qfd rfl 248 B7 c3 ?_
   refine QSeq.pure rfl _ (fun E=>Aj rfl Tryz.underlying54 rfl (off:=248) (cs:=(c15)) (by rw [HC15.o];kernel_rfl) (E.d 0 0) (Cs.seg (HB1.o.mod c7.out (fun h=>h)) HLN.o 15 rfl rfl)) ?_
   refine qfd rfl 248 B7 c4 ?_
   refine QSeq.go fun act E=>?_
   refine Ah rfl (Ab rfl) rfl c6.out (off:=248) (vs:=c15) (by rw [HC15.o];kernel_rfl) HO15.o (by show 248+_≤295;rw [HC15.o];decide) (E.d 2 0) (ec (E.d 1 1)) ?_
   intro n7 qc0 hm
   have qb5:=qc0.eqv (b:=((Mg.segs ({ mg0 x.kd x.fr x.to with op:=x.op }:Mg) (zCe.cells zS) (zPm.cells zS) (zPr.cells zS zS zS) c15 (zDc.cells zS zS zS zS)).flatten:List Value).toArray) ((A2 HZL.o 15 (by rw [HC15.o];rfl) rfl).trans rfl)
   clear qc0
   have t2:=hid qb5
   have az:=hm.size
   have n8:=hid (show Mod (fun k=>(k=w1.heap.size)) c8 n7 from hm)
   clear hm
   clear act E qb5 c6
   refine qe ?_
   clear HA0 c3 c4 a0
   have hrz:MgR.rd R2 n7 ((Mg.segs ({ mg0 x.kd x.fr x.to with op:=x.op }:Mg) (zCe.cells zS) (zPm.cells zS) (zPr.cells zS zS zS) c15 (zDc.cells zS zS zS zS)).flatten) ({ mg0 x.kd x.fr x.to with op:=x.op }:Mg):=⟨_,_,_,_,_,rfl,{ HZK.o with },zCe_rd _ _,zPm_rd _ _,z_pr _ _,((d9.out.mod c7.out (fun _ _ h=>h)).mod n8.out (sB HBT)),z_dc _ _⟩
   have HRZ:=B5 hrz
   clear hrz
   go_wp2_with fail
   go_meet
   case rel=>exact ⟨congrArg (fun z=>Value.pointer (some ⟨z,0,none⟩)) aM,_,_,HE.o.symm,t2.out,HRZ.o,(hmz.out.trans n8.out (fun _ _ h=>h))⟩
  have K10:=B5 h10
  clear h10
  go_upto_region 22 with (fail)
  refine tst 98 B6 (Bk K10.o) rfl (qs ?_)
  by_cases h11:x.kd=11
  ·have KK:=B5 h11
   clear h11
   go_upto_region 24 with (fail)
   refine tst 98 B6 (Bl KK.o) rfl (qs ?_)
   have HE:=hid (show B4 x=({ mg0 x.kd x.fr x.to with ix:=x.ix }:Mg) by unfold B4;rw [if_neg K1.o,if_neg K2.o,if_neg K3.o,if_neg K4.o,if_neg K5.o,if_neg K6.o,if_neg K7.o,if_neg K8.o,if_neg K9.o,if_neg K10.o,if_pos KK.o]<;>rfl)
   go_upto_region 25 with (fail)
   refine Aa 98 [75,76,77,101] [0,1,2,3] (fun a0 HA0=>?_)
   have c3:=ev HA0 1 rfl
   have c4:=ev HA0 3 rfl
   refine qfd rfl 212 B7 c3 ?_
   refine QSeq.pure rfl (.int .i64 x.ix) (fun E=>Af rfl B6 rfl (E.d 0 0) (AE (HB1.o.mod c7.out (fun h=>h)) HLN.o 13 rfl (o:=212) (k:=0) rfl rfl rfl)) ?_
   refine qfd rfl 212 B7 c4 ?_
   refine QSeq.go fun act E=>?_
   refine Ah rfl (Ab rfl) rfl c6.out (off:=212) (vs:=[.int .i64 x.ix]) aD one1 (by show 212+1≤295;decide) (E.d 2 0) (ec (E.d 1 1)) ?_
   intro o4 qc0 hm
   have qb5:=qc0.eqv (b:=((Mg.segs ({ mg0 x.kd x.fr x.to with ix:=x.ix }:Mg) (zCe.cells zS) (zPm.cells zS) (zPr.cells zS zS zS) (zOp.cells zS) (zDc.cells zS zS zS zS)).flatten:List Value).toArray) ((A2 HZL.o 13 (rfl) rfl).trans rfl)
   clear qc0
   have t4:=hid qb5
   have bc:=hm.size
   have t8:=hid (show Mod (fun k=>(k=w1.heap.size)) c8 o4 from hm)
   clear hm
   clear act E qb5 c6
   refine qe ?_
   clear HA0 c3 c4 a0
   have hrz:MgR.rd R2 o4 ((Mg.segs ({ mg0 x.kd x.fr x.to with ix:=x.ix }:Mg) (zCe.cells zS) (zPm.cells zS) (zPr.cells zS zS zS) (zOp.cells zS) (zDc.cells zS zS zS zS)).flatten) ({ mg0 x.kd x.fr x.to with ix:=x.ix }:Mg):=⟨_,_,_,_,_,rfl,{ HZK.o with ix:=HOK.o.ix },zCe_rd _ _,zPm_rd _ _,z_pr _ _,z_op _ _,z_dc _ _⟩
   have HRZ:=B5 hrz
   clear hrz
   go_wp2_with fail
   go_meet
   case rel=>exact ⟨congrArg (fun z=>Value.pointer (some ⟨z,0,none⟩)) aM,_,_,HE.o.symm,t4.out,HRZ.o,(hmz.out.trans t8.out (fun _ _ h=>h))⟩
  have K11:=B5 h11
  clear h11
  go_upto_region 24 with (fail)
  refine tst 98 B6 (Bk K11.o) rfl (qs ?_)
  by_cases h12:x.kd=12
  ·have KK:=B5 h12
   clear h12
   go_upto_region 26 with (fail)
   refine tst 98 B6 (Bl KK.o) rfl (qs ?_)
   have HE:=hid (show B4 x=({ mg0 x.kd x.fr x.to with dn:=x.dn }:Mg) by unfold B4;rw [if_neg K1.o,if_neg K2.o,if_neg K3.o,if_neg K4.o,if_neg K5.o,if_neg K6.o,if_neg K7.o,if_neg K8.o,if_neg K9.o,if_neg K10.o,if_neg K11.o,if_pos KK.o]<;>rfl)
   go_upto_region 27 with (fail)
   refine Aa 98 [80,81,82,101] [0,1,2,3] (fun a0 HA0=>?_)
   have c3:=ev HA0 1 rfl
   have c4:=ev HA0 3 rfl
   refine qfd rfl 282 B7 c3 ?_
   refine QSeq.pure rfl _ (fun E=>Aj rfl Tryz.underlying56 rfl (off:=282) (cs:=(x.dn.cells)) aD (E.d 0 0) (Cs.seg (HB1.o.mod c7.out (fun h=>h)) HLN.o 16 rfl rfl)) ?_
   refine qfd rfl 282 B7 c4 ?_
   refine QSeq.go fun act E=>?_
   refine Ah rfl (Ab rfl) rfl c6.out (off:=282) (vs:=(x.dn.cells)) aD (Dn.one _) (by show 282+4≤295;decide) (E.d 2 0) (ec (E.d 1 1)) ?_
   intro o5 qc0 hm
   have qb5:=qc0.eqv (b:=((Mg.segs ({ mg0 x.kd x.fr x.to with dn:=x.dn }:Mg) (zCe.cells zS) (zPm.cells zS) (zPr.cells zS zS zS) (zOp.cells zS) (zDc.cells zS zS zS zS)).flatten:List Value).toArray) ((A2 HZL.o 16 (rfl) rfl).trans rfl)
   clear qc0
   have t9:=hid qb5
   have bf:=hm.size
   have u0:=hid (show Mod (fun k=>(k=w1.heap.size)) c8 o5 from hm)
   clear hm
   clear act E qb5 c6
   refine qe ?_
   clear HA0 c3 c4 a0
   have hrz:MgR.rd R2 o5 ((Mg.segs ({ mg0 x.kd x.fr x.to with dn:=x.dn }:Mg) (zCe.cells zS) (zPm.cells zS) (zPr.cells zS zS zS) (zOp.cells zS) (zDc.cells zS zS zS zS)).flatten) ({ mg0 x.kd x.fr x.to with dn:=x.dn }:Mg):=⟨_,_,_,_,_,rfl,{ HZK.o with dn:=HOK.o.dn },zCe_rd _ _,zPm_rd _ _,z_pr _ _,z_op _ _,z_dc _ _⟩
   have HRZ:=B5 hrz
   clear hrz
   go_wp2_with fail
   go_meet
   case rel=>exact ⟨congrArg (fun z=>Value.pointer (some ⟨z,0,none⟩)) aM,_,_,HE.o.symm,t9.out,HRZ.o,(hmz.out.trans u0.out (fun _ _ h=>h))⟩
  have K12:=B5 h12
  clear h12
  go_upto_region 26 with (fail)
  refine tst 98 B6 (Bk K12.o) rfl (qs ?_)
  by_cases h13:x.kd=13
  ·have KK:=B5 h13
   clear h13
   go_upto_region 28 with (fail)
   refine tst 98 B6 (Bl KK.o) rfl (qs ?_)
   have HE:=hid (show B4 x=({ mg0 x.kd x.fr x.to with ix:=x.ix,rp:=x.rp }:Mg) by unfold B4;rw [if_neg K1.o,if_neg K2.o,if_neg K3.o,if_neg K4.o,if_neg K5.o,if_neg K6.o,if_neg K7.o,if_neg K8.o,if_neg K9.o,if_neg K10.o,if_neg K11.o,if_neg K12.o,if_pos KK.o]<;>rfl)
   go_upto_region 29 with (fail)
   generalize ha0:Act.mk _ _=a0
   have c3:a0.eval (.tmp 1)=.pointer (some ⟨w.heap.size,0,none⟩):=by rw [← ha0];rfl
   have c4:a0.eval (.tmp 3)=.pointer (some ⟨w1.heap.size,0,none⟩):=by rw [← ha0];rfl
   have hsz0:a0.tmps.size=98:=by rw [← ha0];rfl
   have HA0:=hid ha0
   clear ha0
   refine A8 98 hsz0 [85,86,87,88,89,103,90,105] (fun k=>(k=w1.heap.size)) (fun k j=>(k=0∧((j=w1.heap.size)))∨(k=1∧((j=w1.heap.size)))) dJ [qi (.pointer (some ⟨w.heap.size,212,none⟩)),qi (.int .i64 x.ix),qi (.pointer (some ⟨w.heap.size,286,none⟩)),qi (.string x.rp),qi (.pointer (some ⟨w1.heap.size,212,none⟩)),qv 0,qi (.pointer (some ⟨w1.heap.size,286,none⟩)),qv 1] ⟨Ad,Ad,Ad,Ad,Ad,Ar,Ad,Ar,trivial⟩ [5,7] ⟨?_,?_,?_,?_,?_,?_,?_,?_,trivial⟩ ?_
   ·exact stq (fun E=>Ae rfl B7 rfl aD (E.v c3))
   ·exact stq (fun E=>Af rfl B6 rfl (E.d 0) (AE ((HB1.o.mod c7.out (fun h=>h)).mod E.m aJ) HLN.o 13 rfl (o:=212) (k:=0) rfl rfl rfl))
   ·exact stq (fun E=>Ae rfl B7 rfl aD (E.v c3))
   ·exact stq (fun E=>Af rfl Tryz.underlying9 rfl (E.d 2) (AE ((HB1.o.mod c7.out (fun h=>h)).mod E.m aJ) HLN.o 17 rfl (o:=286) (k:=0) rfl rfl rfl))
   ·exact stq (fun E=>Ae rfl B7 rfl aD (E.v c4))
   ·exact Ai rfl
   ·exact stq (fun E=>Ae rfl B7 rfl aD (E.v c4))
   ·exact Ai rfl
   intro bg hr
   have bh:=hr.size
   have o6:=hid (hr.new (S:=(fun k=>(k=w1.heap.size))))
   have o7:=hid (c6.out.mod hr aJ)
   clear c6
   clear hr
   refine QChain.go fun Z act E=>?_
   refine Ah rfl (Ab rfl) rfl o7.out (off:=212) (vs:=[.int .i64 x.ix]) aD one1 (by show 212+1≤295;decide) (E.d 4) (ec (E.d 1)) ?_
   intro bi qc0 hm
   have qb5:=qc0.eqv (b:=((Mg.segs ({ mg0 x.kd x.fr x.to with ix:=x.ix }:Mg) (zCe.cells zS) (zPm.cells zS) (zPr.cells zS zS zS) (zOp.cells zS) (zDc.cells zS zS zS zS)).flatten:List Value).toArray) ((A2 HZL.o 13 (rfl) rfl).trans rfl)
   clear qc0
   have bj:=hm.size
   refine ⟨hm.mono bM,(fun _=>rfl),?_⟩
   intro bk hr
   have bl:=hr.size
   have o8:=hid (qb5.mod hr aJ)
   have o9:=hid (o6.out.goM hm hr (fun _ _ h=>h))
   clear o6 hm hr Z act E qb5 o7
   refine QChain.go fun Z act E=>?_
   refine Ah rfl (Ab rfl) rfl o8.out (off:=286) (vs:=[.string x.rp]) aD one1 (by show 286+1≤295;decide) (E.d 6) (ec (E.d 3)) ?_
   intro bm qc0 hm
   have qb5:=qc0.eqv (b:=((Mg.segs ({ mg0 x.kd x.fr x.to with ix:=x.ix,rp:=x.rp }:Mg) (zCe.cells zS) (zPm.cells zS) (zPr.cells zS zS zS) (zOp.cells zS) (zDc.cells zS zS zS zS)).flatten:List Value).toArray) ((A2 (show (Mg.segs ({ mg0 x.kd x.fr x.to with ix:=x.ix }:Mg) (zCe.cells zS) (zPm.cells zS) (zPr.cells zS zS zS) (zOp.cells zS) (zDc.cells zS zS zS zS)).map List.length=mgN from HZL.o) 17 (rfl) rfl).trans rfl)
   clear qc0
   have bn:=hm.size
   refine ⟨hm.mono bM,(fun _=>rfl),?_⟩
   intro u1 hr
   have bp:=hr.size
   have u2:=hid (qb5.mod hr aJ)
   have u3:=hid (o9.out.goM hm hr (fun _ _ h=>h))
   clear o9 hm hr Z act E qb5 o8
   refine QChain.nil fun vs hl hzz hrows hne=>?_
   obtain ⟨Z,hYZ,hZb,hV⟩:=hzz
   rw [show vs=[gw vs 0,gw vs 1,gw vs 2,gw vs 3,gw vs 4,gw vs 5,gw vs 6,gw vs 7] from (Bv hl).trans rfl]
   have ha0:=HA0.o
   subst ha0
   clear HA0 hV hYZ hZb hsz0 hrows hne c3 c4
   simp only [Ax,Act.put,sIB,sCZ,sCS,List.set_nil]
   clear hl
   have hrz:MgR.rd R2 u1 ((Mg.segs ({ mg0 x.kd x.fr x.to with ix:=x.ix,rp:=x.rp }:Mg) (zCe.cells zS) (zPm.cells zS) (zPr.cells zS zS zS) (zOp.cells zS) (zDc.cells zS zS zS zS)).flatten) ({ mg0 x.kd x.fr x.to with ix:=x.ix,rp:=x.rp }:Mg):=⟨_,_,_,_,_,rfl,{ HZK.o with ix:=HOK.o.ix },zCe_rd _ _,zPm_rd _ _,z_pr _ _,z_op _ _,z_dc _ _⟩
   have HRZ:=B5 hrz
   clear hrz
   go_wp2_with fail
   go_meet
   case rel=>exact ⟨congrArg (fun z=>Value.pointer (some ⟨z,0,none⟩)) aM,_,_,HE.o.symm,u2.out,HRZ.o,(hmz.out.trans u3.out (fun _ _ h=>h))⟩
  have K13:=B5 h13
  clear h13
  go_upto_region 28 with (fail)
  refine tst 98 B6 (Bk K13.o) rfl (qs ?_)
  by_cases h14:x.kd=14
  ·have KK:=B5 h14
   clear h14
   go_upto_region 30 with (fail)
   refine tst 98 B6 (Bl KK.o) rfl (qs ?_)
   have HE:=hid (show B4 x=({ mg0 x.kd x.fr x.to with dc:=x.dc }:Mg) by unfold B4;rw [if_neg K1.o,if_neg K2.o,if_neg K3.o,if_neg K4.o,if_neg K5.o,if_neg K6.o,if_neg K7.o,if_neg K8.o,if_neg K9.o,if_neg K10.o,if_neg K11.o,if_neg K12.o,if_neg K13.o,if_pos KK.o]<;>rfl)
   go_upto_region 31 with (fail)
   refine Aa 98 [93,94,95,101] [0,1,2,3] (fun a0 HA0=>?_)
   have c3:=ev HA0 1 rfl
   have c4:=ev HA0 3 rfl
   refine qfd rfl 287 B7 c3 ?_
   refine QSeq.pure rfl _ (fun E=>Aj rfl D3 rfl (off:=287) (cs:=(c18)) (by rw [HC18.o];kernel_rfl) (E.d 0 0) (Cs.seg (HB1.o.mod c7.out (fun h=>h)) HLN.o 18 rfl rfl)) ?_
   refine qfd rfl 287 B7 c4 ?_
   refine QSeq.go fun act E=>?_
   refine Ah rfl (Ab rfl) rfl c6.out (off:=287) (vs:=c18) (by rw [HC18.o];kernel_rfl) HO18.o (by show 287+_≤295;rw [HC18.o];decide) (E.d 2 0) (ec (E.d 1 1)) ?_
   intro p4 qc0 hm
   have qb5:=qc0.eqv (b:=((Mg.segs ({ mg0 x.kd x.fr x.to with dc:=x.dc }:Mg) (zCe.cells zS) (zPm.cells zS) (zPr.cells zS zS zS) (zOp.cells zS) c18).flatten:List Value).toArray) ((A2 HZL.o 18 (by rw [HC18.o];rfl) rfl).trans rfl)
   clear qc0
   have u4:=hid qb5
   have bq:=hm.size
   have p5:=hid (show Mod (fun k=>(k=w1.heap.size)) c8 p4 from hm)
   clear hm
   clear act E qb5 c6
   refine qe ?_
   clear HA0 c3 c4 a0
   have hrz:MgR.rd R2 p4 ((Mg.segs ({ mg0 x.kd x.fr x.to with dc:=x.dc }:Mg) (zCe.cells zS) (zPm.cells zS) (zPr.cells zS zS zS) (zOp.cells zS) c18).flatten) ({ mg0 x.kd x.fr x.to with dc:=x.dc }:Mg):=⟨_,_,_,_,_,rfl,{ HZK.o with },zCe_rd _ _,zPm_rd _ _,z_pr _ _,z_op _ _,((g5.out.mod c7.out (fun _ _ h=>h)).mod p5.out (sB HBT))⟩
   have HRZ:=B5 hrz
   clear hrz
   go_wp2_with fail
   go_meet
   case rel=>exact ⟨congrArg (fun z=>Value.pointer (some ⟨z,0,none⟩)) aM,_,_,HE.o.symm,u4.out,HRZ.o,(hmz.out.trans p5.out (fun _ _ h=>h))⟩
  have K14:=B5 h14
  clear h14
  go_upto_region 30 with (fail)
  refine tst 98 B6 (Bk K14.o) rfl (qs ?_)
  have HE:=hid (show B4 x=mg0 0 0 0 by unfold B4;rw [if_neg K1.o,if_neg K2.o,if_neg K3.o,if_neg K4.o,if_neg K5.o,if_neg K6.o,if_neg K7.o,if_neg K8.o,if_neg K9.o,if_neg K10.o,if_neg K11.o,if_neg K12.o,if_neg K13.o,if_neg K14.o]<;>rfl)
  go_upto_region 3 with (fail)
  refine Aa 98 [13,99] [0,1] (fun a0 HA0=>?_)
  have c9:=ev HA0 2 rfl
  refine QSeq.pure rfl (.agg ((mg0C 0 0 0):List Value).toArray) (fun E=>ex_build0 rfl (r:=((mg0C 0 0 0):List Value).toArray) aD) ?_
  refine QSeq.go fun act E=>?_
  refine Ah rfl (Ab rfl) rfl (HB2.o.mod c7.out (fun h=>h)) (off:=0) (vs:=(mg0C 0 0 0)) aD HZO.o eE (E.v c9) (ec (E.d 0 0)) ?_
  intro u5 qc0 hm
  have qB2:=qc0.eqv (b:=((mg0C 0 0 0):List Value).toArray) (Ap _ _ rfl)
  clear qc0
  have u6:=hid qB2
  have br:=hm.size
  have u7:=hid (show Mod (fun k=>(k=w.heap.size+1)) c8 u5 from hm)
  clear hm
  clear act E qB2 HB2
  refine qe ?_
  clear HA0 c9 a0
  go_wp2
  exact bodyPost_ret (Au rfl _ _ (w.heap.size+1) (mg0C 0 0 0) rfl (fun k u hu=>by rw [u6.out.cell];simpa using hu) B7 rfl aD) rfl ⟨_,rfl,by rw [HE.o];exact mg0_rd A4 A4 A4 _ _,((HM0.o.trans c7.out (fun _ _ h=>h.elim)).trans u7.out aE)⟩
 case rest=>
  obtain ⟨wq,rfl⟩:∃ x,x=wc:=⟨_,rfl⟩
  obtain ⟨rfl,y,cy,hy,hb5,hrz,hm⟩:=hcut
  have zwq:=hm.size
  have HB5:=B5 hb5
  have HRM:=B5 hrz
  have HSZ:=hid (MgR.len hrz)
  have HY:=B5 hy
  have HCY:=hid (show cpMg y by rw [HY.o];exact cp_only HP.o)
  clear hb5 hrz hy
  clear c6
  clear d6
  clear d7
  clear d8
  clear d9
  clear g5
  clear HB1
  have p6:=hid ((HB2.o.mod c7.out (fun h=>h)).mod hm aJ)
  have u9:=hid ((HM0.o.trans c7.out (fun _ _ h=>h.elim)).trans hm aE)
  clear HB2 HM0
  clear hm
  go_upto_region 32 with (fail)
  refine Aa 98 [96,97,100] [0,1,2] (fun a0 HA0=>?_)
  have c9:=ev HA0 2 rfl
  have c4:=ev HA0 3 rfl
  refine QSeq.pure rfl _ (fun E=>Aj rfl B7 rfl (off:=0) (cs:=cy) bX (E.v c4) (Cs.whole HB5.o)) ?_
  refine QSeq.call rfl rfl Tryz.func70 (HY.o▸cop_Mg R2 y _ _ HRM.o aR HCY.o) (fun E=>A0 (E.d 0 0)) ?_
  rintro e v5 ⟨cn,rfl,qnw,hm⟩
  have HLn:=hid (MgR.len qnw)
  have HOn:=hid (MgR.one qnw)
  refine ⟨_,rfl,?_⟩
  have p7:=hid qnw
  have bt:=hm.size
  have d5:=hid (show Mod (fun _=>False) wq v5 from hm)
  clear hm
  clear qnw
  refine QSeq.go fun act E=>?_
  refine Ah rfl (Ab rfl) rfl (p6.out.mod d5.out (fun h=>h)) (off:=0) (vs:=cn) (by rw [HLn.o];kernel_rfl) HOn.o (by rw [HLn.o];show 0+295≤295;decide) (E.v c9) (ec (E.d 1 0)) ?_
  intro bu qc0 hm
  have qB2:=qc0.eqv (b:=(cn:List Value).toArray) (Ap _ _ (by rw [HLn.o];rfl))
  clear qc0
  have v6:=hid qB2
  have bw:=hm.size
  have p8:=hid hm
  have v7:=hid (AB (S':=(fun k=>(k=w.heap.size+1))) d5.out hm (fun _ h=>h.elim) aQ)
  clear hm d5
  clear act E qB2 p6
  have v8:=hid (p7.out.mod p8.out aE)
  clear p7 p8
  refine qe ?_
  clear HA0 c9 c4 a0
  go_wp2
  exact bodyPost_ret (Au rfl _ _ (w.heap.size+1) cn rfl (fun k u hu=>by rw [v6.out.cell];simpa using hu) B7 rfl (by rw [HLn.o];kernel_rfl)) rfl ⟨_,rfl,v8.out.widen cJ,(u9.out.trans v7.out aE)⟩
theorem ex_lenStr {P:Program} {o:Oper} {a:Act} {w:World} {t:TypeId} {m:Operand} {s:ByteArray} (ho:o.op=Op.call { callee:=Callee.builtin Builtin.len,args:=#[m],argTypes:=#[t] }) (hm:a.eval m=.string s) (ht:P.underlying t=some .string):(execOp a.eval o).run P w=.ok (.value (.int .i64 ((s.size:Nat):Int))) w:=by
 simp [execOp,ho,resolve,invoke,builtin,hm,Builtin.len_,run_underlying ht,goInt,Result.andThen]
theorem ex_sliceStr {P:Program} {o:Oper} {a:Act} {w:World} {T:TypeId} {x y:Operand} {s:ByteArray} {k:IntKind} {i:Nat} (ho:o.op=.slice T x none (some y) none) (hu:P.underlying T=some .string) (hx:a.eval x=.string s) (hy:a.eval y=.int k (i:Int)) (hi:i≤s.size):(execOp a.eval o).run P w=.ok (.value (.string (s.extract 0 i))) w:=by
 unfold execOp
 simp [ho,hx,hy,Instr.sliceAt,Instr.slice,Instr.sliceBounds,Instr.sliceBound,asIntOf,run_underlying hu,hi]
/-- what the laws leave of a message -/
def cutVl (v:Int):Int:=if v=9223372036854775807 then 0 else v
def cutRp (s:ByteArray):ByteArray:=if 260 < s.size then s.extract 0 260 else s
def smallM (x:Mg):Mg:={ x with ce:=cutCe x.ce,pm:=cutPm x.pm,pr:={ x.pr with ba:=cutBa x.pr.ba,vl:=cutVl x.pr.vl },op:=cutOp x.op,rp:=cutRp x.rp,dc:={ x.dc with ba:=cutBa x.dc.ba,l:=x.dc.l.take 5 } }
theorem info_VtD:(Tryz.prog.info? 49).map (fun i=>(i.zero,i.size,i.bytes))=some (some (.agg #[.int .i64 0,.int .i64 0,.int .i64 0,.int .i64 0,.int .u8 0,.int .u8 0,.int .u8 0,.int .u8 0,.int .u8 0,.int .u8 0,.int .u8 0,.int .u8 0,.int .u8 0,.int .u8 0,.int .u8 0,.int .u8 0,.int .u8 0,.int .u8 0,.int .u8 0,.int .u8 0,.int .u8 0,.int .u8 0,.int .u8 0,.int .u8 0,.int .u8 0,.int .u8 0,.int .u8 0,.int .u8 0,.int .u8 0,.int .u8 0,.int .u8 0,.int .u8 0,.int .u8 0,.int .u8 0,.int .u8 0,.int .u8 0,.int .i64 0,.int .i64 0]),38,80):=by kernel_rfl
open Go.Proofs renaming Tryz.func75→va',Tryz.ntmps75→vb',Tryz.underlying57→vg' in
open Go.Proofs.YtnaoeginonpicaaGreat renaming VtR→vc',info_VtD→vh' in
open Go.Gv renaming n'49→vd',z'5→ve',n'80→vf' in
set_option maxHeartbeats 2000000 in
theorem Copy_Vt:CopiesS VtR 49 75:=
 fm10'
open Go.Proofs renaming Tryz.func39→va',Tryz.ntmps39→vb',Tryz.underlying57→vc',Tryz.func75→vd' in
open Go.Proofs.YtnaoeginonpicaaGreat renaming Copy_Vt→ve' in
set_option maxHeartbeats 2000000 in
theorem Cut_Vt:CutsS VtR 49 39:=
 fm1'
set_option maxHeartbeats 8000000 in
theorem Small_c:CutR MgR 7 smallM:=by
 intro R2 x cs w hx hB2
 obtain ⟨c5,c10,c11,c15,c18,rfl,hok,h5,h10,h11,h15,h18⟩:=hx
 have HC5:=hid (CeR.len h5)
 have HC10:=hid (PmR.len h10)
 have HC15:=hid (OpR.len h15)
 have HLN:=hid (Mg.lns hok h5 h10 h11 h15 h18)
 obtain ⟨p_ps,p_os,p_ts,rfl,hokp,hp0,hp1,hp2⟩:=h11
 obtain ⟨d_ps,d_os,d_ts,d_l,rfl,hokd,hd0,hd1,hd2,hd3⟩:=h18
 obtain ⟨v_o,rfl,hoko,ho0⟩:=h15
 have H5:=B5 h5
 have H10:=B5 h10
 have H15:=B5 ho0
 have HP0:=B5 hp0
 have HP1:=B5 hp1
 have HP2:=B5 hp2
 have HD0:=B5 hd0
 have HD1:=B5 hd1
 have HD2:=B5 hd2
 have HD3:=B5 hd3
 have HBT:=B5 hB2
 have HOK:=B5 hok
 have HOP:=B5 hokp
 have HOD:=B5 hokd
 have HOO:=B5 hoko
 clear hB2 hok hokp hokd hoko h5 h10 ho0 hp0 hp1 hp2 hd0 hd1 hd2 hd3
 go_enter Tryz.func7,Tryz.ntmps7
 go_upto_region 1 with (fail)
 obtain ⟨w1,hw1⟩:∃ zz,zz=((w.alloc (.cells ((Mg.segs x c5 c10 (x.pr.cells p_ps p_os p_ts) (x.op.cells v_o) (x.dc.cells d_ps d_os d_ts d_l)).flatten:List Value).toArray 61)).alloc (.cells ((mg0C 0 0 0):List Value).toArray 61)):=⟨_,rfl⟩
 change Code.wp _ _ _ _ ((w.alloc (.cells ((Mg.segs x c5 c10 (x.pr.cells p_ps p_os p_ts) (x.op.cells v_o) (x.dc.cells d_ps d_os d_ts d_l)).flatten:List Value).toArray 61)).alloc (.cells ((mg0C 0 0 0):List Value).toArray 61))
 rw [← hw1]
 have HB1:=hid (show Cs w1 (w.heap.size) ((Mg.segs x c5 c10 (x.pr.cells p_ps p_os p_ts) (x.op.cells v_o) (x.dc.cells d_ps d_os d_ts d_l)).flatten:List Value).toArray 61 by rw [hw1];exact (Cs.new _ _ _).alloc _)
 have HB2:=hid (show Cs w1 (w.heap.size+1) ((mg0C 0 0 0):List Value).toArray 61 by rw [hw1];exact Cs_newN _ _ _ bD)
 have hm:Mod (fun _=>False) w w1:=by rw [hw1];exact ((Mod.refl _ _).alloc _).alloc _
 have HM0:=hid (show Mod (fun _=>False) w w1 from hm.mono (fun _ _ h=>h.elim))
 have hs1:w1.heap.size=w.heap.size+2:=by rw [hw1];simp
 have o5:=hid (H5.o.mod hm (fun _ _ h=>h))
 clear H5
 have o6:=hid (H10.o.mod hm (fun _ _ h=>h))
 clear H10
 have ap:=hid (H15.o.mod hm (fun _ _ h=>h))
 clear H15
 have o7:=hid (HP0.o.mod hm (fun _ _ h=>h))
 clear HP0
 have o8:=hid (HP1.o.mod hm (fun _ _ h=>h))
 clear HP1
 have o9:=hid (HP2.o.mod hm (fun _ _ h=>h))
 clear HP2
 have p4:=hid (HD0.o.mod hm (fun _ _ h=>h))
 clear HD0
 have p5:=hid (HD1.o.mod hm (fun _ _ h=>h))
 clear HD1
 have p6:=hid (HD2.o.mod hm (fun _ _ h=>h))
 clear HD2
 have aq:=hid (HD3.o.mod hm (fun _ _ h=>h))
 clear HD3
 clear hw1 hm
 go_upto_region 1 with (fail)
 generalize ha0:Act.mk _ _=a0
 have c3:a0.eval (.tmp 1)=.pointer (some ⟨w.heap.size,0,none⟩):=by rw [← ha0];rfl
 have hsz0:a0.tmps.size=50:=by rw [← ha0];rfl
 have HA0:=hid ha0
 clear ha0
 refine A8 50 hsz0 [3,4,5,6,7,8,9,10,11,12,13,14,15,16,17,65,18,67,19,20,70,21,22,73] (fun k=>(k=w.heap.size)) (fun k j=>(k=4∧((j=w.heap.size)))∨(k=5∧((j=w.heap.size)))∨(k=6∧((j=w.heap.size)))∨(k=7∧((j=w.heap.size)))) dJ [qi (.pointer (some ⟨w.heap.size,78,none⟩)),qi (.agg (c5).toArray),qv 0,qi (.pointer (some ⟨w.heap.size,157,none⟩)),qi (.agg (c10).toArray),qv 1,qi (.pointer (some ⟨w.heap.size,163,none⟩)),qi (.pointer (some ⟨w.heap.size,167,none⟩)),qi (.agg #[.int .i64 x.pr.ba.ep,.int .u64 (x.pr.ba.tm:Nat),p_ps,p_os,p_ts]),qv 2,qi (.pointer (some ⟨w.heap.size,287,none⟩)),qi (.pointer (some ⟨w.heap.size,289,none⟩)),qi (.agg #[.int .i64 x.dc.ba.ep,.int .u64 (x.dc.ba.tm:Nat),d_ps,d_os,d_ts]),qv 3,qi (.pointer (some ⟨w.heap.size,78,none⟩)),qv 4,qi (.pointer (some ⟨w.heap.size,157,none⟩)),qv 5,qi (.pointer (some ⟨w.heap.size,163,none⟩)),qi (.pointer (some ⟨w.heap.size,167,none⟩)),qv 6,qi (.pointer (some ⟨w.heap.size,287,none⟩)),qi (.pointer (some ⟨w.heap.size,289,none⟩)),qv 7] ⟨Ad,Ad,Ar,Ad,Ad,Ar,Ad,Ad,Ad,Ar,Ad,Ad,Ad,Ar,Ad,Ar,Ad,Ar,Ad,Ad,Ar,Ad,Ad,Ar,trivial⟩ [2,5,9,13,15,17,20,23] ⟨?_,?_,?_,?_,?_,?_,?_,?_,?_,?_,?_,?_,?_,?_,?_,?_,?_,?_,?_,?_,?_,?_,?_,?_,trivial⟩ ?_
 ·exact stq (fun E=>Ae rfl B7 rfl aD (E.v c3))
 ·refine A5 rfl rfl rfl fun _ _ _ _ _ _ hm0 _ _ hd hub _=>?_
  have h0:=hd ⟨0,.data⟩ bD rfl _ rfl
  refine Bo rfl (Ab rfl) (Aj rfl Tryz.underlying35 rfl (off:=78) (cs:=(c5)) gO h0 (Cs.seg (HB1.o.mod hm0 cY) HLN.o 5 rfl rfl)) QE.refl ?_
  rfl
 ·exact Ai rfl
 ·exact stq (fun E=>Ae rfl B7 rfl aD (E.v c3))
 ·refine A5 rfl rfl rfl fun _ _ _ _ _ _ hm0 _ _ hd hub _=>?_
  have h3:=hd ⟨3,.data⟩ bD rfl _ rfl
  refine Bo rfl (Ab rfl) (Aj rfl Tryz.underlying40 rfl (off:=157) (cs:=(c10)) gJ h3 (Cs.seg (HB1.o.mod hm0 cY) HLN.o 10 rfl rfl)) QE.refl ?_
  rfl
 ·exact Ai rfl
 ·exact stq (fun E=>Ae rfl B7 rfl aD (E.v c3))
 ·exact stq (fun E=>Ae rfl C6 rfl aD (E.d 6))
 ·refine A5 rfl rfl rfl fun _ _ _ _ _ _ hm0 _ _ hd hub _=>?_
  have h7:=hd ⟨7,.data⟩ bD rfl _ rfl
  refine Bo rfl (Ab rfl) (Aj rfl C2 rfl (off:=167) (cs:=[.int .i64 x.pr.ba.ep,.int .u64 (x.pr.ba.tm:Nat),p_ps,p_os,p_ts]) aD h7 (Cs.segA (HB1.o.mod hm0 cY) HLN.o 11 rfl (o:=163) (k:=4) rfl rfl rfl)) QE.refl ?_
  rfl
 ·exact Ai rfl
 ·exact stq (fun E=>Ae rfl B7 rfl aD (E.v c3))
 ·exact stq (fun E=>Ae rfl D3 rfl aD (E.d 10))
 ·refine A5 rfl rfl rfl fun _ _ _ _ _ _ hm0 _ _ hd hub _=>?_
  have h11:=hd ⟨11,.data⟩ bD rfl _ rfl
  refine Bo rfl (Ab rfl) (Aj rfl C2 rfl (off:=289) (cs:=[.int .i64 x.dc.ba.ep,.int .u64 (x.dc.ba.tm:Nat),d_ps,d_os,d_ts]) aD h11 (Cs.segA (HB1.o.mod hm0 cY) HLN.o 18 rfl (o:=287) (k:=2) rfl rfl rfl)) QE.refl ?_
  rfl
 ·exact Ai rfl
 ·exact stq (fun E=>Ae rfl B7 rfl aD (E.v c3))
 ·exact Ai rfl
 ·exact stq (fun E=>Ae rfl B7 rfl aD (E.v c3))
 ·exact Ai rfl
 ·exact stq (fun E=>Ae rfl B7 rfl aD (E.v c3))
 ·exact stq (fun E=>Ae rfl C6 rfl aD (E.d 18))
 ·exact Ai rfl
 ·exact stq (fun E=>Ae rfl B7 rfl aD (E.v c3))
 ·exact stq (fun E=>Ae rfl D3 rfl aD (E.d 21))
 ·exact Ai rfl
 intro ar hr
 have bk:=hr.size
 have j9:=hid (hr.new (S:=(fun k=>(k=w.heap.size))))
 have p7:=hid (HB1.o.mod hr aJ)
 clear HB1
 clear hr
 refine QChain.go fun Z act E=>?_
 refine Aq (args:=#[.agg (c5).toArray]) rfl (Ab rfl) rfl Tryz.func36 (A0 (E.d 1)) (LCert_c R2 x.ce _ _ (o5.out.mod j9.out (sB HBT)) aR) ?_
 rintro e au ⟨cn5,rfl,qce,hm⟩
 have HLn5:=hid (CeR.len qce)
 have HOn5:=hid (CeR.one qce)
 have bl:=hm.size
 refine ⟨_,rfl,hm.mono (fun _ _ h=>h.elim),(fun _=>rfl),?_⟩
 intro av hr
 have bm:=hr.size
 have p8:=hid ((qce.widen (R':=(fun k=>(R2 k)∨(New ar au k))) (fun _ h=>h)).mod hr aB)
 have hmr:=Mod.after hm hr
 have p9:=hid (p7.out.mod hmr aJ)
 clear p7
 clear hmr
 have l7:=hid (j9.out.go hm hr)
 clear j9 hm hr Z act E qce o5
 refine QChain.go fun Z act E=>?_
 refine Aq (args:=#[.agg (c10).toArray]) rfl (Ab rfl) rfl Tryz.func37 (A0 (E.d 4)) (LPromise_c R2 x.pm _ _ (o6.out.mod l7.out (sB HBT)) aR) ?_
 rintro e aw ⟨cn10,rfl,qpm,hm⟩
 have HLn10:=hid (PmR.len qpm)
 have HOn10:=hid (PmR.one qpm)
 have bn:=hm.size
 refine ⟨_,rfl,hm.mono (fun _ _ h=>h.elim),(fun _=>rfl),?_⟩
 intro l8 hr
 have bp:=hr.size
 have q6:=hid ((qpm.widen (R':=(fun k=>(R2 k)∨(New av aw k))) (fun _ h=>h)).mod hr aB)
 have hmr:=Mod.after hm hr
 have q7:=hid (p8.out.mod hmr aB)
 have q8:=hid (p9.out.mod hmr aJ)
 clear p8 p9
 clear hmr
 have j4:=hid (l7.out.go hm hr)
 clear l7 hm hr Z act E qpm o6
 refine QChain.go fun Z act E=>?_
 refine Aq (args:=#[.agg #[.int .i64 x.pr.ba.ep,.int .u64 (x.pr.ba.tm:Nat),p_ps,p_os,p_ts]]) rfl (Ab rfl) rfl Tryz.func38 (A0 (E.d 8)) (LBatch_c R2 x.pr.ba _ _ ⟨_,_,_,rfl,HOP.o.2.2.2.2.1,(o7.out.mod j4.out (sB HBT)),(o8.out.mod j4.out (sB HBT)),(o9.out.mod j4.out (sB HBT))⟩ aR) ?_
 rintro e m7 ⟨cbe,rfl,qp0,hm⟩
 have HOe:=hid (BaR.one qp0)
 obtain ⟨e_ps,e_os,e_ts,rfl,hokb,qp0,qp1,qp2⟩:=qp0
 clear hokb
 have bq:=hm.size
 refine ⟨_,rfl,hm.mono (fun _ _ h=>h.elim),(fun _=>rfl),?_⟩
 intro m8 hr
 have br:=hr.size
 have q9:=hid ((qp0.widen (R':=(fun k=>(R2 k)∨(New l8 m7 k))) (fun _ h=>h)).mod hr aB)
 have r3:=hid ((qp1.widen (R':=(fun k=>(R2 k)∨(New l8 m7 k))) (fun _ h=>h)).mod hr aB)
 have r4:=hid ((qp2.widen (R':=(fun k=>(R2 k)∨(New l8 m7 k))) (fun _ h=>h)).mod hr aB)
 have hmr:=Mod.after hm hr
 have r5:=hid (q7.out.mod hmr aB)
 have r6:=hid (q6.out.mod hmr aB)
 have r7:=hid (q8.out.mod hmr aJ)
 clear q7 q6 q8
 clear hmr
 have j5:=hid (j4.out.go hm hr)
 clear j4 hm hr Z act E qp0 qp1 qp2 o7 o8 o9
 refine QChain.go fun Z act E=>?_
 refine Aq (args:=#[.agg #[.int .i64 x.dc.ba.ep,.int .u64 (x.dc.ba.tm:Nat),d_ps,d_os,d_ts]]) rfl (Ab rfl) rfl Tryz.func38 (A0 (E.d 12)) (LBatch_c R2 x.dc.ba _ _ ⟨_,_,_,rfl,HOD.o.2.2,(p4.out.mod j5.out (sB HBT)),(p5.out.mod j5.out (sB HBT)),(p6.out.mod j5.out (sB HBT))⟩ aR) ?_
 rintro e m9 ⟨cbf,rfl,qd0,hm⟩
 have HOf:=hid (BaR.one qd0)
 obtain ⟨f_ps,f_os,f_ts,rfl,hokb,qd0,qd1,qd2⟩:=qd0
 clear hokb
 have bt:=hm.size
 refine ⟨_,rfl,hm.mono (fun _ _ h=>h.elim),(fun _=>rfl),?_⟩
 intro bu hr
 have bw:=hr.size
 have r8:=hid ((qd0.widen (R':=(fun k=>(R2 k)∨(New m8 m9 k))) (fun _ h=>h)).mod hr aB)
 have r9:=hid ((qd1.widen (R':=(fun k=>(R2 k)∨(New m8 m9 k))) (fun _ h=>h)).mod hr aB)
 have s0:=hid ((qd2.widen (R':=(fun k=>(R2 k)∨(New m8 m9 k))) (fun _ h=>h)).mod hr aB)
 have hmr:=Mod.after hm hr
 have s5:=hid (r5.out.mod hmr aB)
 have s6:=hid (r6.out.mod hmr aB)
 have s7:=hid (q9.out.mod hmr aB)
 have s8:=hid (r3.out.mod hmr aB)
 have t0:=hid (r4.out.mod hmr aB)
 have t1:=hid (r7.out.mod hmr aJ)
 clear r5 r6 q9 r3 r4 r7
 clear hmr
 have t2:=hid (j5.out.go hm hr)
 clear j5 hm hr Z act E qd0 qd1 qd2 p4 p5 p6
 refine QChain.go fun Z act E=>?_
 refine Ah rfl (Ab rfl) rfl t1.out (off:=78) (vs:=cn5) (by rw [HLn5.o];kernel_rfl) HOn5.o (by rw [C3,Bb,(AF HOK.o HC5.o HC10.o rfl (show (x.op.cells v_o).length=34 from HC15.o) rfl)];show 78+_≤295;rw [HLn5.o];decide) (E.d 14) (ec (chv (v:=.agg cn5.toArray) (E.d 2))) ?_
 intro bx qc0 hm
 have qB1:=qc0.eqv (b:=((Mg.segs x cn5 c10 (x.pr.cells p_ps p_os p_ts) (x.op.cells v_o) (x.dc.cells d_ps d_os d_ts d_l)).flatten:List Value).toArray) ((A2 (AF HOK.o HC5.o HC10.o rfl (show (x.op.cells v_o).length=34 from HC15.o) rfl) 5 (by rw [HLn5.o];rfl) rfl).trans rfl)
 clear qc0
 have bz:=hm.size
 refine ⟨hm.mono bM,(fun _=>rfl),?_⟩
 intro cd hr
 have cf:=hr.size
 have t4:=hid (qB1.mod hr aJ)
 have hmr:=hm.two hr
 have t8:=hid (s5.out.mod hmr aB)
 have t9:=hid (s6.out.mod hmr aB)
 have u0:=hid (s7.out.mod hmr aB)
 have u1:=hid (s8.out.mod hmr aB)
 have u2:=hid (t0.out.mod hmr aB)
 have u3:=hid (r8.out.mod hmr aB)
 have u4:=hid (r9.out.mod hmr aB)
 have u5:=hid (s0.out.mod hmr aB)
 clear s5 s6 s7 s8 t0 r8 r9 s0
 clear hmr
 have u6:=hid (t2.out.goM hm hr (fun _ _ h=>h))
 clear t2 hm hr Z act E qB1 t1
 refine QChain.go fun Z act E=>?_
 refine Ah rfl (Ab rfl) rfl t4.out (off:=157) (vs:=cn10) (by rw [HLn10.o];kernel_rfl) HOn10.o (by rw [C3,Bb,(AF HOK.o HLn5.o HC10.o rfl (show (x.op.cells v_o).length=34 from HC15.o) rfl)];show 157+_≤295;rw [HLn10.o];decide) (E.d 16) (ec (chv (v:=.agg cn10.toArray) (E.d 5))) ?_
 intro cg qc0 hm
 have qB1:=qc0.eqv (b:=((Mg.segs x cn5 cn10 (x.pr.cells p_ps p_os p_ts) (x.op.cells v_o) (x.dc.cells d_ps d_os d_ts d_l)).flatten:List Value).toArray) ((A2 (AF HOK.o HLn5.o HC10.o rfl (show (x.op.cells v_o).length=34 from HC15.o) rfl) 10 (by rw [HLn10.o];rfl) rfl).trans rfl)
 clear qc0
 have ch:=hm.size
 refine ⟨hm.mono bM,(fun _=>rfl),?_⟩
 intro ci hr
 have cj:=hr.size
 have u7:=hid (qB1.mod hr aJ)
 have hmr:=hm.two hr
 have u9:=hid (t8.out.mod hmr aB)
 have v5:=hid (t9.out.mod hmr aB)
 have v6:=hid (u0.out.mod hmr aB)
 have v7:=hid (u1.out.mod hmr aB)
 have v8:=hid (u2.out.mod hmr aB)
 have x4:=hid (u3.out.mod hmr aB)
 have x5:=hid (u4.out.mod hmr aB)
 have x6:=hid (u5.out.mod hmr aB)
 clear t8 t9 u0 u1 u2 u3 u4 u5
 clear hmr
 have x7:=hid (u6.out.goM hm hr (fun _ _ h=>h))
 clear u6 hm hr Z act E qB1 t4
 refine QChain.go fun Z act E=>?_
 refine Ah rfl (Ab rfl) rfl u7.out (off:=167) (vs:=[.int .i64 x.pr.ba.ep,.int .u64 (x.pr.ba.tm:Nat),e_ps,e_os,e_ts]) aD HOe.o (by rw [C3,Bb,(AF HOK.o HLn5.o HLn10.o rfl (show (x.op.cells v_o).length=34 from HC15.o) rfl)];show 167+5≤295;decide) (E.d 19) (ec (chv (v:=.agg #[.int .i64 x.pr.ba.ep,.int .u64 (x.pr.ba.tm:Nat),e_ps,e_os,e_ts]) (E.d 9))) ?_
 intro ck qc0 hm
 have qB1:=qc0.eqv (b:=((Mg.segs x cn5 cn10 (x.pr.cells e_ps e_os e_ts) (x.op.cells v_o) (x.dc.cells d_ps d_os d_ts d_l)).flatten:List Value).toArray) ((lay_sub (AF HOK.o HLn5.o HLn10.o rfl (show (x.op.cells v_o).length=34 from HC15.o) rfl) 11 rfl (o:=163) (k:=4) (n:=5) rfl rfl rfl (by show 4+5≤11;decide)).trans rfl)
 clear qc0
 have co:=hm.size
 refine ⟨hm.mono bM,(fun _=>rfl),?_⟩
 intro cq hr
 have cr:=hr.size
 have x8:=hid (qB1.mod hr aJ)
 have hmr:=hm.two hr
 have x9:=hid (u9.out.mod hmr aB)
 have y0:=hid (v5.out.mod hmr aB)
 have y5:=hid (v6.out.mod hmr aB)
 have y6:=hid (v7.out.mod hmr aB)
 have y7:=hid (v8.out.mod hmr aB)
 have y8:=hid (x4.out.mod hmr aB)
 have z0:=hid (x5.out.mod hmr aB)
 have z7:=hid (x6.out.mod hmr aB)
 clear u9 v5 v6 v7 v8 x4 x5 x6
 clear hmr
 have z9:=hid (x7.out.goM hm hr (fun _ _ h=>h))
 clear x7 hm hr Z act E qB1 u7
 refine QChain.go fun Z act E=>?_
 refine Ah rfl (Ab rfl) rfl x8.out (off:=289) (vs:=[.int .i64 x.dc.ba.ep,.int .u64 (x.dc.ba.tm:Nat),f_ps,f_os,f_ts]) aD HOf.o (by rw [C3,Bb,(AF HOK.o HLn5.o HLn10.o rfl (show (x.op.cells v_o).length=34 from HC15.o) rfl)];show 289+5≤295;decide) (E.d 22) (ec (chv (v:=.agg #[.int .i64 x.dc.ba.ep,.int .u64 (x.dc.ba.tm:Nat),f_ps,f_os,f_ts]) (E.d 13))) ?_
 intro ct qc0 hm
 have qB1:=qc0.eqv (b:=((Mg.segs x cn5 cn10 (x.pr.cells e_ps e_os e_ts) (x.op.cells v_o) (x.dc.cells f_ps f_os f_ts d_l)).flatten:List Value).toArray) ((lay_sub (AF HOK.o HLn5.o HLn10.o rfl (show (x.op.cells v_o).length=34 from HC15.o) rfl) 18 rfl (o:=287) (k:=2) (n:=5) rfl rfl rfl (by show 2+5≤8;decide)).trans rfl)
 clear qc0
 have cx:=hm.size
 refine ⟨hm.mono bM,(fun _=>rfl),?_⟩
 intro ax hr
 have da:=hr.size
 have n5:=hid (qB1.mod hr aJ)
 have hmr:=hm.two hr
 have d9:=hid (x9.out.mod hmr aB)
 have g5:=hid (y0.out.mod hmr aB)
 have g6:=hid (y5.out.mod hmr aB)
 have g7:=hid (y6.out.mod hmr aB)
 have g8:=hid (y7.out.mod hmr aB)
 have g9:=hid (y8.out.mod hmr aB)
 have i7:=hid (z0.out.mod hmr aB)
 have i8:=hid (z7.out.mod hmr aB)
 clear x9 y0 y5 y6 y7 y8 z0 z7
 clear hmr
 have d6:=hid (z9.out.goM hm hr (fun _ _ h=>h))
 clear z9 hm hr Z act E qB1 x8
 refine QChain.nil fun vs hl hzz hrows hne=>?_
 obtain ⟨Z,hYZ,hZb,hV⟩:=hzz
 have f2:=fvc hV hl 2
 have f5:=fvc hV hl 5
 have f9:=fvc hV hl 9
 have f13:=fvc hV hl 13
 rw [show vs=[gw vs 0,gw vs 1,gw vs 2,gw vs 3,gw vs 4,gw vs 5,gw vs 6,gw vs 7,gw vs 8,gw vs 9,gw vs 10,gw vs 11,gw vs 12,gw vs 13,gw vs 14,gw vs 15,gw vs 16,gw vs 17,gw vs 18,gw vs 19,gw vs 20,gw vs 21,gw vs 22,gw vs 23] from (Bv hl).trans rfl]
 have ha0:=HA0.o
 subst ha0
 clear HA0 hV hYZ hZb hsz0 hrows hne c3
 simp only [Ax,Act.put,sIB,sCZ,sCS,List.set_nil,f2,f5,f9,f13]
 clear hl f2 f5 f9 f13
 go_upto_region 2 with (fail)
 refine Aa 50 [23,24,25,26,27,28,56] [0,1,2,3,4,5,6] (fun a0 HA0=>?_)
 have c3:=ev HA0 1 rfl
 refine qfd rfl 248 B7 c3 ?_
 refine QSeq.pure rfl (.pointer (some ⟨w.heap.size,249,none⟩)) (fun E=>Ae rfl Tryz.underlying54 rfl aD (E.d 0 0)) ?_
 refine QSeq.pure rfl (v_o) (fun E=>Af rfl D1 rfl (E.d 1 0) (AE n5.out (AF HOK.o HLn5.o HLn10.o rfl (show (x.op.cells v_o).length=34 from HC15.o) rfl) 15 rfl (o:=248) (k:=1) rfl rfl rfl)) ?_
 refine QSeq.call rfl rfl Tryz.func9 (Cut_R 260 (ap.out.mod d6.out (sB HBT)) aF) (fun E=>An (E.d 2 0) rfl) ?_
 rintro e ay ⟨v_o2,rfl,qoc,hm⟩
 obtain ⟨ao_o,cap_o,rfl⟩:=qoc.shape
 refine ⟨_,rfl,?_⟩
 have aa:=hid qoc
 have db:=hm.size
 have n6:=hid (show Mod (fun _=>False) ax ay from hm)
 clear hm
 clear qoc
 refine qfd rfl 248 B7 c3 ?_
 refine QSeq.pure rfl (.pointer (some ⟨w.heap.size,249,none⟩)) (fun E=>Ae rfl Tryz.underlying54 rfl aD (E.d 4 0)) ?_
 refine QSeq.go fun act E=>?_
 refine Ah rfl (Ab rfl) rfl (n5.out.mod n6.out (fun h=>h)) (off:=249) (vs:=[Value.slice ao_o (x.op.pl.take 260).length cap_o]) aD one1 (by rw [C3,Bb,(AF HOK.o HLn5.o HLn10.o rfl (show (x.op.cells v_o).length=34 from HC15.o) rfl)];show 249+1≤295;decide) (E.d 5 0) (ec (E.d 3 2)) ?_
 intro ab qc0 hm
 have qB1:=qc0.eqv (b:=((Mg.segs x cn5 cn10 (x.pr.cells e_ps e_os e_ts) (x.op.cells (Value.slice ao_o (x.op.pl.take 260).length cap_o)) (x.dc.cells f_ps f_os f_ts d_l)).flatten:List Value).toArray) ((lay_sub (AF HOK.o HLn5.o HLn10.o rfl (show (x.op.cells v_o).length=34 from HC15.o) rfl) 15 rfl (o:=248) (k:=1) (n:=1) rfl rfl rfl (by rw [show (x.op.cells _).length=34 from HC15.o];decide)).trans rfl)
 clear qc0
 have n7:=hid qB1
 have dd:=hm.size
 have ac:=hid hm
 have c6:=hid (AB (S':=(fun k=>(k=w.heap.size))) n6.out hm (fun _ h=>h.elim) aQ)
 clear hm n6
 clear act E qB1 n5
 have i9:=hid (aa.out.mod ac.out aE)
 clear aa ac
 refine qe ?_
 clear HA0 c3 a0
 go_upto_region 3 with (fail)
 refine Aa 50 [29,30,31,32,33,34,56] [0,1,2,3,4,5,6] (fun a0 HA0=>?_)
 have c3:=ev HA0 1 rfl
 refine qfd rfl 287 B7 c3 ?_
 refine QSeq.pure rfl (.pointer (some ⟨w.heap.size,294,none⟩)) (fun E=>Ae rfl D3 rfl aD (E.d 0 0)) ?_
 refine QSeq.pure rfl (d_l) (fun E=>Af rfl Tryz.underlying57 rfl (E.d 1 0) (AE n7.out (AF HOK.o HLn5.o HLn10.o rfl (show (x.op.cells (Value.slice ao_o (x.op.pl.take 260).length cap_o)).length=34 from HC15.o) rfl) 18 rfl (o:=287) (k:=7) rfl rfl rfl)) ?_
 refine QSeq.call rfl rfl Tryz.func39 (Cut_Vt _ _ x.dc.l 5 _ ((aq.out.mod d6.out (sB HBT)).mod c6.out (sB HBT)) aR aM) (fun E=>An (E.d 2 0) rfl) ?_
 rintro e ae ⟨v_v2,rfl,qvc,hm⟩
 obtain ⟨ao_v,cap_v,rfl⟩:=qvc.shape
 refine ⟨_,rfl,?_⟩
 have af:=hid (qvc.widen (R':=(fun k=>(New ab ae k))) (E':=(fun k=>(R2 k))) (fun _ h=>h) (fun _ h=>h))
 have df:=hm.size
 have n8:=hid (show Mod (fun _=>False) ab ae from hm)
 clear hm
 clear qvc
 refine qfd rfl 287 B7 c3 ?_
 refine QSeq.pure rfl (.pointer (some ⟨w.heap.size,294,none⟩)) (fun E=>Ae rfl D3 rfl aD (E.d 4 0)) ?_
 refine QSeq.go fun act E=>?_
 refine Ah rfl (Ab rfl) rfl (n7.out.mod n8.out (fun h=>h)) (off:=294) (vs:=[Value.slice ao_v (x.dc.l.take 5).length cap_v]) aD one1 (by rw [C3,Bb,(AF HOK.o HLn5.o HLn10.o rfl (show (x.op.cells (Value.slice ao_o (x.op.pl.take 260).length cap_o)).length=34 from HC15.o) rfl)];show 294+1≤295;decide) (E.d 5 0) (ec (E.d 3 2)) ?_
 intro j6 qc0 hm
 have qB1:=qc0.eqv (b:=((Mg.segs x cn5 cn10 (x.pr.cells e_ps e_os e_ts) (x.op.cells (Value.slice ao_o (x.op.pl.take 260).length cap_o)) (x.dc.cells f_ps f_os f_ts (Value.slice ao_v (x.dc.l.take 5).length cap_v))).flatten:List Value).toArray) ((lay_sub (AF HOK.o HLn5.o HLn10.o rfl (show (x.op.cells (Value.slice ao_o (x.op.pl.take 260).length cap_o)).length=34 from HC15.o) rfl) 18 rfl (o:=287) (k:=7) (n:=1) rfl rfl rfl (by show 7+1≤8;decide)).trans rfl)
 clear qc0
 have d7:=hid qB1
 have dg:=hm.size
 have ag:=hid hm
 have c4:=hid (AB (S':=(fun k=>(k=w.heap.size))) n8.out hm (fun _ h=>h.elim) aQ)
 clear hm n8
 clear act E qB1 n7
 have j0:=hid (af.out.mod ag.out aE (sB HBT))
 clear af ag
 refine qe ?_
 clear HA0 c3 a0
 by_cases hn:260 < x.rp.size
 ·skip
  go_upto_region 4 with (fail)
  refine Aa 50 [35,36,37,38] [0,1,2,3] (fun a0 HA0=>?_)
  have c3:=ev HA0 1 rfl
  refine qfd rfl 286 B7 c3 ?_
  refine QSeq.pure rfl (.string x.rp) (fun E=>Af rfl Tryz.underlying9 rfl (E.d 0 0) (AE d7.out (AF HOK.o HLn5.o HLn10.o rfl (show (x.op.cells (Value.slice ao_o (x.op.pl.take 260).length cap_o)).length=34 from HC15.o) rfl) 17 rfl (o:=286) (k:=0) rfl rfl rfl)) ?_
  refine QSeq.pure rfl (.int .i64 ((x.rp.size:Nat):Int)) (fun E=>ex_lenStr rfl (E.d 1 0) Tryz.underlying9) ?_
  refine QSeq.pure rfl (.bool true) (fun E=>Am rfl (E.d 2 0) rfl (Ag _ _ _ _ _ _) (run_gtr_i _ _ _ B6) (congrArg Value.bool (decide_eq_true aM))) ?_
  refine qe ?_
  clear HA0 c3 a0
  go_upto_region 5 with (fail)
  refine Aa 50 [39,40,41,42,54] [0,1,2,3,4] (fun a0 HA0=>?_)
  have c3:=ev HA0 1 rfl
  refine qfd rfl 286 B7 c3 ?_
  refine QSeq.pure rfl (.string x.rp) (fun E=>Af rfl Tryz.underlying9 rfl (E.d 0 0) (AE d7.out (AF HOK.o HLn5.o HLn10.o rfl (show (x.op.cells (Value.slice ao_o (x.op.pl.take 260).length cap_o)).length=34 from HC15.o) rfl) 17 rfl (o:=286) (k:=0) rfl rfl rfl)) ?_
  refine QSeq.pure rfl (.string (x.rp.extract 0 260)) (fun E=>ex_sliceStr (i:=260) rfl Tryz.underlying9 (E.d 1 0) rfl aM) ?_
  refine qfd rfl 286 B7 c3 ?_
  refine QSeq.go fun act E=>?_
  refine Ah rfl (Ab rfl) rfl d7.out (off:=286) (vs:=[Value.string (x.rp.extract 0 260)]) aD one1 (by rw [C3,Bb,(AF HOK.o HLn5.o HLn10.o rfl (show (x.op.cells (Value.slice ao_o (x.op.pl.take 260).length cap_o)).length=34 from HC15.o) rfl)];show 286+1≤295;decide) (E.d 3 0) (ec (E.d 2 1)) ?_
  intro j7 qc0 hm
  have qB1:=qc0.eqv (b:=((Mg.segs ({ x with rp:=x.rp.extract 0 260 }:Mg) cn5 cn10 (x.pr.cells e_ps e_os e_ts) (x.op.cells (Value.slice ao_o (x.op.pl.take 260).length cap_o)) (x.dc.cells f_ps f_os f_ts (Value.slice ao_v (x.dc.l.take 5).length cap_v))).flatten:List Value).toArray) ((lay_sub (AF HOK.o HLn5.o HLn10.o rfl (show (x.op.cells (Value.slice ao_o (x.op.pl.take 260).length cap_o)).length=34 from HC15.o) rfl) 17 rfl (o:=286) (k:=0) (n:=1) rfl rfl rfl (by show 0+1≤1;decide)).trans rfl)
  clear qc0
  have j8:=hid qB1
  have dh:=hm.size
  have c7:=hid (show Mod (fun k=>(k=w.heap.size)) j6 j7 from hm)
  clear hm
  clear act E qB1 d7
  refine qe ?_
  clear HA0 c3 a0
  by_cases hv:x.pr.vl=9223372036854775807
  ·have HV:=B5 hv
   clear hv
   go_upto_region 6 with (fail)
   refine Aa 50 [43,44,45,46] [0,1,2,3] (fun a0 HA0=>?_)
   have c3:=ev HA0 1 rfl
   refine qfd rfl 163 B7 c3 ?_
   refine QSeq.pure rfl (.pointer (some ⟨w.heap.size,165,none⟩)) (fun E=>Ae rfl C6 rfl aD (E.d 0 0)) ?_
   refine QSeq.pure rfl (.int .i64 x.pr.vl) (fun E=>Af rfl B6 rfl (E.d 1 0) (AE j8.out (show (Mg.segs ({ x with rp:=x.rp.extract 0 260 }:Mg) cn5 cn10 (x.pr.cells e_ps e_os e_ts) (x.op.cells (Value.slice ao_o (x.op.pl.take 260).length cap_o)) (x.dc.cells f_ps f_os f_ts (Value.slice ao_v (x.dc.l.take 5).length cap_v))).map List.length=mgN from (AF HOK.o HLn5.o HLn10.o rfl (show (x.op.cells (Value.slice ao_o (x.op.pl.take 260).length cap_o)).length=34 from HC15.o) rfl)) 11 rfl (o:=163) (k:=2) rfl rfl rfl)) ?_
   refine QSeq.pure rfl (.bool true) (fun E=>Am rfl (E.d 2 0) rfl (Ag _ _ _ _ _ _) (Bn _ _ _ B6) (congrArg Value.bool (Bl HV.o))) ?_
   refine qe ?_
   clear HA0 c3 a0
   go_upto_region 7 with (fail)
   refine Aa 50 [47,48,52] [0,1,2] (fun a0 HA0=>?_)
   have c3:=ev HA0 1 rfl
   refine qfd rfl 163 B7 c3 ?_
   refine QSeq.pure rfl (.pointer (some ⟨w.heap.size,165,none⟩)) (fun E=>Ae rfl C6 rfl aD (E.d 0 0)) ?_
   refine QSeq.go fun act E=>?_
   refine Ah rfl (Ab rfl) rfl j8.out (off:=165) (vs:=[.int .i64 0]) aD one1 (by rw [C3,Bb,(show (Mg.segs ({ x with rp:=x.rp.extract 0 260 }:Mg) cn5 cn10 (x.pr.cells e_ps e_os e_ts) (x.op.cells (Value.slice ao_o (x.op.pl.take 260).length cap_o)) (x.dc.cells f_ps f_os f_ts (Value.slice ao_v (x.dc.l.take 5).length cap_v))).map List.length=mgN from (AF HOK.o HLn5.o HLn10.o rfl (show (x.op.cells (Value.slice ao_o (x.op.pl.take 260).length cap_o)).length=34 from HC15.o) rfl))];show 165+1≤295;decide) (E.d 1 0) (ec rfl) ?_
   intro d8 qc0 hm
   have qB1:=qc0.eqv (b:=((Mg.segs ({ x with rp:=x.rp.extract 0 260 }:Mg) cn5 cn10 (Pr.cells { x.pr with vl:=0 } e_ps e_os e_ts) (x.op.cells (Value.slice ao_o (x.op.pl.take 260).length cap_o)) (x.dc.cells f_ps f_os f_ts (Value.slice ao_v (x.dc.l.take 5).length cap_v))).flatten:List Value).toArray) ((lay_sub (show (Mg.segs ({ x with rp:=x.rp.extract 0 260 }:Mg) cn5 cn10 (x.pr.cells e_ps e_os e_ts) (x.op.cells (Value.slice ao_o (x.op.pl.take 260).length cap_o)) (x.dc.cells f_ps f_os f_ts (Value.slice ao_v (x.dc.l.take 5).length cap_v))).map List.length=mgN from (AF HOK.o HLn5.o HLn10.o rfl (show (x.op.cells (Value.slice ao_o (x.op.pl.take 260).length cap_o)).length=34 from HC15.o) rfl)) 11 rfl (o:=163) (k:=2) (n:=1) rfl rfl rfl (by show 2+1≤11;decide)).trans rfl)
   clear qc0
   have az:=hid qB1
   have bc:=hm.size
   have c8:=hid (show Mod (fun k=>(k=w.heap.size)) j7 d8 from hm)
   clear hm
   clear act E qB1 j8
   refine qe ?_
   clear HA0 c3 a0
   have HSZ:=hid (show ((Mg.segs ({ x with rp:=x.rp.extract 0 260 }:Mg) cn5 cn10 (Pr.cells { x.pr with vl:=0 } e_ps e_os e_ts) (x.op.cells (Value.slice ao_o (x.op.pl.take 260).length cap_o)) (x.dc.cells f_ps f_os f_ts (Value.slice ao_v (x.dc.l.take 5).length cap_v))).flatten).length=295 by rw [Bb,show (Mg.segs ({ x with rp:=x.rp.extract 0 260 }:Mg) cn5 cn10 (Pr.cells { x.pr with vl:=0 } e_ps e_os e_ts) (x.op.cells (Value.slice ao_o (x.op.pl.take 260).length cap_o)) (x.dc.cells f_ps f_os f_ts (Value.slice ao_v (x.dc.l.take 5).length cap_v))).map List.length=mgN from (AF HOK.o HLn5.o HLn10.o rfl (show (x.op.cells (Value.slice ao_o (x.op.pl.take 260).length cap_o)).length=34 from HC15.o) rfl)];rfl)
   have HES:=hid (show smallM x={ ({ x with rp:=x.rp.extract 0 260 }:Mg) with ce:=cutCe x.ce,pm:=cutPm x.pm,pr:={ x.pr with ba:=cutBa x.pr.ba,vl:=0 },op:=cutOp x.op,dc:={ x.dc with ba:=cutBa x.dc.ba,l:=x.dc.l.take 5 } } by unfold smallM;rw [show cutRp x.rp=x.rp.extract 0 260 from if_pos hn,show cutVl x.pr.vl=0 from if_pos HV.o])
   have HRM:=hid (show MgR.rd (fun k=>(R2 k)∨(New w1 d8 k)) d8 ((Mg.segs ({ x with rp:=x.rp.extract 0 260 }:Mg) cn5 cn10 (Pr.cells { x.pr with vl:=0 } e_ps e_os e_ts) (x.op.cells (Value.slice ao_o (x.op.pl.take 260).length cap_o)) (x.dc.cells f_ps f_os f_ts (Value.slice ao_v (x.dc.l.take 5).length cap_v))).flatten) (smallM x) from HES.o▸⟨_,_,_,_,_,rfl,{ HOK.o with },((((d9.out.mod c6.out aB).mod c4.out aB).mod c7.out aB).mod c8.out aB).widen aI,((((g5.out.mod c6.out aB).mod c4.out aB).mod c7.out aB).mod c8.out aB).widen aI,⟨_,_,_,rfl,⟨HOP.o.1,HOP.o.2.1,A4,HOP.o.2.2.2⟩,((((g6.out.mod c6.out aB).mod c4.out aB).mod c7.out aB).mod c8.out aB).widen aI,((((g7.out.mod c6.out aB).mod c4.out aB).mod c7.out aB).mod c8.out aB).widen aI,((((g8.out.mod c6.out aB).mod c4.out aB).mod c7.out aB).mod c8.out aB).widen aI⟩,⟨_,rfl,HOO.o,RdR_len ((((i9.out.mod c4.out aE).mod c7.out aE).mod c8.out aE).rd.widen fE (B9 _))⟩,⟨_,_,_,_,rfl,HOD.o,((((g9.out.mod c6.out aB).mod c4.out aB).mod c7.out aB).mod c8.out aB).widen aI,((((i7.out.mod c6.out aB).mod c4.out aB).mod c7.out aB).mod c8.out aB).widen aI,((((i8.out.mod c6.out aB).mod c4.out aB).mod c7.out aB).mod c8.out aB).widen aI,((j0.out.mod c7.out aE (sB HBT)).mod c8.out aE (sB HBT)).rd.widen cU⟩⟩)
   have HON:=hid (MgR.one HRM.o)
   clear d9
   clear g5
   clear g6
   clear g7
   clear g8
   clear g9
   clear i7
   clear i8
   clear j0
   clear i9
   go_upto_region 8 with (fail)
   refine Aa 50 [49,51] [0,1] (fun a0 HA0=>?_)
   have c3:=ev HA0 1 rfl
   have d5:=ev HA0 2 rfl
   refine QSeq.pure rfl _ (fun E=>Aj rfl B7 rfl (off:=0) (cs:=((Mg.segs ({ x with rp:=x.rp.extract 0 260 }:Mg) cn5 cn10 (Pr.cells { x.pr with vl:=0 } e_ps e_os e_ts) (x.op.cells (Value.slice ao_o (x.op.pl.take 260).length cap_o)) (x.dc.cells f_ps f_os f_ts (Value.slice ao_v (x.dc.l.take 5).length cap_v))).flatten)) bX (E.v c3) (Cs.whole az.out)) ?_
   refine QSeq.go fun act E=>?_
   refine Ah rfl (Ab rfl) rfl (((((HB2.o.mod d6.out aJ).mod c6.out aJ).mod c4.out aJ).mod c7.out aJ).mod c8.out aJ) (off:=0) (vs:=((Mg.segs ({ x with rp:=x.rp.extract 0 260 }:Mg) cn5 cn10 (Pr.cells { x.pr with vl:=0 } e_ps e_os e_ts) (x.op.cells (Value.slice ao_o (x.op.pl.take 260).length cap_o)) (x.dc.cells f_ps f_os f_ts (Value.slice ao_v (x.dc.l.take 5).length cap_v))).flatten)) bX HON.o dQ (E.v d5) (ec (E.d 0 0)) ?_
   intro j3 qc0 hm
   have qB2:=qc0.eqv (b:=(((Mg.segs ({ x with rp:=x.rp.extract 0 260 }:Mg) cn5 cn10 (Pr.cells { x.pr with vl:=0 } e_ps e_os e_ts) (x.op.cells (Value.slice ao_o (x.op.pl.take 260).length cap_o)) (x.dc.cells f_ps f_os f_ts (Value.slice ao_v (x.dc.l.take 5).length cap_v))).flatten):List Value).toArray) (Ap _ _ gD)
   clear qc0
   have bf:=hid qB2
   have o4:=hm.size
   have ah:=hid (show Mod (fun k=>(k=w.heap.size+1)) d8 j3 from hm)
   clear hm
   clear act E qB2 HB2
   refine qe ?_
   clear HA0 c3 d5 a0
   go_wp2
   exact bodyPost_ret (Au rfl _ _ (w.heap.size+1) ((Mg.segs ({ x with rp:=x.rp.extract 0 260 }:Mg) cn5 cn10 (Pr.cells { x.pr with vl:=0 } e_ps e_os e_ts) (x.op.cells (Value.slice ao_o (x.op.pl.take 260).length cap_o)) (x.dc.cells f_ps f_os f_ts (Value.slice ao_v (x.dc.l.take 5).length cap_v))).flatten) rfl (fun k u hu=>by rw [bf.out.cell];simpa using hu) B7 rfl bX) rfl ⟨_,rfl,(HRM.o.mod ah.out aB).widen aI,((((((HM0.o.trans d6.out aE).trans c6.out aE).trans c4.out aE).trans c7.out aE).trans c8.out aE).trans ah.out aE)⟩
  have HV:=B5 hv
  clear hv
  go_upto_region 6 with (fail)
  refine Aa 50 [43,44,45,46] [0,1,2,3] (fun a0 HA0=>?_)
  have c3:=ev HA0 1 rfl
  refine qfd rfl 163 B7 c3 ?_
  refine QSeq.pure rfl (.pointer (some ⟨w.heap.size,165,none⟩)) (fun E=>Ae rfl C6 rfl aD (E.d 0 0)) ?_
  refine QSeq.pure rfl (.int .i64 x.pr.vl) (fun E=>Af rfl B6 rfl (E.d 1 0) (AE j8.out (show (Mg.segs ({ x with rp:=x.rp.extract 0 260 }:Mg) cn5 cn10 (x.pr.cells e_ps e_os e_ts) (x.op.cells (Value.slice ao_o (x.op.pl.take 260).length cap_o)) (x.dc.cells f_ps f_os f_ts (Value.slice ao_v (x.dc.l.take 5).length cap_v))).map List.length=mgN from (AF HOK.o HLn5.o HLn10.o rfl (show (x.op.cells (Value.slice ao_o (x.op.pl.take 260).length cap_o)).length=34 from HC15.o) rfl)) 11 rfl (o:=163) (k:=2) rfl rfl rfl)) ?_
  refine QSeq.pure rfl (.bool false) (fun E=>Am rfl (E.d 2 0) rfl (Ag _ _ _ _ _ _) (Bn _ _ _ B6) (congrArg Value.bool (Bk HV.o))) ?_
  refine qe ?_
  clear HA0 c3 a0
  have HSZ:=hid (show ((Mg.segs ({ x with rp:=x.rp.extract 0 260 }:Mg) cn5 cn10 (x.pr.cells e_ps e_os e_ts) (x.op.cells (Value.slice ao_o (x.op.pl.take 260).length cap_o)) (x.dc.cells f_ps f_os f_ts (Value.slice ao_v (x.dc.l.take 5).length cap_v))).flatten).length=295 by rw [Bb,show (Mg.segs ({ x with rp:=x.rp.extract 0 260 }:Mg) cn5 cn10 (x.pr.cells e_ps e_os e_ts) (x.op.cells (Value.slice ao_o (x.op.pl.take 260).length cap_o)) (x.dc.cells f_ps f_os f_ts (Value.slice ao_v (x.dc.l.take 5).length cap_v))).map List.length=mgN from (AF HOK.o HLn5.o HLn10.o rfl (show (x.op.cells (Value.slice ao_o (x.op.pl.take 260).length cap_o)).length=34 from HC15.o) rfl)];rfl)
  have HES:=hid (show smallM x={ ({ x with rp:=x.rp.extract 0 260 }:Mg) with ce:=cutCe x.ce,pm:=cutPm x.pm,pr:={ x.pr with ba:=cutBa x.pr.ba,vl:=x.pr.vl },op:=cutOp x.op,dc:={ x.dc with ba:=cutBa x.dc.ba,l:=x.dc.l.take 5 } } by unfold smallM;rw [show cutRp x.rp=x.rp.extract 0 260 from if_pos hn,show cutVl x.pr.vl=x.pr.vl from if_neg HV.o])
  have HRM:=hid (show MgR.rd (fun k=>(R2 k)∨(New w1 j7 k)) j7 ((Mg.segs ({ x with rp:=x.rp.extract 0 260 }:Mg) cn5 cn10 (x.pr.cells e_ps e_os e_ts) (x.op.cells (Value.slice ao_o (x.op.pl.take 260).length cap_o)) (x.dc.cells f_ps f_os f_ts (Value.slice ao_v (x.dc.l.take 5).length cap_v))).flatten) (smallM x) from HES.o▸⟨_,_,_,_,_,rfl,{ HOK.o with },(((d9.out.mod c6.out aB).mod c4.out aB).mod c7.out aB).widen aI,(((g5.out.mod c6.out aB).mod c4.out aB).mod c7.out aB).widen aI,⟨_,_,_,rfl,HOP.o,(((g6.out.mod c6.out aB).mod c4.out aB).mod c7.out aB).widen aI,(((g7.out.mod c6.out aB).mod c4.out aB).mod c7.out aB).widen aI,(((g8.out.mod c6.out aB).mod c4.out aB).mod c7.out aB).widen aI⟩,⟨_,rfl,HOO.o,RdR_len (((i9.out.mod c4.out aE).mod c7.out aE).rd.widen fE (B9 _))⟩,⟨_,_,_,_,rfl,HOD.o,(((g9.out.mod c6.out aB).mod c4.out aB).mod c7.out aB).widen aI,(((i7.out.mod c6.out aB).mod c4.out aB).mod c7.out aB).widen aI,(((i8.out.mod c6.out aB).mod c4.out aB).mod c7.out aB).widen aI,(j0.out.mod c7.out aE (sB HBT)).rd.widen cU⟩⟩)
  have HON:=hid (MgR.one HRM.o)
  clear d9
  clear g5
  clear g6
  clear g7
  clear g8
  clear g9
  clear i7
  clear i8
  clear j0
  clear i9
  go_upto_region 8 with (fail)
  refine Aa 50 [49,51] [0,1] (fun a0 HA0=>?_)
  have c3:=ev HA0 1 rfl
  have d5:=ev HA0 2 rfl
  refine QSeq.pure rfl _ (fun E=>Aj rfl B7 rfl (off:=0) (cs:=((Mg.segs ({ x with rp:=x.rp.extract 0 260 }:Mg) cn5 cn10 (x.pr.cells e_ps e_os e_ts) (x.op.cells (Value.slice ao_o (x.op.pl.take 260).length cap_o)) (x.dc.cells f_ps f_os f_ts (Value.slice ao_v (x.dc.l.take 5).length cap_v))).flatten)) bX (E.v c3) (Cs.whole j8.out)) ?_
  refine QSeq.go fun act E=>?_
  refine Ah rfl (Ab rfl) rfl ((((HB2.o.mod d6.out aJ).mod c6.out aJ).mod c4.out aJ).mod c7.out aJ) (off:=0) (vs:=((Mg.segs ({ x with rp:=x.rp.extract 0 260 }:Mg) cn5 cn10 (x.pr.cells e_ps e_os e_ts) (x.op.cells (Value.slice ao_o (x.op.pl.take 260).length cap_o)) (x.dc.cells f_ps f_os f_ts (Value.slice ao_v (x.dc.l.take 5).length cap_v))).flatten)) bX HON.o dQ (E.v d5) (ec (E.d 0 0)) ?_
  intro j3 qc0 hm
  have qB2:=qc0.eqv (b:=(((Mg.segs ({ x with rp:=x.rp.extract 0 260 }:Mg) cn5 cn10 (x.pr.cells e_ps e_os e_ts) (x.op.cells (Value.slice ao_o (x.op.pl.take 260).length cap_o)) (x.dc.cells f_ps f_os f_ts (Value.slice ao_v (x.dc.l.take 5).length cap_v))).flatten):List Value).toArray) (Ap _ _ gD)
  clear qc0
  have bg:=hid qB2
  have o4:=hm.size
  have ai:=hid (show Mod (fun k=>(k=w.heap.size+1)) j7 j3 from hm)
  clear hm
  clear act E qB2 HB2
  refine qe ?_
  clear HA0 c3 d5 a0
  go_wp2
  exact bodyPost_ret (Au rfl _ _ (w.heap.size+1) ((Mg.segs ({ x with rp:=x.rp.extract 0 260 }:Mg) cn5 cn10 (x.pr.cells e_ps e_os e_ts) (x.op.cells (Value.slice ao_o (x.op.pl.take 260).length cap_o)) (x.dc.cells f_ps f_os f_ts (Value.slice ao_v (x.dc.l.take 5).length cap_v))).flatten) rfl (fun k u hu=>by rw [bg.out.cell];simpa using hu) B7 rfl bX) rfl ⟨_,rfl,(HRM.o.mod ai.out aB).widen aI,(((((HM0.o.trans d6.out aE).trans c6.out aE).trans c4.out aE).trans c7.out aE).trans ai.out aE)⟩
 go_upto_region 4 with (fail)
 refine Aa 50 [35,36,37,38] [0,1,2,3] (fun a0 HA0=>?_)
 have c3:=ev HA0 1 rfl
 refine qfd rfl 286 B7 c3 ?_
 refine QSeq.pure rfl (.string x.rp) (fun E=>Af rfl Tryz.underlying9 rfl (E.d 0 0) (AE d7.out (AF HOK.o HLn5.o HLn10.o rfl (show (x.op.cells (Value.slice ao_o (x.op.pl.take 260).length cap_o)).length=34 from HC15.o) rfl) 17 rfl (o:=286) (k:=0) rfl rfl rfl)) ?_
 refine QSeq.pure rfl (.int .i64 ((x.rp.size:Nat):Int)) (fun E=>ex_lenStr rfl (E.d 1 0) Tryz.underlying9) ?_
 refine QSeq.pure rfl (.bool false) (fun E=>Am rfl (E.d 2 0) rfl (Ag _ _ _ _ _ _) (run_gtr_i _ _ _ B6) (congrArg Value.bool (decide_eq_false aM))) ?_
 refine qe ?_
 clear HA0 c3 a0
 by_cases hv:x.pr.vl=9223372036854775807
 ·have HV:=B5 hv
  clear hv
  go_upto_region 6 with (fail)
  refine Aa 50 [43,44,45,46] [0,1,2,3] (fun a0 HA0=>?_)
  have c3:=ev HA0 1 rfl
  refine qfd rfl 163 B7 c3 ?_
  refine QSeq.pure rfl (.pointer (some ⟨w.heap.size,165,none⟩)) (fun E=>Ae rfl C6 rfl aD (E.d 0 0)) ?_
  refine QSeq.pure rfl (.int .i64 x.pr.vl) (fun E=>Af rfl B6 rfl (E.d 1 0) (AE d7.out (AF HOK.o HLn5.o HLn10.o rfl (show (x.op.cells (Value.slice ao_o (x.op.pl.take 260).length cap_o)).length=34 from HC15.o) rfl) 11 rfl (o:=163) (k:=2) rfl rfl rfl)) ?_
  refine QSeq.pure rfl (.bool true) (fun E=>Am rfl (E.d 2 0) rfl (Ag _ _ _ _ _ _) (Bn _ _ _ B6) (congrArg Value.bool (Bl HV.o))) ?_
  refine qe ?_
  clear HA0 c3 a0
  go_upto_region 7 with (fail)
  refine Aa 50 [47,48,52] [0,1,2] (fun a0 HA0=>?_)
  have c3:=ev HA0 1 rfl
  refine qfd rfl 163 B7 c3 ?_
  refine QSeq.pure rfl (.pointer (some ⟨w.heap.size,165,none⟩)) (fun E=>Ae rfl C6 rfl aD (E.d 0 0)) ?_
  refine QSeq.go fun act E=>?_
  refine Ah rfl (Ab rfl) rfl d7.out (off:=165) (vs:=[.int .i64 0]) aD one1 (by rw [C3,Bb,(show (Mg.segs x cn5 cn10 (x.pr.cells e_ps e_os e_ts) (x.op.cells (Value.slice ao_o (x.op.pl.take 260).length cap_o)) (x.dc.cells f_ps f_os f_ts (Value.slice ao_v (x.dc.l.take 5).length cap_v))).map List.length=mgN from (AF HOK.o HLn5.o HLn10.o rfl (show (x.op.cells (Value.slice ao_o (x.op.pl.take 260).length cap_o)).length=34 from HC15.o) rfl))];show 165+1≤295;decide) (E.d 1 0) (ec rfl) ?_
  intro d8 qc0 hm
  have qB1:=qc0.eqv (b:=((Mg.segs x cn5 cn10 (Pr.cells { x.pr with vl:=0 } e_ps e_os e_ts) (x.op.cells (Value.slice ao_o (x.op.pl.take 260).length cap_o)) (x.dc.cells f_ps f_os f_ts (Value.slice ao_v (x.dc.l.take 5).length cap_v))).flatten:List Value).toArray) ((lay_sub (show (Mg.segs x cn5 cn10 (x.pr.cells e_ps e_os e_ts) (x.op.cells (Value.slice ao_o (x.op.pl.take 260).length cap_o)) (x.dc.cells f_ps f_os f_ts (Value.slice ao_v (x.dc.l.take 5).length cap_v))).map List.length=mgN from (AF HOK.o HLn5.o HLn10.o rfl (show (x.op.cells (Value.slice ao_o (x.op.pl.take 260).length cap_o)).length=34 from HC15.o) rfl)) 11 rfl (o:=163) (k:=2) (n:=1) rfl rfl rfl (by show 2+1≤11;decide)).trans rfl)
  clear qc0
  have bh:=hid qB1
  have bc:=hm.size
  have c9:=hid (show Mod (fun k=>(k=w.heap.size)) j6 d8 from hm)
  clear hm
  clear act E qB1 d7
  refine qe ?_
  clear HA0 c3 a0
  have HSZ:=hid (show ((Mg.segs x cn5 cn10 (Pr.cells { x.pr with vl:=0 } e_ps e_os e_ts) (x.op.cells (Value.slice ao_o (x.op.pl.take 260).length cap_o)) (x.dc.cells f_ps f_os f_ts (Value.slice ao_v (x.dc.l.take 5).length cap_v))).flatten).length=295 by rw [Bb,show (Mg.segs x cn5 cn10 (Pr.cells { x.pr with vl:=0 } e_ps e_os e_ts) (x.op.cells (Value.slice ao_o (x.op.pl.take 260).length cap_o)) (x.dc.cells f_ps f_os f_ts (Value.slice ao_v (x.dc.l.take 5).length cap_v))).map List.length=mgN from (AF HOK.o HLn5.o HLn10.o rfl (show (x.op.cells (Value.slice ao_o (x.op.pl.take 260).length cap_o)).length=34 from HC15.o) rfl)];rfl)
  have HES:=hid (show smallM x={ x with ce:=cutCe x.ce,pm:=cutPm x.pm,pr:={ x.pr with ba:=cutBa x.pr.ba,vl:=0 },op:=cutOp x.op,dc:={ x.dc with ba:=cutBa x.dc.ba,l:=x.dc.l.take 5 } } by unfold smallM;rw [show cutRp x.rp=x.rp from if_neg hn,show cutVl x.pr.vl=0 from if_pos HV.o])
  have HRM:=hid (show MgR.rd (fun k=>(R2 k)∨(New w1 d8 k)) d8 ((Mg.segs x cn5 cn10 (Pr.cells { x.pr with vl:=0 } e_ps e_os e_ts) (x.op.cells (Value.slice ao_o (x.op.pl.take 260).length cap_o)) (x.dc.cells f_ps f_os f_ts (Value.slice ao_v (x.dc.l.take 5).length cap_v))).flatten) (smallM x) from HES.o▸⟨_,_,_,_,_,rfl,{ HOK.o with },(((d9.out.mod c6.out aB).mod c4.out aB).mod c9.out aB).widen aI,(((g5.out.mod c6.out aB).mod c4.out aB).mod c9.out aB).widen aI,⟨_,_,_,rfl,⟨HOP.o.1,HOP.o.2.1,A4,HOP.o.2.2.2⟩,(((g6.out.mod c6.out aB).mod c4.out aB).mod c9.out aB).widen aI,(((g7.out.mod c6.out aB).mod c4.out aB).mod c9.out aB).widen aI,(((g8.out.mod c6.out aB).mod c4.out aB).mod c9.out aB).widen aI⟩,⟨_,rfl,HOO.o,RdR_len (((i9.out.mod c4.out aE).mod c9.out aE).rd.widen fE (B9 _))⟩,⟨_,_,_,_,rfl,HOD.o,(((g9.out.mod c6.out aB).mod c4.out aB).mod c9.out aB).widen aI,(((i7.out.mod c6.out aB).mod c4.out aB).mod c9.out aB).widen aI,(((i8.out.mod c6.out aB).mod c4.out aB).mod c9.out aB).widen aI,(j0.out.mod c9.out aE (sB HBT)).rd.widen cU⟩⟩)
  have HON:=hid (MgR.one HRM.o)
  clear d9
  clear g5
  clear g6
  clear g7
  clear g8
  clear g9
  clear i7
  clear i8
  clear j0
  clear i9
  go_upto_region 8 with (fail)
  refine Aa 50 [49,51] [0,1] (fun a0 HA0=>?_)
  have c3:=ev HA0 1 rfl
  have d5:=ev HA0 2 rfl
  refine QSeq.pure rfl _ (fun E=>Aj rfl B7 rfl (off:=0) (cs:=((Mg.segs x cn5 cn10 (Pr.cells { x.pr with vl:=0 } e_ps e_os e_ts) (x.op.cells (Value.slice ao_o (x.op.pl.take 260).length cap_o)) (x.dc.cells f_ps f_os f_ts (Value.slice ao_v (x.dc.l.take 5).length cap_v))).flatten)) bX (E.v c3) (Cs.whole bh.out)) ?_
  refine QSeq.go fun act E=>?_
  refine Ah rfl (Ab rfl) rfl ((((HB2.o.mod d6.out aJ).mod c6.out aJ).mod c4.out aJ).mod c9.out aJ) (off:=0) (vs:=((Mg.segs x cn5 cn10 (Pr.cells { x.pr with vl:=0 } e_ps e_os e_ts) (x.op.cells (Value.slice ao_o (x.op.pl.take 260).length cap_o)) (x.dc.cells f_ps f_os f_ts (Value.slice ao_v (x.dc.l.take 5).length cap_v))).flatten)) bX HON.o dQ (E.v d5) (ec (E.d 0 0)) ?_
  intro j3 qc0 hm
  have qB2:=qc0.eqv (b:=(((Mg.segs x cn5 cn10 (Pr.cells { x.pr with vl:=0 } e_ps e_os e_ts) (x.op.cells (Value.slice ao_o (x.op.pl.take 260).length cap_o)) (x.dc.cells f_ps f_os f_ts (Value.slice ao_v (x.dc.l.take 5).length cap_v))).flatten):List Value).toArray) (Ap _ _ gD)
  clear qc0
  have bi:=hid qB2
  have o4:=hm.size
  have aj:=hid (show Mod (fun k=>(k=w.heap.size+1)) d8 j3 from hm)
  clear hm
  clear act E qB2 HB2
  refine qe ?_
  clear HA0 c3 d5 a0
  go_wp2
  exact bodyPost_ret (Au rfl _ _ (w.heap.size+1) ((Mg.segs x cn5 cn10 (Pr.cells { x.pr with vl:=0 } e_ps e_os e_ts) (x.op.cells (Value.slice ao_o (x.op.pl.take 260).length cap_o)) (x.dc.cells f_ps f_os f_ts (Value.slice ao_v (x.dc.l.take 5).length cap_v))).flatten) rfl (fun k u hu=>by rw [bi.out.cell];simpa using hu) B7 rfl bX) rfl ⟨_,rfl,(HRM.o.mod aj.out aB).widen aI,(((((HM0.o.trans d6.out aE).trans c6.out aE).trans c4.out aE).trans c9.out aE).trans aj.out aE)⟩
 have HV:=B5 hv
 clear hv
 go_upto_region 6 with (fail)
 refine Aa 50 [43,44,45,46] [0,1,2,3] (fun a0 HA0=>?_)
 have c3:=ev HA0 1 rfl
 refine qfd rfl 163 B7 c3 ?_
 refine QSeq.pure rfl (.pointer (some ⟨w.heap.size,165,none⟩)) (fun E=>Ae rfl C6 rfl aD (E.d 0 0)) ?_
 refine QSeq.pure rfl (.int .i64 x.pr.vl) (fun E=>Af rfl B6 rfl (E.d 1 0) (AE d7.out (AF HOK.o HLn5.o HLn10.o rfl (show (x.op.cells (Value.slice ao_o (x.op.pl.take 260).length cap_o)).length=34 from HC15.o) rfl) 11 rfl (o:=163) (k:=2) rfl rfl rfl)) ?_
 refine QSeq.pure rfl (.bool false) (fun E=>Am rfl (E.d 2 0) rfl (Ag _ _ _ _ _ _) (Bn _ _ _ B6) (congrArg Value.bool (Bk HV.o))) ?_
 refine qe ?_
 clear HA0 c3 a0
 have HSZ:=hid (show ((Mg.segs x cn5 cn10 (x.pr.cells e_ps e_os e_ts) (x.op.cells (Value.slice ao_o (x.op.pl.take 260).length cap_o)) (x.dc.cells f_ps f_os f_ts (Value.slice ao_v (x.dc.l.take 5).length cap_v))).flatten).length=295 by rw [Bb,show (Mg.segs x cn5 cn10 (x.pr.cells e_ps e_os e_ts) (x.op.cells (Value.slice ao_o (x.op.pl.take 260).length cap_o)) (x.dc.cells f_ps f_os f_ts (Value.slice ao_v (x.dc.l.take 5).length cap_v))).map List.length=mgN from (AF HOK.o HLn5.o HLn10.o rfl (show (x.op.cells (Value.slice ao_o (x.op.pl.take 260).length cap_o)).length=34 from HC15.o) rfl)];rfl)
 have HES:=hid (show smallM x={ x with ce:=cutCe x.ce,pm:=cutPm x.pm,pr:={ x.pr with ba:=cutBa x.pr.ba,vl:=x.pr.vl },op:=cutOp x.op,dc:={ x.dc with ba:=cutBa x.dc.ba,l:=x.dc.l.take 5 } } by unfold smallM;rw [show cutRp x.rp=x.rp from if_neg hn,show cutVl x.pr.vl=x.pr.vl from if_neg HV.o])
 have HRM:=hid (show MgR.rd (fun k=>(R2 k)∨(New w1 j6 k)) j6 ((Mg.segs x cn5 cn10 (x.pr.cells e_ps e_os e_ts) (x.op.cells (Value.slice ao_o (x.op.pl.take 260).length cap_o)) (x.dc.cells f_ps f_os f_ts (Value.slice ao_v (x.dc.l.take 5).length cap_v))).flatten) (smallM x) from HES.o▸⟨_,_,_,_,_,rfl,{ HOK.o with },((d9.out.mod c6.out aB).mod c4.out aB).widen aI,((g5.out.mod c6.out aB).mod c4.out aB).widen aI,⟨_,_,_,rfl,HOP.o,((g6.out.mod c6.out aB).mod c4.out aB).widen aI,((g7.out.mod c6.out aB).mod c4.out aB).widen aI,((g8.out.mod c6.out aB).mod c4.out aB).widen aI⟩,⟨_,rfl,HOO.o,RdR_len ((i9.out.mod c4.out aE).rd.widen fE (B9 _))⟩,⟨_,_,_,_,rfl,HOD.o,((g9.out.mod c6.out aB).mod c4.out aB).widen aI,((i7.out.mod c6.out aB).mod c4.out aB).widen aI,((i8.out.mod c6.out aB).mod c4.out aB).widen aI,j0.out.rd.widen cU⟩⟩)
 have HON:=hid (MgR.one HRM.o)
 clear d9
 clear g5
 clear g6
 clear g7
 clear g8
 clear g9
 clear i7
 clear i8
 clear j0
 clear i9
 go_upto_region 8 with (fail)
 refine Aa 50 [49,51] [0,1] (fun a0 HA0=>?_)
 have c3:=ev HA0 1 rfl
 have d5:=ev HA0 2 rfl
 refine QSeq.pure rfl _ (fun E=>Aj rfl B7 rfl (off:=0) (cs:=((Mg.segs x cn5 cn10 (x.pr.cells e_ps e_os e_ts) (x.op.cells (Value.slice ao_o (x.op.pl.take 260).length cap_o)) (x.dc.cells f_ps f_os f_ts (Value.slice ao_v (x.dc.l.take 5).length cap_v))).flatten)) bX (E.v c3) (Cs.whole d7.out)) ?_
 refine QSeq.go fun act E=>?_
 refine Ah rfl (Ab rfl) rfl (((HB2.o.mod d6.out aJ).mod c6.out aJ).mod c4.out aJ) (off:=0) (vs:=((Mg.segs x cn5 cn10 (x.pr.cells e_ps e_os e_ts) (x.op.cells (Value.slice ao_o (x.op.pl.take 260).length cap_o)) (x.dc.cells f_ps f_os f_ts (Value.slice ao_v (x.dc.l.take 5).length cap_v))).flatten)) bX HON.o dQ (E.v d5) (ec (E.d 0 0)) ?_
 intro j3 qc0 hm
 have qB2:=qc0.eqv (b:=(((Mg.segs x cn5 cn10 (x.pr.cells e_ps e_os e_ts) (x.op.cells (Value.slice ao_o (x.op.pl.take 260).length cap_o)) (x.dc.cells f_ps f_os f_ts (Value.slice ao_v (x.dc.l.take 5).length cap_v))).flatten):List Value).toArray) (Ap _ _ gD)
 clear qc0
 have bj:=hid qB2
 have o4:=hm.size
 have am:=hid (show Mod (fun k=>(k=w.heap.size+1)) j6 j3 from hm)
 clear hm
 clear act E qB2 HB2
 refine qe ?_
 clear HA0 c3 d5 a0
 go_wp2
 exact bodyPost_ret (Au rfl _ _ (w.heap.size+1) ((Mg.segs x cn5 cn10 (x.pr.cells e_ps e_os e_ts) (x.op.cells (Value.slice ao_o (x.op.pl.take 260).length cap_o)) (x.dc.cells f_ps f_os f_ts (Value.slice ao_v (x.dc.l.take 5).length cap_v))).flatten) rfl (fun k u hu=>by rw [bj.out.cell];simpa using hu) B7 rfl bX) rfl ⟨_,rfl,(HRM.o.mod am.out aB).widen aI,((((HM0.o.trans d6.out aE).trans c6.out aE).trans c4.out aE).trans am.out aE)⟩
theorem baB_len2 {R:Nat→Prop} {w:World} {x:Ba} {vp vo vt:Value} (hok:x.OK) (hp:RdS PmR R w vp (cutBa x).ps) (ho:RdS OpR R w vo (cutBa x).os) (ht:RdS TbR R w vt (cutBa x).ts):(baB (cutBa x)).length≤10000:=by
 have h1:=A1 _ hok.1;have h2:=(encN_len10 hok.2).2
 have h3:=listB_len pmB (M:=4) (l:=(cutBa x).ps) (by simp [cutBa];omega) aF (fun z hz=>by
  obtain ⟨cs,hc⟩:=RdS_mem hp z hz
  obtain ⟨u,-,rfl⟩:=List.mem_map.1 hz
  exact pmB_len hc ⟨u,rfl⟩)
 have h4:=listB_len opB (M:=4) (l:=(cutBa x).os) (by simp [cutBa];omega) aF (fun z hz=>by
  obtain ⟨cs,hc⟩:=RdS_mem ho z hz
  obtain ⟨u,-,rfl⟩:=List.mem_map.1 hz
  exact opB_len hc (by simp [cutOp];omega))
 have h5:=listB_len tbB (M:=4) (l:=(cutBa x).ts) (by simp [cutBa];omega) aF (fun z hz=>by
  obtain ⟨cs,hc⟩:=RdS_mem ht z hz
  obtain ⟨u,-,rfl⟩:=List.mem_map.1 hz
  exact tbB_len hc (by simp [cutTb];omega))
 have e1:(encI (cutBa x).ep).length≤10:=h1
 have e2:(encN (cutBa x).tm).length≤10:=h2
 simp only [baB,C0];omega
theorem vtB_len {x:Vt} (h:x.OK):(vtB x).length≤92:=by
 obtain ⟨a,b,c,d,e,f,g⟩:=h
 have h1:=A1 _ a;have h2:=A1 _ b;have h3:=A1 _ c;have h4:=A1 _ d;have h5:=e.1;have h6:=A1 _ f;have h7:=A1 _ g
 simp only [vtB,sigB,C0];omega
theorem enB_len {x:En} (h:x.OK):(enB x).length≤62:=by
 obtain ⟨a,b,e,c⟩:=h
 have h1:=A1 _ a;have h2:=A1 _ b;have h5:=e.1;have h6:=(encN_len10 c).2
 simp only [enB,nameB,C0];omega
theorem ite_len2 {c:Prop} [Decidable c] {a b:List Int} {n:Nat} (ha:a.length≤n) (hb:b.length≤n):(if c then a else b).length≤n:=by by_cases h:c<;>simp [h,ha,hb]
theorem cutRp_len (s:ByteArray):(Bw (cutRp s)).length≤260:=by
 rw [bytesOf_len];unfold cutRp
 split
 ·rw [ByteArray.size_extract];omega
 ·omega
theorem small_body {R:Nat→Prop} {w:World} {cs:List Value} {a:Mg} {k:Int} (h:MgR.rd R w cs { smallM a with kd:=k }):(Bd { smallM a with kd:=k }).length≤20000:=by
 obtain ⟨c5,c10,c11,c15,c18,rfl,ok,h5,h10,h11,h15,h18⟩:=h
 have e3:=ceB_len h5 (by show (a.ce.l.take 5).length≤5;rw [List.length_take];omega)
 have e6:=pmB_len h10 ⟨_,rfl⟩
 have e10:=opB_len h15 (by show (a.op.pl.take 260).length≤260;rw [List.length_take];omega)
 obtain ⟨p1,p2,p3,rfl,⟨i1,i2,i3,i4,okb,i5,i6⟩,hp,ho,ht⟩:=h11
 have e7:=baB_len2 (x:=a.pr.ba) okb hp ho ht
 obtain ⟨d1,d2,d3,d4,rfl,⟨j1,j2,okd⟩,gp,go_,gt,gl⟩:=h18
 have e14:=baB_len2 (x:=a.dc.ba) okd gp go_ gt
 have e15:=listB_len vtB (M:=5) (l:=a.dc.l.take 5) (by rw [List.length_take];omega) aF (fun z hz=>by obtain ⟨cs,e,hk⟩:=RdS_mem gl z hz;exact vtB_len hk)
 have n1:=A1 _ ok.ep;have n2:=A1 _ ok.rn;have n3:=(encN_len10 ok.tm).2;have n4:=A1 _ ok.ix
 have m1:=A1 _ i1;have m2:=A1 _ i2;have m3:=A1 _ (I64_wrap (cutVl a.pr.vl+1));have m4:=A1 _ i4;have m5:=A1 _ i5;have m6:=A1 _ i6
 have q1:=A1 _ j1;have q2:=A1 _ j2
 have r1:=cutRp_len a.rp;have r2:=(encN_len10 (n:=(Bw (cutRp a.rp)).length) fI).2
 unfold Bd
 repeat' (refine ite_len2 ?_ ?_)
 ·exact C1 (cmB_len ok.cm) aF
 ·exact C1 (stB_len ok.st) aF
 ·exact C1 e3 aF
 ·exact C1 (stB_len ok.ak) aF
 ·show (encI a.ep ++ encI a.rn ++ encN a.tm).length≤20000
  have n1':(encI a.ep).length≤10:=n1
  have n2':(encI a.rn).length≤10:=n2
  have n3':(encN a.tm).length≤10:=n3
  simp only [C0];omega
 ·exact C1 e6 aF
 ·show (prB { a.pr with ba:=cutBa a.pr.ba,vl:=cutVl a.pr.vl }).length≤20000
  have m1':(encI a.pr.ep).length≤10:=m1
  have m2':(encI a.pr.rn).length≤10:=m2
  have m4':(encI a.pr.rp).length≤10:=m4
  have m5':(encI a.pr.sb).length≤10:=m5
  have m6':(encI a.pr.mr).length≤10:=m6
  simp only [prB,sigB,C0];omega
 ·exact C1 (vtB_len ok.vt) aF
 ·show (encI a.ix ++ enB a.en).length≤20000
  have n4':(encI a.ix).length≤10:=n4
  have n5':(enB a.en).length≤62:=enB_len ok.en
  simp only [C0];omega
 ·exact C1 e10 aF
 ·exact C1 n4 aF
 ·exact C1 (dnB_len ok.dn) aF
 ·show (encI a.ix ++ (encN (Bw (cutRp a.rp)).length ++ Bw (cutRp a.rp))).length≤20000
  have n4':(encI a.ix).length≤10:=n4
  simp only [C0];omega
 ·show (dcB { a.dc with ba:=cutBa a.dc.ba,l:=a.dc.l.take 5 }).length≤20000
  have q1':(encI a.dc.ep).length≤10:=q1
  have q2':(encI a.dc.rn).length≤10:=q2
  simp only [dcB,C0];omega
 ·simp
theorem small_len {R:Nat→Prop} {w:World} {cs:List Value} {a:Mg} {k:Int} (h:MgR.rd R w cs { smallM a with kd:=k }):(packB { smallM a with kd:=k }).length≤30000:=by
 have h1:=small_body h
 obtain ⟨c5,c10,c11,c15,c18,rfl,ok,-⟩:=h
 have n1:=A1 _ ok.kd;have n2:=A1 _ ok.fr;have n3:=A1 _ ok.to
 simp only [packB,C0] at *; omega
theorem packs_of_len {m:Mg} (hk:okKd m.kd=true) (h:(packB m).length≤30000):packs m=true:=by
 unfold packs
 rw [hk,Bool.true_and,decide_eq_true_eq]
 omega
open Go.Proofs renaming Tryz.func120→va',Tryz.ntmps120→vb',Tryz.func42→vc' in
open Go.Proofs.YtnaoeginonpicaaGreat renaming cI_Q→vd' in
set_option maxHeartbeats 2000000 in
theorem cSig_Q:GetsF 132 120 (fun x:Int × Int=>[.int .i64 x.1,.int .i64 x.2]) gSig:=
 fm3'
open Go.Proofs renaming Tryz.func118→va',Tryz.ntmps118→vb',Tryz.func42→vc' in
open Go.Proofs.YtnaoeginonpicaaGreat renaming cI_Q→vd' in
set_option maxHeartbeats 2000000 in
theorem cName_Q:GetsF 132 118 (fun x:Int × Int=>[.int .i64 x.1,.int .i64 x.2]) gSig:=
 fm4'
open Go.Proofs renaming Tryz.func76→va',Tryz.ntmps76→vb',Tryz.func118→vc',Tryz.func119→ve',Tryz.func42→vg',Tryz.func120→vi' in
open Go.Proofs.YtnaoeginonpicaaGreat renaming cName_Q→vd',RHash_R→vf',cI_Q→vh',cSig_Q→vj' in
set_option maxHeartbeats 4000000 in
theorem cCm_Q:GetsF 132 76 Cm.cells gCm:=
 fm5'
open Go.Proofs renaming Tryz.func77→va',Tryz.ntmps77→vb',Tryz.func42→vc',Tryz.func118→ve',Tryz.func119→vg',Tryz.func80→vi',Tryz.func120→vk' in
open Go.Proofs.YtnaoeginonpicaaGreat renaming cI_Q→vd',cName_Q→vf',RHash_R→vh',RNum_R→vj',cSig_Q→vl' in
set_option maxHeartbeats 4000000 in
theorem cSt_Q:GetsF 132 77 St.cells gSt:=
 fm6'
theorem cSt_G:Gets StR 132 77 gSt:=GetsF.to (A:=StR) cSt_Q fun _ _ _ hb=>⟨rfl,gSt_OK hb⟩
open Go.Proofs renaming Tryz.func86→va',Tryz.ntmps86→vb',Tryz.func42→vc',Tryz.func120→ve' in
open Go.Proofs.YtnaoeginonpicaaGreat renaming cI_Q→vd',cSig_Q→vf' in
set_option maxHeartbeats 4000000 in
theorem cDn_Q:GetsF 132 86 Dn.cells gDn:=
 fm7'
theorem cDn_G:Gets DnR 132 86 gDn:=GetsF.to (A:=DnR) cDn_Q fun _ _ _ hb=>⟨rfl,gDn_OK hb⟩
open Go.Proofs renaming Tryz.func121→va',Tryz.ntmps121→vb',Tryz.func77→vh',Tryz.underlying33→vl' in
open Go.Proofs.YtnaoeginonpicaaGreat renaming gSt→vc',St→vd',StR→ve',gSt_suf→vg',cSt_G→vi',info_St→vo' in
open Go.Gv renaming n'32→vf',z'0→vj',n'38→vk',z'1→vm',n'80→vn' in
set_option maxHeartbeats 4000000 in
theorem cList_St:GetsL StR 132 121 77 gSt:=
 fm16'
open Go.Proofs renaming Tryz.func145→va',Tryz.ntmps145→vb',Tryz.func86→vh',Tryz.underlying125→vl' in
open Go.Proofs.YtnaoeginonpicaaGreat renaming gDn→vc',Dn→vd',DnR→ve',gDn_suf→vg',cDn_G→vi',info_Dn→vo' in
open Go.Gv renaming n'56→vf',z'15→vj',n'4→vk',z'9→vm',n'32→vn' in
set_option maxHeartbeats 4000000 in
theorem cList_Dn:GetsL DnR 132 145 86 gDn:=
 fm16'
theorem ce_len (x:Ce) (v:Value) (h:x.c.h.length=32):(x.cells v).length=38:=by simp [Ce.cells,Cm.len h]
theorem op_len2 (x:Op) (v:Value) (h:x.nc.length=32):(x.cells v).length=34:=by simp [Op.cells,h]
theorem one_ce2 (x:Ce) (v:Value) (h:v.oneCell'=true):∀ u ∈ x.cells v,u.oneCell'=true:=by
 intro u hu
 simp only [Ce.cells,List.mem_append,D9,D4,or_false] at hu
 rcases hu with hu|rfl
 ·exact Cm_one _ _ hu
 ·exact h
theorem one_op2 (x:Op) (v:Value) (h:v.oneCell'=true):∀ u ∈ x.cells v,u.oneCell'=true:=by
 intro u hu
 simp only [Op.cells,List.mem_append,D9,D4,or_false,List.mem_map] at hu
 rcases hu with (rfl|rfl)|⟨y,-,rfl⟩
 ·rfl
 ·exact h
 ·rfl
set_option maxHeartbeats 4000000 in
theorem cCe_G:Gets CeR 132 78 gCe:=by
 intro R r s w hR hB hl
 have HRD:=B5 hR
 have HBR:=B5 hB
 have HBY:=hid hR.bytes
 clear hR hB
 have HLN:=B5 hl
 clear hl
 go_enter Tryz.func78,Tryz.ntmps78
 go_upto_region 1 with (fail)
 obtain ⟨w1,hw1⟩:∃ zz,zz=(w.alloc (.cells #[.int .i64 0,.int .i64 0,.int .u8 0,.int .u8 0,.int .u8 0,.int .u8 0,.int .u8 0,.int .u8 0,.int .u8 0,.int .u8 0,.int .u8 0,.int .u8 0,.int .u8 0,.int .u8 0,.int .u8 0,.int .u8 0,.int .u8 0,.int .u8 0,.int .u8 0,.int .u8 0,.int .u8 0,.int .u8 0,.int .u8 0,.int .u8 0,.int .u8 0,.int .u8 0,.int .u8 0,.int .u8 0,.int .u8 0,.int .u8 0,.int .u8 0,.int .u8 0,.int .u8 0,.int .u8 0,.int .i64 0,.int .i64 0,.int .i64 0,.slice none 0 0] 35)):=⟨_,rfl⟩
 change Code.wp _ _ _ _ (w.alloc (.cells #[.int .i64 0,.int .i64 0,.int .u8 0,.int .u8 0,.int .u8 0,.int .u8 0,.int .u8 0,.int .u8 0,.int .u8 0,.int .u8 0,.int .u8 0,.int .u8 0,.int .u8 0,.int .u8 0,.int .u8 0,.int .u8 0,.int .u8 0,.int .u8 0,.int .u8 0,.int .u8 0,.int .u8 0,.int .u8 0,.int .u8 0,.int .u8 0,.int .u8 0,.int .u8 0,.int .u8 0,.int .u8 0,.int .u8 0,.int .u8 0,.int .u8 0,.int .u8 0,.int .u8 0,.int .u8 0,.int .i64 0,.int .i64 0,.int .i64 0,.slice none 0 0] 35))
 rw [← hw1]
 have HB2:=hid (show Cs w1 (w.heap.size) #[.int .i64 0,.int .i64 0,.int .u8 0,.int .u8 0,.int .u8 0,.int .u8 0,.int .u8 0,.int .u8 0,.int .u8 0,.int .u8 0,.int .u8 0,.int .u8 0,.int .u8 0,.int .u8 0,.int .u8 0,.int .u8 0,.int .u8 0,.int .u8 0,.int .u8 0,.int .u8 0,.int .u8 0,.int .u8 0,.int .u8 0,.int .u8 0,.int .u8 0,.int .u8 0,.int .u8 0,.int .u8 0,.int .u8 0,.int .u8 0,.int .u8 0,.int .u8 0,.int .u8 0,.int .u8 0,.int .i64 0,.int .i64 0,.int .i64 0,.slice none 0 0] 35 by rw [hw1];exact Cs.new _ _ _)
 have hm:Mod (fun _=>False) w w1:=by rw [hw1];exact (Mod.refl _ _).alloc _
 have HM0:=hid (show Mod (fun k=>(R k)) w w1 from hm.mono (fun _ _ h=>h.elim))
 have hs1:w1.heap.size=w.heap.size+1:=by rw [hw1];simp
 have c7:=hid (HRD.o.mod hm (fun _ _ h=>h))
 clear HRD
 clear hw1 hm
 go_upto_region 1 with (fail)
 refine Aa 8 [3,4,5,6,7,13] [0,1,2,3,4,5] (fun a0 HA0=>?_)
 have c3:=ev HA0 0 rfl
 have c8:=ev HA0 2 rfl
 refine qmo rfl c3 ?_
 refine QSeq.call rfl rfl Tryz.func76 (cCm_Q _ _ _ _ c7.out aL) (fun E=>A0 (E.d 0 0)) ?_
 rintro e d8 ⟨rfl,qrd,hm⟩
 refine ⟨_,rfl,?_⟩
 have c9:=hid qrd
 have i7:=hm.size
 have d5:=hid (show Mod (fun k=>(R k)) w1 d8 from hm)
 clear hm
 clear qrd c7
 refine qmo rfl c3 ?_
 refine QSeq.call rfl rfl Tryz.func121 (cList_St _ _ _ _ c9.out aL (C1 (gCm_suf.len _) HLN.o)) (fun E=>An (E.d 2 0) rfl) ?_
 rintro e i8 ⟨vlSt,rfl,qlSt,qrd,hm⟩
 obtain ⟨ao_lSt,cap_lSt,rfl⟩:=qlSt.shape
 refine ⟨_,rfl,?_⟩
 have d6:=hid qlSt
 have d7:=hid qrd
 have i9:=hm.size
 have d9:=hid hm
 have c4:=hid (AB (S':=(fun k=>(R k))) d5.out hm (fun _ h=>h) aQ)
 clear hm d5
 clear qlSt qrd c9
 refine QSeq.go fun act E=>?_
 refine Br rfl (Ab rfl) (v:=.agg ((gCe s).1.cells (Value.slice ao_lSt (Av gSt (gCm s).2).1.length cap_lSt):List Value).toArray) (Bj rfl (z:=[.int .i64 0,.int .i64 0,.int .u8 0,.int .u8 0,.int .u8 0,.int .u8 0,.int .u8 0,.int .u8 0,.int .u8 0,.int .u8 0,.int .u8 0,.int .u8 0,.int .u8 0,.int .u8 0,.int .u8 0,.int .u8 0,.int .u8 0,.int .u8 0,.int .u8 0,.int .u8 0,.int .u8 0,.int .u8 0,.int .u8 0,.int .u8 0,.int .u8 0,.int .u8 0,.int .u8 0,.int .u8 0,.int .u8 0,.int .u8 0,.int .u8 0,.int .u8 0,.int .u8 0,.int .u8 0,.int .i64 0,.int .i64 0,.int .i64 0,.slice none 0 0]) (places:=[(0,37),(37,1)]) aD (parts:=[(0,(gCm s).1.val),(1,.slice ao_lSt (Av gSt (gCm s).2).1.length cap_lSt)]) (by simp only [C7,C9,D0,show act.eval (.tmp 4)=(gCm s).1.val from (E.d 1 2),show act.eval (.tmp 6)=.slice ao_lSt (Av gSt (gCm s).2).1.length cap_lSt from (E.d 3 0)];try rfl) (r:=(gCe s).1.cells (Value.slice ao_lSt (Av gSt (gCm s).2).1.length cap_lSt)) (by exact Bi (ns:=[37,1]) rfl [(0,(gCm s).1.val),(1,.slice ao_lSt (Av gSt (gCm s).2).1.length cap_lSt)] [[.int .i64 0,.int .i64 0,.int .u8 0,.int .u8 0,.int .u8 0,.int .u8 0,.int .u8 0,.int .u8 0,.int .u8 0,.int .u8 0,.int .u8 0,.int .u8 0,.int .u8 0,.int .u8 0,.int .u8 0,.int .u8 0,.int .u8 0,.int .u8 0,.int .u8 0,.int .u8 0,.int .u8 0,.int .u8 0,.int .u8 0,.int .u8 0,.int .u8 0,.int .u8 0,.int .u8 0,.int .u8 0,.int .u8 0,.int .u8 0,.int .u8 0,.int .u8 0,.int .u8 0,.int .u8 0,.int .i64 0,.int .i64 0,.int .i64 0],[.slice none 0 0]] rfl ⟨(szv (Cm.len (rHash_HK (gSig_suf.bytes HBY.o) |>.1))),rfl,trivial⟩)) ?_
 clear act E
 refine QSeq.go fun act E=>?_
 refine Ah rfl (Ab rfl) rfl (HB2.o.mod c4.out aH) (off:=0) (vs:=((gCe s).1.cells (Value.slice ao_lSt (Av gSt (gCm s).2).1.length cap_lSt))) fN (one_ce2 _ _ rfl) (by rw [show ((gCe s).1.cells (Value.slice ao_lSt (Av gSt (gCm s).2).1.length cap_lSt)).length=_ from (ce_len _ _ (gCm_OK HBY.o).2.1)];decide) (E.v c8) (ec (E.d 4 0)) ?_
 intro g5 qc0 hm
 have qB2:=qc0.eqv (b:=(((gCe s).1.cells (Value.slice ao_lSt (Av gSt (gCm s).2).1.length cap_lSt)):List Value).toArray) (Ap _ _ (by rw [show ((gCe s).1.cells (Value.slice ao_lSt (Av gSt (gCm s).2).1.length cap_lSt)).length=_ from (ce_len _ _ (gCm_OK HBY.o).2.1)];rfl))
 clear qc0
 have g6:=hid qB2
 have j0:=hm.size
 have c6:=hid hm
 have g7:=hid (AB (S':=(fun k=>(R k)∨(k=w.heap.size))) c4.out hm (fun _ h=>Or.inl h) aT)
 clear hm c4
 clear act E qB2 HB2
 have g8:=hid (d7.out.mod c6.out (sB HBR))
 have g9:=hid (d6.out.mod c6.out aE)
 clear d7 d6 d9 c6
 refine qe ?_
 clear HA0 c3 c8 a0
 go_wp2
 exact bodyPost_ret (Au rfl _ _ w.heap.size ((gCe s).1.cells (Value.slice ao_lSt (Av gSt (gCm s).2).1.length cap_lSt)) rfl (fun k u hu=>by rw [g6.out.cell];simpa using hu) Tryz.underlying35 rfl fN) rfl ⟨_,rfl,⟨_,rfl,gCe_OK HBY.o,(g9.out.widen (R':=(fun k=>New w g5 k)) bF)⟩,g8.out,(HM0.o.trans g7.out aC)⟩
open Go.Proofs renaming Tryz.func122→va',Tryz.ntmps122→vb',Tryz.func78→vh',Tryz.underlying38→vl' in
open Go.Proofs.YtnaoeginonpicaaGreat renaming gCe→vc',Ce→vd',CeR→ve',gCe_suf→vg',cCe_G→vi',info_Ce→vo' in
open Go.Gv renaming n'35→vf',z'2→vj',n'38→vk',z'3→vm',n'96→vn' in
set_option maxHeartbeats 4000000 in
theorem cList_Ce:GetsL CeR 132 122 78 gCe:=
 fm16'
set_option maxHeartbeats 4000000 in
theorem cTb_G:Gets TbR 132 127 gTb:=by
 intro R r s w hR hB hl
 have HRD:=B5 hR
 have HBR:=B5 hB
 have HBY:=hid hR.bytes
 clear hR hB
 have HLN:=B5 hl
 clear hl
 go_enter Tryz.func127,Tryz.ntmps127
 go_upto_region 1 with (fail)
 obtain ⟨w1,hw1⟩:∃ zz,zz=(w.alloc (.cells #[.int .i64 0,.slice none 0 0] 127)):=⟨_,rfl⟩
 change Code.wp _ _ _ _ (w.alloc (.cells #[.int .i64 0,.slice none 0 0] 127))
 rw [← hw1]
 have HB2:=hid (show Cs w1 (w.heap.size) #[.int .i64 0,.slice none 0 0] 127 by rw [hw1];exact Cs.new _ _ _)
 have hm:Mod (fun _=>False) w w1:=by rw [hw1];exact (Mod.refl _ _).alloc _
 have HM0:=hid (show Mod (fun k=>(R k)) w w1 from hm.mono (fun _ _ h=>h.elim))
 have hs1:w1.heap.size=w.heap.size+1:=by rw [hw1];simp
 have c7:=hid (HRD.o.mod hm (fun _ _ h=>h))
 clear HRD
 clear hw1 hm
 go_upto_region 1 with (fail)
 refine Aa 8 [3,4,5,6,7,13] [0,1,2,3,4,5] (fun a0 HA0=>?_)
 have c3:=ev HA0 0 rfl
 have c8:=ev HA0 2 rfl
 refine qmo rfl c3 ?_
 refine QSeq.call rfl rfl Tryz.func42 (cI_Q c7.out) (fun E=>An (E.d 0 0) rfl) ?_
 rintro e d8 ⟨rfl,qrd,hm⟩
 refine ⟨_,rfl,?_⟩
 have c9:=hid qrd
 have i7:=hm.size
 have d5:=hid (show Mod (fun k=>(R k)) w1 d8 from hm)
 clear hm
 clear qrd c7
 refine qmo rfl c3 ?_
 refine QSeq.call rfl rfl Tryz.func145 (cList_Dn _ _ _ _ c9.out aL (C1 (gI_suf.len _) HLN.o)) (fun E=>An (E.d 2 0) rfl) ?_
 rintro e i8 ⟨vlDn,rfl,qlDn,qrd,hm⟩
 obtain ⟨ao_lDn,cap_lDn,rfl⟩:=qlDn.shape
 refine ⟨_,rfl,?_⟩
 have d6:=hid qlDn
 have d7:=hid qrd
 have i9:=hm.size
 have d9:=hid hm
 have c4:=hid (AB (S':=(fun k=>(R k))) d5.out hm (fun _ h=>h) aQ)
 clear hm d5
 clear qlDn qrd c9
 refine QSeq.go fun act E=>?_
 refine Br rfl (Ab rfl) (v:=.agg ((gTb s).1.cells (Value.slice ao_lDn (Av gDn (gI s).2).1.length cap_lDn):List Value).toArray) (Bj rfl (z:=[.int .i64 0,.slice none 0 0]) (places:=[(0,1),(1,1)]) aD (parts:=[(0,.int .i64 (gI s).1),(1,.slice ao_lDn (Av gDn (gI s).2).1.length cap_lDn)]) (by simp only [C7,C9,D0,show act.eval (.tmp 4)=.int .i64 (gI s).1 from (E.d 1 2),show act.eval (.tmp 6)=.slice ao_lDn (Av gDn (gI s).2).1.length cap_lDn from (E.d 3 0)];try rfl) (r:=(gTb s).1.cells (Value.slice ao_lDn (Av gDn (gI s).2).1.length cap_lDn)) (by exact Bi (ns:=[1,1]) rfl [(0,.int .i64 (gI s).1),(1,.slice ao_lDn (Av gDn (gI s).2).1.length cap_lDn)] [[.int .i64 0],[.slice none 0 0]] rfl ⟨rfl,rfl,trivial⟩)) ?_
 clear act E
 refine QSeq.go fun act E=>?_
 refine Ah rfl (Ab rfl) rfl (HB2.o.mod c4.out aH) (off:=0) (vs:=((gTb s).1.cells (Value.slice ao_lDn (Av gDn (gI s).2).1.length cap_lDn))) aD gF bD (E.v c8) (ec (E.d 4 0)) ?_
 intro g5 qc0 hm
 have qB2:=qc0.eqv (b:=(((gTb s).1.cells (Value.slice ao_lDn (Av gDn (gI s).2).1.length cap_lDn)):List Value).toArray) (Ap #[.int .i64 0,.slice none 0 0] _ rfl)
 clear qc0
 have g6:=hid qB2
 have j0:=hm.size
 have c6:=hid hm
 have g7:=hid (AB (S':=(fun k=>(R k)∨(k=w.heap.size))) c4.out hm (fun _ h=>Or.inl h) aT)
 clear hm c4
 clear act E qB2 HB2
 have g8:=hid (d7.out.mod c6.out (sB HBR))
 have g9:=hid (d6.out.mod c6.out aE)
 clear d7 d6 d9 c6
 refine qe ?_
 clear HA0 c3 c8 a0
 go_wp2
 exact bodyPost_ret (Au rfl _ _ w.heap.size ((gTb s).1.cells (Value.slice ao_lDn (Av gDn (gI s).2).1.length cap_lDn)) rfl (fun k u hu=>by rw [g6.out.cell];simpa using hu) D2 rfl aD) rfl ⟨_,rfl,⟨_,rfl,gTb_OK HBY.o,(g9.out.widen (R':=(fun k=>New w g5 k)) bF)⟩,g8.out,(HM0.o.trans g7.out aC)⟩
set_option maxHeartbeats 4000000 in
theorem cList_Tb:GetsL TbR 132 126 127 gTb:=by
 intro R r s w hR hB hl
 have HRD:=B5 hR
 have HBR:=B5 hB
 have HLN:=B5 hl
 clear hR hB hl
 go_enter Tryz.func126,Tryz.ntmps126
 go_upto_region 2 with (fail)
 have HM0:=hid (Mod.refl (fun k=>(R k)) w)
 go_upto_region 2 with (fail)
 refine Aa 21 [6,7,8] [0,1,2] (fun a0 HA0=>?_)
 have c3:=ev HA0 0 rfl
 refine qmo rfl c3 ?_
 refine QSeq.call rfl rfl Tryz.func42 (RInt_R HRD.o aF) (fun E=>An (E.d 0 0) rfl) ?_
 rintro e g6 ⟨rfl,qrd,hm⟩
 refine ⟨_,rfl,?_⟩
 have i8:=hid qrd
 have j6:=hm.size
 have i9:=hid (show Mod (fun k=>(R k)) w g6 from hm)
 clear hm
 clear qrd HRD
 refine QSeq.pure rfl (.int .i64 0) (fun E=>Al rfl rfl) ?_
 refine qe ?_
 clear HA0 c3 a0
 obtain ⟨n,hn⟩:∃ n,n=(rInt 100 s).1:=⟨_,rfl⟩
 obtain ⟨s1,hs1⟩:∃ z,z=(rInt 100 s).2:=⟨_,rfl⟩
 have hn100:n≤100:=by have:=rInt_le 100 s;omega
 have HLS:=hid (show (s1.getD []).length≤900000 by rw [hs1];exact C1 ((rInt_suf 100).len s) HLN.o)
 have HGL:=hid (show Av gTb s=Bt gTb n [] s1 by rw [hn,hs1];rfl)
 rw [← hn]
 have hq:=i8.out
 rw [← hs1] at hq
 have HR1:=B5 hq
 clear hq hn hs1 HLN
 go_wp2
 go_loopw [5,8] (fun ta ti wr=>∃ (k:Nat) (acc:List Tb) (st:RSt),ti=.int .i64 (k:Int)∧k≤n∧acc.length=k∧(st.getD []).length≤900000∧Bt gTb (n - k) acc st=Bt gTb n [] s1∧g6.heap.size≤wr.heap.size∧OwS TbR 127 (fun b=>w.heap.size≤b∧b < wr.heap.size) (fun b=>w.heap.size≤b∧b < wr.heap.size) wr ta acc∧RrR 132 R wr r st∧Mod R w wr) (fun _ ti _=>n - (intOf ti).toNat)
 case atStart=>exact ⟨0,[],s1,rfl,Nat.zero_le _,rfl,HLS.o,rfl,B9 _,OwS.nil _ _ _ _ _,HR1.o,(HM0.o.trans i9.out (fun _ _ h=>h))⟩
 case round=>
  obtain ⟨k,acc,st,rfl,hk,hka,hst,hg,hz,ha,hr,hm⟩:=hrel
  obtain ⟨wl,rfl⟩:∃ x,x=wr:=⟨_,rfl⟩
  obtain ⟨aol,capl,rfl⟩:=ha.shape
  have HAL:=B5 ha
  have HRL:=B5 hr
  have HML:=B5 hm
  have HST:=B5 hst
  have HG:=B5 hg
  have HKA:=B5 hka
  clear ha hr hm hst hg hka HR1 HM0
  by_cases hlt:k < n
  ·skip
   go_upto_region 3 with (fail)
   refine Aa 21 [9] [0] (fun a0 HA0=>?_)
   have c6:=ev HA0 7 rfl
   have c4:=ev HA0 8 rfl
   refine QSeq.pure rfl (.bool true) (fun E=>Am rfl (E.v c4) (E.v c6) (Ag _ _ _ _ _ _) (Ay _ _ _ B6) (congrArg Value.bool (decide_eq_true aM))) ?_
   refine qe ?_
   clear HA0 c6 c4 a0
   obtain ⟨p,hp⟩:∃ p,p=gTb st:=⟨_,rfl⟩
   obtain ⟨x,st2⟩:=p
   have HP1:=hid (congrArg Prod.fst hp.symm)
   have HP2:=hid (congrArg Prod.snd hp.symm)
   clear hp
   dsimp only at HP1 HP2
   have HST2:=hid (show (st2.getD []).length≤900000 by rw [← HP2.o];exact C1 (gTb_suf.len st) HST.o)
   have HGN:=hid (show Bt gTb (n - k) acc st=if st2=none then ([],none) else Bt gTb (n - (k+1)) (acc ++ [x]) st2 by rw [show n - k=(n - (k+1))+1 by omega];show (if (gTb st).2=none then _ else _)=_;rw [HP2.o,HP1.o])
   go_upto_region 4 with (fail)
   refine Aa 21 [10,11,12,13,14,15,5] [0,1,2,3,4,5,6] (fun a0 HA0=>?_)
   have c3:=ev HA0 0 rfl
   have g7:=ev HA0 1 rfl
   have c7:=ev HA0 5 rfl
   refine QSeq.pure rfl _ (fun E=>Al rfl (E.y 6 c7)) ?_
   refine qmo rfl g7 ?_
   refine qmo rfl c3 ?_
   refine QSeq.go fun act E=>?_
   have ea12:act.eval (.tmp 12)=.pointer (some ⟨r,0,none⟩):=(E.d 2 0)
   refine qc_call (args:=#[.pointer (some ⟨r,0,none⟩)]) rfl (Ab rfl) (by rw [ex_callV rfl (E.d 1 1) Tryz.func127 aD aD];exact congrArg (fun z=>Result.ok (Next.enter _ z) _) (by simp only [C7,C9,D0,ea12];try rfl)) ((cTb_G).to HP1.o HP2.o HRL.o aL HST.o) ?_
   rintro e c8 ⟨cs,rfl,qel,qrd,hm⟩
   refine ⟨_,rfl,?_⟩
   have c9:=hid qel
   have g8:=hid qrd
   have j7:=hm.size
   have g9:=hid (show Mod (fun k=>(R k)) wl c8 from hm)
   clear hm
   clear act E qel qrd HRL ea12
   refine QSeq.go fun act E=>?_
   refine qc_buildS (e:=127) (cs:=cs) (zc:=[.int .i64 0,.slice none 0 0]) (sz:=2) rfl (Ab rfl) rfl C8 aD rfl aF aF (E.d 3 0) (TbR.len c9.out) ?_
   intro j0 qrow hm
   have j8:=qrow.lt
   have d8:=hid qrow
   have j9:=hm.size
   have d5:=hid hm
   have d9:=hid (g9.out.goE hm)
   clear hm g9
   clear act E qrow
   refine QSeq.go fun act E=>?_
   refine qc_appS (A:=TbR) (e:=127) rfl (Ab rfl) rfl (.agg #[.int .i64 0,.slice none 0 0]) 32 C8 info_Tb (by rfl) (of_decide_eq_true aD) (E.d 0 4) (E.d 4 0) ((HAL.o.mod d9.out aV aV)) (AI (R:=(fun k=>(New wl c8 k)∨(k=c8.heap.size))) d8.out ((c9.out.mod d5.out (fun _ _ h=>h)).widen bB) dK) aE (by rw [HKA.o];simp only [C5,C4];omega) (by rw [HKA.o];simp only [C5,C4];rw [A7];omega) ?_
   intro ao4 cap4 g5 qout hm
   have j3:=hid (qout.widen (R':=(fun k=>(New w wl k)∨(New j0 g5 k))) (E':=(fun k=>(New w wl k)∨(New wl c8 k)∨(k=c8.heap.size))) (fun _ h=>h) aZ)
   have l7:=hm.size
   have d6:=hid hm
   have i7:=hid (AB (S':=(fun k=>(R k)∨(New w wl k))) d9.out hm (fun _ h=>Or.inl h) aT)
   clear hm d9
   clear act E qout HAL
   refine qas rfl 5 0 ?_
   have d7:=hid ((g8.out.mod d5.out (fun _ _ h=>h)).mod d6.out (sN HBR))
   have j4:=hid ((c9.out.mod d5.out (fun _ _ h=>h)).mod d6.out aE)
   have j5:=hid (d8.out.mod d6.out aJ)
   clear g8 c9 d8 d5 d6
   refine qe ?_
   clear HA0 c3 g7 c7 a0
   clear j4
   clear j5
   cases st2 with
   | none=>
    go_upto_region 5 with (fail)
    refine Aa 21 [16,17,18] [0,1,2] (fun a0 HA0=>?_)
    have c3:=ev HA0 0 rfl
    refine qmo rfl c3 ?_
    refine QSeq.go fun act E=>?_
    refine Aq (args:=#[.pointer (some ⟨r,0,none⟩)]) rfl (Ab rfl) rfl Tryz.func43 (A0 (E.d 0 0)) (OK_R d7.out) ?_
    rintro e w2 ⟨rfl,hw2⟩
    obtain rfl:g5=w2:=by first|exact hw2|exact hw2.symm
    refine ⟨_,rfl,?_⟩
    clear act E
    refine QSeq.pure rfl (.bool true) (fun E=>Bm rfl (E.d 1 0)) ?_
    refine qe ?_
    clear HA0 c3 a0
    go_upto_region 6 with (fail)
    refine Aa 21 [4] [0] (fun a0 HA0=>?_)
    refine QSeq.pure rfl (.slice none 0 0) (fun E=>Aw rfl rfl) ?_
    refine qe ?_
    clear HA0 a0
    go_wp2
    go_ret
    have hq:=HG.o
    rw [HGN.o,if_pos trivial] at hq
    have e:=HGL.o
    rw [← hq] at e
    refine ⟨_,rfl,?_,?_,(HML.o.trans i7.out aC)⟩
    ·rw [e];exact RdS.nil _ _ _
    ·rw [e];exact d7.out
   | some l2=>
    go_upto_region 5 with (fail)
    refine Aa 21 [16,17,18] [0,1,2] (fun a0 HA0=>?_)
    have c3:=ev HA0 0 rfl
    refine qmo rfl c3 ?_
    refine QSeq.go fun act E=>?_
    refine Aq (args:=#[.pointer (some ⟨r,0,none⟩)]) rfl (Ab rfl) rfl Tryz.func43 (A0 (E.d 0 0)) (OK_R d7.out) ?_
    rintro e w2 ⟨rfl,hw2⟩
    obtain rfl:g5=w2:=by first|exact hw2|exact hw2.symm
    refine ⟨_,rfl,?_⟩
    clear act E
    refine QSeq.pure rfl (.bool false) (fun E=>Bm rfl (E.d 1 0)) ?_
    refine qe ?_
    clear HA0 c3 a0
    go_upto_region 7 with (fail)
    refine Aa 21 [19,8] [0,1] (fun a0 HA0=>?_)
    have c4:=ev HA0 8 rfl
    refine QSeq.pure rfl (.int .i64 (((k:Nat):Int)+1)) (fun E=>Am rfl (E.y 1 c4) rfl (Ag _ _ _ _ _ _) (B2 _ _ B6) (congrArg (Value.int .i64) (IntWalk.i64_in _ aM))) ?_
    refine qmv rfl 0 0 ?_
    refine qe ?_
    clear HA0 c4 a0
    go_wp2
    go_roundw
    case rel=>exact ⟨k+1,acc ++ [x],some l2,by go_num,by omega,by rw [C0,HKA.o];rfl,HST2.o,(by have hq:=HG.o;rw [HGN.o,if_neg bD] at hq;exact hq),by omega,(j3.out.widen eD cA),d7.out,(HML.o.trans i7.out aC)⟩
    case measure=>simp [intOf]<;>omega
  ·obtain rfl:n=k:=by omega
   go_upto_region 3 with (fail)
   refine Aa 21 [9] [0] (fun a0 HA0=>?_)
   have c6:=ev HA0 7 rfl
   have c4:=ev HA0 8 rfl
   refine QSeq.pure rfl (.bool false) (fun E=>Am rfl (E.v c4) (E.v c6) (Ag _ _ _ _ _ _) (Ay _ _ _ B6) (congrArg Value.bool (decide_eq_false aM))) ?_
   refine qe ?_
   clear HA0 c6 c4 a0
   go_upto_region 8 with (fail)
   refine Aa 21 [20,4] [0,1] (fun a0 HA0=>?_)
   have c7:=ev HA0 5 rfl
   refine qmo rfl c7 ?_
   refine qas rfl 0 0 ?_
   refine qe ?_
   clear HA0 c7 a0
   go_wp2
   go_ret
   have hq:=HG.o
   rw [Nat.sub_self] at hq
   have e:=HGL.o
   rw [← hq] at e
   refine ⟨_,rfl,?_,?_,HML.o⟩
   ·rw [e];exact HAL.o.rd.widen cE
   ·rw [e];exact HRL.o
set_option maxHeartbeats 4000000 in
theorem cOp_G:Gets OpR 132 85 gOp:=by
 intro R r s w hR hB hl
 have HRD:=B5 hR
 have HBR:=B5 hB
 have HBY:=hid hR.bytes
 clear hR hB
 have HLN:=B5 hl
 clear hl
 go_enter Tryz.func85,Tryz.ntmps85
 go_upto_region 1 with (fail)
 obtain ⟨w1,hw1⟩:∃ zz,zz=(w.alloc (.cells #[.int .i64 0,.slice none 0 0,.int .u8 0,.int .u8 0,.int .u8 0,.int .u8 0,.int .u8 0,.int .u8 0,.int .u8 0,.int .u8 0,.int .u8 0,.int .u8 0,.int .u8 0,.int .u8 0,.int .u8 0,.int .u8 0,.int .u8 0,.int .u8 0,.int .u8 0,.int .u8 0,.int .u8 0,.int .u8 0,.int .u8 0,.int .u8 0,.int .u8 0,.int .u8 0,.int .u8 0,.int .u8 0,.int .u8 0,.int .u8 0,.int .u8 0,.int .u8 0,.int .u8 0,.int .u8 0] 54)):=⟨_,rfl⟩
 change Code.wp _ _ _ _ (w.alloc (.cells #[.int .i64 0,.slice none 0 0,.int .u8 0,.int .u8 0,.int .u8 0,.int .u8 0,.int .u8 0,.int .u8 0,.int .u8 0,.int .u8 0,.int .u8 0,.int .u8 0,.int .u8 0,.int .u8 0,.int .u8 0,.int .u8 0,.int .u8 0,.int .u8 0,.int .u8 0,.int .u8 0,.int .u8 0,.int .u8 0,.int .u8 0,.int .u8 0,.int .u8 0,.int .u8 0,.int .u8 0,.int .u8 0,.int .u8 0,.int .u8 0,.int .u8 0,.int .u8 0,.int .u8 0,.int .u8 0] 54))
 rw [← hw1]
 have HB2:=hid (show Cs w1 (w.heap.size) #[.int .i64 0,.slice none 0 0,.int .u8 0,.int .u8 0,.int .u8 0,.int .u8 0,.int .u8 0,.int .u8 0,.int .u8 0,.int .u8 0,.int .u8 0,.int .u8 0,.int .u8 0,.int .u8 0,.int .u8 0,.int .u8 0,.int .u8 0,.int .u8 0,.int .u8 0,.int .u8 0,.int .u8 0,.int .u8 0,.int .u8 0,.int .u8 0,.int .u8 0,.int .u8 0,.int .u8 0,.int .u8 0,.int .u8 0,.int .u8 0,.int .u8 0,.int .u8 0,.int .u8 0,.int .u8 0] 54 by rw [hw1];exact Cs.new _ _ _)
 have hm:Mod (fun _=>False) w w1:=by rw [hw1];exact (Mod.refl _ _).alloc _
 have HM0:=hid (show Mod (fun k=>(R k)) w w1 from hm.mono (fun _ _ h=>h.elim))
 have hs1:w1.heap.size=w.heap.size+1:=by rw [hw1];simp
 have c7:=hid (HRD.o.mod hm (fun _ _ h=>h))
 clear HRD
 clear hw1 hm
 go_upto_region 1 with (fail)
 refine Aa 10 [3,4,5,6,7,8,9,17] [0,1,2,3,4,5,6,7] (fun a0 HA0=>?_)
 have c3:=ev HA0 0 rfl
 have c8:=ev HA0 2 rfl
 refine qmo rfl c3 ?_
 refine QSeq.call rfl rfl Tryz.func42 (cI_Q c7.out) (fun E=>An (E.d 0 0) rfl) ?_
 rintro e g6 ⟨rfl,qrd,hm⟩
 refine ⟨_,rfl,?_⟩
 have c9:=hid qrd
 have j0:=hm.size
 have d5:=hid (show Mod (fun k=>(R k)) w1 g6 from hm)
 clear hm
 clear qrd c7
 refine qmo rfl c3 ?_
 refine QSeq.call rfl rfl Tryz.func87 (cRow_Q c9.out) (fun E=>An (E.d 2 0) rfl) ?_
 rintro e j3 ⟨vr,rfl,qrow,qrd,hm⟩
 obtain ⟨ao_row,cap_row,rfl⟩:=qrow.shape
 refine ⟨_,rfl,?_⟩
 have d6:=hid qrow
 have d7:=hid qrd
 have j4:=hm.size
 have g7:=hid hm
 have d8:=hid (AB (S':=(fun k=>(R k))) d5.out hm (fun _ h=>h) aQ)
 clear hm d5
 clear qrow qrd c9
 refine qmo rfl c3 ?_
 refine QSeq.call rfl rfl Tryz.func119 (RHash_R d7.out) (fun E=>A0 (E.d 4 0)) ?_
 rintro e j5 ⟨rfl,qrd,hm⟩
 refine ⟨_,rfl,?_⟩
 have d9:=hid qrd
 have j6:=hm.size
 have g5:=hid hm
 have c4:=hid (AB (S':=(fun k=>(R k))) d8.out hm (fun _ h=>h) aQ)
 clear hm d8
 clear qrd d7
 refine QSeq.go fun act E=>?_
 refine Br rfl (Ab rfl) (v:=.agg ((gOp s).1.cells (Value.slice ao_row (rRow 256 (gI s).2).1.length cap_row):List Value).toArray) (Bj rfl (z:=[.int .i64 0,.slice none 0 0,.int .u8 0,.int .u8 0,.int .u8 0,.int .u8 0,.int .u8 0,.int .u8 0,.int .u8 0,.int .u8 0,.int .u8 0,.int .u8 0,.int .u8 0,.int .u8 0,.int .u8 0,.int .u8 0,.int .u8 0,.int .u8 0,.int .u8 0,.int .u8 0,.int .u8 0,.int .u8 0,.int .u8 0,.int .u8 0,.int .u8 0,.int .u8 0,.int .u8 0,.int .u8 0,.int .u8 0,.int .u8 0,.int .u8 0,.int .u8 0,.int .u8 0,.int .u8 0]) (places:=[(0,1),(1,1),(2,32)]) aD (parts:=[(0,.int .i64 (gI s).1),(1,.slice ao_row (rRow 256 (gI s).2).1.length cap_row),(2,hv (A3 (rRow 256 (gI s).2).2).1)]) dE (r:=(gOp s).1.cells (Value.slice ao_row (rRow 256 (gI s).2).1.length cap_row)) bN) ?_
 clear act E
 refine QSeq.go fun act E=>?_
 refine Ah rfl (Ab rfl) rfl (HB2.o.mod c4.out aH) (off:=0) (vs:=((gOp s).1.cells (Value.slice ao_row (rRow 256 (gI s).2).1.length cap_row))) cH (one_op2 _ _ rfl) fR (E.v c8) (ec (E.d 6 0)) ?_
 intro g8 qc0 hm
 have qB2:=qc0.eqv (b:=(((gOp s).1.cells (Value.slice ao_row (rRow 256 (gI s).2).1.length cap_row)):List Value).toArray) (Ap _ _ fS)
 clear qc0
 have g9:=hid qB2
 have j7:=hm.size
 have c6:=hid hm
 have i7:=hid (AB (S':=(fun k=>(R k)∨(k=w.heap.size))) c4.out hm (fun _ h=>Or.inl h) aT)
 clear hm c4
 clear act E qB2 HB2
 have i8:=hid (d9.out.mod c6.out (sB HBR))
 have i9:=hid ((d6.out.mod g5.out aV).mod c6.out aE)
 clear d9 d6 g7 g5 c6
 refine qe ?_
 clear HA0 c3 c8 a0
 go_wp2
 exact bodyPost_ret (Au rfl _ _ w.heap.size ((gOp s).1.cells (Value.slice ao_row (rRow 256 (gI s).2).1.length cap_row)) rfl (fun k u hu=>by rw [g9.out.cell];simpa using hu) Tryz.underlying54 rfl cH) rfl ⟨_,rfl,⟨_,rfl,gOp_OK HBY.o,(i9.out.widen (R':=(fun k=>New w g8 k)) bF (B9 _))⟩,i8.out,(HM0.o.trans i7.out aC)⟩
open Go.Proofs renaming Tryz.func125→va',Tryz.ntmps125→vb',Tryz.func85→vh',Tryz.underlying42→vl' in
open Go.Proofs.YtnaoeginonpicaaGreat renaming gOp→vc',Op→vd',OpR→ve',gOp_suf→vg',cOp_G→vi',info_Op→vo' in
open Go.Gv renaming n'54→vf',z'17→vj',n'34→vk',z'18→vm',n'64→vn' in
set_option maxHeartbeats 4000000 in
theorem cList_Op:GetsL OpR 132 125 85 gOp:=
 fm16'
set_option maxHeartbeats 4000000 in
theorem cPm_G:Gets PmR 132 81 gPm:=by
 intro R r s w hR hB hl
 have HRD:=B5 hR
 have HBR:=B5 hB
 have HBY:=hid hR.bytes
 clear hR hB
 have HLN:=B5 hl
 clear hl
 go_enter Tryz.func81,Tryz.ntmps81
 go_upto_region 1 with (fail)
 obtain ⟨w1,hw1⟩:∃ zz,zz=(w.alloc (.cells #[.int .i64 0,.int .i64 0,.int .u64 0,.slice none 0 0,.int .i64 0,.int .i64 0] 40)):=⟨_,rfl⟩
 change Code.wp _ _ _ _ (w.alloc (.cells #[.int .i64 0,.int .i64 0,.int .u64 0,.slice none 0 0,.int .i64 0,.int .i64 0] 40))
 rw [← hw1]
 have HB2:=hid (show Cs w1 (w.heap.size) #[.int .i64 0,.int .i64 0,.int .u64 0,.slice none 0 0,.int .i64 0,.int .i64 0] 40 by rw [hw1];exact Cs.new _ _ _)
 have hm:Mod (fun _=>False) w w1:=by rw [hw1];exact (Mod.refl _ _).alloc _
 have HM0:=hid (show Mod (fun k=>(R k)) w w1 from hm.mono (fun _ _ h=>h.elim))
 have hs1:w1.heap.size=w.heap.size+1:=by rw [hw1];simp
 have c7:=hid (HRD.o.mod hm (fun _ _ h=>h))
 clear HRD
 clear hw1 hm
 go_upto_region 1 with (fail)
 refine Aa 14 [3,4,5,6,7,8,9,10,11,12,13,25] [0,1,2,3,4,5,6,7,8,9,10,11] (fun a0 HA0=>?_)
 have c3:=ev HA0 0 rfl
 have c8:=ev HA0 2 rfl
 refine qmo rfl c3 ?_
 refine QSeq.call rfl rfl Tryz.func42 (cI_Q c7.out) (fun E=>An (E.d 0 0) rfl) ?_
 rintro e i7 ⟨rfl,qrd,hm⟩
 refine ⟨_,rfl,?_⟩
 have c9:=hid qrd
 have j8:=hm.size
 have d5:=hid (show Mod (fun k=>(R k)) w1 i7 from hm)
 clear hm
 clear qrd c7
 refine qmo rfl c3 ?_
 refine QSeq.call rfl rfl Tryz.func42 (cI_Q c9.out) (fun E=>An (E.d 2 0) rfl) ?_
 rintro e j9 ⟨rfl,qrd,hm⟩
 refine ⟨_,rfl,?_⟩
 have d6:=hid qrd
 have l7:=hm.size
 have i8:=hid hm
 have d7:=hid (AB (S':=(fun k=>(R k))) d5.out hm (fun _ h=>h) aQ)
 clear hm d5
 clear qrd c9
 refine qmo rfl c3 ?_
 refine QSeq.call rfl rfl Tryz.func80 (RNum_R d6.out) (fun E=>A0 (E.d 4 0)) ?_
 rintro e l8 ⟨rfl,qrd,hm⟩
 refine ⟨_,rfl,?_⟩
 have d8:=hid qrd
 have m7:=hm.size
 have i9:=hid hm
 have d9:=hid (AB (S':=(fun k=>(R k))) d7.out hm (fun _ h=>h) aQ)
 clear hm d7
 clear qrd d6
 refine qmo rfl c3 ?_
 refine QSeq.call rfl rfl Tryz.func122 (cList_Ce _ _ _ _ d8.out aL (C1 (rNum_suf.len _) (C1 (gI_suf.len _) (C1 (gI_suf.len _) HLN.o)))) (fun E=>An (E.d 6 0) rfl) ?_
 rintro e m8 ⟨vlCe,rfl,qlCe,qrd,hm⟩
 obtain ⟨ao_lCe,cap_lCe,rfl⟩:=qlCe.shape
 refine ⟨_,rfl,?_⟩
 have g5:=hid qlCe
 have g6:=hid qrd
 have m9:=hm.size
 have j0:=hid hm
 have g7:=hid (AB (S':=(fun k=>(R k))) d9.out hm (fun _ h=>h) aQ)
 clear hm d9
 clear qlCe qrd d8
 refine qmo rfl c3 ?_
 refine QSeq.call rfl rfl Tryz.func120 (cSig_Q _ _ _ _ g6.out aL) (fun E=>A0 (E.d 8 0)) ?_
 rintro e n5 ⟨rfl,qrd,hm⟩
 refine ⟨_,rfl,?_⟩
 have g8:=hid qrd
 have n6:=hm.size
 have g9:=hid hm
 have c4:=hid (AB (S':=(fun k=>(R k))) g7.out hm (fun _ h=>h) aQ)
 clear hm g7
 clear qrd g6
 refine QSeq.go fun act E=>?_
 refine Br rfl (Ab rfl) (v:=.agg ((gPm s).1.cells (Value.slice ao_lCe (Av gCe (rNum (gI (gI s).2).2).2).1.length cap_lCe):List Value).toArray) (Bj rfl (z:=[.int .i64 0,.int .i64 0,.int .u64 0,.slice none 0 0,.int .i64 0,.int .i64 0]) (places:=[(0,1),(1,1),(2,1),(3,1),(4,2)]) aD (parts:=[(0,.int .i64 (gI s).1),(1,.int .i64 (gI (gI s).2).1),(2,.int .u64 ((rNum (gI (gI s).2).2).1:Nat)),(3,.slice ao_lCe (Av gCe (rNum (gI (gI s).2).2).2).1.length cap_lCe),(4,.agg #[.int .i64 (gSig (Av gCe (rNum (gI (gI s).2).2).2).2).1.1,.int .i64 (gSig (Av gCe (rNum (gI (gI s).2).2).2).2).1.2])]) (by simp only [C7,C9,D0,show act.eval (.tmp 4)=.int .i64 (gI s).1 from (E.d 1 8),show act.eval (.tmp 6)=.int .i64 (gI (gI s).2).1 from (E.d 3 6),show act.eval (.tmp 8)=.int .u64 ((rNum (gI (gI s).2).2).1:Nat) from (E.d 5 4),show act.eval (.tmp 10)=.slice ao_lCe (Av gCe (rNum (gI (gI s).2).2).2).1.length cap_lCe from (E.d 7 2),show act.eval (.tmp 12)=.agg #[.int .i64 (gSig (Av gCe (rNum (gI (gI s).2).2).2).2).1.1,.int .i64 (gSig (Av gCe (rNum (gI (gI s).2).2).2).2).1.2] from (E.d 9 0)];try rfl) (r:=(gPm s).1.cells (Value.slice ao_lCe (Av gCe (rNum (gI (gI s).2).2).2).1.length cap_lCe)) (by exact Bi (ns:=[1,1,1,1,2]) rfl [(0,.int .i64 (gI s).1),(1,.int .i64 (gI (gI s).2).1),(2,.int .u64 ((rNum (gI (gI s).2).2).1:Nat)),(3,.slice ao_lCe (Av gCe (rNum (gI (gI s).2).2).2).1.length cap_lCe),(4,.agg #[.int .i64 (gSig (Av gCe (rNum (gI (gI s).2).2).2).2).1.1,.int .i64 (gSig (Av gCe (rNum (gI (gI s).2).2).2).2).1.2])] [[.int .i64 0],[.int .i64 0],[.int .u64 0],[.slice none 0 0],[.int .i64 0,.int .i64 0]] rfl ⟨rfl,rfl,rfl,rfl,rfl,trivial⟩)) ?_
 clear act E
 refine QSeq.go fun act E=>?_
 refine Ah rfl (Ab rfl) rfl (HB2.o.mod c4.out aH) (off:=0) (vs:=((gPm s).1.cells (Value.slice ao_lCe (Av gCe (rNum (gI (gI s).2).2).2).1.length cap_lCe))) aD dL bD (E.v c8) (ec (E.d 10 0)) ?_
 intro j3 qc0 hm
 have qB2:=qc0.eqv (b:=(((gPm s).1.cells (Value.slice ao_lCe (Av gCe (rNum (gI (gI s).2).2).2).1.length cap_lCe)):List Value).toArray) (Ap #[.int .i64 0,.int .i64 0,.int .u64 0,.slice none 0 0,.int .i64 0,.int .i64 0] _ rfl)
 clear qc0
 have j4:=hid qB2
 have n7:=hm.size
 have c6:=hid hm
 have j5:=hid (AB (S':=(fun k=>(R k)∨(k=w.heap.size))) c4.out hm (fun _ h=>Or.inl h) aT)
 clear hm c4
 clear act E qB2 HB2
 have j6:=hid (g8.out.mod c6.out (sB HBR))
 have j7:=hid ((g5.out.mod g9.out aV).mod c6.out aE)
 clear g8 g5 i8 i9 j0 g9 c6
 refine qe ?_
 clear HA0 c3 c8 a0
 go_wp2
 exact bodyPost_ret (Au rfl _ _ w.heap.size ((gPm s).1.cells (Value.slice ao_lCe (Av gCe (rNum (gI (gI s).2).2).2).1.length cap_lCe)) rfl (fun k u hu=>by rw [j4.out.cell];simpa using hu) Tryz.underlying40 rfl aD) rfl ⟨_,rfl,⟨_,rfl,gPm_OK HBY.o,(j7.out.widen (R':=(fun k=>New w j3 k)) bF)⟩,j6.out,(HM0.o.trans j5.out aC)⟩
open Go.Proofs renaming Tryz.func124→va',Tryz.ntmps124→vb',Tryz.func81→vh',Tryz.underlying41→vl' in
open Go.Proofs.YtnaoeginonpicaaGreat renaming gPm→vc',Pm→vd',PmR→ve',gPm_suf→vg',cPm_G→vi',info_Pm→vo' in
open Go.Gv renaming n'40→vf',z'20→vj',n'6→vk',z'21→vm',n'64→vn' in
set_option maxHeartbeats 4000000 in
theorem cList_Pm:GetsL PmR 132 124 81 gPm:=
 fm16'
set_option maxHeartbeats 4000000 in
theorem cBa_G:Gets BaR 132 88 gBa:=by
 intro R r s w hR hB hl
 have HRD:=B5 hR
 have HBR:=B5 hB
 have HBY:=hid hR.bytes
 clear hR hB
 have HLN:=B5 hl
 clear hl
 go_enter Tryz.func88,Tryz.ntmps88
 go_upto_region 1 with (fail)
 obtain ⟨w1,hw1⟩:∃ zz,zz=(w.alloc (.cells #[.int .i64 0,.int .u64 0,.slice none 0 0,.slice none 0 0,.slice none 0 0] 45)):=⟨_,rfl⟩
 change Code.wp _ _ _ _ (w.alloc (.cells #[.int .i64 0,.int .u64 0,.slice none 0 0,.slice none 0 0,.slice none 0 0] 45))
 rw [← hw1]
 have HB2:=hid (show Cs w1 (w.heap.size) #[.int .i64 0,.int .u64 0,.slice none 0 0,.slice none 0 0,.slice none 0 0] 45 by rw [hw1];exact Cs.new _ _ _)
 have hm:Mod (fun _=>False) w w1:=by rw [hw1];exact (Mod.refl _ _).alloc _
 have HM0:=hid (show Mod (fun k=>(R k)) w w1 from hm.mono (fun _ _ h=>h.elim))
 have hs1:w1.heap.size=w.heap.size+1:=by rw [hw1];simp
 have c9:=hid (HRD.o.mod hm (fun _ _ h=>h))
 clear HRD
 clear hw1 hm
 go_upto_region 1 with (fail)
 refine Aa 14 [3,4,5,6,7,8,9,10,11,12,13,25] [0,1,2,3,4,5,6,7,8,9,10,11] (fun a0 HA0=>?_)
 have c3:=ev HA0 0 rfl
 have d5:=ev HA0 2 rfl
 refine qmo rfl c3 ?_
 refine QSeq.call rfl rfl Tryz.func42 (cI_Q c9.out) (fun E=>An (E.d 0 0) rfl) ?_
 rintro e j3 ⟨rfl,qrd,hm⟩
 refine ⟨_,rfl,?_⟩
 have d6:=hid qrd
 have m7:=hm.size
 have d7:=hid (show Mod (fun k=>(R k)) w1 j3 from hm)
 clear hm
 clear qrd c9
 refine qmo rfl c3 ?_
 refine QSeq.call rfl rfl Tryz.func80 (RNum_R d6.out) (fun E=>A0 (E.d 2 0)) ?_
 rintro e m8 ⟨rfl,qrd,hm⟩
 refine ⟨_,rfl,?_⟩
 have d8:=hid qrd
 have m9:=hm.size
 have j4:=hid hm
 have d9:=hid (AB (S':=(fun k=>(R k))) d7.out hm (fun _ h=>h) aQ)
 clear hm d7
 clear qrd d6
 refine qmo rfl c3 ?_
 refine QSeq.call rfl rfl Tryz.func124 (cList_Pm _ _ _ _ d8.out aL (C1 (rNum_suf.len _) (C1 (gI_suf.len _) HLN.o))) (fun E=>An (E.d 4 0) rfl) ?_
 rintro e n5 ⟨vlPm,rfl,qlPm,qrd,hm⟩
 obtain ⟨ao_lPm,cap_lPm,rfl⟩:=qlPm.shape
 refine ⟨_,rfl,?_⟩
 have g5:=hid qlPm
 have g6:=hid qrd
 have n6:=hm.size
 have j5:=hid hm
 have g7:=hid (AB (S':=(fun k=>(R k))) d9.out hm (fun _ h=>h) aQ)
 clear hm d9
 clear qlPm qrd d8
 refine qmo rfl c3 ?_
 refine QSeq.call rfl rfl Tryz.func125 (cList_Op _ _ _ _ g6.out aL (C1 ((gList_suf gPm_suf).len _) (C1 (rNum_suf.len _) (C1 (gI_suf.len _) HLN.o)))) (fun E=>An (E.d 6 0) rfl) ?_
 rintro e n7 ⟨vlOp,rfl,qlOp,qrd,hm⟩
 obtain ⟨ao_lOp,cap_lOp,rfl⟩:=qlOp.shape
 refine ⟨_,rfl,?_⟩
 have g8:=hid qlOp
 have g9:=hid qrd
 have n8:=hm.size
 have i7:=hid hm
 have i8:=hid (AB (S':=(fun k=>(R k))) g7.out hm (fun _ h=>h) aQ)
 clear hm g7
 clear qlOp qrd g6
 refine qmo rfl c3 ?_
 refine QSeq.call rfl rfl Tryz.func126 (cList_Tb _ _ _ _ g9.out aL (C1 ((gList_suf gOp_suf).len _) (C1 ((gList_suf gPm_suf).len _) (C1 (rNum_suf.len _) (C1 (gI_suf.len _) HLN.o))))) (fun E=>An (E.d 8 0) rfl) ?_
 rintro e o4 ⟨vlTb,rfl,qlTb,qrd,hm⟩
 obtain ⟨ao_lTb,cap_lTb,rfl⟩:=qlTb.shape
 refine ⟨_,rfl,?_⟩
 have i9:=hid qlTb
 have j0:=hid qrd
 have o5:=hm.size
 have c6:=hid hm
 have c7:=hid (AB (S':=(fun k=>(R k))) i8.out hm (fun _ h=>h) aQ)
 clear hm i8
 clear qlTb qrd g9
 refine QSeq.go fun act E=>?_
 refine Br rfl (Ab rfl) (v:=.agg ((gBa s).1.cells (Value.slice ao_lPm (Av gPm (rNum (gI s).2).2).1.length cap_lPm) (Value.slice ao_lOp (Av gOp (Av gPm (rNum (gI s).2).2).2).1.length cap_lOp) (Value.slice ao_lTb (Av gTb (Av gOp (Av gPm (rNum (gI s).2).2).2).2).1.length cap_lTb):List Value).toArray) (Bj rfl (z:=[.int .i64 0,.int .u64 0,.slice none 0 0,.slice none 0 0,.slice none 0 0]) (places:=[(0,1),(1,1),(2,1),(3,1),(4,1)]) aD (parts:=[(0,.int .i64 (gI s).1),(1,.int .u64 ((rNum (gI s).2).1:Nat)),(2,.slice ao_lPm (Av gPm (rNum (gI s).2).2).1.length cap_lPm),(3,.slice ao_lOp (Av gOp (Av gPm (rNum (gI s).2).2).2).1.length cap_lOp),(4,.slice ao_lTb (Av gTb (Av gOp (Av gPm (rNum (gI s).2).2).2).2).1.length cap_lTb)]) (by simp only [C7,C9,D0,show act.eval (.tmp 4)=.int .i64 (gI s).1 from (E.d 1 8),show act.eval (.tmp 6)=.int .u64 ((rNum (gI s).2).1:Nat) from (E.d 3 6),show act.eval (.tmp 8)=.slice ao_lPm (Av gPm (rNum (gI s).2).2).1.length cap_lPm from (E.d 5 4),show act.eval (.tmp 10)=.slice ao_lOp (Av gOp (Av gPm (rNum (gI s).2).2).2).1.length cap_lOp from (E.d 7 2),show act.eval (.tmp 12)=.slice ao_lTb (Av gTb (Av gOp (Av gPm (rNum (gI s).2).2).2).2).1.length cap_lTb from (E.d 9 0)];try rfl) (r:=(gBa s).1.cells (Value.slice ao_lPm (Av gPm (rNum (gI s).2).2).1.length cap_lPm) (Value.slice ao_lOp (Av gOp (Av gPm (rNum (gI s).2).2).2).1.length cap_lOp) (Value.slice ao_lTb (Av gTb (Av gOp (Av gPm (rNum (gI s).2).2).2).2).1.length cap_lTb)) (by exact Bi (ns:=[1,1,1,1,1]) rfl [(0,.int .i64 (gI s).1),(1,.int .u64 ((rNum (gI s).2).1:Nat)),(2,.slice ao_lPm (Av gPm (rNum (gI s).2).2).1.length cap_lPm),(3,.slice ao_lOp (Av gOp (Av gPm (rNum (gI s).2).2).2).1.length cap_lOp),(4,.slice ao_lTb (Av gTb (Av gOp (Av gPm (rNum (gI s).2).2).2).2).1.length cap_lTb)] [[.int .i64 0],[.int .u64 0],[.slice none 0 0],[.slice none 0 0],[.slice none 0 0]] rfl ⟨rfl,rfl,rfl,rfl,rfl,trivial⟩)) ?_
 clear act E
 refine QSeq.go fun act E=>?_
 refine Ah rfl (Ab rfl) rfl (HB2.o.mod c7.out aH) (off:=0) (vs:=((gBa s).1.cells (Value.slice ao_lPm (Av gPm (rNum (gI s).2).2).1.length cap_lPm) (Value.slice ao_lOp (Av gOp (Av gPm (rNum (gI s).2).2).2).1.length cap_lOp) (Value.slice ao_lTb (Av gTb (Av gOp (Av gPm (rNum (gI s).2).2).2).2).1.length cap_lTb))) aD dP bD (E.v d5) (ec (E.d 10 0)) ?_
 intro c8 qc0 hm
 have qB2:=qc0.eqv (b:=(((gBa s).1.cells (Value.slice ao_lPm (Av gPm (rNum (gI s).2).2).1.length cap_lPm) (Value.slice ao_lOp (Av gOp (Av gPm (rNum (gI s).2).2).2).1.length cap_lOp) (Value.slice ao_lTb (Av gTb (Av gOp (Av gPm (rNum (gI s).2).2).2).2).1.length cap_lTb)):List Value).toArray) (Ap #[.int .i64 0,.int .u64 0,.slice none 0 0,.slice none 0 0,.slice none 0 0] _ rfl)
 clear qc0
 have j6:=hid qB2
 have o6:=hm.size
 have c4:=hid hm
 have j7:=hid (AB (S':=(fun k=>(R k)∨(k=w.heap.size))) c7.out hm (fun _ h=>Or.inl h) aT)
 clear hm c7
 clear act E qB2 HB2
 have j8:=hid (j0.out.mod c4.out (sB HBR))
 have j9:=hid (((g5.out.mod i7.out aV).mod c6.out aV).mod c4.out aE)
 have l7:=hid ((g8.out.mod c6.out aV).mod c4.out aE)
 have l8:=hid (i9.out.mod c4.out aE)
 clear j0 g5 g8 i9 j4 j5 i7 c6 c4
 refine qe ?_
 clear HA0 c3 d5 a0
 go_wp2
 exact bodyPost_ret (Au rfl _ _ w.heap.size ((gBa s).1.cells (Value.slice ao_lPm (Av gPm (rNum (gI s).2).2).1.length cap_lPm) (Value.slice ao_lOp (Av gOp (Av gPm (rNum (gI s).2).2).2).1.length cap_lOp) (Value.slice ao_lTb (Av gTb (Av gOp (Av gPm (rNum (gI s).2).2).2).2).1.length cap_lTb)) rfl (fun k u hu=>by rw [j6.out.cell];simpa using hu) C2 rfl aD) rfl ⟨_,rfl,⟨_,_,_,rfl,gBa_OK HBY.o,(j9.out.widen (R':=(fun k=>New w c8 k)) bF),(l7.out.widen (R':=(fun k=>New w c8 k)) bF),(l8.out.widen (R':=(fun k=>New w c8 k)) bF)⟩,j8.out,(HM0.o.trans j7.out aC)⟩
theorem info_Vt:(Tryz.prog.info? 49).map (fun i=>(i.zero,i.size,i.bytes))=some (some (.agg #[.int .i64 0,.int .i64 0,.int .i64 0,.int .i64 0,.int .u8 0,.int .u8 0,.int .u8 0,.int .u8 0,.int .u8 0,.int .u8 0,.int .u8 0,.int .u8 0,.int .u8 0,.int .u8 0,.int .u8 0,.int .u8 0,.int .u8 0,.int .u8 0,.int .u8 0,.int .u8 0,.int .u8 0,.int .u8 0,.int .u8 0,.int .u8 0,.int .u8 0,.int .u8 0,.int .u8 0,.int .u8 0,.int .u8 0,.int .u8 0,.int .u8 0,.int .u8 0,.int .u8 0,.int .u8 0,.int .u8 0,.int .u8 0,.int .i64 0,.int .i64 0]),38,80):=by kernel_rfl
def gPr:RSt→Pr × RSt:=gb gI fun e=>gb gI fun n=>gb gI fun v=>gb gI fun p=>gb gBa fun b=>gb gSig fun g s=>(⟨e,n,v - 1,p,b,g.1,g.2⟩,s)
theorem gI_rng (s:RSt):0≤(gI s).1∧(gI s).1≤1099511627776:=by
 have:=rInt_le 1099511627776 s
 unfold gI
 omega
theorem gI_less (s:RSt):I64 ((gI s).1 - 1):=by
 have:=gI_rng s
 unfold I64
 omega
theorem gPr_OK {s:RSt} (hb:Bytes (s.getD [])):(gPr s).1.OK:=⟨A9 _,A9 _,gI_less _,A9 _,gBa_OK (gI_suf.bytes (gI_suf.bytes (gI_suf.bytes (gI_suf.bytes hb)))),A9 _,A9 _⟩
set_option maxHeartbeats 4000000 in
theorem cAk_Q:GetsF 132 79 St.cells gSt:=by
 intro R r s w hR hB
 have HRD:=B5 hR
 have HBR:=B5 hB
 have HBY:=hid hR.bytes
 clear hR hB
 go_enter Tryz.func79,Tryz.ntmps79
 go_upto_region 1 with (fail)
 obtain ⟨w1,hw1⟩:∃ zz,zz=(w.alloc (.cells #[.int .i64 0,.int .i64 0,.int .i64 0,.int .u8 0,.int .u8 0,.int .u8 0,.int .u8 0,.int .u8 0,.int .u8 0,.int .u8 0,.int .u8 0,.int .u8 0,.int .u8 0,.int .u8 0,.int .u8 0,.int .u8 0,.int .u8 0,.int .u8 0,.int .u8 0,.int .u8 0,.int .u8 0,.int .u8 0,.int .u8 0,.int .u8 0,.int .u8 0,.int .u8 0,.int .u8 0,.int .u8 0,.int .u8 0,.int .u8 0,.int .u8 0,.int .u8 0,.int .u8 0,.int .u8 0,.int .u8 0,.int .u64 0,.int .i64 0,.int .i64 0] 37)):=⟨_,rfl⟩
 change Code.wp _ _ _ _ (w.alloc (.cells #[.int .i64 0,.int .i64 0,.int .i64 0,.int .u8 0,.int .u8 0,.int .u8 0,.int .u8 0,.int .u8 0,.int .u8 0,.int .u8 0,.int .u8 0,.int .u8 0,.int .u8 0,.int .u8 0,.int .u8 0,.int .u8 0,.int .u8 0,.int .u8 0,.int .u8 0,.int .u8 0,.int .u8 0,.int .u8 0,.int .u8 0,.int .u8 0,.int .u8 0,.int .u8 0,.int .u8 0,.int .u8 0,.int .u8 0,.int .u8 0,.int .u8 0,.int .u8 0,.int .u8 0,.int .u8 0,.int .u8 0,.int .u64 0,.int .i64 0,.int .i64 0] 37))
 rw [← hw1]
 have HB2:=hid (show Cs w1 (w.heap.size) #[.int .i64 0,.int .i64 0,.int .i64 0,.int .u8 0,.int .u8 0,.int .u8 0,.int .u8 0,.int .u8 0,.int .u8 0,.int .u8 0,.int .u8 0,.int .u8 0,.int .u8 0,.int .u8 0,.int .u8 0,.int .u8 0,.int .u8 0,.int .u8 0,.int .u8 0,.int .u8 0,.int .u8 0,.int .u8 0,.int .u8 0,.int .u8 0,.int .u8 0,.int .u8 0,.int .u8 0,.int .u8 0,.int .u8 0,.int .u8 0,.int .u8 0,.int .u8 0,.int .u8 0,.int .u8 0,.int .u8 0,.int .u64 0,.int .i64 0,.int .i64 0] 37 by rw [hw1];exact Cs.new _ _ _)
 have hm:Mod (fun _=>False) w w1:=by rw [hw1];exact (Mod.refl _ _).alloc _
 have HM0:=hid (show Mod (fun k=>(R k)) w w1 from hm.mono (fun _ _ h=>h.elim))
 have hs1:w1.heap.size=w.heap.size+1:=by rw [hw1];simp
 have c6:=hid (HRD.o.mod hm (fun _ _ h=>h))
 clear HRD
 clear hw1 hm
 go_upto_region 1 with (fail)
 refine Aa 14 [3,4,5,6,7,8,9,10,11,12,13,25] [0,1,2,3,4,5,6,7,8,9,10,11] (fun a0 HA0=>?_)
 have c3:=ev HA0 0 rfl
 have c7:=ev HA0 2 rfl
 refine qmo rfl c3 ?_
 refine QSeq.call rfl rfl Tryz.func42 (cI_Q c6.out) (fun E=>An (E.d 0 0) rfl) ?_
 rintro e g8 ⟨rfl,qrd,hm⟩
 refine ⟨_,rfl,?_⟩
 have c8:=hid qrd
 have j5:=hm.size
 have c9:=hid (show Mod (fun k=>(R k)) w1 g8 from hm)
 clear hm
 clear qrd c6
 refine qmo rfl c3 ?_
 refine QSeq.call rfl rfl Tryz.func118 (cName_Q _ _ _ _ c8.out aL) (fun E=>A0 (E.d 2 0)) ?_
 rintro e j6 ⟨rfl,qrd,hm⟩
 refine ⟨_,rfl,?_⟩
 have d5:=hid qrd
 have j7:=hm.size
 have g9:=hid hm
 have d6:=hid (AB (S':=(fun k=>(R k))) c9.out hm (fun _ h=>h) aQ)
 clear hm c9
 clear qrd c8
 refine qmo rfl c3 ?_
 refine QSeq.call rfl rfl Tryz.func119 (RHash_R d5.out) (fun E=>A0 (E.d 4 0)) ?_
 rintro e j8 ⟨rfl,qrd,hm⟩
 refine ⟨_,rfl,?_⟩
 have d7:=hid qrd
 have j9:=hm.size
 have i7:=hid hm
 have d8:=hid (AB (S':=(fun k=>(R k))) d6.out hm (fun _ h=>h) aQ)
 clear hm d6
 clear qrd d5
 refine qmo rfl c3 ?_
 refine QSeq.call rfl rfl Tryz.func80 (RNum_R d7.out) (fun E=>A0 (E.d 6 0)) ?_
 rintro e l7 ⟨rfl,qrd,hm⟩
 refine ⟨_,rfl,?_⟩
 have d9:=hid qrd
 have l8:=hm.size
 have i8:=hid hm
 have g5:=hid (AB (S':=(fun k=>(R k))) d8.out hm (fun _ h=>h) aQ)
 clear hm d8
 clear qrd d7
 refine qmo rfl c3 ?_
 refine QSeq.call rfl rfl Tryz.func120 (cSig_Q _ _ _ _ d9.out aL) (fun E=>A0 (E.d 8 0)) ?_
 rintro e m7 ⟨rfl,qrd,hm⟩
 refine ⟨_,rfl,?_⟩
 have g6:=hid qrd
 have m8:=hm.size
 have i9:=hid hm
 have c4:=hid (AB (S':=(fun k=>(R k))) g5.out hm (fun _ h=>h) aQ)
 clear hm g5
 clear qrd d9
 refine QSeq.go fun act E=>?_
 refine Br rfl (Ab rfl) (v:=.agg ((gSt s).1.cells:List Value).toArray) (Bj rfl (z:=[.int .i64 0,.int .i64 0,.int .i64 0,.int .u8 0,.int .u8 0,.int .u8 0,.int .u8 0,.int .u8 0,.int .u8 0,.int .u8 0,.int .u8 0,.int .u8 0,.int .u8 0,.int .u8 0,.int .u8 0,.int .u8 0,.int .u8 0,.int .u8 0,.int .u8 0,.int .u8 0,.int .u8 0,.int .u8 0,.int .u8 0,.int .u8 0,.int .u8 0,.int .u8 0,.int .u8 0,.int .u8 0,.int .u8 0,.int .u8 0,.int .u8 0,.int .u8 0,.int .u8 0,.int .u8 0,.int .u8 0,.int .u64 0,.int .i64 0,.int .i64 0]) (places:=[(0,1),(1,2),(3,32),(35,1),(36,2)]) aD (parts:=[(0,.int .i64 (gI s).1),(1,.agg #[.int .i64 (gSig (gI s).2).1.1,.int .i64 (gSig (gI s).2).1.2]),(2,hv (A3 (gSig (gI s).2).2).1),(3,.int .u64 ((rNum (A3 (gSig (gI s).2).2).2).1:Nat)),(4,.agg #[.int .i64 (gSig (rNum (A3 (gSig (gI s).2).2).2).2).1.1,.int .i64 (gSig (rNum (A3 (gSig (gI s).2).2).2).2).1.2])]) bW (r:=(gSt s).1.cells) aS) ?_
 clear act E
 refine QSeq.go fun act E=>?_
 refine Ah rfl (Ab rfl) rfl (HB2.o.mod c4.out aH) (off:=0) (vs:=((gSt s).1.cells)) dT (St.one _) (by rw [show ((gSt s).1.cells).length=_ from (St.len (gSt_OK HBY.o))];decide) (E.v c7) (ec (E.d 10 0)) ?_
 intro m9 qc0 hm
 have qB2:=qc0.eqv (b:=(((gSt s).1.cells):List Value).toArray) (Ap _ _ (by rw [show ((gSt s).1.cells).length=_ from (St.len (gSt_OK HBY.o))];rfl))
 clear qc0
 have j0:=hid qB2
 have n5:=hm.size
 have g7:=hid hm
 have j3:=hid (AB (S':=(fun k=>(R k)∨(k=w.heap.size))) c4.out hm (fun _ h=>Or.inl h) aT)
 clear hm c4
 clear act E qB2 HB2
 have j4:=hid (g6.out.mod g7.out (sB HBR))
 clear g6 g9 i7 i8 i9 g7
 refine qe ?_
 clear HA0 c3 c7 a0
 go_wp2
 exact bodyPost_ret (Au rfl _ _ w.heap.size ((gSt s).1.cells) rfl (fun k u hu=>by rw [j0.out.cell];simpa using hu) Tryz.underlying37 rfl dT) rfl ⟨rfl,j4.out,(HM0.o.trans j3.out aC)⟩
open Go.Proofs renaming Tryz.func83→va',Tryz.ntmps83→vb',Tryz.func42→vc',Tryz.func119→ve',Tryz.func120→vg' in
open Go.Proofs.YtnaoeginonpicaaGreat renaming cI_Q→vd',RHash_R→vf',cSig_Q→vh' in
set_option maxHeartbeats 4000000 in
theorem cVt_Q:GetsF 132 83 Vt.cells gVt:=
 fm8'
theorem cVt_G:Gets VtR 132 83 gVt:=GetsF.to (A:=VtR) cVt_Q fun _ _ _ hb=>⟨rfl,gVt_OK hb⟩
set_option maxHeartbeats 4000000 in
theorem cEn_Q:GetsF 132 84 En.cells gEn:=by
 intro R r s w hR hB
 have HRD:=B5 hR
 have HBR:=B5 hB
 have HBY:=hid hR.bytes
 clear hR hB
 go_enter Tryz.func84,Tryz.ntmps84
 go_upto_region 1 with (fail)
 obtain ⟨w1,hw1⟩:∃ zz,zz=(w.alloc (.cells #[.int .i64 0,.int .i64 0,.int .u8 0,.int .u8 0,.int .u8 0,.int .u8 0,.int .u8 0,.int .u8 0,.int .u8 0,.int .u8 0,.int .u8 0,.int .u8 0,.int .u8 0,.int .u8 0,.int .u8 0,.int .u8 0,.int .u8 0,.int .u8 0,.int .u8 0,.int .u8 0,.int .u8 0,.int .u8 0,.int .u8 0,.int .u8 0,.int .u8 0,.int .u8 0,.int .u8 0,.int .u8 0,.int .u8 0,.int .u8 0,.int .u8 0,.int .u8 0,.int .u8 0,.int .u8 0,.int .u64 0] 51)):=⟨_,rfl⟩
 change Code.wp _ _ _ _ (w.alloc (.cells #[.int .i64 0,.int .i64 0,.int .u8 0,.int .u8 0,.int .u8 0,.int .u8 0,.int .u8 0,.int .u8 0,.int .u8 0,.int .u8 0,.int .u8 0,.int .u8 0,.int .u8 0,.int .u8 0,.int .u8 0,.int .u8 0,.int .u8 0,.int .u8 0,.int .u8 0,.int .u8 0,.int .u8 0,.int .u8 0,.int .u8 0,.int .u8 0,.int .u8 0,.int .u8 0,.int .u8 0,.int .u8 0,.int .u8 0,.int .u8 0,.int .u8 0,.int .u8 0,.int .u8 0,.int .u8 0,.int .u64 0] 51))
 rw [← hw1]
 have HB2:=hid (show Cs w1 (w.heap.size) #[.int .i64 0,.int .i64 0,.int .u8 0,.int .u8 0,.int .u8 0,.int .u8 0,.int .u8 0,.int .u8 0,.int .u8 0,.int .u8 0,.int .u8 0,.int .u8 0,.int .u8 0,.int .u8 0,.int .u8 0,.int .u8 0,.int .u8 0,.int .u8 0,.int .u8 0,.int .u8 0,.int .u8 0,.int .u8 0,.int .u8 0,.int .u8 0,.int .u8 0,.int .u8 0,.int .u8 0,.int .u8 0,.int .u8 0,.int .u8 0,.int .u8 0,.int .u8 0,.int .u8 0,.int .u8 0,.int .u64 0] 51 by rw [hw1];exact Cs.new _ _ _)
 have hm:Mod (fun _=>False) w w1:=by rw [hw1];exact (Mod.refl _ _).alloc _
 have HM0:=hid (show Mod (fun k=>(R k)) w w1 from hm.mono (fun _ _ h=>h.elim))
 have hs1:w1.heap.size=w.heap.size+1:=by rw [hw1];simp
 have c6:=hid (HRD.o.mod hm (fun _ _ h=>h))
 clear HRD
 clear hw1 hm
 go_upto_region 1 with (fail)
 refine Aa 10 [3,4,5,6,7,8,9,17] [0,1,2,3,4,5,6,7] (fun a0 HA0=>?_)
 have c3:=ev HA0 0 rfl
 have c7:=ev HA0 2 rfl
 refine qmo rfl c3 ?_
 refine QSeq.call rfl rfl Tryz.func118 (cName_Q _ _ _ _ c6.out aL) (fun E=>A0 (E.d 0 0)) ?_
 rintro e d9 ⟨rfl,qrd,hm⟩
 refine ⟨_,rfl,?_⟩
 have c8:=hid qrd
 have i7:=hm.size
 have c9:=hid (show Mod (fun k=>(R k)) w1 d9 from hm)
 clear hm
 clear qrd c6
 refine qmo rfl c3 ?_
 refine QSeq.call rfl rfl Tryz.func119 (RHash_R c8.out) (fun E=>A0 (E.d 2 0)) ?_
 rintro e i8 ⟨rfl,qrd,hm⟩
 refine ⟨_,rfl,?_⟩
 have d5:=hid qrd
 have i9:=hm.size
 have g5:=hid hm
 have d6:=hid (AB (S':=(fun k=>(R k))) c9.out hm (fun _ h=>h) aQ)
 clear hm c9
 clear qrd c8
 refine qmo rfl c3 ?_
 refine QSeq.call rfl rfl Tryz.func80 (RNum_R d5.out) (fun E=>A0 (E.d 4 0)) ?_
 rintro e j0 ⟨rfl,qrd,hm⟩
 refine ⟨_,rfl,?_⟩
 have d7:=hid qrd
 have j3:=hm.size
 have g6:=hid hm
 have c4:=hid (AB (S':=(fun k=>(R k))) d6.out hm (fun _ h=>h) aQ)
 clear hm d6
 clear qrd d5
 refine QSeq.go fun act E=>?_
 refine Br rfl (Ab rfl) (v:=.agg ((gEn s).1.cells:List Value).toArray) (Bj rfl (z:=[.int .i64 0,.int .i64 0,.int .u8 0,.int .u8 0,.int .u8 0,.int .u8 0,.int .u8 0,.int .u8 0,.int .u8 0,.int .u8 0,.int .u8 0,.int .u8 0,.int .u8 0,.int .u8 0,.int .u8 0,.int .u8 0,.int .u8 0,.int .u8 0,.int .u8 0,.int .u8 0,.int .u8 0,.int .u8 0,.int .u8 0,.int .u8 0,.int .u8 0,.int .u8 0,.int .u8 0,.int .u8 0,.int .u8 0,.int .u8 0,.int .u8 0,.int .u8 0,.int .u8 0,.int .u8 0,.int .u64 0]) (places:=[(0,2),(2,32),(34,1)]) aD (parts:=[(0,.agg #[.int .i64 (gSig s).1.1,.int .i64 (gSig s).1.2]),(1,hv (A3 (gSig s).2).1),(2,.int .u64 ((rNum (A3 (gSig s).2).2).1:Nat))]) (by simp only [C7,C9,D0,show act.eval (.tmp 4)=.agg #[.int .i64 (gSig s).1.1,.int .i64 (gSig s).1.2] from (E.d 1 4),show act.eval (.tmp 6)=hv (A3 (gSig s).2).1 from (E.d 3 2),show act.eval (.tmp 8)=.int .u64 ((rNum (A3 (gSig s).2).2).1:Nat) from (E.d 5 0)];try rfl) (r:=(gEn s).1.cells) (by exact Bi (ns:=[2,32,1]) rfl [(0,.agg #[.int .i64 (gSig s).1.1,.int .i64 (gSig s).1.2]),(1,hv (A3 (gSig s).2).1),(2,.int .u64 ((rNum (A3 (gSig s).2).2).1:Nat))] [[.int .i64 0,.int .i64 0],[.int .u8 0,.int .u8 0,.int .u8 0,.int .u8 0,.int .u8 0,.int .u8 0,.int .u8 0,.int .u8 0,.int .u8 0,.int .u8 0,.int .u8 0,.int .u8 0,.int .u8 0,.int .u8 0,.int .u8 0,.int .u8 0,.int .u8 0,.int .u8 0,.int .u8 0,.int .u8 0,.int .u8 0,.int .u8 0,.int .u8 0,.int .u8 0,.int .u8 0,.int .u8 0,.int .u8 0,.int .u8 0,.int .u8 0,.int .u8 0,.int .u8 0,.int .u8 0],[.int .u64 0]] rfl ⟨rfl,(szv cW),rfl,trivial⟩)) ?_
 clear act E
 refine QSeq.go fun act E=>?_
 refine Ah rfl (Ab rfl) rfl (HB2.o.mod c4.out aH) (off:=0) (vs:=((gEn s).1.cells)) (by rw [show ((gEn s).1.cells).length=_ from (En.len (gEn_OK HBY.o))];kernel_rfl) (En.one _) (by rw [show ((gEn s).1.cells).length=_ from (En.len (gEn_OK HBY.o))];decide) (E.v c7) (ec (E.d 6 0)) ?_
 intro j4 qc0 hm
 have qB2:=qc0.eqv (b:=(((gEn s).1.cells):List Value).toArray) (Ap _ _ (by rw [show ((gEn s).1.cells).length=_ from (En.len (gEn_OK HBY.o))];rfl))
 clear qc0
 have g7:=hid qB2
 have j5:=hm.size
 have d8:=hid hm
 have g8:=hid (AB (S':=(fun k=>(R k)∨(k=w.heap.size))) c4.out hm (fun _ h=>Or.inl h) aT)
 clear hm c4
 clear act E qB2 HB2
 have g9:=hid (d7.out.mod d8.out (sB HBR))
 clear d7 g5 g6 d8
 refine qe ?_
 clear HA0 c3 c7 a0
 go_wp2
 exact bodyPost_ret (Au rfl _ _ w.heap.size ((gEn s).1.cells) rfl (fun k u hu=>by rw [g7.out.cell];simpa using hu) Tryz.underlying51 rfl (by rw [show ((gEn s).1.cells).length=_ from (En.len (gEn_OK HBY.o))];kernel_rfl)) rfl ⟨rfl,g9.out,(HM0.o.trans g8.out aC)⟩
open Go.Proofs renaming Tryz.func89→va',Tryz.ntmps89→vb',Tryz.func83→vh',Tryz.underlying57→vl' in
open Go.Proofs.YtnaoeginonpicaaGreat renaming gVt→vc',Vt→vd',VtR→ve',gVt_suf→vg',cVt_G→vi',info_Vt→vo' in
open Go.Gv renaming n'49→vf',z'4→vj',n'38→vk',z'5→vm',n'80→vn' in
set_option maxHeartbeats 4000000 in
theorem cList_Vt:GetsL VtR 132 89 83 gVt:=
 fm16'
set_option maxHeartbeats 4000000 in
theorem cPr_G:Gets PrR 132 82 gPr:=by
 intro R r s w hR hB hl
 have HRD:=B5 hR
 have HBR:=B5 hB
 have HBY:=hid hR.bytes
 have HLN:=B5 hl
 clear hR hB hl
 go_enter Tryz.func82,Tryz.ntmps82
 go_upto_region 1 with (fail)
 obtain ⟨w1,hw1⟩:∃ zz,zz=(w.alloc (.cells #[.int .i64 0,.int .i64 0,.int .i64 0,.int .i64 0,.int .i64 0,.int .u64 0,.slice none 0 0,.slice none 0 0,.slice none 0 0,.int .i64 0,.int .i64 0] 47)):=⟨_,rfl⟩
 change Code.wp _ _ _ _ (w.alloc (.cells #[.int .i64 0,.int .i64 0,.int .i64 0,.int .i64 0,.int .i64 0,.int .u64 0,.slice none 0 0,.slice none 0 0,.slice none 0 0,.int .i64 0,.int .i64 0] 47))
 rw [← hw1]
 have HB2:=hid (show Cs w1 (w.heap.size) #[.int .i64 0,.int .i64 0,.int .i64 0,.int .i64 0,.int .i64 0,.int .u64 0,.slice none 0 0,.slice none 0 0,.slice none 0 0,.int .i64 0,.int .i64 0] 47 by rw [hw1];exact Cs.new _ _ _)
 have hm:Mod (fun _=>False) w w1:=by rw [hw1];exact (Mod.refl _ _).alloc _
 have HM0:=hid (show Mod (fun k=>(R k)) w w1 from hm.mono (fun _ _ h=>h.elim))
 have hs1:w1.heap.size=w.heap.size+1:=by rw [hw1];simp
 have c9:=hid (HRD.o.mod hm (fun _ _ h=>h))
 clear HRD
 clear hw1 hm
 go_upto_region 1 with (fail)
 refine Aa 17 [3,4,5,6,7,8,9,10,11,12,13,14,15,16,31] [0,1,2,3,4,5,6,7,8,9,10,11,12,13,14] (fun a0 HA0=>?_)
 have c3:=ev HA0 0 rfl
 have d5:=ev HA0 2 rfl
 refine qmo rfl c3 ?_
 refine QSeq.call rfl rfl Tryz.func42 (cI_Q c9.out) (fun E=>An (E.d 0 0) rfl) ?_
 rintro e j4 ⟨rfl,qrd,hm⟩
 refine ⟨_,rfl,?_⟩
 have d6:=hid qrd
 have n5:=hm.size
 have d7:=hid (show Mod (fun k=>(R k)) w1 j4 from hm)
 clear hm
 clear qrd c9
 refine qmo rfl c3 ?_
 refine QSeq.call rfl rfl Tryz.func42 (cI_Q d6.out) (fun E=>An (E.d 2 0) rfl) ?_
 rintro e n6 ⟨rfl,qrd,hm⟩
 refine ⟨_,rfl,?_⟩
 have d8:=hid qrd
 have n7:=hm.size
 have j5:=hid hm
 have d9:=hid (AB (S':=(fun k=>(R k))) d7.out hm (fun _ h=>h) aQ)
 clear hm d7
 clear qrd d6
 refine qmo rfl c3 ?_
 refine QSeq.call rfl rfl Tryz.func42 (cI_Q d8.out) (fun E=>An (E.d 4 0) rfl) ?_
 rintro e n8 ⟨rfl,qrd,hm⟩
 refine ⟨_,rfl,?_⟩
 have g5:=hid qrd
 have o4:=hm.size
 have j6:=hid hm
 have g6:=hid (AB (S':=(fun k=>(R k))) d9.out hm (fun _ h=>h) aQ)
 clear hm d9
 clear qrd d8
 refine QSeq.pure rfl (.int .i64 ((gI (gI (gI s).2).2).1 - 1)) (fun E=>Am rfl (E.d 5 0) rfl (Ag _ _ _ _ _ _) (run_sub_i _ _ B6) (congrArg (Value.int .i64) (IntWalk.i64_in _ (gI_less _)))) ?_
 refine qmo rfl c3 ?_
 refine QSeq.call rfl rfl Tryz.func42 (cI_Q g5.out) (fun E=>An (E.d 7 0) rfl) ?_
 rintro e o5 ⟨rfl,qrd,hm⟩
 refine ⟨_,rfl,?_⟩
 have g7:=hid qrd
 have o6:=hm.size
 have j7:=hid hm
 have g8:=hid (AB (S':=(fun k=>(R k))) g6.out hm (fun _ h=>h) aQ)
 clear hm g6
 clear qrd g5
 refine qmo rfl c3 ?_
 refine QSeq.call rfl rfl Tryz.func88 (cBa_G _ _ _ _ g7.out aL (C1 (gI_suf.len _) (C1 (gI_suf.len _) (C1 (gI_suf.len _) (C1 (gI_suf.len _) HLN.o))))) (fun E=>A0 (E.d 9 0)) ?_
 rintro e o7 ⟨cb,rfl,qba,qrd,hm⟩
 obtain ⟨v1,v2,v3,rfl,hokb,qba,qbo,qbt⟩:=qba
 obtain ⟨aob0,capb0,rfl⟩:=qba.shape
 obtain ⟨aob1,capb1,rfl⟩:=qbo.shape
 obtain ⟨aob2,capb2,rfl⟩:=qbt.shape
 clear hokb
 refine ⟨_,rfl,?_⟩
 have g9:=hid qba
 have i7:=hid qrd
 have i8:=hid qbo
 have i9:=hid qbt
 have o8:=hm.size
 have j8:=hid hm
 have j0:=hid (AB (S':=(fun k=>(R k))) g8.out hm (fun _ h=>h) aQ)
 clear hm g8
 clear qba qrd qbo qbt g7
 refine qmo rfl c3 ?_
 refine QSeq.call rfl rfl Tryz.func120 (cSig_Q _ _ _ _ i7.out aL) (fun E=>A0 (E.d 11 0)) ?_
 rintro e o9 ⟨rfl,qrd,hm⟩
 refine ⟨_,rfl,?_⟩
 have j3:=hid qrd
 have p4:=hm.size
 have c6:=hid hm
 have c7:=hid (AB (S':=(fun k=>(R k))) j0.out hm (fun _ h=>h) aQ)
 clear hm j0
 clear qrd i7
 refine QSeq.go fun act E=>?_
 refine Br rfl (Ab rfl) (v:=.agg ((gPr s).1.cells (Value.slice aob0 (gBa (gI (gI (gI (gI s).2).2).2).2).1.ps.length capb0) (Value.slice aob1 (gBa (gI (gI (gI (gI s).2).2).2).2).1.os.length capb1) (Value.slice aob2 (gBa (gI (gI (gI (gI s).2).2).2).2).1.ts.length capb2):List Value).toArray) (Bj rfl (z:=[.int .i64 0,.int .i64 0,.int .i64 0,.int .i64 0,.int .i64 0,.int .u64 0,.slice none 0 0,.slice none 0 0,.slice none 0 0,.int .i64 0,.int .i64 0]) (places:=[(0,1),(1,1),(2,1),(3,1),(4,5),(9,2)]) aD (parts:=[(0,.int .i64 (gI s).1),(1,.int .i64 (gI (gI s).2).1),(2,.int .i64 ((gI (gI (gI s).2).2).1 - 1)),(3,.int .i64 (gI (gI (gI (gI s).2).2).2).1),(4,.agg #[.int .i64 (gBa (gI (gI (gI (gI s).2).2).2).2).1.ep,.int .u64 ((gBa (gI (gI (gI (gI s).2).2).2).2).1.tm:Nat),Value.slice aob0 (gBa (gI (gI (gI (gI s).2).2).2).2).1.ps.length capb0,Value.slice aob1 (gBa (gI (gI (gI (gI s).2).2).2).2).1.os.length capb1,Value.slice aob2 (gBa (gI (gI (gI (gI s).2).2).2).2).1.ts.length capb2]),(5,.agg #[.int .i64 (gSig (gBa (gI (gI (gI (gI s).2).2).2).2).2).1.1,.int .i64 (gSig (gBa (gI (gI (gI (gI s).2).2).2).2).2).1.2])]) (by simp only [C7,C9,D0,show act.eval (.tmp 4)=.int .i64 (gI s).1 from (E.d 1 11),show act.eval (.tmp 6)=.int .i64 (gI (gI s).2).1 from (E.d 3 9),show act.eval (.tmp 9)=.int .i64 ((gI (gI (gI s).2).2).1 - 1) from (E.d 6 6),show act.eval (.tmp 11)=.int .i64 (gI (gI (gI (gI s).2).2).2).1 from (E.d 8 4),show act.eval (.tmp 13)=.agg #[.int .i64 (gBa (gI (gI (gI (gI s).2).2).2).2).1.ep,.int .u64 ((gBa (gI (gI (gI (gI s).2).2).2).2).1.tm:Nat),Value.slice aob0 (gBa (gI (gI (gI (gI s).2).2).2).2).1.ps.length capb0,Value.slice aob1 (gBa (gI (gI (gI (gI s).2).2).2).2).1.os.length capb1,Value.slice aob2 (gBa (gI (gI (gI (gI s).2).2).2).2).1.ts.length capb2] from (E.d 10 2),show act.eval (.tmp 15)=.agg #[.int .i64 (gSig (gBa (gI (gI (gI (gI s).2).2).2).2).2).1.1,.int .i64 (gSig (gBa (gI (gI (gI (gI s).2).2).2).2).2).1.2] from (E.d 12 0)];try rfl) (r:=(gPr s).1.cells (Value.slice aob0 (gBa (gI (gI (gI (gI s).2).2).2).2).1.ps.length capb0) (Value.slice aob1 (gBa (gI (gI (gI (gI s).2).2).2).2).1.os.length capb1) (Value.slice aob2 (gBa (gI (gI (gI (gI s).2).2).2).2).1.ts.length capb2)) (by exact Bi (ns:=[1,1,1,1,5,2]) rfl [(0,.int .i64 (gI s).1),(1,.int .i64 (gI (gI s).2).1),(2,.int .i64 ((gI (gI (gI s).2).2).1 - 1)),(3,.int .i64 (gI (gI (gI (gI s).2).2).2).1),(4,.agg #[.int .i64 (gBa (gI (gI (gI (gI s).2).2).2).2).1.ep,.int .u64 ((gBa (gI (gI (gI (gI s).2).2).2).2).1.tm:Nat),Value.slice aob0 (gBa (gI (gI (gI (gI s).2).2).2).2).1.ps.length capb0,Value.slice aob1 (gBa (gI (gI (gI (gI s).2).2).2).2).1.os.length capb1,Value.slice aob2 (gBa (gI (gI (gI (gI s).2).2).2).2).1.ts.length capb2]),(5,.agg #[.int .i64 (gSig (gBa (gI (gI (gI (gI s).2).2).2).2).2).1.1,.int .i64 (gSig (gBa (gI (gI (gI (gI s).2).2).2).2).2).1.2])] [[.int .i64 0],[.int .i64 0],[.int .i64 0],[.int .i64 0],[.int .i64 0,.int .u64 0,.slice none 0 0,.slice none 0 0,.slice none 0 0],[.int .i64 0,.int .i64 0]] rfl ⟨rfl,rfl,rfl,rfl,rfl,rfl,trivial⟩)) ?_
 clear act E
 refine QSeq.go fun act E=>?_
 refine Ah rfl (Ab rfl) rfl (HB2.o.mod c7.out aH) (off:=0) (vs:=((gPr s).1.cells (Value.slice aob0 (gBa (gI (gI (gI (gI s).2).2).2).2).1.ps.length capb0) (Value.slice aob1 (gBa (gI (gI (gI (gI s).2).2).2).2).1.os.length capb1) (Value.slice aob2 (gBa (gI (gI (gI (gI s).2).2).2).2).1.ts.length capb2))) aD eV bD (E.v d5) (ec (E.d 13 0)) ?_
 intro c8 qc0 hm
 have qB2:=qc0.eqv (b:=(((gPr s).1.cells (Value.slice aob0 (gBa (gI (gI (gI (gI s).2).2).2).2).1.ps.length capb0) (Value.slice aob1 (gBa (gI (gI (gI (gI s).2).2).2).2).1.os.length capb1) (Value.slice aob2 (gBa (gI (gI (gI (gI s).2).2).2).2).1.ts.length capb2)):List Value).toArray) (Ap _ _ rfl)
 clear qc0
 have j9:=hid qB2
 have p5:=hm.size
 have c4:=hid hm
 have l7:=hid (AB (S':=(fun k=>(R k)∨(k=w.heap.size))) c7.out hm (fun _ h=>Or.inl h) aT)
 clear hm c7
 clear act E qB2 HB2
 have l8:=hid (j3.out.mod c4.out (sB HBR))
 have m7:=hid ((g9.out.mod c6.out aV).mod c4.out aE)
 have m8:=hid ((i8.out.mod c6.out aV).mod c4.out aE)
 have m9:=hid ((i9.out.mod c6.out aV).mod c4.out aE)
 clear j3 g9 i8 i9 j5 j6 j7 j8 c6 c4
 refine qe ?_
 clear HA0 c3 d5 a0
 go_wp2
 exact bodyPost_ret (Au rfl _ _ w.heap.size ((gPr s).1.cells (Value.slice aob0 (gBa (gI (gI (gI (gI s).2).2).2).2).1.ps.length capb0) (Value.slice aob1 (gBa (gI (gI (gI (gI s).2).2).2).2).1.os.length capb1) (Value.slice aob2 (gBa (gI (gI (gI (gI s).2).2).2).2).1.ts.length capb2)) rfl (fun k u hu=>by rw [j9.out.cell];simpa using hu) C6 rfl aD) rfl ⟨_,rfl,⟨_,_,_,rfl,gPr_OK HBY.o,(m7.out.widen (R':=(fun k=>New w c8 k)) bF),(m8.out.widen (R':=(fun k=>New w c8 k)) bF),(m9.out.widen (R':=(fun k=>New w c8 k)) bF)⟩,l8.out,(HM0.o.trans l7.out aC)⟩
end Go.Proofs.YtnaoeginonpicaaGreat
