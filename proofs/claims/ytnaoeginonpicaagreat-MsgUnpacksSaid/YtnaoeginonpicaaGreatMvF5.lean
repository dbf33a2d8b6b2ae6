/- Texts that are built one behind the other: XPt3, XMg, XZm, XCo2, XOm, XOn, XSq, XOl, XGt1, XGt2, XGt3, XMq. No condition. -/
import Derived.Test.YtnaoeginonpicaaGreatMvF4
import Derived.OpenShut
import Derived.Deep.CutBlock
set_option maxRecDepth 100000
set_option linter.unusedVariables false
open Go renaming Lib.hid→B8
open Go.Proofs renaming Tryz.underlying3→B9,Tryz.underlying61→C1,Tryz.underlying45→C7,Tryz.underlying43→D0,Tryz.underlying52→D2,Tryz.underlying47→D4,Tryz.underlying124→D7,Tryz.underlying25→D8,Tryz.underlying59→D9,Tryz.underlying30→E0,Tryz.func22→E3,Tryz.underlying127→E4,Tryz.underlying100→E5,Tryz.func67→E6,Tryz.underlying29→E7,Tryz.underlying4→E8,Tryz.func21→E9
open Nat renaming le_refl→C0,le_trans→C4
open List renaming append_assoc→C2,length_append→C3,map_cons→C5,map_nil→C6,map_toArray→C8,not_mem_nil→C9,mem_cons→D1,size_toArray→D3,length_nil→D5,length_cons→D6
open List renaming setIfInBounds_toArray → sIB, set_cons_zero → sCZ, set_cons_succ → sCS
namespace Go.Proofs.YtnaoeginonpicaaGreat
open Go Go.RowKit Go.Gv
def prB (x:Pr):List Int:=encI x.ep ++ (encI x.rn ++ (encI (IntKind.i64.wrap (x.vl+1)) ++ (encI x.rp ++ (baB x.ba ++ sigB x.sb x.mr))))
theorem I64_wrap (n:Int):I64 (IntKind.i64.wrap n):=by
 have:=bounds_i64 (wf_wrap .i64 n)
 unfold I64
 omega
open Go.Proofs renaming Tryz.func100→va',Tryz.ntmps100→vb',Tryz.underlying37→vd' in
open Go.Gv renaming n'37→vc' in
set_option maxHeartbeats 4000000 in
theorem PutAk_Q:Puts StR 100 stB:=
 fm12'
set_option maxHeartbeats 4000000 in
theorem PutVt_Q:Puts VtR 103 vtB:=by
 intro R R2 g bs cs x w hW hB hx hB2 hD hl
 obtain ⟨rfl,hok⟩:=hx
 have HW:=B8 hW
 have HBR:=B8 hB
 have HBT:=B8 hB2
 have HDJ:=B8 hD
 have HOK:=B8 hok
 have HL:=B8 hl
 clear hW hB hB2 hD hl hok
 unfold vtB at HL
 go_enter Tryz.func103,Tryz.ntmps103
 go_upto_region 1 with (fail)
 obtain ⟨w1,hw1⟩:∃ zz,zz=(w.alloc (.cells (x.cells:List Value).toArray 49)):=⟨_,rfl⟩
 change Code.wp _ _ _ _ (w.alloc (.cells (x.cells:List Value).toArray 49))
 rw [← hw1]
 have HB3:=hid (show Cs w1 (w.heap.size) (x.cells:List Value).toArray 49 by rw [hw1];exact Cs.new _ _ _)
 have hm:Mod (fun _=>False) w w1:=by rw [hw1];exact (Mod.refl _ _).alloc _
 have HM0:=hid (show Mod (fun k=>(R k)) w w1 from hm.mono iB)
 have hs1:w1.heap.size=w.heap.size+1:=by rw [hw1];simp
 have g7:=hid (HW.o.mod hm iA)
 clear HW
 clear hw1 hm
 go_upto_region 1 with (fail)
 generalize ha0:Act.mk _ _=a0
 have c9:a0.eval (.tmp 0)=.pointer (some ⟨g,0,none⟩):=by rw [← ha0];rfl
 have c3:a0.eval (.tmp 3)=.pointer (some ⟨w.heap.size,0,none⟩):=by rw [← ha0];rfl
 have hsz0:a0.tmps.size=24:=by rw [← ha0];rfl
 have HA0:=hid ha0
 clear ha0
 refine Bc 24 hsz0 [4,5,6,7,8,9,10,11,12,13,14,15,16,17,18,19] (fun k=>(R k)) (fun k j=>(k=0∧((R j)))∨(k=1∧((R j)))∨(k=2∧((R j)))∨(k=3∧((R j)))∨(k=4∧((R j)))) (by intro k j h;(try dsimp only at h ⊢);rcases h with ⟨-,h⟩|⟨-,h⟩|⟨-,h⟩|⟨-,h⟩|⟨-,h⟩;(exact h);(exact h);(exact h);(exact h);(exact h)) [qi (.pointer (some ⟨g,0,none⟩)),qi (.pointer (some ⟨w.heap.size,0,none⟩)),qi (.int .i64 x.kd),qi (.pointer (some ⟨g,0,none⟩)),qi (.pointer (some ⟨w.heap.size,1,none⟩)),qi (.int .i64 x.ep),qi (.pointer (some ⟨g,0,none⟩)),qi (.pointer (some ⟨w.heap.size,2,none⟩)),qi (.int .i64 x.rd),qi (.pointer (some ⟨g,0,none⟩)),qi (.pointer (some ⟨w.heap.size,3,none⟩)),qi (.int .i64 x.rp),qi (.pointer (some ⟨g,0,none⟩)),qi (.pointer (some ⟨w.heap.size,4,none⟩)),qi (hv x.h),qi (.pointer (some ⟨g,0,none⟩))] ⟨Ac,Ac,Ac,Ac,Ac,Ac,Ac,Ac,Ac,Ac,Ac,Ac,Ac,Ac,Ac,Ac,trivial⟩ [3,6,9,12,15] ⟨?_,?_,?_,?_,?_,?_,?_,?_,?_,?_,?_,?_,?_,?_,?_,?_,trivial⟩ ?_
 ·exact stq (fun E=>Al rfl (E.v c9))
 ·exact stq (fun E=>Ae rfl Tryz.underlying49 rfl aE (E.v c3))
 ·exact stq (fun E=>Af rfl B9 rfl (E.d 1) (AN (HB3.o.mod E.m aN) rfl))
 ·exact Ad rfl
 ·exact stq (fun E=>Ae rfl Tryz.underlying49 rfl aE (E.v c3))
 ·exact stq (fun E=>Af rfl B9 rfl (E.d 4) (AN (HB3.o.mod E.m aN) rfl))
 ·exact Ad rfl
 ·exact stq (fun E=>Ae rfl Tryz.underlying49 rfl aE (E.v c3))
 ·exact stq (fun E=>Af rfl B9 rfl (E.d 7) (AN (HB3.o.mod E.m aN) rfl))
 ·exact Ad rfl
 ·exact stq (fun E=>Ae rfl Tryz.underlying49 rfl aE (E.v c3))
 ·exact stq (fun E=>Af rfl B9 rfl (E.d 10) (AN (HB3.o.mod E.m aN) rfl))
 ·exact Ad rfl
 ·exact stq (fun E=>Ae rfl Tryz.underlying49 rfl aE (E.v c3))
 ·exact stq (fun E=>Ak rfl D8 rfl (off:=4) (cs:=x.h.map bv) gP (E.d 13) (Cs.midA (HB3.o.mod E.m aN) rfl))
 ·exact Ad rfl
 intro c4 hr
 have l7:=hr.size
 have g8:=hid (hr.new (S:=(fun k=>(R k))))
 have g9:=hid (g7.out.mod hr aO)
 clear g7
 clear hr
 refine QChain.go fun Z act E=>?_
 refine Aj (args:=#[.pointer (some ⟨g,0,none⟩),.int .i64 x.kd]) rfl (Aa rfl) rfl E6 (Ar (E.d 0) (E.d 2)) (B3 g9.out HOK.o.kd aF) ?_
 rintro e c6 ⟨rfl,qwr,hm⟩
 have l8:=hm.size
 refine ⟨_,rfl,hm.mono aW,(fun _=>rfl),?_⟩
 intro c7 hr
 have m7:=hr.size
 have i7:=hid ((qwr.widen (R':=(fun k=>(R k)∨(New c4 c6 k))) (fun _ h=>h) (C0 _)).mod hr bH)
 have i8:=hid (g8.out.goM hm hr iA)
 clear g8 hm hr Z act E qwr g9
 refine QChain.go fun Z act E=>?_
 refine Aj (args:=#[.pointer (some ⟨g,0,none⟩),.int .i64 x.ep]) rfl (Aa rfl) rfl E6 (Ar (E.d 3) (E.d 5)) (B3 i7.out HOK.o.ep aF) ?_
 rintro e c8 ⟨rfl,qwr,hm⟩
 have m8:=hm.size
 refine ⟨_,rfl,hm.mono bX,(fun _=>rfl),?_⟩
 intro d5 hr
 have m9:=hr.size
 have i9:=hid ((qwr.widen (R':=(fun k=>(R k)∨(New c4 c6 k)∨(New c7 c8 k))) aP (C0 _)).mod hr bG)
 have j0:=hid (i8.out.goM hm hr bY)
 clear i8 hm hr Z act E qwr i7
 refine QChain.go fun Z act E=>?_
 refine Aj (args:=#[.pointer (some ⟨g,0,none⟩),.int .i64 x.rd]) rfl (Aa rfl) rfl E6 (Ar (E.d 6) (E.d 8)) (B3 i9.out HOK.o.rd aF) ?_
 rintro e d6 ⟨rfl,qwr,hm⟩
 have n5:=hm.size
 refine ⟨_,rfl,hm.mono fO,(fun _=>rfl),?_⟩
 intro d7 hr
 have n6:=hr.size
 have Hx8:=hid ((qwr.widen (R':=(fun k=>(R k)∨(New c4 c6 k)∨(New c7 c8 k)∨(New d5 d6 k))) aP (C0 _)).mod hr bT)
 have j3:=hid (j0.out.goM hm hr dK)
 clear j0 hm hr Z act E qwr i9
 refine QChain.go fun Z act E=>?_
 refine Aj (args:=#[.pointer (some ⟨g,0,none⟩),.int .i64 x.rp]) rfl (Aa rfl) rfl E6 (Ar (E.d 9) (E.d 11)) (B3 Hx8.o HOK.o.rp aF) ?_
 rintro e d8 ⟨rfl,qwr,hm⟩
 have n7:=hm.size
 refine ⟨_,rfl,hm.mono (by intro k hk h;rcases h with h|h|h|h<;>first|omega|exact Or.inl ⟨aZ,Or.inr (Or.inr (Or.inr (Or.inl ⟨rfl,h⟩)))⟩),(fun _=>rfl),?_⟩
 intro d9 hr
 have n8:=hr.size
 have Hx10:=hid ((qwr.widen (R':=(fun k=>(R k)∨(New c4 c6 k)∨(New c7 c8 k)∨(New d5 d6 k)∨(New d7 d8 k))) aP (C0 _)).mod hr gM)
 have j4:=hid (j3.out.goM hm hr (by intro k h0 h2;rcases h2 with h2|h2|h2|h2<;>first|omega|exact h2))
 clear j3 hm hr Z act E qwr Hx8
 refine QChain.go fun Z act E=>?_
 refine Aj (args:=#[.pointer (some ⟨g,0,none⟩),hv x.h]) rfl (Aa rfl) rfl Tryz.func130 (Ar (E.d 12) (E.d 14)) (WHash_Q Hx10.o HOK.o.h aF) ?_
 rintro e g5 ⟨rfl,qwr,hm⟩
 have o5:=hm.size
 refine ⟨_,rfl,hm.mono (by intro k hk h;rcases h with h|h|h|h|h<;>first|omega|exact Or.inl ⟨aZ,Or.inr (Or.inr (Or.inr (Or.inr (⟨rfl,h⟩))))⟩),(fun _=>rfl),?_⟩
 intro j5 hr
 have o6:=hr.size
 have j6:=hid ((qwr.widen (R':=(fun k=>(R k)∨(New c4 c6 k)∨(New c7 c8 k)∨(New d5 d6 k)∨(New d7 d8 k)∨(New d9 g5 k))) aP (C0 _)).mod hr (by intro k h1 h2;rcases h1 with h1|h1|h1|h1|h1|h1<;>first|omega|(have hb:=HBR.o k h1;omega)))
 have j7:=hid (j4.out.goM hm hr (by intro k h0 h2;rcases h2 with h2|h2|h2|h2|h2<;>first|omega|exact h2))
 clear j4 hm hr Z act E qwr Hx10
 refine QChain.nil fun vs hl hzz hrows hne=>?_
 obtain ⟨Z,hYZ,hZb,hV⟩:=hzz
 have f0:=fvi hV hl 0
 have f3:=fvi hV hl 3
 have f6:=fvi hV hl 6
 have f9:=fvi hV hl 9
 have f12:=fvi hV hl 12
 have f15:=fvi hV hl 15
 rw [show vs=[gw vs 0,gw vs 1,gw vs 2,gw vs 3,gw vs 4,gw vs 5,gw vs 6,gw vs 7,gw vs 8,gw vs 9,gw vs 10,gw vs 11,gw vs 12,gw vs 13,gw vs 14,gw vs 15] from (Bi hl).trans rfl]
 have ha0:=HA0.o
 subst ha0
 clear HA0 hV hYZ hZb hsz0 hrows hne c9 c3
 simp only [Au,Act.put,sIB,sCZ,sCS,f0,f3,f6,f9,f12,f15]
 clear hl f0 f3 f6 f9 f12 f15
 go_upto_region 2 with (fail)
 refine Ab 24 [20,21,22,23] [0,1,2,3] (fun a0 HA0=>?_)
 have c9:=ev HA0 0 rfl
 have c3:=ev HA0 3 rfl
 refine qmo rfl c9 ?_
 refine qfd rfl 36 Tryz.underlying49 c3 ?_
 refine QSeq.pure rfl _ (fun E=>Ak rfl Tryz.underlying27 rfl (off:=36) (cs:=[.int .i64 x.sb,.int .i64 x.mr]) aE (E.d 1 0) (Cs.postA (m:=32) (k:=0) (HB3.o.mod j7.out aH) eH rfl rfl)) ?_
 refine QSeq.call rfl rfl Tryz.func131 (PutSig_Q j6.out gH HOK.o.sb HOK.o.mr aF) (fun E=>Ar (E.d 0 2) (E.d 2 0)) ?_
 rintro e g6 ⟨rfl,qwr,hm⟩
 refine ⟨_,rfl,?_⟩
 have j8:=hid (qwr.widen (R':=(fun k=>(R k)∨(New c4 c6 k)∨(New c7 c8 k)∨(New d5 d6 k)∨(New d7 d8 k)∨(New d9 g5 k)∨(New j5 g6 k))) aP (C0 _))
 have o7:=hm.size
 have j9:=hid (show Mod (fun k=>(R k)∨(New c4 c6 k)∨(New c7 c8 k)∨(New d5 d6 k)∨(New d7 d8 k)∨(New d9 g5 k)) j5 g6 from hm)
 clear hm
 clear qwr j6
 refine qe ?_
 clear HA0 c9 c3 a0
 go_wp2
 go_end0
 have hq:=(j8.out.widen (R':=(fun k=>R k∨New w g6 k)) gN (C0 _))
 simp only [C2] at hq
 exact ⟨rfl,by simpa only [vtB,C2] using hq,((HM0.o.trans j7.out iA).trans j9.out gB)⟩
set_option maxHeartbeats 4000000 in
theorem PutEn_Q:Puts EnR 104 enB:=by
 intro R R2 g bs cs x w hW hB hx hB2 hD hl
 obtain ⟨rfl,hok⟩:=hx
 have HW:=B8 hW
 have HBR:=B8 hB
 have HBT:=B8 hB2
 have HDJ:=B8 hD
 have HOK:=B8 hok
 have HL:=B8 hl
 clear hW hB hB2 hD hl hok
 unfold enB at HL
 go_enter Tryz.func104,Tryz.ntmps104
 go_upto_region 1 with (fail)
 obtain ⟨w1,hw1⟩:∃ zz,zz=(w.alloc (.cells (x.cells:List Value).toArray 51)):=⟨_,rfl⟩
 change Code.wp _ _ _ _ (w.alloc (.cells (x.cells:List Value).toArray 51))
 rw [← hw1]
 have HB3:=hid (show Cs w1 (w.heap.size) (x.cells:List Value).toArray 51 by rw [hw1];exact Cs.new _ _ _)
 have hm:Mod (fun _=>False) w w1:=by rw [hw1];exact (Mod.refl _ _).alloc _
 have HM0:=hid (show Mod (fun k=>(R k)) w w1 from hm.mono iB)
 have hs1:w1.heap.size=w.heap.size+1:=by rw [hw1];simp
 have c8:=hid (HW.o.mod hm iA)
 clear HW
 clear hw1 hm
 go_upto_region 1 with (fail)
 refine Ab 15 [4,5,6,7] [0,1,2,3] (fun a0 HA0=>?_)
 have c6:=ev HA0 0 rfl
 have c4:=ev HA0 3 rfl
 refine qmo rfl c6 ?_
 refine qfd rfl 0 Tryz.underlying51 c4 ?_
 refine QSeq.pure rfl _ (fun E=>Ak rfl Tryz.underlying23 rfl (off:=0) (cs:=[.int .i64 x.cl,.int .i64 x.sq]) aE (E.d 1 0) (Cs.preA HB3.o rfl)) ?_
 refine QSeq.call rfl rfl Tryz.func129 (PutName_Q c8.out aK HOK.o.cl HOK.o.sq aF) (fun E=>Ar (E.d 0 2) (E.d 2 0)) ?_
 rintro e c3 ⟨rfl,qwr,hm⟩
 refine ⟨_,rfl,?_⟩
 have c9:=hid (qwr.widen (R':=(fun k=>(R k)∨(New w1 c3 k))) (fun _ h=>h) (C0 _))
 have i7:=hm.size
 have c7:=hid (show Mod (fun k=>(R k)) w1 c3 from hm)
 clear hm
 clear qwr c8
 refine qe ?_
 clear HA0 c6 c4 a0
 go_upto_region 2 with (fail)
 generalize ha0:Act.mk _ _=a0
 have c6:a0.eval (.tmp 0)=.pointer (some ⟨g,0,none⟩):=by rw [← ha0];rfl
 have c4:a0.eval (.tmp 3)=.pointer (some ⟨w.heap.size,0,none⟩):=by rw [← ha0];rfl
 have hsz0:a0.tmps.size=15:=by rw [← ha0];rfl
 have HA0:=hid ha0
 clear ha0
 refine Bc 15 hsz0 [8,9,10,11,12,13,14] (fun k=>(R k)∨(New w1 c3 k)) (fun k j=>(k=0∧((R j)∨(New w1 c3 j)))∨(k=1∧((R j)∨(New w1 c3 j)))) fE [qi (.pointer (some ⟨g,0,none⟩)),qi (.pointer (some ⟨w.heap.size,2,none⟩)),qi (hv x.h),qi (.pointer (some ⟨g,0,none⟩)),qi (.pointer (some ⟨w.heap.size,34,none⟩)),qi (.int .u64 (x.tm:Nat)),qi (.pointer (some ⟨g,0,none⟩))] ⟨Ac,Ac,Ac,Ac,Ac,Ac,Ac,trivial⟩ [3,6] ⟨?_,?_,?_,?_,?_,?_,?_,trivial⟩ ?_
 ·exact stq (fun E=>Al rfl (E.v c6))
 ·exact stq (fun E=>Ae rfl Tryz.underlying51 rfl aE (E.v c4))
 ·exact stq (fun E=>Ak rfl D8 rfl (off:=2) (cs:=x.h.map bv) gP (E.d 1) (Cs.midA ((HB3.o.mod c7.out aH).mod E.m dE) rfl))
 ·exact Ad rfl
 ·exact stq (fun E=>Ae rfl Tryz.underlying51 rfl aE (E.v c4))
 ·exact stq (fun E=>Af rfl E0 rfl (E.d 4) (AL (m:=32) (k:=0) ((HB3.o.mod c7.out aH).mod E.m dE) eH rfl rfl))
 ·exact Ad rfl
 intro d5 hr
 have i8:=hr.size
 have d6:=hid (hr.new (S:=(fun k=>(R k)∨(New w1 c3 k))))
 have d7:=hid (c9.out.mod hr bH)
 clear c9
 clear hr
 refine QChain.go fun Z act E=>?_
 refine Aj (args:=#[.pointer (some ⟨g,0,none⟩),hv x.h]) rfl (Aa rfl) rfl Tryz.func130 (Ar (E.d 0) (E.d 2)) (WHash_Q d7.out HOK.o.h aF) ?_
 rintro e d8 ⟨rfl,qwr,hm⟩
 have i9:=hm.size
 refine ⟨_,rfl,hm.mono fZ,(fun _=>rfl),?_⟩
 intro g6 hr
 have j0:=hr.size
 have d9:=hid ((qwr.widen (R':=(fun k=>(R k)∨(New w1 c3 k)∨(New d5 d8 k))) aP (C0 _)).mod hr bG)
 have g5:=hid (d6.out.goM hm hr iA)
 clear d6 hm hr Z act E qwr d7
 refine QChain.go fun Z act E=>?_
 refine Aj (args:=#[.pointer (some ⟨g,0,none⟩),.int .u64 (x.tm:Nat)]) rfl (Aa rfl) rfl Tryz.func96 (Ar (E.d 3) (E.d 5)) (WNum_Q d9.out HOK.o.tm aF) ?_
 rintro e g7 ⟨rfl,qwr,hm⟩
 have j3:=hm.size
 refine ⟨_,rfl,hm.mono fV,(fun _=>rfl),?_⟩
 intro g8 hr
 have j4:=hr.size
 have Hx8:=hid ((qwr.widen (R':=(fun k=>(R k)∨(New w1 c3 k)∨(New d5 d8 k)∨(New g6 g7 k))) aP (C0 _)).mod hr bT)
 have g9:=hid (g5.out.goM hm hr hH)
 clear g5 hm hr Z act E qwr d9
 refine QChain.nil fun vs hl hzz hrows hne=>?_
 obtain ⟨Z,hYZ,hZb,hV⟩:=hzz
 have f0:=fvi hV hl 0
 have f3:=fvi hV hl 3
 have f6:=fvi hV hl 6
 rw [show vs=[gw vs 0,gw vs 1,gw vs 2,gw vs 3,gw vs 4,gw vs 5,gw vs 6] from (Bi hl).trans rfl]
 have ha0:=HA0.o
 subst ha0
 clear HA0 hV hYZ hZb hsz0 hrows hne c6 c4
 simp only [Au,Act.put,sIB,sCZ,sCS,f0,f3,f6]
 clear hl f0 f3 f6
 go_wp2
 go_end0
 have hq:=(Hx8.o.widen (R':=(fun k=>R k∨New w g8 k)) dQ (C0 _))
 simp only [C2] at hq
 exact ⟨rfl,by simpa only [enB,C2] using hq,((HM0.o.trans c7.out iA).trans g9.out aC)⟩
set_option maxHeartbeats 4000000 in
theorem PutPr_Q:Puts PrR 102 prB:=by
 intro R R2 g bs cs x w hW hB hx hB2 hD hl
 obtain ⟨v_ps,v_os,v_ts,rfl,hok,hs0,hs1,hs2⟩:=hx
 have HS0:=B8 hs0
 clear hs0
 have HS1:=B8 hs1
 clear hs1
 have HS2:=B8 hs2
 clear hs2
 have HW:=B8 hW
 have HBR:=B8 hB
 have HBT:=B8 hB2
 have HDJ:=B8 hD
 have HOK:=B8 hok
 have HL:=B8 hl
 clear hW hB hB2 hD hl hok
 unfold prB at HL
 go_enter Tryz.func102,Tryz.ntmps102
 go_upto_region 1 with (fail)
 obtain ⟨w1,hw1⟩:∃ zz,zz=(w.alloc (.cells (x.cells v_ps v_os v_ts:List Value).toArray 47)):=⟨_,rfl⟩
 change Code.wp _ _ _ _ (w.alloc (.cells (x.cells v_ps v_os v_ts:List Value).toArray 47))
 rw [← hw1]
 have HB3:=hid (show Cs w1 (w.heap.size) (x.cells v_ps v_os v_ts:List Value).toArray 47 by rw [hw1];exact Cs.new _ _ _)
 have hm:Mod (fun _=>False) w w1:=by rw [hw1];exact (Mod.refl _ _).alloc _
 have HM0:=hid (show Mod (fun k=>(R k)) w w1 from hm.mono iB)
 have hs1:w1.heap.size=w.heap.size+1:=by rw [hw1];simp
 have g8:=hid (HW.o.mod hm iA)
 clear HW
 have j8:=hid (HS0.o.mod hm iA)
 clear HS0
 have j9:=hid (HS1.o.mod hm iA)
 clear HS1
 have l7:=hid (HS2.o.mod hm iA)
 clear HS2
 clear hw1 hm
 go_upto_region 1 with (fail)
 generalize ha0:Act.mk _ _=a0
 have c4:a0.eval (.tmp 0)=.pointer (some ⟨g,0,none⟩):=by rw [← ha0];rfl
 have c3:a0.eval (.tmp 3)=.pointer (some ⟨w.heap.size,0,none⟩):=by rw [← ha0];rfl
 have hsz0:a0.tmps.size=26:=by rw [← ha0];rfl
 have HA0:=hid ha0
 clear ha0
 refine Bc 26 hsz0 [4,5,6,7,8,9,10,11,12,13,14,15,16,17] (fun k=>(R k)) (fun k j=>(k=0∧((R j)))∨(k=1∧((R j)))∨(k=2∧((R j)))∨(k=3∧((R j)))) (by intro k j h;(try dsimp only at h ⊢);rcases h with ⟨-,h⟩|⟨-,h⟩|⟨-,h⟩|⟨-,h⟩;(exact h);(exact h);(exact h);(exact h)) [qi (.pointer (some ⟨g,0,none⟩)),qi (.pointer (some ⟨w.heap.size,0,none⟩)),qi (.int .i64 x.ep),qi (.pointer (some ⟨g,0,none⟩)),qi (.pointer (some ⟨w.heap.size,1,none⟩)),qi (.int .i64 x.rn),qi (.pointer (some ⟨g,0,none⟩)),qi (.pointer (some ⟨w.heap.size,2,none⟩)),qi (.int .i64 x.vl),qi (.int .i64 (IntKind.i64.wrap (x.vl+1))),qi (.pointer (some ⟨g,0,none⟩)),qi (.pointer (some ⟨w.heap.size,3,none⟩)),qi (.int .i64 x.rp),qi (.pointer (some ⟨g,0,none⟩))] ⟨Ac,Ac,Ac,Ac,Ac,Ac,Ac,Ac,Ac,Ac,Ac,Ac,Ac,Ac,trivial⟩ [3,6,10,13] ⟨?_,?_,?_,?_,?_,?_,?_,?_,?_,?_,?_,?_,?_,?_,trivial⟩ ?_
 ·exact stq (fun E=>Al rfl (E.v c4))
 ·exact stq (fun E=>Ae rfl D4 rfl aE (E.v c3))
 ·exact stq (fun E=>Af rfl B9 rfl (E.d 1) (AC (HB3.o.mod E.m aN) rfl))
 ·exact Ad rfl
 ·exact stq (fun E=>Ae rfl D4 rfl aE (E.v c3))
 ·exact stq (fun E=>Af rfl B9 rfl (E.d 4) (AC (HB3.o.mod E.m aN) rfl))
 ·exact Ad rfl
 ·exact stq (fun E=>Ae rfl D4 rfl aE (E.v c3))
 ·exact stq (fun E=>Af rfl B9 rfl (E.d 7) (AC (HB3.o.mod E.m aN) rfl))
 ·exact stq (fun E=>ex_bin rfl (E.d 8) rfl (Ai _ _ _ _ _ _) (Bz _ _ B9))
 ·exact Ad rfl
 ·exact stq (fun E=>Ae rfl D4 rfl aE (E.v c3))
 ·exact stq (fun E=>Af rfl B9 rfl (E.d 11) (AC (HB3.o.mod E.m aN) rfl))
 ·exact Ad rfl
 intro c6 hr
 have m8:=hr.size
 have g9:=hid (hr.new (S:=(fun k=>(R k))))
 have i7:=hid (g8.out.mod hr aO)
 clear g8
 clear hr
 refine QChain.go fun Z act E=>?_
 refine Aj (args:=#[.pointer (some ⟨g,0,none⟩),.int .i64 x.ep]) rfl (Aa rfl) rfl E6 (Ar (E.d 0) (E.d 2)) (B3 i7.out HOK.o.1 aF) ?_
 rintro e c7 ⟨rfl,qwr,hm⟩
 have m9:=hm.size
 refine ⟨_,rfl,hm.mono aW,(fun _=>rfl),?_⟩
 intro c8 hr
 have n5:=hr.size
 have i8:=hid ((qwr.widen (R':=(fun k=>(R k)∨(New c6 c7 k))) (fun _ h=>h) (C0 _)).mod hr bH)
 have i9:=hid (g9.out.goM hm hr iA)
 clear g9 hm hr Z act E qwr i7
 refine QChain.go fun Z act E=>?_
 refine Aj (args:=#[.pointer (some ⟨g,0,none⟩),.int .i64 x.rn]) rfl (Aa rfl) rfl E6 (Ar (E.d 3) (E.d 5)) (B3 i8.out HOK.o.2.1 aF) ?_
 rintro e c9 ⟨rfl,qwr,hm⟩
 have n6:=hm.size
 refine ⟨_,rfl,hm.mono bX,(fun _=>rfl),?_⟩
 intro d5 hr
 have n7:=hr.size
 have Hx9:=hid ((qwr.widen (R':=(fun k=>(R k)∨(New c6 c7 k)∨(New c8 c9 k))) aP (C0 _)).mod hr bG)
 have j0:=hid (i9.out.goM hm hr bY)
 clear i9 hm hr Z act E qwr i8
 refine QChain.go fun Z act E=>?_
 refine Aj (args:=#[.pointer (some ⟨g,0,none⟩),.int .i64 (IntKind.i64.wrap (x.vl+1))]) rfl (Aa rfl) rfl E6 (Ar (E.d 6) (E.d 9)) (B3 Hx9.o (I64_wrap _) aF) ?_
 rintro e d6 ⟨rfl,qwr,hm⟩
 have n8:=hm.size
 refine ⟨_,rfl,hm.mono fO,(fun _=>rfl),?_⟩
 intro d9 hr
 have o5:=hr.size
 have j3:=hid ((qwr.widen (R':=(fun k=>(R k)∨(New c6 c7 k)∨(New c8 c9 k)∨(New d5 d6 k))) aP (C0 _)).mod hr bT)
 have j4:=hid (j0.out.goM hm hr dK)
 clear j0 hm hr Z act E qwr Hx9
 refine QChain.go fun Z act E=>?_
 refine Aj (args:=#[.pointer (some ⟨g,0,none⟩),.int .i64 x.rp]) rfl (Aa rfl) rfl E6 (Ar (E.d 10) (E.d 12)) (B3 j3.out HOK.o.2.2.2.1 aF) ?_
 rintro e g5 ⟨rfl,qwr,hm⟩
 have o6:=hm.size
 refine ⟨_,rfl,hm.mono (by intro k hk h;rcases h with h|h|h|h<;>first|omega|exact Or.inl ⟨aZ,Or.inr (Or.inr (Or.inr (⟨rfl,h⟩)))⟩),(fun _=>rfl),?_⟩
 intro g6 hr
 have o7:=hr.size
 have j5:=hid ((qwr.widen (R':=(fun k=>(R k)∨(New c6 c7 k)∨(New c8 c9 k)∨(New d5 d6 k)∨(New d9 g5 k))) aP (C0 _)).mod hr gM)
 have d7:=hid (j4.out.goM hm hr (by intro k h0 h2;rcases h2 with h2|h2|h2|h2<;>first|omega|exact h2))
 clear j4 hm hr Z act E qwr j3
 refine QChain.nil fun vs hl hzz hrows hne=>?_
 obtain ⟨Z,hYZ,hZb,hV⟩:=hzz
 have f0:=fvi hV hl 0
 have f3:=fvi hV hl 3
 have f6:=fvi hV hl 6
 have f10:=fvi hV hl 10
 have f13:=fvi hV hl 13
 rw [show vs=[gw vs 0,gw vs 1,gw vs 2,gw vs 3,gw vs 4,gw vs 5,gw vs 6,gw vs 7,gw vs 8,gw vs 9,gw vs 10,gw vs 11,gw vs 12,gw vs 13] from (Bi hl).trans rfl]
 have ha0:=HA0.o
 subst ha0
 clear HA0 hV hYZ hZb hsz0 hrows hne c4 c3
 simp only [Au,Act.put,sIB,sCZ,sCS,f0,f3,f6,f10,f13]
 clear hl f0 f3 f6 f10 f13
 go_upto_region 2 with (fail)
 refine Ab 26 [18,19,20,21] [0,1,2,3] (fun a0 HA0=>?_)
 have c4:=ev HA0 0 rfl
 have c3:=ev HA0 3 rfl
 refine qmo rfl c4 ?_
 refine qfd rfl 4 D4 c3 ?_
 refine QSeq.pure rfl _ (fun E=>Ak rfl C7 rfl (off:=4) (cs:=[.int .i64 x.ba.ep,.int .u64 (x.ba.tm:Nat),v_ps,v_os,v_ts]) aE (E.d 1 0) (AK (HB3.o.mod d7.out aH) rfl)) ?_
 refine QSeq.call rfl rfl Tryz.func108 (PutBa_Q _ R2 _ _ _ x.ba _ j5.out eI ⟨_,_,_,rfl,HOK.o.2.2.2.2.1,(j8.out.mod d7.out aJ),(j9.out.mod d7.out aJ),(l7.out.mod d7.out aJ)⟩ aU dX aF) (fun E=>Ar (E.d 0 2) (E.d 2 0)) ?_
 rintro e d8 ⟨rfl,qwr,hm⟩
 refine ⟨_,rfl,?_⟩
 have j6:=hid (qwr.widen (R':=(fun k=>(R k)∨(New c6 c7 k)∨(New c8 c9 k)∨(New d5 d6 k)∨(New d9 g5 k)∨(New g6 d8 k))) aP (C0 _))
 have o8:=hm.size
 have j7:=hid (show Mod (fun k=>(R k)∨(New c6 c7 k)∨(New c8 c9 k)∨(New d5 d6 k)∨(New d9 g5 k)) g6 d8 from hm)
 clear hm
 clear qwr j5
 refine qe ?_
 clear HA0 c4 c3 a0
 go_upto_region 3 with (fail)
 refine Ab 26 [22,23,24,25] [0,1,2,3] (fun a0 HA0=>?_)
 have c4:=ev HA0 0 rfl
 have c3:=ev HA0 3 rfl
 refine qmo rfl c4 ?_
 refine qfd rfl 9 D4 c3 ?_
 refine QSeq.pure rfl _ (fun E=>Ak rfl Tryz.underlying27 rfl (off:=9) (cs:=[.int .i64 x.sb,.int .i64 x.mr]) aE (E.d 1 0) (AK ((HB3.o.mod d7.out aH).mod j7.out (by intro h2;rcases h2 with h2|h2|h2|h2|h2<;>first|omega|(have hb:=HBR.o _ h2;omega))) rfl)) ?_
 refine QSeq.call rfl rfl Tryz.func131 (PutSig_Q j6.out gH HOK.o.2.2.2.2.2.1 HOK.o.2.2.2.2.2.2 aF) (fun E=>Ar (E.d 0 2) (E.d 2 0)) ?_
 rintro e g7 ⟨rfl,qwr,hm⟩
 refine ⟨_,rfl,?_⟩
 have l8:=hid (qwr.widen (R':=(fun k=>(R k)∨(New c6 c7 k)∨(New c8 c9 k)∨(New d5 d6 k)∨(New d9 g5 k)∨(New g6 d8 k)∨(New d8 g7 k))) aP (C0 _))
 have o9:=hm.size
 have m7:=hid (show Mod (fun k=>(R k)∨(New c6 c7 k)∨(New c8 c9 k)∨(New d5 d6 k)∨(New d9 g5 k)∨(New g6 d8 k)) d8 g7 from hm)
 clear hm
 clear qwr j6
 refine qe ?_
 clear HA0 c4 c3 a0
 go_wp2
 go_end0
 have hq:=(l8.out.widen (R':=(fun k=>R k∨New w g7 k)) gN (C0 _))
 simp only [C2] at hq
 exact ⟨rfl,by simpa only [prB,C2] using hq,(((HM0.o.trans d7.out iA).trans j7.out eB).trans m7.out gB)⟩
open Go.Proofs renaming Tryz.func109→va',Tryz.ntmps109→vb',Tryz.underlying57→vc',Tryz.underlying49→vf',Tryz.func103→vi' in
open Go.Proofs.YtnaoeginonpicaaGreat renaming vtB→vd',VtR→ve',PutVt_Q→vj' in
open Go.Gv renaming z'4→vg',z'5→vh' in
set_option maxHeartbeats 4000000 in
theorem PutList_Vt:PutsL VtR 109 103 vtB:=
 fm2'
/-- a decided round -/
structure Dc where
 ep:Int
 rn:Int
 ba:Ba
 l:List Vt
abbrev Dc.cells (x:Dc) (v_ps v_os v_ts v_l:Value):List Value:=[.int .i64 x.ep,.int .i64 x.rn,.int .i64 x.ba.ep,.int .u64 (x.ba.tm:Nat),v_ps,v_os,v_ts,v_l]
def Dc.OK (x:Dc):Prop:=I64 x.ep∧I64 x.rn∧x.ba.OK
def Dc.rd (R:Nat→Prop) (w:World) (cs:List Value) (x:Dc):Prop:=∃ v_ps v_os v_ts v_l,cs=x.cells v_ps v_os v_ts v_l∧x.OK∧RdS PmR R w v_ps x.ba.ps∧RdS OpR R w v_os x.ba.os∧RdS TbR R w v_ts x.ba.ts∧RdS VtR R w v_l x.l
def DcR:Rep Dc where
 sz:=8
 pos:=by decide
 rd:=Dc.rd
 len h:=by
  obtain ⟨v_ps,v_os,v_ts,v_l,rfl,hok,h0,h1,h2,h3⟩:=h
  rfl
 one h:=by
  obtain ⟨v_ps,v_os,v_ts,v_l,rfl,hok,h0,h1,h2,h3⟩:=h
  obtain ⟨_,_,e_ps⟩:=h0.shape
  obtain ⟨_,_,e_os⟩:=h1.shape
  obtain ⟨_,_,e_ts⟩:=h2.shape
  obtain ⟨_,_,e_l⟩:=h3.shape
  subst e_ps e_os e_ts e_l
  intro u hu
  simp only [Dc.cells,List.mem_append,D1,C9,or_false,List.mem_map] at hu
  rcases hu with rfl|rfl|rfl|rfl|rfl|rfl|rfl|rfl<;>rfl
 keep h hk:=by
  obtain ⟨v_ps,v_os,v_ts,v_l,rfl,hok,h0,h1,h2,h3⟩:=h
  exact ⟨_,_,_,_,rfl,hok,h0.keep hk,h1.keep hk,h2.keep hk,h3.keep hk⟩
 wid h hs:=by
  obtain ⟨v_ps,v_os,v_ts,v_l,rfl,hok,h0,h1,h2,h3⟩:=h
  exact ⟨_,_,_,_,rfl,hok,h0.widen hs,h1.widen hs,h2.widen hs,h3.widen hs⟩
 tight h:=by
  obtain ⟨v_ps,v_os,v_ts,v_l,rfl,hok,h0,h1,h2,h3⟩:=h
  exact ⟨_,_,_,_,rfl,hok,h0.tight,h1.tight,h2.tight,h3.tight⟩
/-- a message -/
structure Mg where
 kd:Int
 fr:Int
 «to»:Int
 cm:Cm
 st:St
 ce:Ce
 ak:St
 ep:Int
 rn:Int
 tm:Nat
 pm:Pm
 pr:Pr
 vt:Vt
 ix:Int
 en:En
 op:Op
 dn:Dn
 rp:ByteArray
 dc:Dc
/-- its cells, part by part -/
def Mg.segs (x:Mg) (c5 c10 c11 c15 c18:List Value):List (List Value):=[[.int .i64 x.kd],[.int .i64 x.fr],[.int .i64 x.to],x.cm.cells,x.st.cells,c5,x.ak.cells,[.int .i64 x.ep],[.int .i64 x.rn],[.int .u64 (x.tm:Nat)],c10,c11,x.vt.cells,[.int .i64 x.ix],x.en.cells,c15,x.dn.cells,[.string x.rp],c18]
structure Mg.OK (x:Mg):Prop where
 kd:I64 x.kd
 fr:I64 x.fr
 «to»:I64 x.to
 cm:x.cm.OK
 st:x.st.OK
 ak:x.ak.OK
 ep:I64 x.ep
 rn:I64 x.rn
 tm:x.tm < U64
 vt:x.vt.OK
 ix:I64 x.ix
 en:x.en.OK
 dn:x.dn.OK
abbrev mgN:List Nat:=[1,1,1,37,38,38,38,1,1,1,6,11,38,1,35,34,4,1,8]
theorem AF {x:Mg} (h:x.OK) {c5 c10 c11 c15 c18:List Value} (h5:c5.length=38) (h10:c10.length=6) (h11:c11.length=11) (h15:c15.length=34) (h18:c18.length=8):(x.segs c5 c10 c11 c15 c18).map List.length=mgN:=by
 simp only [Mg.segs,C5,C6,h5,h10,h11,h15,h18,Cm.len h.cm.2.1,St.len h.st,St.len h.ak,Vt.len h.vt,En.len h.en,D6,D5]
def Mg.rd (R:Nat→Prop) (w:World) (cs:List Value) (x:Mg):Prop:=∃ c5 c10 c11 c15 c18,cs=(x.segs c5 c10 c11 c15 c18).flatten∧x.OK∧CeR.rd R w c5 x.ce∧PmR.rd R w c10 x.pm∧PrR.rd R w c11 x.pr∧OpR.rd R w c15 x.op∧DcR.rd R w c18 x.dc
theorem Mg.lns {x:Mg} (h:x.OK) {R R2 R3 R4 R5:Nat→Prop} {w w2 w3 w4 w5:World} {c5 c10 c11 c15 c18:List Value} (h5:CeR.rd R w c5 x.ce) (h10:PmR.rd R2 w2 c10 x.pm) (h11:PrR.rd R3 w3 c11 x.pr) (h15:OpR.rd R4 w4 c15 x.op) (h18:DcR.rd R5 w5 c18 x.dc):(x.segs c5 c10 c11 c15 c18).map List.length=mgN:=
 AF h (CeR.len h5) (PmR.len h10) (PrR.len h11) (OpR.len h15) (DcR.len h18)
theorem Bb (l:List (List Value)):l.flatten.length=(l.map List.length).sum:=by rw [List.length_flatten]
def MgR:Rep Mg where
 sz:=295
 pos:=by decide
 rd:=Mg.rd
 len h:=by
  obtain ⟨c5,c10,c11,c15,c18,rfl,hok,h5,h10,h11,h15,h18⟩:=h
  rw [Bb,Mg.lns hok h5 h10 h11 h15 h18]
  rfl
 one h:=by
  obtain ⟨c5,c10,c11,c15,c18,rfl,hok,h5,h10,h11,h15,h18⟩:=h
  intro u hu
  obtain ⟨s,hs,hv⟩:=List.mem_flatten.1 hu
  simp only [Mg.segs,D1,C9,or_false] at hs
  rcases hs with rfl|rfl|rfl|rfl|rfl|rfl|rfl|rfl|rfl|rfl|rfl|rfl|rfl|rfl|rfl|rfl|rfl|rfl|rfl
  ·rw [List.mem_singleton] at hv;rw [hv];rfl
  ·rw [List.mem_singleton] at hv;rw [hv];rfl
  ·rw [List.mem_singleton] at hv;rw [hv];rfl
  ·exact Cm_one _ _ hv
  ·exact St.one _ _ hv
  ·exact CeR.one h5 _ hv
  ·exact St.one _ _ hv
  ·rw [List.mem_singleton] at hv;rw [hv];rfl
  ·rw [List.mem_singleton] at hv;rw [hv];rfl
  ·rw [List.mem_singleton] at hv;rw [hv];rfl
  ·exact PmR.one h10 _ hv
  ·exact PrR.one h11 _ hv
  ·exact Vt.one _ _ hv
  ·rw [List.mem_singleton] at hv;rw [hv];rfl
  ·exact En.one _ _ hv
  ·exact OpR.one h15 _ hv
  ·exact Dn.one _ _ hv
  ·rw [List.mem_singleton] at hv;rw [hv];rfl
  ·exact DcR.one h18 _ hv
 keep h hk:=by
  obtain ⟨c5,c10,c11,c15,c18,rfl,hok,h5,h10,h11,h15,h18⟩:=h
  exact ⟨_,_,_,_,_,rfl,hok,CeR.keep h5 hk,PmR.keep h10 hk,PrR.keep h11 hk,OpR.keep h15 hk,DcR.keep h18 hk⟩
 wid h hs:=by
  obtain ⟨c5,c10,c11,c15,c18,rfl,hok,h5,h10,h11,h15,h18⟩:=h
  exact ⟨_,_,_,_,_,rfl,hok,CeR.wid h5 hs,PmR.wid h10 hs,PrR.wid h11 hs,OpR.wid h15 hs,DcR.wid h18 hs⟩
 tight h:=by
  obtain ⟨c5,c10,c11,c15,c18,rfl,hok,h5,h10,h11,h15,h18⟩:=h
  exact ⟨_,_,_,_,_,rfl,hok,CeR.tight h5,PmR.tight h10,PrR.tight h11,OpR.tight h15,DcR.tight h18⟩
theorem Cs.segA {w:World} {g:Nat} {T:TypeId} {segs:List (List Value)} (h:Cs w g segs.flatten.toArray T) {ns:List Nat} (hn:segs.map List.length=ns) (i:Nat) {seg:List Value} (hs:segs[i]? = some seg) {off o k:Nat} {M:List Value} (ho:(ns.take i).sum=o) (hk:off=o+k) (hM:(seg.drop k).take M.length=M):∀ j u,M[j]? = some u→w.cell? ⟨g,off+j,none⟩=some u:=by
 intro j u hu
 subst hk
 rw [Nat.add_assoc]
 refine Cs.seg h hn i hs ho (k+j) u ?_
 rw [← hM,List.getElem?_take] at hu
 split at hu
 ·rw [List.getElem?_drop] at hu;exact hu
 ·cases hu
/-- what a message's kind names -/
def dcB (d:Dc):List Int:=encI d.ep ++ encI d.rn ++ baB d.ba ++ listB vtB d.l
def A3 (x:Mg):List Int:=
 if x.kd=1 then cmB x.cm else
 if x.kd=2 then stB x.st else
 if x.kd=3 then ceB x.ce else
 if x.kd=4 then stB x.ak else
 if x.kd=5 then encI x.ep ++ encI x.rn ++ encN x.tm else
 if x.kd=6 then pmB x.pm else
 if x.kd=7 then prB x.pr else
 if x.kd=8 then vtB x.vt else
 if x.kd=9 then encI x.ix ++ enB x.en else
 if x.kd=10 then opB x.op else
 if x.kd=11 then encI x.ix else
 if x.kd=12 then dnB x.dn else
 if x.kd=13 then encI x.ix ++ (encN (Bd x.rp).length ++ Bd x.rp) else
 if x.kd=14 then dcB x.dc else []
theorem Bj {a b:Int} (h:a=b):(a == b)=true:=by simp [h]
theorem Bk {a b:Int} (h:¬ a=b):(a == b)=false:=by simp [h]
def okKd (k:Int):Bool:=decide (1≤k∧k≤14)
def Bg (x:Mg):List Int:=encI x.kd ++ encI x.fr ++ encI x.to ++ A3 x
def packs (x:Mg):Bool:=okKd x.kd && decide ((Bg x).length≤65536)
def zH32:List Int:=List.replicate 32 0
def zCm:Cm:=⟨0,0,zH32,0,0,0⟩
def zSt:St:=⟨0,0,0,zH32,0,0,0⟩
def zPr:Pr:=⟨0,0,0,0,zBa,0,0⟩
def zVt:Vt:=⟨0,0,0,0,zH32,0,0⟩
def zEn:En:=⟨0,0,zH32,0⟩
def zOp:Op:=⟨0,[],zH32⟩
def zDn:Dn:=⟨0,0,0,0⟩
def zDc:Dc:=⟨0,0,zBa,[]⟩
def zMg:Mg:=⟨0,0,0,zCm,zSt,zCe,zSt,0,0,0,zPm,zPr,zVt,0,zEn,zOp,zDn,ByteArray.empty,zDc⟩
theorem zCm_OK:zCm.OK:=⟨⟨A9,A9,A9,A9,A9⟩,HK_zero⟩
theorem zSt_OK:zSt.OK:=⟨A9,A9,A9,HK_zero,U64_0,A9,A9⟩
theorem zVt_OK:zVt.OK:=⟨A9,A9,A9,A9,HK_zero,A9,A9⟩
theorem zEn_OK:zEn.OK:=⟨A9,A9,HK_zero,U64_0⟩
theorem zDn_OK:zDn.OK:=⟨A9,A9,A9,A9⟩
theorem zMg_OK:zMg.OK:=⟨A9,A9,A9,zCm_OK,zSt_OK,zSt_OK,A9,A9,U64_0,zVt_OK,A9,zEn_OK,zDn_OK⟩
abbrev zS:Value:=.slice none 0 0
def mg0 (k f t:Int):Mg:={ zMg with kd:=k,fr:=f,«to»:=t }
/-- a message's cells with nothing in it but its kind, whom it is from and to -/
def mg0C (k f t:Int):List Value:=((mg0 k f t).segs (zCe.cells zS) (zPm.cells zS) (zPr.cells zS zS zS) (zOp.cells zS) (zDc.cells zS zS zS zS)).flatten
theorem mg0_rd {k f t:Int} (hk:I64 k) (hf:I64 f) (ht:I64 t) (R:Nat→Prop) (w:World):MgR.rd R w (mg0C k f t) (mg0 k f t):=
 ⟨_,_,_,_,_,rfl,{ zMg_OK with kd:=hk,fr:=hf,«to»:=ht },zCe_rd _ _,zPm_rd _ _,⟨_,_,_,rfl,⟨A9,A9,A9,A9,zBa_OK,A9,A9⟩,RdS.nil _ _ _,RdS.nil _ _ _,RdS.nil _ _ _⟩,
  ⟨_,rfl,⟨A9,HK_zero⟩,⟨⟨(fun b hb=>by cases hb),Rd.nil _ _⟩,(fun h=>absurd h (show ¬ 0 < ([]:List Int).length by decide)),C0 _⟩⟩,⟨_,_,_,_,rfl,⟨A9,A9,zBa_OK⟩,RdS.nil _ _ _,RdS.nil _ _ _,RdS.nil _ _ _,RdS.nil _ _ _⟩⟩
theorem lay_sub {segs:List (List Value)} {ns:List Nat} (hn:segs.map List.length=ns) (i:Nat) {seg:List Value} (hs:segs[i]? = some seg) {off o k n:Nat} (ho:(ns.take i).sum=o) (hk:off=o+k) {vs:List Value} (hv:vs.length=n) (hl:k+n≤seg.length) :
 lay segs.flatten.toArray off vs=((segs.set i (seg.take k ++ (vs ++ seg.drop (k+n)))).flatten).toArray:=by
 subst hn hk hv
 obtain ⟨a,b,h1,h2,h3⟩:=seg_split segs i hs
 have e1:seg=seg.take k ++ ((seg.drop k).take vs.length ++ seg.drop (k+vs.length)):=by
  rw [← List.drop_drop,List.take_append_drop,List.take_append_drop]
 have h4:=lay_mid (a ++ seg.take k) ((seg.drop k).take vs.length) (seg.drop (k+vs.length) ++ b) vs (by rw [List.length_take,List.length_drop];omega)
 have e2:(a ++ seg.take k).length=o+k:=by rw [C3,List.length_take,h2,ho];omega
 rw [e2] at h4
 rw [h1,h3]
 have e3:a ++ (seg ++ b)=(a ++ seg.take k) ++ ((seg.drop k).take vs.length ++ (seg.drop (k+vs.length) ++ b)):=by
  conv=>lhs;rw [e1]
  simp only [C2]
 rw [e3,h4]
 simp only [C2]
theorem ex_lenStr {P:Program} {o:Oper} {a:Act} {w:World} {t:TypeId} {m:Operand} {s:ByteArray} (ho:o.op=Op.call { callee:=Callee.builtin Builtin.len,args:=#[m],argTypes:=#[t] }) (hm:a.eval m=.string s) (ht:P.underlying t=some .string):(execOp a.eval o).run P w=.ok (.value (.int .i64 ((s.size:Nat):Int))) w:=by
 simp [execOp,ho,resolve,invoke,builtin,hm,Builtin.len_,run_underlying ht,goInt,Result.andThen]
theorem ex_sliceStr {P:Program} {o:Oper} {a:Act} {w:World} {T:TypeId} {x y:Operand} {s:ByteArray} {k:IntKind} {i:Nat} (ho:o.op=.slice T x none (some y) none) (hu:P.underlying T=some .string) (hx:a.eval x=.string s) (hy:a.eval y=.int k (i:Int)) (hi:i≤s.size):(execOp a.eval o).run P w=.ok (.value (.string (s.extract 0 i))) w:=by
 unfold execOp
 simp [ho,hx,hy,Instr.sliceAt,Instr.slice,Instr.sliceBounds,Instr.sliceBound,asIntOf,run_underlying hu,hi]
/-- what the laws leave of a message -/
def cutVl (v:Int):Int:=if v=9223372036854775807 then 0 else v
def cutRp (s:ByteArray):ByteArray:=if 260 < s.size then s.extract 0 260 else s
def smallM (x:Mg):Mg:={ x with ce:=cutCe x.ce,pm:=cutPm x.pm,pr:={ x.pr with ba:=cutBa x.pr.ba,vl:=cutVl x.pr.vl },op:=cutOp x.op,rp:=cutRp x.rp,dc:={ x.dc with ba:=cutBa x.dc.ba,l:=x.dc.l.take 5 } }
theorem info_VtD:(Tryz.prog.info? 49).map (fun i=>(i.zero,i.size,i.bytes))=some (some (.agg zq4.toArray),38,80):=by kernel_rfl
open Go.Proofs renaming Tryz.func75→va',Tryz.ntmps75→vb',Tryz.underlying57→vg' in
open Go.Proofs.YtnaoeginonpicaaGreat renaming VtR→vc',info_VtD→vh' in
open Go.Gv renaming n'49→vd',z'5→ve',n'80→vf' in
set_option maxHeartbeats 2000000 in
theorem Copy_Vt:CopiesS VtR 49 75:=
 fm10'
open Go.Proofs renaming Tryz.func39→va',Tryz.ntmps39→vb',Tryz.underlying57→vc',Tryz.func75→vd' in
open Go.Proofs.YtnaoeginonpicaaGreat renaming Copy_Vt→ve' in
set_option maxHeartbeats 2000000 in
theorem Cut_Vt:CutsS VtR 49 39:=
 fm1'
set_option maxHeartbeats 8000000 in
theorem Small_c:CutR MgR 7 smallM:=by
 intro R2 x cs w hx hB2
 obtain ⟨c5,c10,c11,c15,c18,rfl,hok,h5,h10,h11,h15,h18⟩:=hx
 have HC5:=hid (CeR.len h5)
 have HC10:=hid (PmR.len h10)
 have HC15:=hid (OpR.len h15)
 have HLN:=hid (Mg.lns hok h5 h10 h11 h15 h18)
 obtain ⟨p_ps,p_os,p_ts,rfl,hokp,hp0,hp1,hp2⟩:=h11
 obtain ⟨d_ps,d_os,d_ts,d_l,rfl,hokd,hd0,hd1,hd2,hd3⟩:=h18
 obtain ⟨v_o,rfl,hoko,ho0⟩:=h15
 have H5:=B8 h5
 have H10:=B8 h10
 have H15:=B8 ho0
 have HP0:=B8 hp0
 have HP1:=B8 hp1
 have HP2:=B8 hp2
 have HD0:=B8 hd0
 have HD1:=B8 hd1
 have HD2:=B8 hd2
 have HD3:=B8 hd3
 have HBT:=B8 hB2
 have HOK:=B8 hok
 have HOP:=B8 hokp
 have HOD:=B8 hokd
 have HOO:=B8 hoko
 clear hB2 hok hokp hokd hoko h5 h10 ho0 hp0 hp1 hp2 hd0 hd1 hd2 hd3
 go_enter Tryz.func7,Tryz.ntmps7
 go_upto_region 1 with (fail)
 obtain ⟨w1,hw1⟩:∃ zz,zz=((w.alloc (.cells ((Mg.segs x c5 c10 (x.pr.cells p_ps p_os p_ts) (x.op.cells v_o) (x.dc.cells d_ps d_os d_ts d_l)).flatten:List Value).toArray 61)).alloc (.cells ((mg0C 0 0 0):List Value).toArray 61)):=⟨_,rfl⟩
 change Code.wp _ _ _ _ ((w.alloc (.cells ((Mg.segs x c5 c10 (x.pr.cells p_ps p_os p_ts) (x.op.cells v_o) (x.dc.cells d_ps d_os d_ts d_l)).flatten:List Value).toArray 61)).alloc (.cells ((mg0C 0 0 0):List Value).toArray 61))
 rw [← hw1]
 have HB1:=hid (show Cs w1 (w.heap.size) ((Mg.segs x c5 c10 (x.pr.cells p_ps p_os p_ts) (x.op.cells v_o) (x.dc.cells d_ps d_os d_ts d_l)).flatten:List Value).toArray 61 by rw [hw1];exact (Cs.new _ _ _).alloc _)
 have HB2:=hid (show Cs w1 (w.heap.size+1) ((mg0C 0 0 0):List Value).toArray 61 by rw [hw1];exact Cs_newN _ _ _ bA)
 have hm:Mod (fun _=>False) w w1:=by rw [hw1];exact ((Mod.refl _ _).alloc _).alloc _
 have HM0:=hid (show Mod (fun _=>False) w w1 from hm.mono iB)
 have hs1:w1.heap.size=w.heap.size+2:=by rw [hw1];simp
 have o6:=hid (H5.o.mod hm iA)
 clear H5
 have o7:=hid (H10.o.mod hm iA)
 clear H10
 have aq:=hid (H15.o.mod hm iA)
 clear H15
 have o8:=hid (HP0.o.mod hm iA)
 clear HP0
 have o9:=hid (HP1.o.mod hm iA)
 clear HP1
 have p5:=hid (HP2.o.mod hm iA)
 clear HP2
 have p6:=hid (HD0.o.mod hm iA)
 clear HD0
 have Hx8:=hid (HD1.o.mod hm iA)
 clear HD1
 have Hx9:=hid (HD2.o.mod hm iA)
 clear HD2
 have Hx10:=hid (HD3.o.mod hm iA)
 clear HD3
 clear hw1 hm
 go_upto_region 1 with (fail)
 generalize ha0:Act.mk _ _=a0
 have c3:a0.eval (.tmp 1)=.pointer (some ⟨w.heap.size,0,none⟩):=by rw [← ha0];rfl
 have hsz0:a0.tmps.size=50:=by rw [← ha0];rfl
 have HA0:=hid ha0
 clear ha0
 refine Bc 50 hsz0 [3,4,5,6,7,8,9,10,11,12,13,14,15,16,17,65,18,67,19,20,70,21,22,73] (fun k=>(k=w.heap.size)) (fun k j=>(k=4∧((j=w.heap.size)))∨(k=5∧((j=w.heap.size)))∨(k=6∧((j=w.heap.size)))∨(k=7∧((j=w.heap.size)))) (by intro k j h;(try dsimp only at h ⊢);omega) [qi (.pointer (some ⟨w.heap.size,78,none⟩)),qi (.agg (c5).toArray),qv 0,qi (.pointer (some ⟨w.heap.size,157,none⟩)),qi (.agg (c10).toArray),qv 1,qi (.pointer (some ⟨w.heap.size,163,none⟩)),qi (.pointer (some ⟨w.heap.size,167,none⟩)),qi (.agg #[.int .i64 x.pr.ba.ep,.int .u64 (x.pr.ba.tm:Nat),p_ps,p_os,p_ts]),qv 2,qi (.pointer (some ⟨w.heap.size,287,none⟩)),qi (.pointer (some ⟨w.heap.size,289,none⟩)),qi (.agg #[.int .i64 x.dc.ba.ep,.int .u64 (x.dc.ba.tm:Nat),d_ps,d_os,d_ts]),qv 3,qi (.pointer (some ⟨w.heap.size,78,none⟩)),qv 4,qi (.pointer (some ⟨w.heap.size,157,none⟩)),qv 5,qi (.pointer (some ⟨w.heap.size,163,none⟩)),qi (.pointer (some ⟨w.heap.size,167,none⟩)),qv 6,qi (.pointer (some ⟨w.heap.size,287,none⟩)),qi (.pointer (some ⟨w.heap.size,289,none⟩)),qv 7] ⟨Ac,Ac,Ah,Ac,Ac,Ah,Ac,Ac,Ac,Ah,Ac,Ac,Ac,Ah,Ac,Ah,Ac,Ah,Ac,Ac,Ah,Ac,Ac,Ah,trivial⟩ [2,5,9,13,15,17,20,23] ⟨?_,?_,?_,?_,?_,?_,?_,?_,?_,?_,?_,?_,?_,?_,?_,?_,?_,?_,?_,?_,?_,?_,?_,?_,trivial⟩ ?_
 ·exact stq (fun E=>Ae rfl C1 rfl aE (E.v c3))
 ·refine Ay rfl rfl rfl fun _ _ _ _ _ _ hm0 _ _ hd hub _=>?_
  have h0:=hd ⟨0,.data⟩ bA rfl _ rfl
  refine Bl rfl (Aa rfl) (Ak rfl Tryz.underlying35 rfl (off:=78) (cs:=(c5)) (by rw [HC5.o];kernel_rfl) h0 (Cs.seg (HB1.o.mod hm0 dD) HLN.o 5 rfl rfl)) QE.refl ?_
  rfl
 ·exact Ad rfl
 ·exact stq (fun E=>Ae rfl C1 rfl aE (E.v c3))
 ·refine Ay rfl rfl rfl fun _ _ _ _ _ _ hm0 _ _ hd hub _=>?_
  have h3:=hd ⟨3,.data⟩ bA rfl _ rfl
  refine Bl rfl (Aa rfl) (Ak rfl Tryz.underlying40 rfl (off:=157) (cs:=(c10)) (by rw [HC10.o];kernel_rfl) h3 (Cs.seg (HB1.o.mod hm0 dD) HLN.o 10 rfl rfl)) QE.refl ?_
  rfl
 ·exact Ad rfl
 ·exact stq (fun E=>Ae rfl C1 rfl aE (E.v c3))
 ·exact stq (fun E=>Ae rfl D4 rfl aE (E.d 6))
 ·refine Ay rfl rfl rfl fun _ _ _ _ _ _ hm0 _ _ hd hub _=>?_
  have h7:=hd ⟨7,.data⟩ bA rfl _ rfl
  refine Bl rfl (Aa rfl) (Ak rfl C7 rfl (off:=167) (cs:=[.int .i64 x.pr.ba.ep,.int .u64 (x.pr.ba.tm:Nat),p_ps,p_os,p_ts]) aE h7 (Cs.segA (HB1.o.mod hm0 dD) HLN.o 11 rfl (o:=163) (k:=4) rfl rfl rfl)) QE.refl ?_
  rfl
 ·exact Ad rfl
 ·exact stq (fun E=>Ae rfl C1 rfl aE (E.v c3))
 ·exact stq (fun E=>Ae rfl D9 rfl aE (E.d 10))
 ·refine Ay rfl rfl rfl fun _ _ _ _ _ _ hm0 _ _ hd hub _=>?_
  have h11:=hd ⟨11,.data⟩ bA rfl _ rfl
  refine Bl rfl (Aa rfl) (Ak rfl C7 rfl (off:=289) (cs:=[.int .i64 x.dc.ba.ep,.int .u64 (x.dc.ba.tm:Nat),d_ps,d_os,d_ts]) aE h11 (Cs.segA (HB1.o.mod hm0 dD) HLN.o 18 rfl (o:=287) (k:=2) rfl rfl rfl)) QE.refl ?_
  rfl
 ·exact Ad rfl
 ·exact stq (fun E=>Ae rfl C1 rfl aE (E.v c3))
 ·exact Ad rfl
 ·exact stq (fun E=>Ae rfl C1 rfl aE (E.v c3))
 ·exact Ad rfl
 ·exact stq (fun E=>Ae rfl C1 rfl aE (E.v c3))
 ·exact stq (fun E=>Ae rfl D4 rfl aE (E.d 18))
 ·exact Ad rfl
 ·exact stq (fun E=>Ae rfl C1 rfl aE (E.v c3))
 ·exact stq (fun E=>Ae rfl D9 rfl aE (E.d 21))
 ·exact Ad rfl
 intro ar hr
 have bk:=hr.size
 have j9:=hid (hr.new (S:=(fun k=>(k=w.heap.size))))
 have p7:=hid (HB1.o.mod hr aG)
 clear HB1
 clear hr
 refine QChain.go fun Z act E=>?_
 refine Aj (args:=#[.agg (c5).toArray]) rfl (Aa rfl) rfl Tryz.func36 (Ap (E.d 1)) (LCert_c R2 x.ce _ _ (o6.out.mod j9.out (sB HBT)) aU) ?_
 rintro e au ⟨cn5,rfl,qce,hm⟩
 have HLn5:=hid (CeR.len qce)
 have HOn5:=hid (CeR.one qce)
 have bl:=hm.size
 refine ⟨_,rfl,hm.mono iB,(fun _=>rfl),?_⟩
 intro av hr
 have bm:=hr.size
 have p8:=hid ((qce.widen (R':=(fun k=>(R2 k)∨(New ar au k))) (fun _ h=>h)).mod hr aB)
 have hmr:=Mod.after hm hr
 have p9:=hid (p7.out.mod hmr aG)
 clear p7
 clear hmr
 have l7:=hid (j9.out.go hm hr)
 clear j9 hm hr Z act E qce o6
 refine QChain.go fun Z act E=>?_
 refine Aj (args:=#[.agg (c10).toArray]) rfl (Aa rfl) rfl Tryz.func37 (Ap (E.d 4)) (LPromise_c R2 x.pm _ _ (o7.out.mod l7.out (sB HBT)) aU) ?_
 rintro e aw ⟨cn10,rfl,qpm,hm⟩
 have HLn10:=hid (PmR.len qpm)
 have HOn10:=hid (PmR.one qpm)
 have bn:=hm.size
 refine ⟨_,rfl,hm.mono iB,(fun _=>rfl),?_⟩
 intro l8 hr
 have bp:=hr.size
 have q6:=hid ((qpm.widen (R':=(fun k=>(R2 k)∨(New av aw k))) (fun _ h=>h)).mod hr aB)
 have hmr:=Mod.after hm hr
 have q7:=hid (p8.out.mod hmr aB)
 have q8:=hid (p9.out.mod hmr aG)
 clear p8 p9
 clear hmr
 have j4:=hid (l7.out.go hm hr)
 clear l7 hm hr Z act E qpm o7
 refine QChain.go fun Z act E=>?_
 refine Aj (args:=#[.agg #[.int .i64 x.pr.ba.ep,.int .u64 (x.pr.ba.tm:Nat),p_ps,p_os,p_ts]]) rfl (Aa rfl) rfl Tryz.func38 (Ap (E.d 8)) (LBatch_c R2 x.pr.ba _ _ ⟨_,_,_,rfl,HOP.o.2.2.2.2.1,(o8.out.mod j4.out (sB HBT)),(o9.out.mod j4.out (sB HBT)),(p5.out.mod j4.out (sB HBT))⟩ aU) ?_
 rintro e m7 ⟨cbe,rfl,qp0,hm⟩
 have HOe:=hid (BaR.one qp0)
 obtain ⟨e_ps,e_os,e_ts,rfl,hokb,qp0,qp1,qp2⟩:=qp0
 clear hokb
 have bq:=hm.size
 refine ⟨_,rfl,hm.mono iB,(fun _=>rfl),?_⟩
 intro m8 hr
 have br:=hr.size
 have q9:=hid ((qp0.widen (R':=(fun k=>(R2 k)∨(New l8 m7 k))) (fun _ h=>h)).mod hr aB)
 have r5:=hid ((qp1.widen (R':=(fun k=>(R2 k)∨(New l8 m7 k))) (fun _ h=>h)).mod hr aB)
 have r6:=hid ((qp2.widen (R':=(fun k=>(R2 k)∨(New l8 m7 k))) (fun _ h=>h)).mod hr aB)
 have hmr:=Mod.after hm hr
 have r7:=hid (q7.out.mod hmr aB)
 have r8:=hid (q6.out.mod hmr aB)
 have r9:=hid (q8.out.mod hmr aG)
 clear q7 q6 q8
 clear hmr
 have j5:=hid (j4.out.go hm hr)
 clear j4 hm hr Z act E qp0 qp1 qp2 o8 o9 p5
 refine QChain.go fun Z act E=>?_
 refine Aj (args:=#[.agg #[.int .i64 x.dc.ba.ep,.int .u64 (x.dc.ba.tm:Nat),d_ps,d_os,d_ts]]) rfl (Aa rfl) rfl Tryz.func38 (Ap (E.d 12)) (LBatch_c R2 x.dc.ba _ _ ⟨_,_,_,rfl,HOD.o.2.2,(p6.out.mod j5.out (sB HBT)),(Hx8.o.mod j5.out (sB HBT)),(Hx9.o.mod j5.out (sB HBT))⟩ aU) ?_
 rintro e m9 ⟨cbf,rfl,qd0,hm⟩
 have HOf:=hid (BaR.one qd0)
 obtain ⟨f_ps,f_os,f_ts,rfl,hokb,qd0,qd1,qd2⟩:=qd0
 clear hokb
 have bt:=hm.size
 refine ⟨_,rfl,hm.mono iB,(fun _=>rfl),?_⟩
 intro bu hr
 have bw:=hr.size
 have s0:=hid ((qd0.widen (R':=(fun k=>(R2 k)∨(New m8 m9 k))) (fun _ h=>h)).mod hr aB)
 have s5:=hid ((qd1.widen (R':=(fun k=>(R2 k)∨(New m8 m9 k))) (fun _ h=>h)).mod hr aB)
 have s6:=hid ((qd2.widen (R':=(fun k=>(R2 k)∨(New m8 m9 k))) (fun _ h=>h)).mod hr aB)
 have hmr:=Mod.after hm hr
 have s7:=hid (r7.out.mod hmr aB)
 have s8:=hid (r8.out.mod hmr aB)
 have t0:=hid (q9.out.mod hmr aB)
 have t1:=hid (r5.out.mod hmr aB)
 have t2:=hid (r6.out.mod hmr aB)
 have t8:=hid (r9.out.mod hmr aG)
 clear r7 r8 q9 r5 r6 r9
 clear hmr
 have t9:=hid (j5.out.go hm hr)
 clear j5 hm hr Z act E qd0 qd1 qd2 p6 Hx8 Hx9
 refine QChain.go fun Z act E=>?_
 refine Am rfl (Aa rfl) rfl t8.out (off:=78) (vs:=cn5) (by rw [HLn5.o];kernel_rfl) HOn5.o (by rw [D3,Bb,(AF HOK.o HC5.o HC10.o rfl (show (x.op.cells v_o).length=34 from HC15.o) rfl)];show 78+_≤295;rw [HLn5.o];decide) (E.d 14) (ec (chv (v:=.agg cn5.toArray) (E.d 2))) ?_
 intro bx qc0 hm
 have qB1:=qc0.eqv (b:=((Mg.segs x cn5 c10 (x.pr.cells p_ps p_os p_ts) (x.op.cells v_o) (x.dc.cells d_ps d_os d_ts d_l)).flatten:List Value).toArray) ((Bh (AF HOK.o HC5.o HC10.o rfl (show (x.op.cells v_o).length=34 from HC15.o) rfl) 5 (by rw [HLn5.o];rfl) rfl).trans rfl)
 clear qc0
 have bz:=hm.size
 refine ⟨hm.mono cG,(fun _=>rfl),?_⟩
 intro cd hr
 have cf:=hr.size
 have u0:=hid (qB1.mod hr aG)
 have hmr:=hm.two hr
 have u1:=hid (s7.out.mod hmr aB)
 have u2:=hid (s8.out.mod hmr aB)
 have u3:=hid (t0.out.mod hmr aB)
 have u4:=hid (t1.out.mod hmr aB)
 have u5:=hid (t2.out.mod hmr aB)
 have u6:=hid (s0.out.mod hmr aB)
 have u7:=hid (s5.out.mod hmr aB)
 have u9:=hid (s6.out.mod hmr aB)
 clear s7 s8 t0 t1 t2 s0 s5 s6
 clear hmr
 have v5:=hid (t9.out.goM hm hr iA)
 clear t9 hm hr Z act E qB1 t8
 refine QChain.go fun Z act E=>?_
 refine Am rfl (Aa rfl) rfl u0.out (off:=157) (vs:=cn10) (by rw [HLn10.o];kernel_rfl) HOn10.o (by rw [D3,Bb,(AF HOK.o HLn5.o HC10.o rfl (show (x.op.cells v_o).length=34 from HC15.o) rfl)];show 157+_≤295;rw [HLn10.o];decide) (E.d 16) (ec (chv (v:=.agg cn10.toArray) (E.d 5))) ?_
 intro cg qc0 hm
 have qB1:=qc0.eqv (b:=((Mg.segs x cn5 cn10 (x.pr.cells p_ps p_os p_ts) (x.op.cells v_o) (x.dc.cells d_ps d_os d_ts d_l)).flatten:List Value).toArray) ((Bh (AF HOK.o HLn5.o HC10.o rfl (show (x.op.cells v_o).length=34 from HC15.o) rfl) 10 (by rw [HLn10.o];rfl) rfl).trans rfl)
 clear qc0
 have ch:=hm.size
 refine ⟨hm.mono cG,(fun _=>rfl),?_⟩
 intro cj hr
 have ck:=hr.size
 have v6:=hid (qB1.mod hr aG)
 have hmr:=hm.two hr
 have v7:=hid (u1.out.mod hmr aB)
 have v8:=hid (u2.out.mod hmr aB)
 have x4:=hid (u3.out.mod hmr aB)
 have x5:=hid (u4.out.mod hmr aB)
 have x6:=hid (u5.out.mod hmr aB)
 have x7:=hid (u6.out.mod hmr aB)
 have x8:=hid (u7.out.mod hmr aB)
 have x9:=hid (u9.out.mod hmr aB)
 clear u1 u2 u3 u4 u5 u6 u7 u9
 clear hmr
 have y0:=hid (v5.out.goM hm hr iA)
 clear v5 hm hr Z act E qB1 u0
 refine QChain.go fun Z act E=>?_
 refine Am rfl (Aa rfl) rfl v6.out (off:=167) (vs:=[.int .i64 x.pr.ba.ep,.int .u64 (x.pr.ba.tm:Nat),e_ps,e_os,e_ts]) aE HOe.o (by rw [D3,Bb,(AF HOK.o HLn5.o HLn10.o rfl (show (x.op.cells v_o).length=34 from HC15.o) rfl)];show 167+5≤295;decide) (E.d 19) (ec (chv (v:=.agg #[.int .i64 x.pr.ba.ep,.int .u64 (x.pr.ba.tm:Nat),e_ps,e_os,e_ts]) (E.d 9))) ?_
 intro co qc0 hm
 have qB1:=qc0.eqv (b:=((Mg.segs x cn5 cn10 (x.pr.cells e_ps e_os e_ts) (x.op.cells v_o) (x.dc.cells d_ps d_os d_ts d_l)).flatten:List Value).toArray) ((lay_sub (AF HOK.o HLn5.o HLn10.o rfl (show (x.op.cells v_o).length=34 from HC15.o) rfl) 11 rfl (o:=163) (k:=4) (n:=5) rfl rfl rfl (by show 4+5≤11;decide)).trans rfl)
 clear qc0
 have cq:=hm.size
 refine ⟨hm.mono cG,(fun _=>rfl),?_⟩
 intro cr hr
 have ct:=hr.size
 have y5:=hid (qB1.mod hr aG)
 have hmr:=hm.two hr
 have y6:=hid (v7.out.mod hmr aB)
 have y7:=hid (v8.out.mod hmr aB)
 have y8:=hid (x4.out.mod hmr aB)
 have z0:=hid (x5.out.mod hmr aB)
 have z3:=hid (x6.out.mod hmr aB)
 have z4:=hid (x7.out.mod hmr aB)
 have z5:=hid (x8.out.mod hmr aB)
 have z6:=hid (x9.out.mod hmr aB)
 clear v7 v8 x4 x5 x6 x7 x8 x9
 clear hmr
 have z7:=hid (y0.out.goM hm hr iA)
 clear y0 hm hr Z act E qB1 v6
 refine QChain.go fun Z act E=>?_
 refine Am rfl (Aa rfl) rfl y5.out (off:=289) (vs:=[.int .i64 x.dc.ba.ep,.int .u64 (x.dc.ba.tm:Nat),f_ps,f_os,f_ts]) aE HOf.o (by rw [D3,Bb,(AF HOK.o HLn5.o HLn10.o rfl (show (x.op.cells v_o).length=34 from HC15.o) rfl)];show 289+5≤295;decide) (E.d 22) (ec (chv (v:=.agg #[.int .i64 x.dc.ba.ep,.int .u64 (x.dc.ba.tm:Nat),f_ps,f_os,f_ts]) (E.d 13))) ?_
 intro cw qc0 hm
 have qB1:=qc0.eqv (b:=((Mg.segs x cn5 cn10 (x.pr.cells e_ps e_os e_ts) (x.op.cells v_o) (x.dc.cells f_ps f_os f_ts d_l)).flatten:List Value).toArray) ((lay_sub (AF HOK.o HLn5.o HLn10.o rfl (show (x.op.cells v_o).length=34 from HC15.o) rfl) 18 rfl (o:=287) (k:=2) (n:=5) rfl rfl rfl (by show 2+5≤8;decide)).trans rfl)
 clear qc0
 have cx:=hm.size
 refine ⟨hm.mono cG,(fun _=>rfl),?_⟩
 intro ax hr
 have cy:=hr.size
 have n5:=hid (qB1.mod hr aG)
 have hmr:=hm.two hr
 have d9:=hid (y6.out.mod hmr aB)
 have g5:=hid (y7.out.mod hmr aB)
 have g6:=hid (y8.out.mod hmr aB)
 have g7:=hid (z0.out.mod hmr aB)
 have g8:=hid (z3.out.mod hmr aB)
 have g9:=hid (z4.out.mod hmr aB)
 have i7:=hid (z5.out.mod hmr aB)
 have i8:=hid (z6.out.mod hmr aB)
 clear y6 y7 y8 z0 z3 z4 z5 z6
 clear hmr
 have d6:=hid (z7.out.goM hm hr iA)
 clear z7 hm hr Z act E qB1 y5
 refine QChain.nil fun vs hl hzz hrows hne=>?_
 obtain ⟨Z,hYZ,hZb,hV⟩:=hzz
 have f2:=fvc hV hl 2
 have f5:=fvc hV hl 5
 have f9:=fvc hV hl 9
 have f13:=fvc hV hl 13
 rw [show vs=[gw vs 0,gw vs 1,gw vs 2,gw vs 3,gw vs 4,gw vs 5,gw vs 6,gw vs 7,gw vs 8,gw vs 9,gw vs 10,gw vs 11,gw vs 12,gw vs 13,gw vs 14,gw vs 15,gw vs 16,gw vs 17,gw vs 18,gw vs 19,gw vs 20,gw vs 21,gw vs 22,gw vs 23] from (Bi hl).trans rfl]
 have ha0:=HA0.o
 subst ha0
 clear HA0 hV hYZ hZb hsz0 hrows hne c3
 simp only [Au,Act.put,sIB,sCZ,sCS,List.set_nil,f2,f5,f9,f13]
 clear hl f2 f5 f9 f13
 go_upto_region 2 with (fail)
 refine Ab 50 [23,24,25,26,27,28,56] [0,1,2,3,4,5,6] (fun a0 HA0=>?_)
 have c3:=ev HA0 1 rfl
 refine qfd rfl 248 C1 c3 ?_
 refine QSeq.pure rfl (.pointer (some ⟨w.heap.size,249,none⟩)) (fun E=>Ae rfl Tryz.underlying54 rfl aE (E.d 0 0)) ?_
 refine QSeq.pure rfl (v_o) (fun E=>Af rfl D2 rfl (E.d 1 0) (AD n5.out (AF HOK.o HLn5.o HLn10.o rfl (show (x.op.cells v_o).length=34 from HC15.o) rfl) 15 rfl (o:=248) (k:=1) rfl rfl rfl)) ?_
 refine QSeq.call rfl rfl Tryz.func9 (Cut_R 260 (aq.out.mod d6.out (sB HBT)) aM) (fun E=>Ar (E.d 2 0) rfl) ?_
 rintro e ay ⟨v_o2,rfl,qoc,hm⟩
 obtain ⟨ao_o,cap_o,rfl⟩:=qoc.shape
 refine ⟨_,rfl,?_⟩
 have z9:=hid qoc
 have da:=hm.size
 have n6:=hid (show Mod (fun _=>False) ax ay from hm)
 clear hm
 clear qoc
 refine qfd rfl 248 C1 c3 ?_
 refine QSeq.pure rfl (.pointer (some ⟨w.heap.size,249,none⟩)) (fun E=>Ae rfl Tryz.underlying54 rfl aE (E.d 4 0)) ?_
 refine QSeq.go fun act E=>?_
 refine Am rfl (Aa rfl) rfl (n5.out.mod n6.out (fun h=>h)) (off:=249) (vs:=[Value.slice ao_o (x.op.pl.take 260).length cap_o]) aE one1 (by rw [D3,Bb,(AF HOK.o HLn5.o HLn10.o rfl (show (x.op.cells v_o).length=34 from HC15.o) rfl)];show 249+1≤295;decide) (E.d 5 0) (ec (E.d 3 2)) ?_
 intro aa qc0 hm
 have qB1:=qc0.eqv (b:=((Mg.segs x cn5 cn10 (x.pr.cells e_ps e_os e_ts) (x.op.cells (Value.slice ao_o (x.op.pl.take 260).length cap_o)) (x.dc.cells f_ps f_os f_ts d_l)).flatten:List Value).toArray) ((lay_sub (AF HOK.o HLn5.o HLn10.o rfl (show (x.op.cells v_o).length=34 from HC15.o) rfl) 15 rfl (o:=248) (k:=1) (n:=1) rfl rfl rfl (by rw [show (x.op.cells _).length=34 from HC15.o];decide)).trans rfl)
 clear qc0
 have n7:=hid qB1
 have db:=hm.size
 have ac:=hid hm
 have c6:=hid (AA (S':=(fun k=>(k=w.heap.size))) n6.out hm iC aQ)
 clear hm n6
 clear act E qB1 n5
 have i9:=hid (z9.out.mod ac.out aD)
 clear z9 ac
 refine qe ?_
 clear HA0 c3 a0
 go_upto_region 3 with (fail)
 refine Ab 50 [29,30,31,32,33,34,56] [0,1,2,3,4,5,6] (fun a0 HA0=>?_)
 have c3:=ev HA0 1 rfl
 refine qfd rfl 287 C1 c3 ?_
 refine QSeq.pure rfl (.pointer (some ⟨w.heap.size,294,none⟩)) (fun E=>Ae rfl D9 rfl aE (E.d 0 0)) ?_
 refine QSeq.pure rfl (d_l) (fun E=>Af rfl Tryz.underlying57 rfl (E.d 1 0) (AD n7.out (AF HOK.o HLn5.o HLn10.o rfl (show (x.op.cells (Value.slice ao_o (x.op.pl.take 260).length cap_o)).length=34 from HC15.o) rfl) 18 rfl (o:=287) (k:=7) rfl rfl rfl)) ?_
 refine QSeq.call rfl rfl Tryz.func39 (Cut_Vt _ _ x.dc.l 5 _ ((Hx10.o.mod d6.out (sB HBT)).mod c6.out (sB HBT)) aU aL) (fun E=>Ar (E.d 2 0) rfl) ?_
 rintro e ae ⟨v_v2,rfl,qvc,hm⟩
 obtain ⟨ao_v,cap_v,rfl⟩:=qvc.shape
 refine ⟨_,rfl,?_⟩
 have af:=hid (qvc.widen (R':=(fun k=>(New aa ae k))) (E':=(fun k=>(R2 k))) (fun _ h=>h) (fun _ h=>h))
 have dd:=hm.size
 have n8:=hid (show Mod (fun _=>False) aa ae from hm)
 clear hm
 clear qvc
 refine qfd rfl 287 C1 c3 ?_
 refine QSeq.pure rfl (.pointer (some ⟨w.heap.size,294,none⟩)) (fun E=>Ae rfl D9 rfl aE (E.d 4 0)) ?_
 refine QSeq.go fun act E=>?_
 refine Am rfl (Aa rfl) rfl (n7.out.mod n8.out (fun h=>h)) (off:=294) (vs:=[Value.slice ao_v (x.dc.l.take 5).length cap_v]) aE one1 (by rw [D3,Bb,(AF HOK.o HLn5.o HLn10.o rfl (show (x.op.cells (Value.slice ao_o (x.op.pl.take 260).length cap_o)).length=34 from HC15.o) rfl)];show 294+1≤295;decide) (E.d 5 0) (ec (E.d 3 2)) ?_
 intro j6 qc0 hm
 have qB1:=qc0.eqv (b:=((Mg.segs x cn5 cn10 (x.pr.cells e_ps e_os e_ts) (x.op.cells (Value.slice ao_o (x.op.pl.take 260).length cap_o)) (x.dc.cells f_ps f_os f_ts (Value.slice ao_v (x.dc.l.take 5).length cap_v))).flatten:List Value).toArray) ((lay_sub (AF HOK.o HLn5.o HLn10.o rfl (show (x.op.cells (Value.slice ao_o (x.op.pl.take 260).length cap_o)).length=34 from HC15.o) rfl) 18 rfl (o:=287) (k:=7) (n:=1) rfl rfl rfl (by show 7+1≤8;decide)).trans rfl)
 clear qc0
 have d7:=hid qB1
 have df:=hm.size
 have ag:=hid hm
 have c4:=hid (AA (S':=(fun k=>(k=w.heap.size))) n8.out hm iC aQ)
 clear hm n8
 clear act E qB1 n7
 have j0:=hid (af.out.mod ag.out aD (sB HBT))
 clear af ag
 refine qe ?_
 clear HA0 c3 a0
 by_cases hn:260 < x.rp.size
 ·skip
  go_upto_region 4 with (fail)
  refine Ab 50 [35,36,37,38] [0,1,2,3] (fun a0 HA0=>?_)
  have c3:=ev HA0 1 rfl
  refine qfd rfl 286 C1 c3 ?_
  refine QSeq.pure rfl (.string x.rp) (fun E=>Af rfl Tryz.underlying9 rfl (E.d 0 0) (AD d7.out (AF HOK.o HLn5.o HLn10.o rfl (show (x.op.cells (Value.slice ao_o (x.op.pl.take 260).length cap_o)).length=34 from HC15.o) rfl) 17 rfl (o:=286) (k:=0) rfl rfl rfl)) ?_
  refine QSeq.pure rfl (.int .i64 ((x.rp.size:Nat):Int)) (fun E=>ex_lenStr rfl (E.d 1 0) Tryz.underlying9) ?_
  refine QSeq.pure rfl (.bool true) (fun E=>Aq rfl (E.d 2 0) rfl (Ai _ _ _ _ _ _) (Bx _ _ _ B9) (congrArg Value.bool (decide_eq_true aL))) ?_
  refine qe ?_
  clear HA0 c3 a0
  go_upto_region 5 with (fail)
  refine Ab 50 [39,40,41,42,54] [0,1,2,3,4] (fun a0 HA0=>?_)
  have c3:=ev HA0 1 rfl
  refine qfd rfl 286 C1 c3 ?_
  refine QSeq.pure rfl (.string x.rp) (fun E=>Af rfl Tryz.underlying9 rfl (E.d 0 0) (AD d7.out (AF HOK.o HLn5.o HLn10.o rfl (show (x.op.cells (Value.slice ao_o (x.op.pl.take 260).length cap_o)).length=34 from HC15.o) rfl) 17 rfl (o:=286) (k:=0) rfl rfl rfl)) ?_
  refine QSeq.pure rfl (.string (x.rp.extract 0 260)) (fun E=>ex_sliceStr (i:=260) rfl Tryz.underlying9 (E.d 1 0) rfl aL) ?_
  refine qfd rfl 286 C1 c3 ?_
  refine QSeq.go fun act E=>?_
  refine Am rfl (Aa rfl) rfl d7.out (off:=286) (vs:=[Value.string (x.rp.extract 0 260)]) aE one1 (by rw [D3,Bb,(AF HOK.o HLn5.o HLn10.o rfl (show (x.op.cells (Value.slice ao_o (x.op.pl.take 260).length cap_o)).length=34 from HC15.o) rfl)];show 286+1≤295;decide) (E.d 3 0) (ec (E.d 2 1)) ?_
  intro j7 qc0 hm
  have qB1:=qc0.eqv (b:=((Mg.segs ({ x with rp:=x.rp.extract 0 260 }:Mg) cn5 cn10 (x.pr.cells e_ps e_os e_ts) (x.op.cells (Value.slice ao_o (x.op.pl.take 260).length cap_o)) (x.dc.cells f_ps f_os f_ts (Value.slice ao_v (x.dc.l.take 5).length cap_v))).flatten:List Value).toArray) ((lay_sub (AF HOK.o HLn5.o HLn10.o rfl (show (x.op.cells (Value.slice ao_o (x.op.pl.take 260).length cap_o)).length=34 from HC15.o) rfl) 17 rfl (o:=286) (k:=0) (n:=1) rfl rfl rfl (by show 0+1≤1;decide)).trans rfl)
  clear qc0
  have j8:=hid qB1
  have dg:=hm.size
  have c7:=hid (show Mod (fun k=>(k=w.heap.size)) j6 j7 from hm)
  clear hm
  clear act E qB1 d7
  refine qe ?_
  clear HA0 c3 a0
  by_cases hv:x.pr.vl=9223372036854775807
  ·have HV:=B8 hv
   clear hv
   go_upto_region 6 with (fail)
   refine Ab 50 [43,44,45,46] [0,1,2,3] (fun a0 HA0=>?_)
   have c3:=ev HA0 1 rfl
   refine qfd rfl 163 C1 c3 ?_
   refine QSeq.pure rfl (.pointer (some ⟨w.heap.size,165,none⟩)) (fun E=>Ae rfl D4 rfl aE (E.d 0 0)) ?_
   refine QSeq.pure rfl (.int .i64 x.pr.vl) (fun E=>Af rfl B9 rfl (E.d 1 0) (AD j8.out (show (Mg.segs ({ x with rp:=x.rp.extract 0 260 }:Mg) cn5 cn10 (x.pr.cells e_ps e_os e_ts) (x.op.cells (Value.slice ao_o (x.op.pl.take 260).length cap_o)) (x.dc.cells f_ps f_os f_ts (Value.slice ao_v (x.dc.l.take 5).length cap_v))).map List.length=mgN from (AF HOK.o HLn5.o HLn10.o rfl (show (x.op.cells (Value.slice ao_o (x.op.pl.take 260).length cap_o)).length=34 from HC15.o) rfl)) 11 rfl (o:=163) (k:=2) rfl rfl rfl)) ?_
   refine QSeq.pure rfl (.bool true) (fun E=>Aq rfl (E.d 2 0) rfl (Ai _ _ _ _ _ _) (Bs _ _ _ B9) (congrArg Value.bool (Bj HV.o))) ?_
   refine qe ?_
   clear HA0 c3 a0
   go_upto_region 7 with (fail)
   refine Ab 50 [47,48,52] [0,1,2] (fun a0 HA0=>?_)
   have c3:=ev HA0 1 rfl
   refine qfd rfl 163 C1 c3 ?_
   refine QSeq.pure rfl (.pointer (some ⟨w.heap.size,165,none⟩)) (fun E=>Ae rfl D4 rfl aE (E.d 0 0)) ?_
   refine QSeq.go fun act E=>?_
   refine Am rfl (Aa rfl) rfl j8.out (off:=165) (vs:=[.int .i64 0]) aE one1 (by rw [D3,Bb,(show (Mg.segs ({ x with rp:=x.rp.extract 0 260 }:Mg) cn5 cn10 (x.pr.cells e_ps e_os e_ts) (x.op.cells (Value.slice ao_o (x.op.pl.take 260).length cap_o)) (x.dc.cells f_ps f_os f_ts (Value.slice ao_v (x.dc.l.take 5).length cap_v))).map List.length=mgN from (AF HOK.o HLn5.o HLn10.o rfl (show (x.op.cells (Value.slice ao_o (x.op.pl.take 260).length cap_o)).length=34 from HC15.o) rfl))];show 165+1≤295;decide) (E.d 1 0) (ec rfl) ?_
   intro d8 qc0 hm
   have qB1:=qc0.eqv (b:=((Mg.segs ({ x with rp:=x.rp.extract 0 260 }:Mg) cn5 cn10 (Pr.cells { x.pr with vl:=0 } e_ps e_os e_ts) (x.op.cells (Value.slice ao_o (x.op.pl.take 260).length cap_o)) (x.dc.cells f_ps f_os f_ts (Value.slice ao_v (x.dc.l.take 5).length cap_v))).flatten:List Value).toArray) ((lay_sub (show (Mg.segs ({ x with rp:=x.rp.extract 0 260 }:Mg) cn5 cn10 (x.pr.cells e_ps e_os e_ts) (x.op.cells (Value.slice ao_o (x.op.pl.take 260).length cap_o)) (x.dc.cells f_ps f_os f_ts (Value.slice ao_v (x.dc.l.take 5).length cap_v))).map List.length=mgN from (AF HOK.o HLn5.o HLn10.o rfl (show (x.op.cells (Value.slice ao_o (x.op.pl.take 260).length cap_o)).length=34 from HC15.o) rfl)) 11 rfl (o:=163) (k:=2) (n:=1) rfl rfl rfl (by show 2+1≤11;decide)).trans rfl)
   clear qc0
   have az:=hid qB1
   have bb:=hm.size
   have c8:=hid (show Mod (fun k=>(k=w.heap.size)) j7 d8 from hm)
   clear hm
   clear act E qB1 j8
   refine qe ?_
   clear HA0 c3 a0
   have HSZ:=hid (show ((Mg.segs ({ x with rp:=x.rp.extract 0 260 }:Mg) cn5 cn10 (Pr.cells { x.pr with vl:=0 } e_ps e_os e_ts) (x.op.cells (Value.slice ao_o (x.op.pl.take 260).length cap_o)) (x.dc.cells f_ps f_os f_ts (Value.slice ao_v (x.dc.l.take 5).length cap_v))).flatten).length=295 by rw [Bb,show (Mg.segs ({ x with rp:=x.rp.extract 0 260 }:Mg) cn5 cn10 (Pr.cells { x.pr with vl:=0 } e_ps e_os e_ts) (x.op.cells (Value.slice ao_o (x.op.pl.take 260).length cap_o)) (x.dc.cells f_ps f_os f_ts (Value.slice ao_v (x.dc.l.take 5).length cap_v))).map List.length=mgN from (AF HOK.o HLn5.o HLn10.o rfl (show (x.op.cells (Value.slice ao_o (x.op.pl.take 260).length cap_o)).length=34 from HC15.o) rfl)];rfl)
   have HES:=hid (show smallM x={ ({ x with rp:=x.rp.extract 0 260 }:Mg) with ce:=cutCe x.ce,pm:=cutPm x.pm,pr:={ x.pr with ba:=cutBa x.pr.ba,vl:=0 },op:=cutOp x.op,dc:={ x.dc with ba:=cutBa x.dc.ba,l:=x.dc.l.take 5 } } by unfold smallM;rw [show cutRp x.rp=x.rp.extract 0 260 from if_pos hn,show cutVl x.pr.vl=0 from if_pos HV.o])
   have HRM:=hid (show MgR.rd (fun k=>(R2 k)∨(New w1 d8 k)) d8 ((Mg.segs ({ x with rp:=x.rp.extract 0 260 }:Mg) cn5 cn10 (Pr.cells { x.pr with vl:=0 } e_ps e_os e_ts) (x.op.cells (Value.slice ao_o (x.op.pl.take 260).length cap_o)) (x.dc.cells f_ps f_os f_ts (Value.slice ao_v (x.dc.l.take 5).length cap_v))).flatten) (smallM x) from HES.o▸⟨_,_,_,_,_,rfl,{ HOK.o with },((((d9.out.mod c6.out aB).mod c4.out aB).mod c7.out aB).mod c8.out aB).widen aI,((((g5.out.mod c6.out aB).mod c4.out aB).mod c7.out aB).mod c8.out aB).widen aI,⟨_,_,_,rfl,⟨HOP.o.1,HOP.o.2.1,A9,HOP.o.2.2.2⟩,((((g6.out.mod c6.out aB).mod c4.out aB).mod c7.out aB).mod c8.out aB).widen aI,((((g7.out.mod c6.out aB).mod c4.out aB).mod c7.out aB).mod c8.out aB).widen aI,((((g8.out.mod c6.out aB).mod c4.out aB).mod c7.out aB).mod c8.out aB).widen aI⟩,⟨_,rfl,HOO.o,RdR_len ((((i9.out.mod c4.out aD).mod c7.out aD).mod c8.out aD).rd.widen fG (C0 _))⟩,⟨_,_,_,_,rfl,HOD.o,((((g9.out.mod c6.out aB).mod c4.out aB).mod c7.out aB).mod c8.out aB).widen aI,((((i7.out.mod c6.out aB).mod c4.out aB).mod c7.out aB).mod c8.out aB).widen aI,((((i8.out.mod c6.out aB).mod c4.out aB).mod c7.out aB).mod c8.out aB).widen aI,((j0.out.mod c7.out aD (sB HBT)).mod c8.out aD (sB HBT)).rd.widen cY⟩⟩)
   have HON:=hid (MgR.one HRM.o)
   clear d9
   clear g5
   clear g6
   clear g7
   clear g8
   clear g9
   clear i7
   clear i8
   clear j0
   clear i9
   go_upto_region 8 with (fail)
   refine Ab 50 [49,51] [0,1] (fun a0 HA0=>?_)
   have c3:=ev HA0 1 rfl
   have d5:=ev HA0 2 rfl
   refine QSeq.pure rfl _ (fun E=>Ak rfl C1 rfl (off:=0) (cs:=((Mg.segs ({ x with rp:=x.rp.extract 0 260 }:Mg) cn5 cn10 (Pr.cells { x.pr with vl:=0 } e_ps e_os e_ts) (x.op.cells (Value.slice ao_o (x.op.pl.take 260).length cap_o)) (x.dc.cells f_ps f_os f_ts (Value.slice ao_v (x.dc.l.take 5).length cap_v))).flatten)) cD (E.v c3) (Cs.whole az.out)) ?_
   refine QSeq.go fun act E=>?_
   refine Am rfl (Aa rfl) rfl (((((HB2.o.mod d6.out aG).mod c6.out aG).mod c4.out aG).mod c7.out aG).mod c8.out aG) (off:=0) (vs:=((Mg.segs ({ x with rp:=x.rp.extract 0 260 }:Mg) cn5 cn10 (Pr.cells { x.pr with vl:=0 } e_ps e_os e_ts) (x.op.cells (Value.slice ao_o (x.op.pl.take 260).length cap_o)) (x.dc.cells f_ps f_os f_ts (Value.slice ao_v (x.dc.l.take 5).length cap_v))).flatten)) cD HON.o eC (E.v d5) (ec (E.d 0 0)) ?_
   intro j3 qc0 hm
   have qB2:=qc0.eqv (b:=(((Mg.segs ({ x with rp:=x.rp.extract 0 260 }:Mg) cn5 cn10 (Pr.cells { x.pr with vl:=0 } e_ps e_os e_ts) (x.op.cells (Value.slice ao_o (x.op.pl.take 260).length cap_o)) (x.dc.cells f_ps f_os f_ts (Value.slice ao_v (x.dc.l.take 5).length cap_v))).flatten):List Value).toArray) (Aw _ _ hJ)
   clear qc0
   have bc:=hid qB2
   have o5:=hm.size
   have ah:=hid (show Mod (fun k=>(k=w.heap.size+1)) d8 j3 from hm)
   clear hm
   clear act E qB2 HB2
   refine qe ?_
   clear HA0 c3 d5 a0
   go_wp2
   exact bodyPost_ret (A0 rfl _ _ (w.heap.size+1) ((Mg.segs ({ x with rp:=x.rp.extract 0 260 }:Mg) cn5 cn10 (Pr.cells { x.pr with vl:=0 } e_ps e_os e_ts) (x.op.cells (Value.slice ao_o (x.op.pl.take 260).length cap_o)) (x.dc.cells f_ps f_os f_ts (Value.slice ao_v (x.dc.l.take 5).length cap_v))).flatten) rfl (fun k u hu=>by rw [bc.out.cell];simpa using hu) C1 rfl cD) rfl ⟨_,rfl,(HRM.o.mod ah.out aB).widen aI,((((((HM0.o.trans d6.out aD).trans c6.out aD).trans c4.out aD).trans c7.out aD).trans c8.out aD).trans ah.out aD)⟩
  have HV:=B8 hv
  clear hv
  go_upto_region 6 with (fail)
  refine Ab 50 [43,44,45,46] [0,1,2,3] (fun a0 HA0=>?_)
  have c3:=ev HA0 1 rfl
  refine qfd rfl 163 C1 c3 ?_
  refine QSeq.pure rfl (.pointer (some ⟨w.heap.size,165,none⟩)) (fun E=>Ae rfl D4 rfl aE (E.d 0 0)) ?_
  refine QSeq.pure rfl (.int .i64 x.pr.vl) (fun E=>Af rfl B9 rfl (E.d 1 0) (AD j8.out (show (Mg.segs ({ x with rp:=x.rp.extract 0 260 }:Mg) cn5 cn10 (x.pr.cells e_ps e_os e_ts) (x.op.cells (Value.slice ao_o (x.op.pl.take 260).length cap_o)) (x.dc.cells f_ps f_os f_ts (Value.slice ao_v (x.dc.l.take 5).length cap_v))).map List.length=mgN from (AF HOK.o HLn5.o HLn10.o rfl (show (x.op.cells (Value.slice ao_o (x.op.pl.take 260).length cap_o)).length=34 from HC15.o) rfl)) 11 rfl (o:=163) (k:=2) rfl rfl rfl)) ?_
  refine QSeq.pure rfl (.bool false) (fun E=>Aq rfl (E.d 2 0) rfl (Ai _ _ _ _ _ _) (Bs _ _ _ B9) (congrArg Value.bool (Bk HV.o))) ?_
  refine qe ?_
  clear HA0 c3 a0
  have HSZ:=hid (show ((Mg.segs ({ x with rp:=x.rp.extract 0 260 }:Mg) cn5 cn10 (x.pr.cells e_ps e_os e_ts) (x.op.cells (Value.slice ao_o (x.op.pl.take 260).length cap_o)) (x.dc.cells f_ps f_os f_ts (Value.slice ao_v (x.dc.l.take 5).length cap_v))).flatten).length=295 by rw [Bb,show (Mg.segs ({ x with rp:=x.rp.extract 0 260 }:Mg) cn5 cn10 (x.pr.cells e_ps e_os e_ts) (x.op.cells (Value.slice ao_o (x.op.pl.take 260).length cap_o)) (x.dc.cells f_ps f_os f_ts (Value.slice ao_v (x.dc.l.take 5).length cap_v))).map List.length=mgN from (AF HOK.o HLn5.o HLn10.o rfl (show (x.op.cells (Value.slice ao_o (x.op.pl.take 260).length cap_o)).length=34 from HC15.o) rfl)];rfl)
  have HES:=hid (show smallM x={ ({ x with rp:=x.rp.extract 0 260 }:Mg) with ce:=cutCe x.ce,pm:=cutPm x.pm,pr:={ x.pr with ba:=cutBa x.pr.ba,vl:=x.pr.vl },op:=cutOp x.op,dc:={ x.dc with ba:=cutBa x.dc.ba,l:=x.dc.l.take 5 } } by unfold smallM;rw [show cutRp x.rp=x.rp.extract 0 260 from if_pos hn,show cutVl x.pr.vl=x.pr.vl from if_neg HV.o])
  have HRM:=hid (show MgR.rd (fun k=>(R2 k)∨(New w1 j7 k)) j7 ((Mg.segs ({ x with rp:=x.rp.extract 0 260 }:Mg) cn5 cn10 (x.pr.cells e_ps e_os e_ts) (x.op.cells (Value.slice ao_o (x.op.pl.take 260).length cap_o)) (x.dc.cells f_ps f_os f_ts (Value.slice ao_v (x.dc.l.take 5).length cap_v))).flatten) (smallM x) from HES.o▸⟨_,_,_,_,_,rfl,{ HOK.o with },(((d9.out.mod c6.out aB).mod c4.out aB).mod c7.out aB).widen aI,(((g5.out.mod c6.out aB).mod c4.out aB).mod c7.out aB).widen aI,⟨_,_,_,rfl,HOP.o,(((g6.out.mod c6.out aB).mod c4.out aB).mod c7.out aB).widen aI,(((g7.out.mod c6.out aB).mod c4.out aB).mod c7.out aB).widen aI,(((g8.out.mod c6.out aB).mod c4.out aB).mod c7.out aB).widen aI⟩,⟨_,rfl,HOO.o,RdR_len (((i9.out.mod c4.out aD).mod c7.out aD).rd.widen fG (C0 _))⟩,⟨_,_,_,_,rfl,HOD.o,(((g9.out.mod c6.out aB).mod c4.out aB).mod c7.out aB).widen aI,(((i7.out.mod c6.out aB).mod c4.out aB).mod c7.out aB).widen aI,(((i8.out.mod c6.out aB).mod c4.out aB).mod c7.out aB).widen aI,(j0.out.mod c7.out aD (sB HBT)).rd.widen cY⟩⟩)
  have HON:=hid (MgR.one HRM.o)
  clear d9
  clear g5
  clear g6
  clear g7
  clear g8
  clear g9
  clear i7
  clear i8
  clear j0
  clear i9
  go_upto_region 8 with (fail)
  refine Ab 50 [49,51] [0,1] (fun a0 HA0=>?_)
  have c3:=ev HA0 1 rfl
  have d5:=ev HA0 2 rfl
  refine QSeq.pure rfl _ (fun E=>Ak rfl C1 rfl (off:=0) (cs:=((Mg.segs ({ x with rp:=x.rp.extract 0 260 }:Mg) cn5 cn10 (x.pr.cells e_ps e_os e_ts) (x.op.cells (Value.slice ao_o (x.op.pl.take 260).length cap_o)) (x.dc.cells f_ps f_os f_ts (Value.slice ao_v (x.dc.l.take 5).length cap_v))).flatten)) cD (E.v c3) (Cs.whole j8.out)) ?_
  refine QSeq.go fun act E=>?_
  refine Am rfl (Aa rfl) rfl ((((HB2.o.mod d6.out aG).mod c6.out aG).mod c4.out aG).mod c7.out aG) (off:=0) (vs:=((Mg.segs ({ x with rp:=x.rp.extract 0 260 }:Mg) cn5 cn10 (x.pr.cells e_ps e_os e_ts) (x.op.cells (Value.slice ao_o (x.op.pl.take 260).length cap_o)) (x.dc.cells f_ps f_os f_ts (Value.slice ao_v (x.dc.l.take 5).length cap_v))).flatten)) cD HON.o eC (E.v d5) (ec (E.d 0 0)) ?_
  intro j3 qc0 hm
  have qB2:=qc0.eqv (b:=(((Mg.segs ({ x with rp:=x.rp.extract 0 260 }:Mg) cn5 cn10 (x.pr.cells e_ps e_os e_ts) (x.op.cells (Value.slice ao_o (x.op.pl.take 260).length cap_o)) (x.dc.cells f_ps f_os f_ts (Value.slice ao_v (x.dc.l.take 5).length cap_v))).flatten):List Value).toArray) (Aw _ _ hJ)
  clear qc0
  have bf:=hid qB2
  have o5:=hm.size
  have aj:=hid (show Mod (fun k=>(k=w.heap.size+1)) j7 j3 from hm)
  clear hm
  clear act E qB2 HB2
  refine qe ?_
  clear HA0 c3 d5 a0
  go_wp2
  exact bodyPost_ret (A0 rfl _ _ (w.heap.size+1) ((Mg.segs ({ x with rp:=x.rp.extract 0 260 }:Mg) cn5 cn10 (x.pr.cells e_ps e_os e_ts) (x.op.cells (Value.slice ao_o (x.op.pl.take 260).length cap_o)) (x.dc.cells f_ps f_os f_ts (Value.slice ao_v (x.dc.l.take 5).length cap_v))).flatten) rfl (fun k u hu=>by rw [bf.out.cell];simpa using hu) C1 rfl cD) rfl ⟨_,rfl,(HRM.o.mod aj.out aB).widen aI,(((((HM0.o.trans d6.out aD).trans c6.out aD).trans c4.out aD).trans c7.out aD).trans aj.out aD)⟩
 go_upto_region 4 with (fail)
 refine Ab 50 [35,36,37,38] [0,1,2,3] (fun a0 HA0=>?_)
 have c3:=ev HA0 1 rfl
 refine qfd rfl 286 C1 c3 ?_
 refine QSeq.pure rfl (.string x.rp) (fun E=>Af rfl Tryz.underlying9 rfl (E.d 0 0) (AD d7.out (AF HOK.o HLn5.o HLn10.o rfl (show (x.op.cells (Value.slice ao_o (x.op.pl.take 260).length cap_o)).length=34 from HC15.o) rfl) 17 rfl (o:=286) (k:=0) rfl rfl rfl)) ?_
 refine QSeq.pure rfl (.int .i64 ((x.rp.size:Nat):Int)) (fun E=>ex_lenStr rfl (E.d 1 0) Tryz.underlying9) ?_
 refine QSeq.pure rfl (.bool false) (fun E=>Aq rfl (E.d 2 0) rfl (Ai _ _ _ _ _ _) (Bx _ _ _ B9) (congrArg Value.bool (decide_eq_false aL))) ?_
 refine qe ?_
 clear HA0 c3 a0
 by_cases hv:x.pr.vl=9223372036854775807
 ·have HV:=B8 hv
  clear hv
  go_upto_region 6 with (fail)
  refine Ab 50 [43,44,45,46] [0,1,2,3] (fun a0 HA0=>?_)
  have c3:=ev HA0 1 rfl
  refine qfd rfl 163 C1 c3 ?_
  refine QSeq.pure rfl (.pointer (some ⟨w.heap.size,165,none⟩)) (fun E=>Ae rfl D4 rfl aE (E.d 0 0)) ?_
  refine QSeq.pure rfl (.int .i64 x.pr.vl) (fun E=>Af rfl B9 rfl (E.d 1 0) (AD d7.out (AF HOK.o HLn5.o HLn10.o rfl (show (x.op.cells (Value.slice ao_o (x.op.pl.take 260).length cap_o)).length=34 from HC15.o) rfl) 11 rfl (o:=163) (k:=2) rfl rfl rfl)) ?_
  refine QSeq.pure rfl (.bool true) (fun E=>Aq rfl (E.d 2 0) rfl (Ai _ _ _ _ _ _) (Bs _ _ _ B9) (congrArg Value.bool (Bj HV.o))) ?_
  refine qe ?_
  clear HA0 c3 a0
  go_upto_region 7 with (fail)
  refine Ab 50 [47,48,52] [0,1,2] (fun a0 HA0=>?_)
  have c3:=ev HA0 1 rfl
  refine qfd rfl 163 C1 c3 ?_
  refine QSeq.pure rfl (.pointer (some ⟨w.heap.size,165,none⟩)) (fun E=>Ae rfl D4 rfl aE (E.d 0 0)) ?_
  refine QSeq.go fun act E=>?_
  refine Am rfl (Aa rfl) rfl d7.out (off:=165) (vs:=[.int .i64 0]) aE one1 (by rw [D3,Bb,(show (Mg.segs x cn5 cn10 (x.pr.cells e_ps e_os e_ts) (x.op.cells (Value.slice ao_o (x.op.pl.take 260).length cap_o)) (x.dc.cells f_ps f_os f_ts (Value.slice ao_v (x.dc.l.take 5).length cap_v))).map List.length=mgN from (AF HOK.o HLn5.o HLn10.o rfl (show (x.op.cells (Value.slice ao_o (x.op.pl.take 260).length cap_o)).length=34 from HC15.o) rfl))];show 165+1≤295;decide) (E.d 1 0) (ec rfl) ?_
  intro d8 qc0 hm
  have qB1:=qc0.eqv (b:=((Mg.segs x cn5 cn10 (Pr.cells { x.pr with vl:=0 } e_ps e_os e_ts) (x.op.cells (Value.slice ao_o (x.op.pl.take 260).length cap_o)) (x.dc.cells f_ps f_os f_ts (Value.slice ao_v (x.dc.l.take 5).length cap_v))).flatten:List Value).toArray) ((lay_sub (show (Mg.segs x cn5 cn10 (x.pr.cells e_ps e_os e_ts) (x.op.cells (Value.slice ao_o (x.op.pl.take 260).length cap_o)) (x.dc.cells f_ps f_os f_ts (Value.slice ao_v (x.dc.l.take 5).length cap_v))).map List.length=mgN from (AF HOK.o HLn5.o HLn10.o rfl (show (x.op.cells (Value.slice ao_o (x.op.pl.take 260).length cap_o)).length=34 from HC15.o) rfl)) 11 rfl (o:=163) (k:=2) (n:=1) rfl rfl rfl (by show 2+1≤11;decide)).trans rfl)
  clear qc0
  have bg:=hid qB1
  have bb:=hm.size
  have c9:=hid (show Mod (fun k=>(k=w.heap.size)) j6 d8 from hm)
  clear hm
  clear act E qB1 d7
  refine qe ?_
  clear HA0 c3 a0
  have HSZ:=hid (show ((Mg.segs x cn5 cn10 (Pr.cells { x.pr with vl:=0 } e_ps e_os e_ts) (x.op.cells (Value.slice ao_o (x.op.pl.take 260).length cap_o)) (x.dc.cells f_ps f_os f_ts (Value.slice ao_v (x.dc.l.take 5).length cap_v))).flatten).length=295 by rw [Bb,show (Mg.segs x cn5 cn10 (Pr.cells { x.pr with vl:=0 } e_ps e_os e_ts) (x.op.cells (Value.slice ao_o (x.op.pl.take 260).length cap_o)) (x.dc.cells f_ps f_os f_ts (Value.slice ao_v (x.dc.l.take 5).length cap_v))).map List.length=mgN from (AF HOK.o HLn5.o HLn10.o rfl (show (x.op.cells (Value.slice ao_o (x.op.pl.take 260).length cap_o)).length=34 from HC15.o) rfl)];rfl)
  have HES:=hid (show smallM x={ x with ce:=cutCe x.ce,pm:=cutPm x.pm,pr:={ x.pr with ba:=cutBa x.pr.ba,vl:=0 },op:=cutOp x.op,dc:={ x.dc with ba:=cutBa x.dc.ba,l:=x.dc.l.take 5 } } by unfold smallM;rw [show cutRp x.rp=x.rp from if_neg hn,show cutVl x.pr.vl=0 from if_pos HV.o])
  have HRM:=hid (show MgR.rd (fun k=>(R2 k)∨(New w1 d8 k)) d8 ((Mg.segs x cn5 cn10 (Pr.cells { x.pr with vl:=0 } e_ps e_os e_ts) (x.op.cells (Value.slice ao_o (x.op.pl.take 260).length cap_o)) (x.dc.cells f_ps f_os f_ts (Value.slice ao_v (x.dc.l.take 5).length cap_v))).flatten) (smallM x) from HES.o▸⟨_,_,_,_,_,rfl,{ HOK.o with },(((d9.out.mod c6.out aB).mod c4.out aB).mod c9.out aB).widen aI,(((g5.out.mod c6.out aB).mod c4.out aB).mod c9.out aB).widen aI,⟨_,_,_,rfl,⟨HOP.o.1,HOP.o.2.1,A9,HOP.o.2.2.2⟩,(((g6.out.mod c6.out aB).mod c4.out aB).mod c9.out aB).widen aI,(((g7.out.mod c6.out aB).mod c4.out aB).mod c9.out aB).widen aI,(((g8.out.mod c6.out aB).mod c4.out aB).mod c9.out aB).widen aI⟩,⟨_,rfl,HOO.o,RdR_len (((i9.out.mod c4.out aD).mod c9.out aD).rd.widen fG (C0 _))⟩,⟨_,_,_,_,rfl,HOD.o,(((g9.out.mod c6.out aB).mod c4.out aB).mod c9.out aB).widen aI,(((i7.out.mod c6.out aB).mod c4.out aB).mod c9.out aB).widen aI,(((i8.out.mod c6.out aB).mod c4.out aB).mod c9.out aB).widen aI,(j0.out.mod c9.out aD (sB HBT)).rd.widen cY⟩⟩)
  have HON:=hid (MgR.one HRM.o)
  clear d9
  clear g5
  clear g6
  clear g7
  clear g8
  clear g9
  clear i7
  clear i8
  clear j0
  clear i9
  go_upto_region 8 with (fail)
  refine Ab 50 [49,51] [0,1] (fun a0 HA0=>?_)
  have c3:=ev HA0 1 rfl
  have d5:=ev HA0 2 rfl
  refine QSeq.pure rfl _ (fun E=>Ak rfl C1 rfl (off:=0) (cs:=((Mg.segs x cn5 cn10 (Pr.cells { x.pr with vl:=0 } e_ps e_os e_ts) (x.op.cells (Value.slice ao_o (x.op.pl.take 260).length cap_o)) (x.dc.cells f_ps f_os f_ts (Value.slice ao_v (x.dc.l.take 5).length cap_v))).flatten)) cD (E.v c3) (Cs.whole bg.out)) ?_
  refine QSeq.go fun act E=>?_
  refine Am rfl (Aa rfl) rfl ((((HB2.o.mod d6.out aG).mod c6.out aG).mod c4.out aG).mod c9.out aG) (off:=0) (vs:=((Mg.segs x cn5 cn10 (Pr.cells { x.pr with vl:=0 } e_ps e_os e_ts) (x.op.cells (Value.slice ao_o (x.op.pl.take 260).length cap_o)) (x.dc.cells f_ps f_os f_ts (Value.slice ao_v (x.dc.l.take 5).length cap_v))).flatten)) cD HON.o eC (E.v d5) (ec (E.d 0 0)) ?_
  intro j3 qc0 hm
  have qB2:=qc0.eqv (b:=(((Mg.segs x cn5 cn10 (Pr.cells { x.pr with vl:=0 } e_ps e_os e_ts) (x.op.cells (Value.slice ao_o (x.op.pl.take 260).length cap_o)) (x.dc.cells f_ps f_os f_ts (Value.slice ao_v (x.dc.l.take 5).length cap_v))).flatten):List Value).toArray) (Aw _ _ hJ)
  clear qc0
  have bh:=hid qB2
  have o5:=hm.size
  have am:=hid (show Mod (fun k=>(k=w.heap.size+1)) d8 j3 from hm)
  clear hm
  clear act E qB2 HB2
  refine qe ?_
  clear HA0 c3 d5 a0
  go_wp2
  exact bodyPost_ret (A0 rfl _ _ (w.heap.size+1) ((Mg.segs x cn5 cn10 (Pr.cells { x.pr with vl:=0 } e_ps e_os e_ts) (x.op.cells (Value.slice ao_o (x.op.pl.take 260).length cap_o)) (x.dc.cells f_ps f_os f_ts (Value.slice ao_v (x.dc.l.take 5).length cap_v))).flatten) rfl (fun k u hu=>by rw [bh.out.cell];simpa using hu) C1 rfl cD) rfl ⟨_,rfl,(HRM.o.mod am.out aB).widen aI,(((((HM0.o.trans d6.out aD).trans c6.out aD).trans c4.out aD).trans c9.out aD).trans am.out aD)⟩
 have HV:=B8 hv
 clear hv
 go_upto_region 6 with (fail)
 refine Ab 50 [43,44,45,46] [0,1,2,3] (fun a0 HA0=>?_)
 have c3:=ev HA0 1 rfl
 refine qfd rfl 163 C1 c3 ?_
 refine QSeq.pure rfl (.pointer (some ⟨w.heap.size,165,none⟩)) (fun E=>Ae rfl D4 rfl aE (E.d 0 0)) ?_
 refine QSeq.pure rfl (.int .i64 x.pr.vl) (fun E=>Af rfl B9 rfl (E.d 1 0) (AD d7.out (AF HOK.o HLn5.o HLn10.o rfl (show (x.op.cells (Value.slice ao_o (x.op.pl.take 260).length cap_o)).length=34 from HC15.o) rfl) 11 rfl (o:=163) (k:=2) rfl rfl rfl)) ?_
 refine QSeq.pure rfl (.bool false) (fun E=>Aq rfl (E.d 2 0) rfl (Ai _ _ _ _ _ _) (Bs _ _ _ B9) (congrArg Value.bool (Bk HV.o))) ?_
 refine qe ?_
 clear HA0 c3 a0
 have HSZ:=hid (show ((Mg.segs x cn5 cn10 (x.pr.cells e_ps e_os e_ts) (x.op.cells (Value.slice ao_o (x.op.pl.take 260).length cap_o)) (x.dc.cells f_ps f_os f_ts (Value.slice ao_v (x.dc.l.take 5).length cap_v))).flatten).length=295 by rw [Bb,show (Mg.segs x cn5 cn10 (x.pr.cells e_ps e_os e_ts) (x.op.cells (Value.slice ao_o (x.op.pl.take 260).length cap_o)) (x.dc.cells f_ps f_os f_ts (Value.slice ao_v (x.dc.l.take 5).length cap_v))).map List.length=mgN from (AF HOK.o HLn5.o HLn10.o rfl (show (x.op.cells (Value.slice ao_o (x.op.pl.take 260).length cap_o)).length=34 from HC15.o) rfl)];rfl)
 have HES:=hid (show smallM x={ x with ce:=cutCe x.ce,pm:=cutPm x.pm,pr:={ x.pr with ba:=cutBa x.pr.ba,vl:=x.pr.vl },op:=cutOp x.op,dc:={ x.dc with ba:=cutBa x.dc.ba,l:=x.dc.l.take 5 } } by unfold smallM;rw [show cutRp x.rp=x.rp from if_neg hn,show cutVl x.pr.vl=x.pr.vl from if_neg HV.o])
 have HRM:=hid (show MgR.rd (fun k=>(R2 k)∨(New w1 j6 k)) j6 ((Mg.segs x cn5 cn10 (x.pr.cells e_ps e_os e_ts) (x.op.cells (Value.slice ao_o (x.op.pl.take 260).length cap_o)) (x.dc.cells f_ps f_os f_ts (Value.slice ao_v (x.dc.l.take 5).length cap_v))).flatten) (smallM x) from HES.o▸⟨_,_,_,_,_,rfl,{ HOK.o with },((d9.out.mod c6.out aB).mod c4.out aB).widen aI,((g5.out.mod c6.out aB).mod c4.out aB).widen aI,⟨_,_,_,rfl,HOP.o,((g6.out.mod c6.out aB).mod c4.out aB).widen aI,((g7.out.mod c6.out aB).mod c4.out aB).widen aI,((g8.out.mod c6.out aB).mod c4.out aB).widen aI⟩,⟨_,rfl,HOO.o,RdR_len ((i9.out.mod c4.out aD).rd.widen fG (C0 _))⟩,⟨_,_,_,_,rfl,HOD.o,((g9.out.mod c6.out aB).mod c4.out aB).widen aI,((i7.out.mod c6.out aB).mod c4.out aB).widen aI,((i8.out.mod c6.out aB).mod c4.out aB).widen aI,j0.out.rd.widen cY⟩⟩)
 have HON:=hid (MgR.one HRM.o)
 clear d9
 clear g5
 clear g6
 clear g7
 clear g8
 clear g9
 clear i7
 clear i8
 clear j0
 clear i9
 go_upto_region 8 with (fail)
 refine Ab 50 [49,51] [0,1] (fun a0 HA0=>?_)
 have c3:=ev HA0 1 rfl
 have d5:=ev HA0 2 rfl
 refine QSeq.pure rfl _ (fun E=>Ak rfl C1 rfl (off:=0) (cs:=((Mg.segs x cn5 cn10 (x.pr.cells e_ps e_os e_ts) (x.op.cells (Value.slice ao_o (x.op.pl.take 260).length cap_o)) (x.dc.cells f_ps f_os f_ts (Value.slice ao_v (x.dc.l.take 5).length cap_v))).flatten)) cD (E.v c3) (Cs.whole d7.out)) ?_
 refine QSeq.go fun act E=>?_
 refine Am rfl (Aa rfl) rfl (((HB2.o.mod d6.out aG).mod c6.out aG).mod c4.out aG) (off:=0) (vs:=((Mg.segs x cn5 cn10 (x.pr.cells e_ps e_os e_ts) (x.op.cells (Value.slice ao_o (x.op.pl.take 260).length cap_o)) (x.dc.cells f_ps f_os f_ts (Value.slice ao_v (x.dc.l.take 5).length cap_v))).flatten)) cD HON.o eC (E.v d5) (ec (E.d 0 0)) ?_
 intro j3 qc0 hm
 have qB2:=qc0.eqv (b:=(((Mg.segs x cn5 cn10 (x.pr.cells e_ps e_os e_ts) (x.op.cells (Value.slice ao_o (x.op.pl.take 260).length cap_o)) (x.dc.cells f_ps f_os f_ts (Value.slice ao_v (x.dc.l.take 5).length cap_v))).flatten):List Value).toArray) (Aw _ _ hJ)
 clear qc0
 have bj:=hid qB2
 have o5:=hm.size
 have ap:=hid (show Mod (fun k=>(k=w.heap.size+1)) j6 j3 from hm)
 clear hm
 clear act E qB2 HB2
 refine qe ?_
 clear HA0 c3 d5 a0
 go_wp2
 exact bodyPost_ret (A0 rfl _ _ (w.heap.size+1) ((Mg.segs x cn5 cn10 (x.pr.cells e_ps e_os e_ts) (x.op.cells (Value.slice ao_o (x.op.pl.take 260).length cap_o)) (x.dc.cells f_ps f_os f_ts (Value.slice ao_v (x.dc.l.take 5).length cap_v))).flatten) rfl (fun k u hu=>by rw [bj.out.cell];simpa using hu) C1 rfl cD) rfl ⟨_,rfl,(HRM.o.mod ap.out aB).widen aI,((((HM0.o.trans d6.out aD).trans c6.out aD).trans c4.out aD).trans ap.out aD)⟩
theorem baB_len2 {R:Nat→Prop} {w:World} {x:Ba} {vp vo vt:Value} (hok:x.OK) (hp:RdS PmR R w vp (cutBa x).ps) (ho:RdS OpR R w vo (cutBa x).os) (ht:RdS TbR R w vt (cutBa x).ts):(baB (cutBa x)).length≤10000:=by
 have h1:=A4 _ hok.1;have h2:=(B7 hok.2).2
 have h3:=listB_len pmB (M:=4) (l:=(cutBa x).ps) (by simp [cutBa];omega) aM (fun z hz=>by
  obtain ⟨cs,hc⟩:=RdS_mem hp z hz
  obtain ⟨u,-,rfl⟩:=List.mem_map.1 hz
  exact pmB_len hc ⟨u,rfl⟩)
 have h4:=listB_len opB (M:=4) (l:=(cutBa x).os) (by simp [cutBa];omega) aM (fun z hz=>by
  obtain ⟨cs,hc⟩:=RdS_mem ho z hz
  obtain ⟨u,-,rfl⟩:=List.mem_map.1 hz
  exact opB_len hc (by simp [cutOp];omega))
 have h5:=listB_len tbB (M:=4) (l:=(cutBa x).ts) (by simp [cutBa];omega) aM (fun z hz=>by
  obtain ⟨cs,hc⟩:=RdS_mem ht z hz
  obtain ⟨u,-,rfl⟩:=List.mem_map.1 hz
  exact tbB_len hc (by simp [cutTb];omega))
 have e1:(encI (cutBa x).ep).length≤10:=h1
 have e2:(encN (cutBa x).tm).length≤10:=h2
 simp only [baB,C3];omega
theorem vtB_len {x:Vt} (h:x.OK):(vtB x).length≤92:=by
 obtain ⟨a,b,c,d,e,f,g⟩:=h
 have h1:=A4 _ a;have h2:=A4 _ b;have h3:=A4 _ c;have h4:=A4 _ d;have h5:=e.1;have h6:=A4 _ f;have h7:=A4 _ g
 simp only [vtB,sigB,C3];omega
theorem enB_len {x:En} (h:x.OK):(enB x).length≤62:=by
 obtain ⟨a,b,e,c⟩:=h
 have h1:=A4 _ a;have h2:=A4 _ b;have h5:=e.1;have h6:=(B7 c).2
 simp only [enB,nameB,C3];omega
theorem ite_len2 {c:Prop} [Decidable c] {a b:List Int} {n:Nat} (ha:a.length≤n) (hb:b.length≤n):(if c then a else b).length≤n:=by by_cases h:c<;>simp [h,ha,hb]
theorem cutRp_len (s:ByteArray):(Bd (cutRp s)).length≤260:=by
 rw [bytesOf_len];unfold cutRp
 split
 ·rw [ByteArray.size_extract];omega
 ·omega
theorem small_body {R:Nat→Prop} {w:World} {cs:List Value} {a:Mg} {k:Int} (h:MgR.rd R w cs { smallM a with kd:=k }):(A3 { smallM a with kd:=k }).length≤20000:=by
 obtain ⟨c5,c10,c11,c15,c18,rfl,ok,h5,h10,h11,h15,h18⟩:=h
 have e3:=ceB_len h5 (by show (a.ce.l.take 5).length≤5;rw [List.length_take];omega)
 have e6:=pmB_len h10 ⟨_,rfl⟩
 have e10:=opB_len h15 (by show (a.op.pl.take 260).length≤260;rw [List.length_take];omega)
 obtain ⟨p1,p2,p3,rfl,⟨i1,i2,i3,i4,okb,i5,i6⟩,hp,ho,ht⟩:=h11
 have e7:=baB_len2 (x:=a.pr.ba) okb hp ho ht
 obtain ⟨d1,d2,d3,d4,rfl,⟨j1,j2,okd⟩,gp,go_,gt,gl⟩:=h18
 have e14:=baB_len2 (x:=a.dc.ba) okd gp go_ gt
 have e15:=listB_len vtB (M:=5) (l:=a.dc.l.take 5) (by rw [List.length_take];omega) aM (fun z hz=>by obtain ⟨cs,e,hk⟩:=RdS_mem gl z hz;exact vtB_len hk)
 have n1:=A4 _ ok.ep;have n2:=A4 _ ok.rn;have n3:=(B7 ok.tm).2;have n4:=A4 _ ok.ix
 have m1:=A4 _ i1;have m2:=A4 _ i2;have m3:=A4 _ (I64_wrap (cutVl a.pr.vl+1));have m4:=A4 _ i4;have m5:=A4 _ i5;have m6:=A4 _ i6
 have q1:=A4 _ j1;have q2:=A4 _ j2
 have r1:=cutRp_len a.rp;have r2:=(B7 (n:=(Bd (cutRp a.rp)).length) fW).2
 unfold A3
 repeat' (refine ite_len2 ?_ ?_)
 ·exact C4 (cmB_len ok.cm) aM
 ·exact C4 (stB_len ok.st) aM
 ·exact C4 e3 aM
 ·exact C4 (stB_len ok.ak) aM
 ·show (encI a.ep ++ encI a.rn ++ encN a.tm).length≤20000
  have n1':(encI a.ep).length≤10:=n1
  have n2':(encI a.rn).length≤10:=n2
  have n3':(encN a.tm).length≤10:=n3
  simp only [C3];omega
 ·exact C4 e6 aM
 ·show (prB { a.pr with ba:=cutBa a.pr.ba,vl:=cutVl a.pr.vl }).length≤20000
  have m1':(encI a.pr.ep).length≤10:=m1
  have m2':(encI a.pr.rn).length≤10:=m2
  have m4':(encI a.pr.rp).length≤10:=m4
  have m5':(encI a.pr.sb).length≤10:=m5
  have m6':(encI a.pr.mr).length≤10:=m6
  simp only [prB,sigB,C3];omega
 ·exact C4 (vtB_len ok.vt) aM
 ·show (encI a.ix ++ enB a.en).length≤20000
  have n4':(encI a.ix).length≤10:=n4
  have n5':(enB a.en).length≤62:=enB_len ok.en
  simp only [C3];omega
 ·exact C4 e10 aM
 ·exact C4 n4 aM
 ·exact C4 (dnB_len ok.dn) aM
 ·show (encI a.ix ++ (encN (Bd (cutRp a.rp)).length ++ Bd (cutRp a.rp))).length≤20000
  have n4':(encI a.ix).length≤10:=n4
  simp only [C3];omega
 ·show (dcB { a.dc with ba:=cutBa a.dc.ba,l:=a.dc.l.take 5 }).length≤20000
  have q1':(encI a.dc.ep).length≤10:=q1
  have q2':(encI a.dc.rn).length≤10:=q2
  simp only [dcB,C3];omega
 ·simp
theorem small_len {R:Nat→Prop} {w:World} {cs:List Value} {a:Mg} {k:Int} (h:MgR.rd R w cs { smallM a with kd:=k }):(Bg { smallM a with kd:=k }).length≤30000:=by
 have h1:=small_body h
 obtain ⟨c5,c10,c11,c15,c18,rfl,ok,-⟩:=h
 have n1:=A4 _ ok.kd;have n2:=A4 _ ok.fr;have n3:=A4 _ ok.to
 simp only [Bg,C3] at *; omega
open Go.Proofs renaming Tryz.func120→va',Tryz.ntmps120→vb',Tryz.func42→vc' in
open Go.Proofs.YtnaoeginonpicaaGreat renaming cI_Q→vd' in
set_option maxHeartbeats 2000000 in
theorem cSig_Q:GetsF 132 120 (fun x:Int × Int=>[.int .i64 x.1,.int .i64 x.2]) gSig:=
 fm3'
open Go.Proofs renaming Tryz.func118→va',Tryz.ntmps118→vb',Tryz.func42→vc' in
open Go.Proofs.YtnaoeginonpicaaGreat renaming cI_Q→vd' in
set_option maxHeartbeats 2000000 in
theorem cName_Q:GetsF 132 118 (fun x:Int × Int=>[.int .i64 x.1,.int .i64 x.2]) gSig:=
 fm4'
open Go.Proofs renaming Tryz.func76→va',Tryz.ntmps76→vb',Tryz.func118→vc',Tryz.func119→ve',Tryz.func42→vg',Tryz.func120→vi' in
open Go.Proofs.YtnaoeginonpicaaGreat renaming cName_Q→vd',RHash_R→vf',cI_Q→vh',cSig_Q→vj' in
set_option maxHeartbeats 4000000 in
theorem cCm_Q:GetsF 132 76 Cm.cells gCm:=
 fm5'
open Go.Proofs renaming Tryz.func77→va',Tryz.ntmps77→vb',Tryz.func42→vc',Tryz.func118→ve',Tryz.func119→vg',Tryz.func80→vi',Tryz.func120→vk' in
open Go.Proofs.YtnaoeginonpicaaGreat renaming cI_Q→vd',cName_Q→vf',RHash_R→vh',RNum_R→vj',cSig_Q→vl' in
set_option maxHeartbeats 4000000 in
theorem cSt_Q:GetsF 132 77 St.cells gSt:=
 fm6'
theorem cSt_G:Gets StR 132 77 gSt:=GetsF.to (A:=StR) cSt_Q fun _ _ _ hb=>⟨rfl,gSt_OK hb⟩
open Go.Proofs renaming Tryz.func86→va',Tryz.ntmps86→vb',Tryz.func42→vc',Tryz.func120→ve' in
open Go.Proofs.YtnaoeginonpicaaGreat renaming cI_Q→vd',cSig_Q→vf' in
set_option maxHeartbeats 4000000 in
theorem cDn_Q:GetsF 132 86 Dn.cells gDn:=
 fm7'
theorem cDn_G:Gets DnR 132 86 gDn:=GetsF.to (A:=DnR) cDn_Q fun _ _ _ hb=>⟨rfl,gDn_OK hb⟩
open Go.Proofs renaming Tryz.func121→va',Tryz.ntmps121→vb',Tryz.func77→vh',Tryz.underlying33→vl' in
open Go.Proofs.YtnaoeginonpicaaGreat renaming gSt→vc',St→vd',StR→ve',gSt_suf→vg',cSt_G→vi',info_St→vo' in
open Go.Gv renaming n'32→vf',z'0→vj',n'38→vk',z'1→vm',n'80→vn' in
set_option maxHeartbeats 4000000 in
theorem cList_St:GetsL StR 132 121 77 gSt:=
 fm16'
open Go.Proofs renaming Tryz.func145→va',Tryz.ntmps145→vb',Tryz.func86→vh',Tryz.underlying125→vl' in
open Go.Proofs.YtnaoeginonpicaaGreat renaming gDn→vc',Dn→vd',DnR→ve',gDn_suf→vg',cDn_G→vi',info_Dn→vo' in
open Go.Gv renaming n'56→vf',z'15→vj',n'4→vk',z'9→vm',n'32→vn' in
set_option maxHeartbeats 4000000 in
theorem cList_Dn:GetsL DnR 132 145 86 gDn:=
 fm16'
theorem ce_len (x:Ce) (v:Value) (h:x.c.h.length=32):(x.cells v).length=38:=by simp [Ce.cells,Cm.len h]
theorem op_len2 (x:Op) (v:Value) (h:x.nc.length=32):(x.cells v).length=34:=by simp [Op.cells,h]
theorem one_ce2 (x:Ce) (v:Value) (h:v.oneCell'=true):∀ u ∈ x.cells v,u.oneCell'=true:=by
 intro u hu
 simp only [Ce.cells,List.mem_append,D1,C9,or_false] at hu
 rcases hu with hu|rfl
 ·exact Cm_one _ _ hu
 ·exact h
theorem one_op2 (x:Op) (v:Value) (h:v.oneCell'=true):∀ u ∈ x.cells v,u.oneCell'=true:=by
 intro u hu
 simp only [Op.cells,List.mem_append,D1,C9,or_false,List.mem_map] at hu
 rcases hu with (rfl|rfl)|⟨y,-,rfl⟩
 ·rfl
 ·exact h
 ·rfl
set_option maxHeartbeats 4000000 in
theorem cCe_G:Gets CeR 132 78 gCe:=by
 intro R r s w hR hB hl
 have HRD:=B8 hR
 have HBR:=B8 hB
 have HBY:=hid hR.bytes
 clear hR hB
 have HLN:=B8 hl
 clear hl
 go_enter Tryz.func78,Tryz.ntmps78
 go_upto_region 1 with (fail)
 obtain ⟨w1,hw1⟩:∃ zz,zz=(w.alloc (.cells zq1.toArray 35)):=⟨_,rfl⟩
 change Code.wp _ _ _ _ (w.alloc (.cells zq1.toArray 35))
 rw [← hw1]
 have HB2:=hid (show Cs w1 (w.heap.size) zq1.toArray 35 by rw [hw1];exact Cs.new _ _ _)
 have hm:Mod (fun _=>False) w w1:=by rw [hw1];exact (Mod.refl _ _).alloc _
 have HM0:=hid (show Mod (fun k=>(R k)) w w1 from hm.mono iB)
 have hs1:w1.heap.size=w.heap.size+1:=by rw [hw1];simp
 have c7:=hid (HRD.o.mod hm iA)
 clear HRD
 clear hw1 hm
 go_upto_region 1 with (fail)
 refine Ab 8 [3,4,5,6,7,13] [0,1,2,3,4,5] (fun a0 HA0=>?_)
 have c3:=ev HA0 0 rfl
 have c8:=ev HA0 2 rfl
 refine qmo rfl c3 ?_
 refine QSeq.call rfl rfl Tryz.func76 (cCm_Q _ _ _ _ c7.out aK) (fun E=>Ap (E.d 0 0)) ?_
 rintro e d8 ⟨rfl,qrd,hm⟩
 refine ⟨_,rfl,?_⟩
 have c9:=hid qrd
 have g8:=hm.size
 have d5:=hid (show Mod (fun k=>(R k)) w1 d8 from hm)
 clear hm
 clear qrd c7
 refine qmo rfl c3 ?_
 refine QSeq.call rfl rfl Tryz.func121 (cList_St _ _ _ _ c9.out aK (C4 (gCm_suf.len _) HLN.o)) (fun E=>Ar (E.d 2 0) rfl) ?_
 rintro e g9 ⟨vlSt,rfl,qlSt,qrd,hm⟩
 obtain ⟨ao_lSt,cap_lSt,rfl⟩:=qlSt.shape
 refine ⟨_,rfl,?_⟩
 have d6:=hid qlSt
 have d7:=hid qrd
 have i7:=hm.size
 have d9:=hid hm
 have c4:=hid (AA (S':=(fun k=>(R k))) d5.out hm (fun _ h=>h) aQ)
 clear hm d5
 clear qlSt qrd c9
 refine QSeq.go fun act E=>?_
 refine Bu rfl (Aa rfl) (v:=.agg ((gCe s).1.cells (Value.slice ao_lSt (Av gSt (gCm s).2).1.length cap_lSt):List Value).toArray) (Bo rfl (z:=zq1) (places:=[(0,37),(37,1)]) aE (parts:=[(0,(gCm s).1.val),(1,.slice ao_lSt (Av gSt (gCm s).2).1.length cap_lSt)]) (by simp only [C8,C5,C6,show act.eval (.tmp 4)=(gCm s).1.val from (E.d 1 2),show act.eval (.tmp 6)=.slice ao_lSt (Av gSt (gCm s).2).1.length cap_lSt from (E.d 3 0)];try rfl) (r:=(gCe s).1.cells (Value.slice ao_lSt (Av gSt (gCm s).2).1.length cap_lSt)) (by exact Bn (ns:=[37,1]) rfl [(0,(gCm s).1.val),(1,.slice ao_lSt (Av gSt (gCm s).2).1.length cap_lSt)] [zq6,[.slice none 0 0]] rfl ⟨(szv (Cm.len (rHash_HK (gSig_suf.bytes HBY.o) |>.1))),rfl,trivial⟩)) ?_
 clear act E
 refine QSeq.go fun act E=>?_
 refine Am rfl (Aa rfl) rfl (HB2.o.mod c4.out aH) (off:=0) (vs:=((gCe s).1.cells (Value.slice ao_lSt (Av gSt (gCm s).2).1.length cap_lSt))) fP (one_ce2 _ _ rfl) (by rw [show ((gCe s).1.cells (Value.slice ao_lSt (Av gSt (gCm s).2).1.length cap_lSt)).length=_ from (ce_len _ _ (gCm_OK HBY.o).2.1)];decide) (E.v c8) (ec (E.d 4 0)) ?_
 intro g5 qc0 hm
 have qB2:=qc0.eqv (b:=(((gCe s).1.cells (Value.slice ao_lSt (Av gSt (gCm s).2).1.length cap_lSt)):List Value).toArray) (Aw _ _ (by rw [show ((gCe s).1.cells (Value.slice ao_lSt (Av gSt (gCm s).2).1.length cap_lSt)).length=_ from (ce_len _ _ (gCm_OK HBY.o).2.1)];rfl))
 clear qc0
 have g6:=hid qB2
 have i8:=hm.size
 have c6:=hid hm
 have g7:=hid (AA (S':=(fun k=>(R k)∨(k=w.heap.size))) c4.out hm iD aR)
 clear hm c4
 clear act E qB2 HB2
 have Hx9:=hid (d7.out.mod c6.out (sB HBR))
 have Hx10:=hid (d6.out.mod c6.out aD)
 clear d7 d6 d9 c6
 refine qe ?_
 clear HA0 c3 c8 a0
 go_wp2
 exact bodyPost_ret (A0 rfl _ _ w.heap.size ((gCe s).1.cells (Value.slice ao_lSt (Av gSt (gCm s).2).1.length cap_lSt)) rfl (fun k u hu=>by rw [g6.out.cell];simpa using hu) Tryz.underlying35 rfl fP) rfl ⟨_,rfl,⟨_,rfl,gCe_OK HBY.o,(Hx10.o.widen (R':=(fun k=>New w g5 k)) bB)⟩,Hx9.o,(HM0.o.trans g7.out aC)⟩
open Go.Proofs renaming Tryz.func122→va',Tryz.ntmps122→vb',Tryz.func78→vh',Tryz.underlying38→vl' in
open Go.Proofs.YtnaoeginonpicaaGreat renaming gCe→vc',Ce→vd',CeR→ve',gCe_suf→vg',cCe_G→vi',info_Ce→vo' in
open Go.Gv renaming n'35→vf',z'2→vj',n'38→vk',z'3→vm',n'96→vn' in
set_option maxHeartbeats 4000000 in
theorem cList_Ce:GetsL CeR 132 122 78 gCe:=
 fm16'
set_option maxHeartbeats 4000000 in
theorem cTb_G:Gets TbR 132 127 gTb:=by
 intro R r s w hR hB hl
 have HRD:=B8 hR
 have HBR:=B8 hB
 have HBY:=hid hR.bytes
 clear hR hB
 have HLN:=B8 hl
 clear hl
 go_enter Tryz.func127,Tryz.ntmps127
 go_upto_region 1 with (fail)
 obtain ⟨w1,hw1⟩:∃ zz,zz=(w.alloc (.cells #[.int .i64 0,.slice none 0 0] 127)):=⟨_,rfl⟩
 change Code.wp _ _ _ _ (w.alloc (.cells #[.int .i64 0,.slice none 0 0] 127))
 rw [← hw1]
 have HB2:=hid (show Cs w1 (w.heap.size) #[.int .i64 0,.slice none 0 0] 127 by rw [hw1];exact Cs.new _ _ _)
 have hm:Mod (fun _=>False) w w1:=by rw [hw1];exact (Mod.refl _ _).alloc _
 have HM0:=hid (show Mod (fun k=>(R k)) w w1 from hm.mono iB)
 have hs1:w1.heap.size=w.heap.size+1:=by rw [hw1];simp
 have c7:=hid (HRD.o.mod hm iA)
 clear HRD
 clear hw1 hm
 go_upto_region 1 with (fail)
 refine Ab 8 [3,4,5,6,7,13] [0,1,2,3,4,5] (fun a0 HA0=>?_)
 have c3:=ev HA0 0 rfl
 have c8:=ev HA0 2 rfl
 refine qmo rfl c3 ?_
 refine QSeq.call rfl rfl Tryz.func42 (cI_Q c7.out) (fun E=>Ar (E.d 0 0) rfl) ?_
 rintro e d8 ⟨rfl,qrd,hm⟩
 refine ⟨_,rfl,?_⟩
 have c9:=hid qrd
 have g8:=hm.size
 have d5:=hid (show Mod (fun k=>(R k)) w1 d8 from hm)
 clear hm
 clear qrd c7
 refine qmo rfl c3 ?_
 refine QSeq.call rfl rfl Tryz.func145 (cList_Dn _ _ _ _ c9.out aK (C4 (gI_suf.len _) HLN.o)) (fun E=>Ar (E.d 2 0) rfl) ?_
 rintro e g9 ⟨vlDn,rfl,qlDn,qrd,hm⟩
 obtain ⟨ao_lDn,cap_lDn,rfl⟩:=qlDn.shape
 refine ⟨_,rfl,?_⟩
 have d6:=hid qlDn
 have d7:=hid qrd
 have i7:=hm.size
 have d9:=hid hm
 have c4:=hid (AA (S':=(fun k=>(R k))) d5.out hm (fun _ h=>h) aQ)
 clear hm d5
 clear qlDn qrd c9
 refine QSeq.go fun act E=>?_
 refine Bu rfl (Aa rfl) (v:=.agg ((gTb s).1.cells (Value.slice ao_lDn (Av gDn (gI s).2).1.length cap_lDn):List Value).toArray) (Bo rfl (z:=[.int .i64 0,.slice none 0 0]) (places:=[(0,1),(1,1)]) aE (parts:=[(0,.int .i64 (gI s).1),(1,.slice ao_lDn (Av gDn (gI s).2).1.length cap_lDn)]) (by simp only [C8,C5,C6,show act.eval (.tmp 4)=.int .i64 (gI s).1 from (E.d 1 2),show act.eval (.tmp 6)=.slice ao_lDn (Av gDn (gI s).2).1.length cap_lDn from (E.d 3 0)];try rfl) (r:=(gTb s).1.cells (Value.slice ao_lDn (Av gDn (gI s).2).1.length cap_lDn)) (by exact Bn (ns:=[1,1]) rfl [(0,.int .i64 (gI s).1),(1,.slice ao_lDn (Av gDn (gI s).2).1.length cap_lDn)] [[.int .i64 0],[.slice none 0 0]] rfl ⟨rfl,rfl,trivial⟩)) ?_
 clear act E
 refine QSeq.go fun act E=>?_
 refine Am rfl (Aa rfl) rfl (HB2.o.mod c4.out aH) (off:=0) (vs:=((gTb s).1.cells (Value.slice ao_lDn (Av gDn (gI s).2).1.length cap_lDn))) aE gF bA (E.v c8) (ec (E.d 4 0)) ?_
 intro g5 qc0 hm
 have qB2:=qc0.eqv (b:=(((gTb s).1.cells (Value.slice ao_lDn (Av gDn (gI s).2).1.length cap_lDn)):List Value).toArray) (Aw #[.int .i64 0,.slice none 0 0] _ rfl)
 clear qc0
 have g6:=hid qB2
 have i8:=hm.size
 have c6:=hid hm
 have g7:=hid (AA (S':=(fun k=>(R k)∨(k=w.heap.size))) c4.out hm iD aR)
 clear hm c4
 clear act E qB2 HB2
 have Hx9:=hid (d7.out.mod c6.out (sB HBR))
 have Hx10:=hid (d6.out.mod c6.out aD)
 clear d7 d6 d9 c6
 refine qe ?_
 clear HA0 c3 c8 a0
 go_wp2
 exact bodyPost_ret (A0 rfl _ _ w.heap.size ((gTb s).1.cells (Value.slice ao_lDn (Av gDn (gI s).2).1.length cap_lDn)) rfl (fun k u hu=>by rw [g6.out.cell];simpa using hu) E4 rfl aE) rfl ⟨_,rfl,⟨_,rfl,gTb_OK HBY.o,(Hx10.o.widen (R':=(fun k=>New w g5 k)) bB)⟩,Hx9.o,(HM0.o.trans g7.out aC)⟩
set_option maxHeartbeats 4000000 in
theorem cList_Tb:GetsL TbR 132 126 127 gTb:=by
 intro R r s w hR hB hl
 have HRD:=B8 hR
 have HBR:=B8 hB
 have HLN:=B8 hl
 clear hR hB hl
 go_enter Tryz.func126,Tryz.ntmps126
 go_upto_region 2 with (fail)
 have HM0:=hid (Mod.refl (fun k=>(R k)) w)
 go_upto_region 2 with (fail)
 refine Ab 21 [6,7,8] [0,1,2] (fun a0 HA0=>?_)
 have c3:=ev HA0 0 rfl
 refine qmo rfl c3 ?_
 refine QSeq.call rfl rfl Tryz.func42 (RInt_R HRD.o aM) (fun E=>Ar (E.d 0 0) rfl) ?_
 rintro e g5 ⟨rfl,qrd,hm⟩
 refine ⟨_,rfl,?_⟩
 have i7:=hid qrd
 have j4:=hm.size
 have i8:=hid (show Mod (fun k=>(R k)) w g5 from hm)
 clear hm
 clear qrd HRD
 refine QSeq.pure rfl (.int .i64 0) (fun E=>Al rfl rfl) ?_
 refine qe ?_
 clear HA0 c3 a0
 obtain ⟨n,hn⟩:∃ n,n=(rInt 100 s).1:=⟨_,rfl⟩
 obtain ⟨s1,hs1⟩:∃ z,z=(rInt 100 s).2:=⟨_,rfl⟩
 have hn100:n≤100:=by have:=rInt_le 100 s;omega
 have HLS:=hid (show (s1.getD []).length≤900000 by rw [hs1];exact C4 ((rInt_suf 100).len s) HLN.o)
 have HGL:=hid (show Av gTb s=B0 gTb n [] s1 by rw [hn,hs1];rfl)
 rw [← hn]
 have hq:=i7.out
 rw [← hs1] at hq
 have HR1:=B8 hq
 clear hq hn hs1 HLN
 go_wp2
 go_loopw [5,8] (fun ta ti wr=>∃ (k:Nat) (acc:List Tb) (st:RSt),ti=.int .i64 (k:Int)∧k≤n∧acc.length=k∧(st.getD []).length≤900000∧B0 gTb (n - k) acc st=B0 gTb n [] s1∧g5.heap.size≤wr.heap.size∧OwS TbR 127 (fun b=>w.heap.size≤b∧b < wr.heap.size) (fun b=>w.heap.size≤b∧b < wr.heap.size) wr ta acc∧RrR 132 R wr r st∧Mod R w wr) (fun _ ti _=>n - (intOf ti).toNat)
 case atStart=>exact ⟨0,[],s1,rfl,Nat.zero_le _,rfl,HLS.o,rfl,C0 _,OwS.nil _ _ _ _ _,HR1.o,(HM0.o.trans i8.out iA)⟩
 case round=>
  obtain ⟨k,acc,st,rfl,hk,hka,hst,hg,hz,ha,hr,hm⟩:=hrel
  obtain ⟨wl,rfl⟩:∃ x,x=wr:=⟨_,rfl⟩
  obtain ⟨aol,capl,rfl⟩:=ha.shape
  have HAL:=B8 ha
  have HRL:=B8 hr
  have HML:=B8 hm
  have HST:=B8 hst
  have HG:=B8 hg
  have HKA:=B8 hka
  clear ha hr hm hst hg hka HR1 HM0
  by_cases hlt:k < n
  ·skip
   go_upto_region 3 with (fail)
   refine Ab 21 [9] [0] (fun a0 HA0=>?_)
   have c6:=ev HA0 7 rfl
   have c4:=ev HA0 8 rfl
   refine QSeq.pure rfl (.bool true) (fun E=>Aq rfl (E.v c4) (E.v c6) (Ai _ _ _ _ _ _) (A1 _ _ _ B9) (congrArg Value.bool (decide_eq_true aL))) ?_
   refine qe ?_
   clear HA0 c6 c4 a0
   obtain ⟨p,hp⟩:∃ p,p=gTb st:=⟨_,rfl⟩
   obtain ⟨x,st2⟩:=p
   have HP1:=hid (congrArg Prod.fst hp.symm)
   have HP2:=hid (congrArg Prod.snd hp.symm)
   clear hp
   dsimp only at HP1 HP2
   have HST2:=hid (show (st2.getD []).length≤900000 by rw [← HP2.o];exact C4 (gTb_suf.len st) HST.o)
   have HGN:=hid (show B0 gTb (n - k) acc st=if st2=none then ([],none) else B0 gTb (n - (k+1)) (acc ++ [x]) st2 by rw [show n - k=(n - (k+1))+1 by omega];show (if (gTb st).2=none then _ else _)=_;rw [HP2.o,HP1.o])
   go_upto_region 4 with (fail)
   refine Ab 21 [10,11,12,13,14,15,5] [0,1,2,3,4,5,6] (fun a0 HA0=>?_)
   have c3:=ev HA0 0 rfl
   have g6:=ev HA0 1 rfl
   have c7:=ev HA0 5 rfl
   refine QSeq.pure rfl _ (fun E=>Al rfl (E.y 6 c7)) ?_
   refine qmo rfl g6 ?_
   refine qmo rfl c3 ?_
   refine QSeq.go fun act E=>?_
   have ea12:act.eval (.tmp 12)=.pointer (some ⟨r,0,none⟩):=(E.d 2 0)
   refine qc_call (args:=#[.pointer (some ⟨r,0,none⟩)]) rfl (Aa rfl) (by rw [ex_callV rfl (E.d 1 1) Tryz.func127 aE aE];exact congrArg (fun z=>Result.ok (Next.enter _ z) _) (by simp only [C8,C5,C6,ea12];try rfl)) ((cTb_G).to HP1.o HP2.o HRL.o aK HST.o) ?_
   rintro e c8 ⟨cs,rfl,qel,qrd,hm⟩
   refine ⟨_,rfl,?_⟩
   have c9:=hid qel
   have g7:=hid qrd
   have j5:=hm.size
   have g8:=hid (show Mod (fun k=>(R k)) wl c8 from hm)
   clear hm
   clear act E qel qrd HRL ea12
   refine QSeq.go fun act E=>?_
   refine qc_buildS (e:=127) (cs:=cs) (zc:=[.int .i64 0,.slice none 0 0]) (sz:=2) rfl (Aa rfl) rfl D0 aE rfl aM aM (E.d 3 0) (TbR.len c9.out) ?_
   intro i9 qrow hm
   have j6:=qrow.lt
   have d7:=hid qrow
   have j7:=hm.size
   have d5:=hid hm
   have d8:=hid (g8.out.goE hm)
   clear hm g8
   clear act E qrow
   refine QSeq.go fun act E=>?_
   refine qc_appS (A:=TbR) (e:=127) rfl (Aa rfl) rfl (.agg #[.int .i64 0,.slice none 0 0]) 32 D0 info_Tb (by rfl) (of_decide_eq_true aE) (E.d 0 4) (E.d 4 0) ((HAL.o.mod d8.out aT aT)) (AI (R:=(fun k=>(New wl c8 k)∨(k=c8.heap.size))) d7.out ((c9.out.mod d5.out iA).widen bF) dN) aD (by rw [HKA.o];simp only [D6,D5];omega) (by rw [HKA.o];simp only [D6,D5];rw [Ax];omega) ?_
   intro ao4 cap4 d9 qout hm
   have Hx8:=hid (qout.widen (R':=(fun k=>(New w wl k)∨(New i9 d9 k))) (E':=(fun k=>(New w wl k)∨(New wl c8 k)∨(k=c8.heap.size))) (fun _ h=>h) bD)
   have j8:=hm.size
   have d6:=hid hm
   have g9:=hid (AA (S':=(fun k=>(R k)∨(New w wl k))) d8.out hm iD aR)
   clear hm d8
   clear act E qout HAL
   refine qas rfl 5 0 ?_
   have Hx10:=hid ((g7.out.mod d5.out iA).mod d6.out (sN HBR))
   have j0:=hid ((c9.out.mod d5.out iA).mod d6.out aD)
   have j3:=hid (d7.out.mod d6.out aG)
   clear g7 c9 d7 d5 d6
   refine qe ?_
   clear HA0 c3 g6 c7 a0
   clear j0
   clear j3
   cases st2 with
   | none=>
    go_upto_region 5 with (fail)
    refine Ab 21 [16,17,18] [0,1,2] (fun a0 HA0=>?_)
    have c3:=ev HA0 0 rfl
    refine qmo rfl c3 ?_
    refine QSeq.go fun act E=>?_
    refine Aj (args:=#[.pointer (some ⟨r,0,none⟩)]) rfl (Aa rfl) rfl Tryz.func43 (Ap (E.d 0 0)) (OK_R Hx10.o) ?_
    rintro e w2 ⟨rfl,hw2⟩
    obtain rfl:d9=w2:=by first|exact hw2|exact hw2.symm
    refine ⟨_,rfl,?_⟩
    clear act E
    refine QSeq.pure rfl (.bool true) (fun E=>B1 rfl (E.d 1 0)) ?_
    refine qe ?_
    clear HA0 c3 a0
    go_upto_region 6 with (fail)
    refine Ab 21 [4] [0] (fun a0 HA0=>?_)
    refine QSeq.pure rfl (.slice none 0 0) (fun E=>An rfl rfl) ?_
    refine qe ?_
    clear HA0 a0
    go_wp2
    go_ret
    have hq:=HG.o
    rw [HGN.o,if_pos trivial] at hq
    have e:=HGL.o
    rw [← hq] at e
    refine ⟨_,rfl,?_,?_,(HML.o.trans g9.out aC)⟩
    ·rw [e];exact RdS.nil _ _ _
    ·rw [e];exact Hx10.o
   | some l2=>
    go_upto_region 5 with (fail)
    refine Ab 21 [16,17,18] [0,1,2] (fun a0 HA0=>?_)
    have c3:=ev HA0 0 rfl
    refine qmo rfl c3 ?_
    refine QSeq.go fun act E=>?_
    refine Aj (args:=#[.pointer (some ⟨r,0,none⟩)]) rfl (Aa rfl) rfl Tryz.func43 (Ap (E.d 0 0)) (OK_R Hx10.o) ?_
    rintro e w2 ⟨rfl,hw2⟩
    obtain rfl:d9=w2:=by first|exact hw2|exact hw2.symm
    refine ⟨_,rfl,?_⟩
    clear act E
    refine QSeq.pure rfl (.bool false) (fun E=>B1 rfl (E.d 1 0)) ?_
    refine qe ?_
    clear HA0 c3 a0
    go_upto_region 7 with (fail)
    refine Ab 21 [19,8] [0,1] (fun a0 HA0=>?_)
    have c4:=ev HA0 8 rfl
    refine QSeq.pure rfl (.int .i64 (((k:Nat):Int)+1)) (fun E=>Aq rfl (E.y 1 c4) rfl (Ai _ _ _ _ _ _) (Bz _ _ B9) (congrArg (Value.int .i64) (IntWalk.i64_in _ aL))) ?_
    refine qmv rfl 0 0 ?_
    refine qe ?_
    clear HA0 c4 a0
    go_wp2
    go_roundw
    case rel=>exact ⟨k+1,acc ++ [x],some l2,by go_num,by omega,by rw [C3,HKA.o];rfl,HST2.o,(by have hq:=HG.o;rw [HGN.o,if_neg bA] at hq;exact hq),by omega,(Hx8.o.widen cS bZ),Hx10.o,(HML.o.trans g9.out aC)⟩
    case measure=>simp [intOf]<;>omega
  ·obtain rfl:n=k:=by omega
   go_upto_region 3 with (fail)
   refine Ab 21 [9] [0] (fun a0 HA0=>?_)
   have c6:=ev HA0 7 rfl
   have c4:=ev HA0 8 rfl
   refine QSeq.pure rfl (.bool false) (fun E=>Aq rfl (E.v c4) (E.v c6) (Ai _ _ _ _ _ _) (A1 _ _ _ B9) (congrArg Value.bool (decide_eq_false aL))) ?_
   refine qe ?_
   clear HA0 c6 c4 a0
   go_upto_region 8 with (fail)
   refine Ab 21 [20,4] [0,1] (fun a0 HA0=>?_)
   have c7:=ev HA0 5 rfl
   refine qmo rfl c7 ?_
   refine qas rfl 0 0 ?_
   refine qe ?_
   clear HA0 c7 a0
   go_wp2
   go_ret
   have hq:=HG.o
   rw [Nat.sub_self] at hq
   have e:=HGL.o
   rw [← hq] at e
   refine ⟨_,rfl,?_,?_,HML.o⟩
   ·rw [e];exact HAL.o.rd.widen cX
   ·rw [e];exact HRL.o
set_option maxHeartbeats 4000000 in
theorem cOp_G:Gets OpR 132 85 gOp:=by
 intro R r s w hR hB hl
 have HRD:=B8 hR
 have HBR:=B8 hB
 have HBY:=hid hR.bytes
 clear hR hB
 have HLN:=B8 hl
 clear hl
 go_enter Tryz.func85,Tryz.ntmps85
 go_upto_region 1 with (fail)
 obtain ⟨w1,hw1⟩:∃ zz,zz=(w.alloc (.cells zq2.toArray 54)):=⟨_,rfl⟩
 change Code.wp _ _ _ _ (w.alloc (.cells zq2.toArray 54))
 rw [← hw1]
 have HB2:=hid (show Cs w1 (w.heap.size) zq2.toArray 54 by rw [hw1];exact Cs.new _ _ _)
 have hm:Mod (fun _=>False) w w1:=by rw [hw1];exact (Mod.refl _ _).alloc _
 have HM0:=hid (show Mod (fun k=>(R k)) w w1 from hm.mono iB)
 have hs1:w1.heap.size=w.heap.size+1:=by rw [hw1];simp
 have c7:=hid (HRD.o.mod hm iA)
 clear HRD
 clear hw1 hm
 go_upto_region 1 with (fail)
 refine Ab 10 [3,4,5,6,7,8,9,17] [0,1,2,3,4,5,6,7] (fun a0 HA0=>?_)
 have c3:=ev HA0 0 rfl
 have c8:=ev HA0 2 rfl
 refine qmo rfl c3 ?_
 refine QSeq.call rfl rfl Tryz.func42 (cI_Q c7.out) (fun E=>Ar (E.d 0 0) rfl) ?_
 rintro e g6 ⟨rfl,qrd,hm⟩
 refine ⟨_,rfl,?_⟩
 have c9:=hid qrd
 have i9:=hm.size
 have d5:=hid (show Mod (fun k=>(R k)) w1 g6 from hm)
 clear hm
 clear qrd c7
 refine qmo rfl c3 ?_
 refine QSeq.call rfl rfl Tryz.func87 (cRow_Q c9.out) (fun E=>Ar (E.d 2 0) rfl) ?_
 rintro e j0 ⟨vr,rfl,qrow,qrd,hm⟩
 obtain ⟨ao_row,cap_row,rfl⟩:=qrow.shape
 refine ⟨_,rfl,?_⟩
 have d6:=hid qrow
 have d7:=hid qrd
 have j3:=hm.size
 have g7:=hid hm
 have d8:=hid (AA (S':=(fun k=>(R k))) d5.out hm (fun _ h=>h) aQ)
 clear hm d5
 clear qrow qrd c9
 refine qmo rfl c3 ?_
 refine QSeq.call rfl rfl Tryz.func119 (RHash_R d7.out) (fun E=>Ap (E.d 4 0)) ?_
 rintro e j4 ⟨rfl,qrd,hm⟩
 refine ⟨_,rfl,?_⟩
 have d9:=hid qrd
 have j5:=hm.size
 have g5:=hid hm
 have c4:=hid (AA (S':=(fun k=>(R k))) d8.out hm (fun _ h=>h) aQ)
 clear hm d8
 clear qrd d7
 refine QSeq.go fun act E=>?_
 refine Bu rfl (Aa rfl) (v:=.agg ((gOp s).1.cells (Value.slice ao_row (rRow 256 (gI s).2).1.length cap_row):List Value).toArray) (Bo rfl (z:=zq2) (places:=[(0,1),(1,1),(2,32)]) aE (parts:=[(0,.int .i64 (gI s).1),(1,.slice ao_row (rRow 256 (gI s).2).1.length cap_row),(2,hv (A6 (rRow 256 (gI s).2).2).1)]) dJ (r:=(gOp s).1.cells (Value.slice ao_row (rRow 256 (gI s).2).1.length cap_row)) cO) ?_
 clear act E
 refine QSeq.go fun act E=>?_
 refine Am rfl (Aa rfl) rfl (HB2.o.mod c4.out aH) (off:=0) (vs:=((gOp s).1.cells (Value.slice ao_row (rRow 256 (gI s).2).1.length cap_row))) cE (one_op2 _ _ rfl) fS (E.v c8) (ec (E.d 6 0)) ?_
 intro g8 qc0 hm
 have qB2:=qc0.eqv (b:=(((gOp s).1.cells (Value.slice ao_row (rRow 256 (gI s).2).1.length cap_row)):List Value).toArray) (Aw _ _ fT)
 clear qc0
 have Hx9:=hid qB2
 have j6:=hm.size
 have c6:=hid hm
 have g9:=hid (AA (S':=(fun k=>(R k)∨(k=w.heap.size))) c4.out hm iD aR)
 clear hm c4
 clear act E qB2 HB2
 have i7:=hid (d9.out.mod c6.out (sB HBR))
 have i8:=hid ((d6.out.mod g5.out aT).mod c6.out aD)
 clear d9 d6 g7 g5 c6
 refine qe ?_
 clear HA0 c3 c8 a0
 go_wp2
 exact bodyPost_ret (A0 rfl _ _ w.heap.size ((gOp s).1.cells (Value.slice ao_row (rRow 256 (gI s).2).1.length cap_row)) rfl (fun k u hu=>by rw [Hx9.o.cell];simpa using hu) Tryz.underlying54 rfl cE) rfl ⟨_,rfl,⟨_,rfl,gOp_OK HBY.o,(i8.out.widen (R':=(fun k=>New w g8 k)) bB (C0 _))⟩,i7.out,(HM0.o.trans g9.out aC)⟩
open Go.Proofs renaming Tryz.func125→va',Tryz.ntmps125→vb',Tryz.func85→vh',Tryz.underlying42→vl' in
open Go.Proofs.YtnaoeginonpicaaGreat renaming gOp→vc',Op→vd',OpR→ve',gOp_suf→vg',cOp_G→vi',info_Op→vo' in
open Go.Gv renaming n'54→vf',z'17→vj',n'34→vk',z'18→vm',n'64→vn' in
set_option maxHeartbeats 4000000 in
theorem cList_Op:GetsL OpR 132 125 85 gOp:=
 fm16'
set_option maxHeartbeats 4000000 in
theorem cPm_G:Gets PmR 132 81 gPm:=by
 intro R r s w hR hB hl
 have HRD:=B8 hR
 have HBR:=B8 hB
 have HBY:=hid hR.bytes
 clear hR hB
 have HLN:=B8 hl
 clear hl
 go_enter Tryz.func81,Tryz.ntmps81
 go_upto_region 1 with (fail)
 obtain ⟨w1,hw1⟩:∃ zz,zz=(w.alloc (.cells zq9.toArray 40)):=⟨_,rfl⟩
 change Code.wp _ _ _ _ (w.alloc (.cells zq9.toArray 40))
 rw [← hw1]
 have HB2:=hid (show Cs w1 (w.heap.size) zq9.toArray 40 by rw [hw1];exact Cs.new _ _ _)
 have hm:Mod (fun _=>False) w w1:=by rw [hw1];exact (Mod.refl _ _).alloc _
 have HM0:=hid (show Mod (fun k=>(R k)) w w1 from hm.mono iB)
 have hs1:w1.heap.size=w.heap.size+1:=by rw [hw1];simp
 have c7:=hid (HRD.o.mod hm iA)
 clear HRD
 clear hw1 hm
 go_upto_region 1 with (fail)
 refine Ab 14 [3,4,5,6,7,8,9,10,11,12,13,25] [0,1,2,3,4,5,6,7,8,9,10,11] (fun a0 HA0=>?_)
 have c3:=ev HA0 0 rfl
 have c8:=ev HA0 2 rfl
 refine qmo rfl c3 ?_
 refine QSeq.call rfl rfl Tryz.func42 (cI_Q c7.out) (fun E=>Ar (E.d 0 0) rfl) ?_
 rintro e g8 ⟨rfl,qrd,hm⟩
 refine ⟨_,rfl,?_⟩
 have c9:=hid qrd
 have j6:=hm.size
 have d5:=hid (show Mod (fun k=>(R k)) w1 g8 from hm)
 clear hm
 clear qrd c7
 refine qmo rfl c3 ?_
 refine QSeq.call rfl rfl Tryz.func42 (cI_Q c9.out) (fun E=>Ar (E.d 2 0) rfl) ?_
 rintro e j7 ⟨rfl,qrd,hm⟩
 refine ⟨_,rfl,?_⟩
 have d6:=hid qrd
 have j8:=hm.size
 have g9:=hid hm
 have d7:=hid (AA (S':=(fun k=>(R k))) d5.out hm (fun _ h=>h) aQ)
 clear hm d5
 clear qrd c9
 refine qmo rfl c3 ?_
 refine QSeq.call rfl rfl Tryz.func80 (RNum_R d6.out) (fun E=>Ap (E.d 4 0)) ?_
 rintro e j9 ⟨rfl,qrd,hm⟩
 refine ⟨_,rfl,?_⟩
 have d8:=hid qrd
 have l7:=hm.size
 have i7:=hid hm
 have d9:=hid (AA (S':=(fun k=>(R k))) d7.out hm (fun _ h=>h) aQ)
 clear hm d7
 clear qrd d6
 refine qmo rfl c3 ?_
 refine QSeq.call rfl rfl Tryz.func122 (cList_Ce _ _ _ _ d8.out aK (C4 (rNum_suf.len _) (C4 (gI_suf.len _) (C4 (gI_suf.len _) HLN.o)))) (fun E=>Ar (E.d 6 0) rfl) ?_
 rintro e l8 ⟨vlCe,rfl,qlCe,qrd,hm⟩
 obtain ⟨ao_lCe,cap_lCe,rfl⟩:=qlCe.shape
 refine ⟨_,rfl,?_⟩
 have Hx8:=hid qlCe
 have Hx9:=hid qrd
 have m7:=hm.size
 have i8:=hid hm
 have g5:=hid (AA (S':=(fun k=>(R k))) d9.out hm (fun _ h=>h) aQ)
 clear hm d9
 clear qlCe qrd d8
 refine qmo rfl c3 ?_
 refine QSeq.call rfl rfl Tryz.func120 (cSig_Q _ _ _ _ Hx9.o aK) (fun E=>Ap (E.d 8 0)) ?_
 rintro e m8 ⟨rfl,qrd,hm⟩
 refine ⟨_,rfl,?_⟩
 have g6:=hid qrd
 have m9:=hm.size
 have g7:=hid hm
 have c4:=hid (AA (S':=(fun k=>(R k))) g5.out hm (fun _ h=>h) aQ)
 clear hm g5
 clear qrd Hx9
 refine QSeq.go fun act E=>?_
 refine Bu rfl (Aa rfl) (v:=.agg ((gPm s).1.cells (Value.slice ao_lCe (Av gCe (rNum (gI (gI s).2).2).2).1.length cap_lCe):List Value).toArray) (Bo rfl (z:=zq9) (places:=[(0,1),(1,1),(2,1),(3,1),(4,2)]) aE (parts:=[(0,.int .i64 (gI s).1),(1,.int .i64 (gI (gI s).2).1),(2,.int .u64 ((rNum (gI (gI s).2).2).1:Nat)),(3,.slice ao_lCe (Av gCe (rNum (gI (gI s).2).2).2).1.length cap_lCe),(4,.agg #[.int .i64 (gSig (Av gCe (rNum (gI (gI s).2).2).2).2).1.1,.int .i64 (gSig (Av gCe (rNum (gI (gI s).2).2).2).2).1.2])]) (by simp only [C8,C5,C6,show act.eval (.tmp 4)=.int .i64 (gI s).1 from (E.d 1 8),show act.eval (.tmp 6)=.int .i64 (gI (gI s).2).1 from (E.d 3 6),show act.eval (.tmp 8)=.int .u64 ((rNum (gI (gI s).2).2).1:Nat) from (E.d 5 4),show act.eval (.tmp 10)=.slice ao_lCe (Av gCe (rNum (gI (gI s).2).2).2).1.length cap_lCe from (E.d 7 2),show act.eval (.tmp 12)=.agg #[.int .i64 (gSig (Av gCe (rNum (gI (gI s).2).2).2).2).1.1,.int .i64 (gSig (Av gCe (rNum (gI (gI s).2).2).2).2).1.2] from (E.d 9 0)];try rfl) (r:=(gPm s).1.cells (Value.slice ao_lCe (Av gCe (rNum (gI (gI s).2).2).2).1.length cap_lCe)) (by exact Bn (ns:=[1,1,1,1,2]) rfl [(0,.int .i64 (gI s).1),(1,.int .i64 (gI (gI s).2).1),(2,.int .u64 ((rNum (gI (gI s).2).2).1:Nat)),(3,.slice ao_lCe (Av gCe (rNum (gI (gI s).2).2).2).1.length cap_lCe),(4,.agg #[.int .i64 (gSig (Av gCe (rNum (gI (gI s).2).2).2).2).1.1,.int .i64 (gSig (Av gCe (rNum (gI (gI s).2).2).2).2).1.2])] [[.int .i64 0],[.int .i64 0],[.int .u64 0],[.slice none 0 0],[.int .i64 0,.int .i64 0]] rfl ⟨rfl,rfl,rfl,rfl,rfl,trivial⟩)) ?_
 clear act E
 refine QSeq.go fun act E=>?_
 refine Am rfl (Aa rfl) rfl (HB2.o.mod c4.out aH) (off:=0) (vs:=((gPm s).1.cells (Value.slice ao_lCe (Av gCe (rNum (gI (gI s).2).2).2).1.length cap_lCe))) aE dO bA (E.v c8) (ec (E.d 10 0)) ?_
 intro i9 qc0 hm
 have qB2:=qc0.eqv (b:=(((gPm s).1.cells (Value.slice ao_lCe (Av gCe (rNum (gI (gI s).2).2).2).1.length cap_lCe)):List Value).toArray) (Aw zq9.toArray _ rfl)
 clear qc0
 have j0:=hid qB2
 have n5:=hm.size
 have c6:=hid hm
 have j3:=hid (AA (S':=(fun k=>(R k)∨(k=w.heap.size))) c4.out hm iD aR)
 clear hm c4
 clear act E qB2 HB2
 have j4:=hid (g6.out.mod c6.out (sB HBR))
 have j5:=hid ((Hx8.o.mod g7.out aT).mod c6.out aD)
 clear g6 Hx8 g9 i7 i8 g7 c6
 refine qe ?_
 clear HA0 c3 c8 a0
 go_wp2
 exact bodyPost_ret (A0 rfl _ _ w.heap.size ((gPm s).1.cells (Value.slice ao_lCe (Av gCe (rNum (gI (gI s).2).2).2).1.length cap_lCe)) rfl (fun k u hu=>by rw [j0.out.cell];simpa using hu) Tryz.underlying40 rfl aE) rfl ⟨_,rfl,⟨_,rfl,gPm_OK HBY.o,(j5.out.widen (R':=(fun k=>New w i9 k)) bB)⟩,j4.out,(HM0.o.trans j3.out aC)⟩
open Go.Proofs renaming Tryz.func124→va',Tryz.ntmps124→vb',Tryz.func81→vh',Tryz.underlying41→vl' in
open Go.Proofs.YtnaoeginonpicaaGreat renaming gPm→vc',Pm→vd',PmR→ve',gPm_suf→vg',cPm_G→vi',info_Pm→vo' in
open Go.Gv renaming n'40→vf',z'20→vj',n'6→vk',z'21→vm',n'64→vn' in
set_option maxHeartbeats 4000000 in
theorem cList_Pm:GetsL PmR 132 124 81 gPm:=
 fm16'
set_option maxHeartbeats 4000000 in
theorem cBa_G:Gets BaR 132 88 gBa:=by
 intro R r s w hR hB hl
 have HRD:=B8 hR
 have HBR:=B8 hB
 have HBY:=hid hR.bytes
 clear hR hB
 have HLN:=B8 hl
 clear hl
 go_enter Tryz.func88,Tryz.ntmps88
 go_upto_region 1 with (fail)
 obtain ⟨w1,hw1⟩:∃ zz,zz=(w.alloc (.cells zq8.toArray 45)):=⟨_,rfl⟩
 change Code.wp _ _ _ _ (w.alloc (.cells zq8.toArray 45))
 rw [← hw1]
 have HB2:=hid (show Cs w1 (w.heap.size) zq8.toArray 45 by rw [hw1];exact Cs.new _ _ _)
 have hm:Mod (fun _=>False) w w1:=by rw [hw1];exact (Mod.refl _ _).alloc _
 have HM0:=hid (show Mod (fun k=>(R k)) w w1 from hm.mono iB)
 have hs1:w1.heap.size=w.heap.size+1:=by rw [hw1];simp
 have c9:=hid (HRD.o.mod hm iA)
 clear HRD
 clear hw1 hm
 go_upto_region 1 with (fail)
 refine Ab 14 [3,4,5,6,7,8,9,10,11,12,13,25] [0,1,2,3,4,5,6,7,8,9,10,11] (fun a0 HA0=>?_)
 have c3:=ev HA0 0 rfl
 have d5:=ev HA0 2 rfl
 refine qmo rfl c3 ?_
 refine QSeq.call rfl rfl Tryz.func42 (cI_Q c9.out) (fun E=>Ar (E.d 0 0) rfl) ?_
 rintro e i9 ⟨rfl,qrd,hm⟩
 refine ⟨_,rfl,?_⟩
 have d6:=hid qrd
 have l7:=hm.size
 have d7:=hid (show Mod (fun k=>(R k)) w1 i9 from hm)
 clear hm
 clear qrd c9
 refine qmo rfl c3 ?_
 refine QSeq.call rfl rfl Tryz.func80 (RNum_R d6.out) (fun E=>Ap (E.d 2 0)) ?_
 rintro e l8 ⟨rfl,qrd,hm⟩
 refine ⟨_,rfl,?_⟩
 have d8:=hid qrd
 have m7:=hm.size
 have j0:=hid hm
 have d9:=hid (AA (S':=(fun k=>(R k))) d7.out hm (fun _ h=>h) aQ)
 clear hm d7
 clear qrd d6
 refine qmo rfl c3 ?_
 refine QSeq.call rfl rfl Tryz.func124 (cList_Pm _ _ _ _ d8.out aK (C4 (rNum_suf.len _) (C4 (gI_suf.len _) HLN.o))) (fun E=>Ar (E.d 4 0) rfl) ?_
 rintro e m8 ⟨vlPm,rfl,qlPm,qrd,hm⟩
 obtain ⟨ao_lPm,cap_lPm,rfl⟩:=qlPm.shape
 refine ⟨_,rfl,?_⟩
 have g5:=hid qlPm
 have g6:=hid qrd
 have m9:=hm.size
 have j3:=hid hm
 have g7:=hid (AA (S':=(fun k=>(R k))) d9.out hm (fun _ h=>h) aQ)
 clear hm d9
 clear qlPm qrd d8
 refine qmo rfl c3 ?_
 refine QSeq.call rfl rfl Tryz.func125 (cList_Op _ _ _ _ g6.out aK (C4 ((gList_suf gPm_suf).len _) (C4 (rNum_suf.len _) (C4 (gI_suf.len _) HLN.o)))) (fun E=>Ar (E.d 6 0) rfl) ?_
 rintro e n5 ⟨vlOp,rfl,qlOp,qrd,hm⟩
 obtain ⟨ao_lOp,cap_lOp,rfl⟩:=qlOp.shape
 refine ⟨_,rfl,?_⟩
 have Hx9:=hid qlOp
 have Hx10:=hid qrd
 have n6:=hm.size
 have g8:=hid hm
 have g9:=hid (AA (S':=(fun k=>(R k))) g7.out hm (fun _ h=>h) aQ)
 clear hm g7
 clear qlOp qrd g6
 refine qmo rfl c3 ?_
 refine QSeq.call rfl rfl Tryz.func126 (cList_Tb _ _ _ _ Hx10.o aK (C4 ((gList_suf gOp_suf).len _) (C4 ((gList_suf gPm_suf).len _) (C4 (rNum_suf.len _) (C4 (gI_suf.len _) HLN.o))))) (fun E=>Ar (E.d 8 0) rfl) ?_
 rintro e n7 ⟨vlTb,rfl,qlTb,qrd,hm⟩
 obtain ⟨ao_lTb,cap_lTb,rfl⟩:=qlTb.shape
 refine ⟨_,rfl,?_⟩
 have i7:=hid qlTb
 have i8:=hid qrd
 have n8:=hm.size
 have c6:=hid hm
 have c7:=hid (AA (S':=(fun k=>(R k))) g9.out hm (fun _ h=>h) aQ)
 clear hm g9
 clear qlTb qrd Hx10
 refine QSeq.go fun act E=>?_
 refine Bu rfl (Aa rfl) (v:=.agg ((gBa s).1.cells (Value.slice ao_lPm (Av gPm (rNum (gI s).2).2).1.length cap_lPm) (Value.slice ao_lOp (Av gOp (Av gPm (rNum (gI s).2).2).2).1.length cap_lOp) (Value.slice ao_lTb (Av gTb (Av gOp (Av gPm (rNum (gI s).2).2).2).2).1.length cap_lTb):List Value).toArray) (Bo rfl (z:=zq8) (places:=[(0,1),(1,1),(2,1),(3,1),(4,1)]) aE (parts:=[(0,.int .i64 (gI s).1),(1,.int .u64 ((rNum (gI s).2).1:Nat)),(2,.slice ao_lPm (Av gPm (rNum (gI s).2).2).1.length cap_lPm),(3,.slice ao_lOp (Av gOp (Av gPm (rNum (gI s).2).2).2).1.length cap_lOp),(4,.slice ao_lTb (Av gTb (Av gOp (Av gPm (rNum (gI s).2).2).2).2).1.length cap_lTb)]) (by simp only [C8,C5,C6,show act.eval (.tmp 4)=.int .i64 (gI s).1 from (E.d 1 8),show act.eval (.tmp 6)=.int .u64 ((rNum (gI s).2).1:Nat) from (E.d 3 6),show act.eval (.tmp 8)=.slice ao_lPm (Av gPm (rNum (gI s).2).2).1.length cap_lPm from (E.d 5 4),show act.eval (.tmp 10)=.slice ao_lOp (Av gOp (Av gPm (rNum (gI s).2).2).2).1.length cap_lOp from (E.d 7 2),show act.eval (.tmp 12)=.slice ao_lTb (Av gTb (Av gOp (Av gPm (rNum (gI s).2).2).2).2).1.length cap_lTb from (E.d 9 0)];try rfl) (r:=(gBa s).1.cells (Value.slice ao_lPm (Av gPm (rNum (gI s).2).2).1.length cap_lPm) (Value.slice ao_lOp (Av gOp (Av gPm (rNum (gI s).2).2).2).1.length cap_lOp) (Value.slice ao_lTb (Av gTb (Av gOp (Av gPm (rNum (gI s).2).2).2).2).1.length cap_lTb)) (by exact Bn (ns:=[1,1,1,1,1]) rfl [(0,.int .i64 (gI s).1),(1,.int .u64 ((rNum (gI s).2).1:Nat)),(2,.slice ao_lPm (Av gPm (rNum (gI s).2).2).1.length cap_lPm),(3,.slice ao_lOp (Av gOp (Av gPm (rNum (gI s).2).2).2).1.length cap_lOp),(4,.slice ao_lTb (Av gTb (Av gOp (Av gPm (rNum (gI s).2).2).2).2).1.length cap_lTb)] [[.int .i64 0],[.int .u64 0],[.slice none 0 0],[.slice none 0 0],[.slice none 0 0]] rfl ⟨rfl,rfl,rfl,rfl,rfl,trivial⟩)) ?_
 clear act E
 refine QSeq.go fun act E=>?_
 refine Am rfl (Aa rfl) rfl (HB2.o.mod c7.out aH) (off:=0) (vs:=((gBa s).1.cells (Value.slice ao_lPm (Av gPm (rNum (gI s).2).2).1.length cap_lPm) (Value.slice ao_lOp (Av gOp (Av gPm (rNum (gI s).2).2).2).1.length cap_lOp) (Value.slice ao_lTb (Av gTb (Av gOp (Av gPm (rNum (gI s).2).2).2).2).1.length cap_lTb))) aE dS bA (E.v d5) (ec (E.d 10 0)) ?_
 intro c8 qc0 hm
 have qB2:=qc0.eqv (b:=(((gBa s).1.cells (Value.slice ao_lPm (Av gPm (rNum (gI s).2).2).1.length cap_lPm) (Value.slice ao_lOp (Av gOp (Av gPm (rNum (gI s).2).2).2).1.length cap_lOp) (Value.slice ao_lTb (Av gTb (Av gOp (Av gPm (rNum (gI s).2).2).2).2).1.length cap_lTb)):List Value).toArray) (Aw zq8.toArray _ rfl)
 clear qc0
 have j4:=hid qB2
 have o5:=hm.size
 have c4:=hid hm
 have j5:=hid (AA (S':=(fun k=>(R k)∨(k=w.heap.size))) c7.out hm iD aR)
 clear hm c7
 clear act E qB2 HB2
 have j6:=hid (i8.out.mod c4.out (sB HBR))
 have j7:=hid (((g5.out.mod g8.out aT).mod c6.out aT).mod c4.out aD)
 have j8:=hid ((Hx9.o.mod c6.out aT).mod c4.out aD)
 have j9:=hid (i7.out.mod c4.out aD)
 clear i8 g5 Hx9 i7 j0 j3 g8 c6 c4
 refine qe ?_
 clear HA0 c3 d5 a0
 go_wp2
 exact bodyPost_ret (A0 rfl _ _ w.heap.size ((gBa s).1.cells (Value.slice ao_lPm (Av gPm (rNum (gI s).2).2).1.length cap_lPm) (Value.slice ao_lOp (Av gOp (Av gPm (rNum (gI s).2).2).2).1.length cap_lOp) (Value.slice ao_lTb (Av gTb (Av gOp (Av gPm (rNum (gI s).2).2).2).2).1.length cap_lTb)) rfl (fun k u hu=>by rw [j4.out.cell];simpa using hu) C7 rfl aE) rfl ⟨_,rfl,⟨_,_,_,rfl,gBa_OK HBY.o,(j7.out.widen (R':=(fun k=>New w c8 k)) bB),(j8.out.widen (R':=(fun k=>New w c8 k)) bB),(j9.out.widen (R':=(fun k=>New w c8 k)) bB)⟩,j6.out,(HM0.o.trans j5.out aC)⟩
theorem info_Vt:(Tryz.prog.info? 49).map (fun i=>(i.zero,i.size,i.bytes))=some (some (.agg zq4.toArray),38,80):=by kernel_rfl
def gPr:RSt→Pr × RSt:=gb gI fun e=>gb gI fun n=>gb gI fun v=>gb gI fun p=>gb gBa fun b=>gb gSig fun g s=>(⟨e,n,v - 1,p,b,g.1,g.2⟩,s)
theorem gI_rng (s:RSt):0≤(gI s).1∧(gI s).1≤1099511627776:=by
 have:=rInt_le 1099511627776 s
 unfold gI
 omega
theorem gI_less (s:RSt):I64 ((gI s).1 - 1):=by
 have:=gI_rng s
 unfold I64
 omega
theorem gPr_OK {s:RSt} (hb:Bytes (s.getD [])):(gPr s).1.OK:=⟨A8 _,A8 _,gI_less _,A8 _,gBa_OK (gI_suf.bytes (gI_suf.bytes (gI_suf.bytes (gI_suf.bytes hb)))),A8 _,A8 _⟩
set_option maxHeartbeats 4000000 in
theorem cAk_Q:GetsF 132 79 St.cells gSt:=by
 intro R r s w hR hB
 have HRD:=B8 hR
 have HBR:=B8 hB
 have HBY:=hid hR.bytes
 clear hR hB
 go_enter Tryz.func79,Tryz.ntmps79
 go_upto_region 1 with (fail)
 obtain ⟨w1,hw1⟩:∃ zz,zz=(w.alloc (.cells zq3.toArray 37)):=⟨_,rfl⟩
 change Code.wp _ _ _ _ (w.alloc (.cells zq3.toArray 37))
 rw [← hw1]
 have HB2:=hid (show Cs w1 (w.heap.size) zq3.toArray 37 by rw [hw1];exact Cs.new _ _ _)
 have hm:Mod (fun _=>False) w w1:=by rw [hw1];exact (Mod.refl _ _).alloc _
 have HM0:=hid (show Mod (fun k=>(R k)) w w1 from hm.mono iB)
 have hs1:w1.heap.size=w.heap.size+1:=by rw [hw1];simp
 have c6:=hid (HRD.o.mod hm iA)
 clear HRD
 clear hw1 hm
 go_upto_region 1 with (fail)
 refine Ab 14 [3,4,5,6,7,8,9,10,11,12,13,25] [0,1,2,3,4,5,6,7,8,9,10,11] (fun a0 HA0=>?_)
 have c3:=ev HA0 0 rfl
 have c7:=ev HA0 2 rfl
 refine qmo rfl c3 ?_
 refine QSeq.call rfl rfl Tryz.func42 (cI_Q c6.out) (fun E=>Ar (E.d 0 0) rfl) ?_
 rintro e g6 ⟨rfl,qrd,hm⟩
 refine ⟨_,rfl,?_⟩
 have c8:=hid qrd
 have j3:=hm.size
 have c9:=hid (show Mod (fun k=>(R k)) w1 g6 from hm)
 clear hm
 clear qrd c6
 refine qmo rfl c3 ?_
 refine QSeq.call rfl rfl Tryz.func118 (cName_Q _ _ _ _ c8.out aK) (fun E=>Ap (E.d 2 0)) ?_
 rintro e j4 ⟨rfl,qrd,hm⟩
 refine ⟨_,rfl,?_⟩
 have d5:=hid qrd
 have j5:=hm.size
 have g7:=hid hm
 have d6:=hid (AA (S':=(fun k=>(R k))) c9.out hm (fun _ h=>h) aQ)
 clear hm c9
 clear qrd c8
 refine qmo rfl c3 ?_
 refine QSeq.call rfl rfl Tryz.func119 (RHash_R d5.out) (fun E=>Ap (E.d 4 0)) ?_
 rintro e j6 ⟨rfl,qrd,hm⟩
 refine ⟨_,rfl,?_⟩
 have d7:=hid qrd
 have j7:=hm.size
 have g8:=hid hm
 have d8:=hid (AA (S':=(fun k=>(R k))) d6.out hm (fun _ h=>h) aQ)
 clear hm d6
 clear qrd d5
 refine qmo rfl c3 ?_
 refine QSeq.call rfl rfl Tryz.func80 (RNum_R d7.out) (fun E=>Ap (E.d 6 0)) ?_
 rintro e j8 ⟨rfl,qrd,hm⟩
 refine ⟨_,rfl,?_⟩
 have Hx8:=hid qrd
 have j9:=hm.size
 have g9:=hid hm
 have d9:=hid (AA (S':=(fun k=>(R k))) d8.out hm (fun _ h=>h) aQ)
 clear hm d8
 clear qrd d7
 refine qmo rfl c3 ?_
 refine QSeq.call rfl rfl Tryz.func120 (cSig_Q _ _ _ _ Hx8.o aK) (fun E=>Ap (E.d 8 0)) ?_
 rintro e l7 ⟨rfl,qrd,hm⟩
 refine ⟨_,rfl,?_⟩
 have Hx10:=hid qrd
 have l8:=hm.size
 have i7:=hid hm
 have c4:=hid (AA (S':=(fun k=>(R k))) d9.out hm (fun _ h=>h) aQ)
 clear hm d9
 clear qrd Hx8
 refine QSeq.go fun act E=>?_
 refine Bu rfl (Aa rfl) (v:=.agg ((gSt s).1.cells:List Value).toArray) (Bo rfl (z:=zq3) (places:=[(0,1),(1,2),(3,32),(35,1),(36,2)]) aE (parts:=[(0,.int .i64 (gI s).1),(1,.agg #[.int .i64 (gSig (gI s).2).1.1,.int .i64 (gSig (gI s).2).1.2]),(2,hv (A6 (gSig (gI s).2).2).1),(3,.int .u64 ((rNum (A6 (gSig (gI s).2).2).2).1:Nat)),(4,.agg #[.int .i64 (gSig (rNum (A6 (gSig (gI s).2).2).2).2).1.1,.int .i64 (gSig (rNum (A6 (gSig (gI s).2).2).2).2).1.2])]) bW (r:=(gSt s).1.cells) bC) ?_
 clear act E
 refine QSeq.go fun act E=>?_
 refine Am rfl (Aa rfl) rfl (HB2.o.mod c4.out aH) (off:=0) (vs:=((gSt s).1.cells)) dV (St.one _) (by rw [show ((gSt s).1.cells).length=_ from (St.len (gSt_OK HBY.o))];decide) (E.v c7) (ec (E.d 10 0)) ?_
 intro m7 qc0 hm
 have qB2:=qc0.eqv (b:=(((gSt s).1.cells):List Value).toArray) (Aw _ _ (by rw [show ((gSt s).1.cells).length=_ from (St.len (gSt_OK HBY.o))];rfl))
 clear qc0
 have i8:=hid qB2
 have m8:=hm.size
 have g5:=hid hm
 have i9:=hid (AA (S':=(fun k=>(R k)∨(k=w.heap.size))) c4.out hm iD aR)
 clear hm c4
 clear act E qB2 HB2
 have j0:=hid (Hx10.o.mod g5.out (sB HBR))
 clear Hx10 g7 g8 g9 i7 g5
 refine qe ?_
 clear HA0 c3 c7 a0
 go_wp2
 exact bodyPost_ret (A0 rfl _ _ w.heap.size ((gSt s).1.cells) rfl (fun k u hu=>by rw [i8.out.cell];simpa using hu) Tryz.underlying37 rfl dV) rfl ⟨rfl,j0.out,(HM0.o.trans i9.out aC)⟩
open Go.Proofs renaming Tryz.func83→va',Tryz.ntmps83→vb',Tryz.func42→vc',Tryz.func119→ve',Tryz.func120→vg' in
open Go.Proofs.YtnaoeginonpicaaGreat renaming cI_Q→vd',RHash_R→vf',cSig_Q→vh' in
set_option maxHeartbeats 4000000 in
theorem cVt_Q:GetsF 132 83 Vt.cells gVt:=
 fm8'
theorem cVt_G:Gets VtR 132 83 gVt:=GetsF.to (A:=VtR) cVt_Q fun _ _ _ hb=>⟨rfl,gVt_OK hb⟩
set_option maxHeartbeats 4000000 in
theorem cEn_Q:GetsF 132 84 En.cells gEn:=by
 intro R r s w hR hB
 have HRD:=B8 hR
 have HBR:=B8 hB
 have HBY:=hid hR.bytes
 clear hR hB
 go_enter Tryz.func84,Tryz.ntmps84
 go_upto_region 1 with (fail)
 obtain ⟨w1,hw1⟩:∃ zz,zz=(w.alloc (.cells zq7.toArray 51)):=⟨_,rfl⟩
 change Code.wp _ _ _ _ (w.alloc (.cells zq7.toArray 51))
 rw [← hw1]
 have HB2:=hid (show Cs w1 (w.heap.size) zq7.toArray 51 by rw [hw1];exact Cs.new _ _ _)
 have hm:Mod (fun _=>False) w w1:=by rw [hw1];exact (Mod.refl _ _).alloc _
 have HM0:=hid (show Mod (fun k=>(R k)) w w1 from hm.mono iB)
 have hs1:w1.heap.size=w.heap.size+1:=by rw [hw1];simp
 have c6:=hid (HRD.o.mod hm iA)
 clear HRD
 clear hw1 hm
 go_upto_region 1 with (fail)
 refine Ab 10 [3,4,5,6,7,8,9,17] [0,1,2,3,4,5,6,7] (fun a0 HA0=>?_)
 have c3:=ev HA0 0 rfl
 have c7:=ev HA0 2 rfl
 refine qmo rfl c3 ?_
 refine QSeq.call rfl rfl Tryz.func118 (cName_Q _ _ _ _ c6.out aK) (fun E=>Ap (E.d 0 0)) ?_
 rintro e d9 ⟨rfl,qrd,hm⟩
 refine ⟨_,rfl,?_⟩
 have c8:=hid qrd
 have g8:=hm.size
 have c9:=hid (show Mod (fun k=>(R k)) w1 d9 from hm)
 clear hm
 clear qrd c6
 refine qmo rfl c3 ?_
 refine QSeq.call rfl rfl Tryz.func119 (RHash_R c8.out) (fun E=>Ap (E.d 2 0)) ?_
 rintro e g9 ⟨rfl,qrd,hm⟩
 refine ⟨_,rfl,?_⟩
 have d5:=hid qrd
 have i7:=hm.size
 have g5:=hid hm
 have d6:=hid (AA (S':=(fun k=>(R k))) c9.out hm (fun _ h=>h) aQ)
 clear hm c9
 clear qrd c8
 refine qmo rfl c3 ?_
 refine QSeq.call rfl rfl Tryz.func80 (RNum_R d5.out) (fun E=>Ap (E.d 4 0)) ?_
 rintro e i8 ⟨rfl,qrd,hm⟩
 refine ⟨_,rfl,?_⟩
 have d7:=hid qrd
 have i9:=hm.size
 have g6:=hid hm
 have c4:=hid (AA (S':=(fun k=>(R k))) d6.out hm (fun _ h=>h) aQ)
 clear hm d6
 clear qrd d5
 refine QSeq.go fun act E=>?_
 refine Bu rfl (Aa rfl) (v:=.agg ((gEn s).1.cells:List Value).toArray) (Bo rfl (z:=zq7) (places:=[(0,2),(2,32),(34,1)]) aE (parts:=[(0,.agg #[.int .i64 (gSig s).1.1,.int .i64 (gSig s).1.2]),(1,hv (A6 (gSig s).2).1),(2,.int .u64 ((rNum (A6 (gSig s).2).2).1:Nat))]) (by simp only [C8,C5,C6,show act.eval (.tmp 4)=.agg #[.int .i64 (gSig s).1.1,.int .i64 (gSig s).1.2] from (E.d 1 4),show act.eval (.tmp 6)=hv (A6 (gSig s).2).1 from (E.d 3 2),show act.eval (.tmp 8)=.int .u64 ((rNum (A6 (gSig s).2).2).1:Nat) from (E.d 5 0)];try rfl) (r:=(gEn s).1.cells) (by exact Bn (ns:=[2,32,1]) rfl [(0,.agg #[.int .i64 (gSig s).1.1,.int .i64 (gSig s).1.2]),(1,hv (A6 (gSig s).2).1),(2,.int .u64 ((rNum (A6 (gSig s).2).2).1:Nat))] [[.int .i64 0,.int .i64 0],zq5,[.int .u64 0]] rfl ⟨rfl,(szv dB),rfl,trivial⟩)) ?_
 clear act E
 refine QSeq.go fun act E=>?_
 refine Am rfl (Aa rfl) rfl (HB2.o.mod c4.out aH) (off:=0) (vs:=((gEn s).1.cells)) (by rw [show ((gEn s).1.cells).length=_ from (En.len (gEn_OK HBY.o))];kernel_rfl) (En.one _) (by rw [show ((gEn s).1.cells).length=_ from (En.len (gEn_OK HBY.o))];decide) (E.v c7) (ec (E.d 6 0)) ?_
 intro j0 qc0 hm
 have qB2:=qc0.eqv (b:=(((gEn s).1.cells):List Value).toArray) (Aw _ _ (by rw [show ((gEn s).1.cells).length=_ from (En.len (gEn_OK HBY.o))];rfl))
 clear qc0
 have Hx8:=hid qB2
 have j3:=hm.size
 have d8:=hid hm
 have g7:=hid (AA (S':=(fun k=>(R k)∨(k=w.heap.size))) c4.out hm iD aR)
 clear hm c4
 clear act E qB2 HB2
 have Hx10:=hid (d7.out.mod d8.out (sB HBR))
 clear d7 g5 g6 d8
 refine qe ?_
 clear HA0 c3 c7 a0
 go_wp2
 exact bodyPost_ret (A0 rfl _ _ w.heap.size ((gEn s).1.cells) rfl (fun k u hu=>by rw [Hx8.o.cell];simpa using hu) Tryz.underlying51 rfl (by rw [show ((gEn s).1.cells).length=_ from (En.len (gEn_OK HBY.o))];kernel_rfl)) rfl ⟨rfl,Hx10.o,(HM0.o.trans g7.out aC)⟩
open Go.Proofs renaming Tryz.func89→va',Tryz.ntmps89→vb',Tryz.func83→vh',Tryz.underlying57→vl' in
open Go.Proofs.YtnaoeginonpicaaGreat renaming gVt→vc',Vt→vd',VtR→ve',gVt_suf→vg',cVt_G→vi',info_Vt→vo' in
open Go.Gv renaming n'49→vf',z'4→vj',n'38→vk',z'5→vm',n'80→vn' in
set_option maxHeartbeats 4000000 in
theorem cList_Vt:GetsL VtR 132 89 83 gVt:=
 fm16'
set_option maxHeartbeats 4000000 in
theorem cPr_G:Gets PrR 132 82 gPr:=by
 intro R r s w hR hB hl
 have HRD:=B8 hR
 have HBR:=B8 hB
 have HBY:=hid hR.bytes
 have HLN:=B8 hl
 clear hR hB hl
 go_enter Tryz.func82,Tryz.ntmps82
 go_upto_region 1 with (fail)
 obtain ⟨w1,hw1⟩:∃ zz,zz=(w.alloc (.cells zq10.toArray 47)):=⟨_,rfl⟩
 change Code.wp _ _ _ _ (w.alloc (.cells zq10.toArray 47))
 rw [← hw1]
 have HB2:=hid (show Cs w1 (w.heap.size) zq10.toArray 47 by rw [hw1];exact Cs.new _ _ _)
 have hm:Mod (fun _=>False) w w1:=by rw [hw1];exact (Mod.refl _ _).alloc _
 have HM0:=hid (show Mod (fun k=>(R k)) w w1 from hm.mono iB)
 have hs1:w1.heap.size=w.heap.size+1:=by rw [hw1];simp
 have c9:=hid (HRD.o.mod hm iA)
 clear HRD
 clear hw1 hm
 go_upto_region 1 with (fail)
 refine Ab 17 [3,4,5,6,7,8,9,10,11,12,13,14,15,16,31] [0,1,2,3,4,5,6,7,8,9,10,11,12,13,14] (fun a0 HA0=>?_)
 have c3:=ev HA0 0 rfl
 have d5:=ev HA0 2 rfl
 refine qmo rfl c3 ?_
 refine QSeq.call rfl rfl Tryz.func42 (cI_Q c9.out) (fun E=>Ar (E.d 0 0) rfl) ?_
 rintro e j0 ⟨rfl,qrd,hm⟩
 refine ⟨_,rfl,?_⟩
 have d6:=hid qrd
 have m8:=hm.size
 have d7:=hid (show Mod (fun k=>(R k)) w1 j0 from hm)
 clear hm
 clear qrd c9
 refine qmo rfl c3 ?_
 refine QSeq.call rfl rfl Tryz.func42 (cI_Q d6.out) (fun E=>Ar (E.d 2 0) rfl) ?_
 rintro e m9 ⟨rfl,qrd,hm⟩
 refine ⟨_,rfl,?_⟩
 have d8:=hid qrd
 have n5:=hm.size
 have j3:=hid hm
 have d9:=hid (AA (S':=(fun k=>(R k))) d7.out hm (fun _ h=>h) aQ)
 clear hm d7
 clear qrd d6
 refine qmo rfl c3 ?_
 refine QSeq.call rfl rfl Tryz.func42 (cI_Q d8.out) (fun E=>Ar (E.d 4 0) rfl) ?_
 rintro e n6 ⟨rfl,qrd,hm⟩
 refine ⟨_,rfl,?_⟩
 have g5:=hid qrd
 have n7:=hm.size
 have j4:=hid hm
 have g6:=hid (AA (S':=(fun k=>(R k))) d9.out hm (fun _ h=>h) aQ)
 clear hm d9
 clear qrd d8
 refine QSeq.pure rfl (.int .i64 ((gI (gI (gI s).2).2).1 - 1)) (fun E=>Aq rfl (E.d 5 0) rfl (Ai _ _ _ _ _ _) (run_sub_i _ _ B9) (congrArg (Value.int .i64) (IntWalk.i64_in _ (gI_less _)))) ?_
 refine qmo rfl c3 ?_
 refine QSeq.call rfl rfl Tryz.func42 (cI_Q g5.out) (fun E=>Ar (E.d 7 0) rfl) ?_
 rintro e n8 ⟨rfl,qrd,hm⟩
 refine ⟨_,rfl,?_⟩
 have Hx8:=hid qrd
 have o5:=hm.size
 have j5:=hid hm
 have g7:=hid (AA (S':=(fun k=>(R k))) g6.out hm (fun _ h=>h) aQ)
 clear hm g6
 clear qrd g5
 refine qmo rfl c3 ?_
 refine QSeq.call rfl rfl Tryz.func88 (cBa_G _ _ _ _ Hx8.o aK (C4 (gI_suf.len _) (C4 (gI_suf.len _) (C4 (gI_suf.len _) (C4 (gI_suf.len _) HLN.o))))) (fun E=>Ap (E.d 9 0)) ?_
 rintro e o6 ⟨cb,rfl,qba,qrd,hm⟩
 obtain ⟨v1,v2,v3,rfl,hokb,qba,qbo,qbt⟩:=qba
 obtain ⟨aob0,capb0,rfl⟩:=qba.shape
 obtain ⟨aob1,capb1,rfl⟩:=qbo.shape
 obtain ⟨aob2,capb2,rfl⟩:=qbt.shape
 clear hokb
 refine ⟨_,rfl,?_⟩
 have Hx10:=hid qba
 have g8:=hid qrd
 have g9:=hid qbo
 have i7:=hid qbt
 have o7:=hm.size
 have j6:=hid hm
 have i8:=hid (AA (S':=(fun k=>(R k))) g7.out hm (fun _ h=>h) aQ)
 clear hm g7
 clear qba qrd qbo qbt Hx8
 refine qmo rfl c3 ?_
 refine QSeq.call rfl rfl Tryz.func120 (cSig_Q _ _ _ _ g8.out aK) (fun E=>Ap (E.d 11 0)) ?_
 rintro e o8 ⟨rfl,qrd,hm⟩
 refine ⟨_,rfl,?_⟩
 have i9:=hid qrd
 have o9:=hm.size
 have c6:=hid hm
 have c7:=hid (AA (S':=(fun k=>(R k))) i8.out hm (fun _ h=>h) aQ)
 clear hm i8
 clear qrd g8
 refine QSeq.go fun act E=>?_
 refine Bu rfl (Aa rfl) (v:=.agg ((gPr s).1.cells (Value.slice aob0 (gBa (gI (gI (gI (gI s).2).2).2).2).1.ps.length capb0) (Value.slice aob1 (gBa (gI (gI (gI (gI s).2).2).2).2).1.os.length capb1) (Value.slice aob2 (gBa (gI (gI (gI (gI s).2).2).2).2).1.ts.length capb2):List Value).toArray) (Bo rfl (z:=zq10) (places:=[(0,1),(1,1),(2,1),(3,1),(4,5),(9,2)]) aE (parts:=[(0,.int .i64 (gI s).1),(1,.int .i64 (gI (gI s).2).1),(2,.int .i64 ((gI (gI (gI s).2).2).1 - 1)),(3,.int .i64 (gI (gI (gI (gI s).2).2).2).1),(4,.agg #[.int .i64 (gBa (gI (gI (gI (gI s).2).2).2).2).1.ep,.int .u64 ((gBa (gI (gI (gI (gI s).2).2).2).2).1.tm:Nat),Value.slice aob0 (gBa (gI (gI (gI (gI s).2).2).2).2).1.ps.length capb0,Value.slice aob1 (gBa (gI (gI (gI (gI s).2).2).2).2).1.os.length capb1,Value.slice aob2 (gBa (gI (gI (gI (gI s).2).2).2).2).1.ts.length capb2]),(5,.agg #[.int .i64 (gSig (gBa (gI (gI (gI (gI s).2).2).2).2).2).1.1,.int .i64 (gSig (gBa (gI (gI (gI (gI s).2).2).2).2).2).1.2])]) (by simp only [C8,C5,C6,show act.eval (.tmp 4)=.int .i64 (gI s).1 from (E.d 1 11),show act.eval (.tmp 6)=.int .i64 (gI (gI s).2).1 from (E.d 3 9),show act.eval (.tmp 9)=.int .i64 ((gI (gI (gI s).2).2).1 - 1) from (E.d 6 6),show act.eval (.tmp 11)=.int .i64 (gI (gI (gI (gI s).2).2).2).1 from (E.d 8 4),show act.eval (.tmp 13)=.agg #[.int .i64 (gBa (gI (gI (gI (gI s).2).2).2).2).1.ep,.int .u64 ((gBa (gI (gI (gI (gI s).2).2).2).2).1.tm:Nat),Value.slice aob0 (gBa (gI (gI (gI (gI s).2).2).2).2).1.ps.length capb0,Value.slice aob1 (gBa (gI (gI (gI (gI s).2).2).2).2).1.os.length capb1,Value.slice aob2 (gBa (gI (gI (gI (gI s).2).2).2).2).1.ts.length capb2] from (E.d 10 2),show act.eval (.tmp 15)=.agg #[.int .i64 (gSig (gBa (gI (gI (gI (gI s).2).2).2).2).2).1.1,.int .i64 (gSig (gBa (gI (gI (gI (gI s).2).2).2).2).2).1.2] from (E.d 12 0)];try rfl) (r:=(gPr s).1.cells (Value.slice aob0 (gBa (gI (gI (gI (gI s).2).2).2).2).1.ps.length capb0) (Value.slice aob1 (gBa (gI (gI (gI (gI s).2).2).2).2).1.os.length capb1) (Value.slice aob2 (gBa (gI (gI (gI (gI s).2).2).2).2).1.ts.length capb2)) (by exact Bn (ns:=[1,1,1,1,5,2]) rfl [(0,.int .i64 (gI s).1),(1,.int .i64 (gI (gI s).2).1),(2,.int .i64 ((gI (gI (gI s).2).2).1 - 1)),(3,.int .i64 (gI (gI (gI (gI s).2).2).2).1),(4,.agg #[.int .i64 (gBa (gI (gI (gI (gI s).2).2).2).2).1.ep,.int .u64 ((gBa (gI (gI (gI (gI s).2).2).2).2).1.tm:Nat),Value.slice aob0 (gBa (gI (gI (gI (gI s).2).2).2).2).1.ps.length capb0,Value.slice aob1 (gBa (gI (gI (gI (gI s).2).2).2).2).1.os.length capb1,Value.slice aob2 (gBa (gI (gI (gI (gI s).2).2).2).2).1.ts.length capb2]),(5,.agg #[.int .i64 (gSig (gBa (gI (gI (gI (gI s).2).2).2).2).2).1.1,.int .i64 (gSig (gBa (gI (gI (gI (gI s).2).2).2).2).2).1.2])] [[.int .i64 0],[.int .i64 0],[.int .i64 0],[.int .i64 0],zq8,[.int .i64 0,.int .i64 0]] rfl ⟨rfl,rfl,rfl,rfl,rfl,rfl,trivial⟩)) ?_
 clear act E
 refine QSeq.go fun act E=>?_
 refine Am rfl (Aa rfl) rfl (HB2.o.mod c7.out aH) (off:=0) (vs:=((gPr s).1.cells (Value.slice aob0 (gBa (gI (gI (gI (gI s).2).2).2).2).1.ps.length capb0) (Value.slice aob1 (gBa (gI (gI (gI (gI s).2).2).2).2).1.os.length capb1) (Value.slice aob2 (gBa (gI (gI (gI (gI s).2).2).2).2).1.ts.length capb2))) aE eX bA (E.v d5) (ec (E.d 13 0)) ?_
 intro c8 qc0 hm
 have qB2:=qc0.eqv (b:=(((gPr s).1.cells (Value.slice aob0 (gBa (gI (gI (gI (gI s).2).2).2).2).1.ps.length capb0) (Value.slice aob1 (gBa (gI (gI (gI (gI s).2).2).2).2).1.os.length capb1) (Value.slice aob2 (gBa (gI (gI (gI (gI s).2).2).2).2).1.ts.length capb2)):List Value).toArray) (Aw _ _ rfl)
 clear qc0
 have j7:=hid qB2
 have p5:=hm.size
 have c4:=hid hm
 have j8:=hid (AA (S':=(fun k=>(R k)∨(k=w.heap.size))) c7.out hm iD aR)
 clear hm c7
 clear act E qB2 HB2
 have j9:=hid (i9.out.mod c4.out (sB HBR))
 have l7:=hid ((Hx10.o.mod c6.out aT).mod c4.out aD)
 have l8:=hid ((g9.out.mod c6.out aT).mod c4.out aD)
 have m7:=hid ((i7.out.mod c6.out aT).mod c4.out aD)
 clear i9 Hx10 g9 i7 j3 j4 j5 j6 c6 c4
 refine qe ?_
 clear HA0 c3 d5 a0
 go_wp2
 exact bodyPost_ret (A0 rfl _ _ w.heap.size ((gPr s).1.cells (Value.slice aob0 (gBa (gI (gI (gI (gI s).2).2).2).2).1.ps.length capb0) (Value.slice aob1 (gBa (gI (gI (gI (gI s).2).2).2).2).1.os.length capb1) (Value.slice aob2 (gBa (gI (gI (gI (gI s).2).2).2).2).1.ts.length capb2)) rfl (fun k u hu=>by rw [j7.out.cell];simpa using hu) D4 rfl aE) rfl ⟨_,rfl,⟨_,_,_,rfl,gPr_OK HBY.o,(l7.out.widen (R':=(fun k=>New w c8 k)) bB),(l8.out.widen (R':=(fun k=>New w c8 k)) bB),(m7.out.widen (R':=(fun k=>New w c8 k)) bB)⟩,j9.out,(HM0.o.trans j8.out aC)⟩
/-- what is read of a message, behind its kind, whom it is from and to -/
def Az (m:Mg) (s:RSt):Mg × RSt:=
 if m.kd=1 then gb gCm (fun c s=>({ m with cm:=c },s)) s else
 if m.kd=2 then gb gSt (fun c s=>({ m with st:=c },s)) s else
 if m.kd=3 then gb gCe (fun c s=>({ m with ce:=c },s)) s else
 if m.kd=4 then gb gSt (fun c s=>({ m with ak:=c },s)) s else
 if m.kd=5 then gb gI (fun a=>gb gI fun b=>gb rNum fun c s=>({ m with ep:=a,rn:=b,tm:=c },s)) s else
 if m.kd=6 then gb gPm (fun c s=>({ m with pm:=c },s)) s else
 if m.kd=7 then gb gPr (fun c s=>({ m with pr:=c },s)) s else
 if m.kd=8 then gb gVt (fun c s=>({ m with vt:=c },s)) s else
 if m.kd=9 then gb gI (fun a=>gb gEn fun c s=>({ m with ix:=a,en:=c },s)) s else
 if m.kd=10 then gb gOp (fun c s=>({ m with op:=c },s)) s else
 if m.kd=11 then gb gI (fun c s=>({ m with ix:=c },s)) s else
 if m.kd=12 then gb gDn (fun c s=>({ m with dn:=c },s)) s else
 if m.kd=13 then gb gI (fun a=>gb (rRow 256) fun b s=>({ m with ix:=a,rp:=strOfNums b },s)) s else
 if m.kd=14 then gb gI (fun a=>gb gI fun b=>gb gBa fun c=>gb (Av gVt) fun l s=>({ m with dc:=⟨a,b,c,l⟩ },s)) s else (m,s)
def gMg:RSt→Mg × RSt:=gb gI fun k=>gb gI fun f=>gb gI fun t=>Az { zMg with kd:=k,fr:=f,«to»:=t }
set_option maxHeartbeats 8000000 in
theorem get_Q:∀ (R R2:Nat→Prop) (r:Nat) (s:RSt) (cs:List Value) (x:Mg) (w:World),RrR 132 R w r s→(∀ k,R k→k < w.heap.size)→MgR.rd R2 w cs x→(∀ k,R2 k→k < w.heap.size)→(∀ k,R k→R2 k→False)→(s.getD []).length≤900000→
 Calls Tryz.prog 41 #[.pointer (some ⟨r,0,none⟩),.agg cs.toArray] w fun e w'=>∃ cs',e=.returned (.agg cs'.toArray)∧MgR.rd (fun k=>R2 k∨New w w' k) w' cs' (Az x s).1∧RrR 132 R w' r (Az x s).2∧Mod R w w':=by
 intro R R2 r s cs x w hR hB hx hB2 hD hl
 obtain ⟨c5,c10,c11,c15,c18,rfl,hok,h5,h10,h11,h15,h18⟩:=hx
 have HLN:=hid (Mg.lns hok h5 h10 h11 h15 h18)
 have HC5:=hid (CeR.len h5)
 have H5:=B8 h5
 have HC10:=hid (PmR.len h10)
 have H10:=B8 h10
 have HC11:=hid (PrR.len h11)
 have H11:=B8 h11
 have HC15:=hid (OpR.len h15)
 have H15:=B8 h15
 have HC18:=hid (DcR.len h18)
 have H18:=B8 h18
 have HRD:=B8 hR
 have HBR:=B8 hB
 have HBT:=B8 hB2
 have HDJ:=B8 hD
 have HOK:=B8 hok
 have HLE:=B8 hl
 have HBY:=hid hR.bytes
 clear hR hB hB2 hD hl hok h5 h10 h11 h15 h18
 go_enter Tryz.func41,Tryz.ntmps41
 go_upto_region 1 with (fail)
 obtain ⟨w1,hw1⟩:∃ zz,zz=((w.alloc (.cells ((x.segs c5 c10 c11 c15 c18).flatten:List Value).toArray 61)).alloc (.cells zq0.toArray 61)):=⟨_,rfl⟩
 change Code.wp _ _ _ _ ((w.alloc (.cells ((x.segs c5 c10 c11 c15 c18).flatten:List Value).toArray 61)).alloc (.cells zq0.toArray 61))
 rw [← hw1]
 have HB3:=hid (show Cs w1 (w.heap.size) ((x.segs c5 c10 c11 c15 c18).flatten:List Value).toArray 61 by rw [hw1];exact (Cs.new _ _ _).alloc _)
 have HB4:=hid (show Cs w1 (w.heap.size+1) zq0.toArray 61 by rw [hw1];exact Cs_newN _ _ _ bA)
 have hm:Mod (fun _=>False) w w1:=by rw [hw1];exact ((Mod.refl _ _).alloc _).alloc _
 have HM0:=hid (show Mod (fun k=>(R k)) w w1 from hm.mono iB)
 have hs1:w1.heap.size=w.heap.size+2:=by rw [hw1];simp
 have c6:=hid (HRD.o.mod hm iA)
 clear HRD
 have c7:=hid (H5.o.mod hm iA)
 clear H5
 have c8:=hid (H10.o.mod hm iA)
 clear H10
 have c9:=hid (H11.o.mod hm iA)
 clear H11
 have d5:=hid (H15.o.mod hm iA)
 clear H15
 have d6:=hid (H18.o.mod hm iA)
 clear H18
 clear hw1 hm
 go_upto_region 1 with (fail)
 refine Ab 98 [5,6] [0,1] (fun a0 HA0=>?_)
 have c3:=ev HA0 3 rfl
 refine qfd rfl 0 C1 c3 ?_
 refine QSeq.pure rfl (.int .i64 x.kd) (fun E=>Af rfl B9 rfl (E.d 0 0) (AD HB3.o HLN.o 0 rfl (o:=0) (k:=0) rfl rfl rfl)) ?_
 refine qe ?_
 clear HA0 c3 a0
 go_upto_block 0 with (fail)
 go_cut [] from 7 (fun w'=>∃ (y:Mg) (st:RSt) (cz:List Value),Az x s=(y,st)∧Cs w' (w.heap.size) cz.toArray 61∧MgR.rd (fun k=>R2 k∨New w1 w' k) w' cz y∧RrR 132 R w' r st∧Mod (fun k=>(R k)∨(k=w.heap.size)) w1 w')
 case first=>
  have hmz:=hid (Mod.refl (fun k=>(R k)∨(k=w.heap.size)) w1)
  by_cases h1:x.kd=1
  ·have KK:=B8 h1
   clear h1
   go_upto_region 2 with (fail)
   refine tst 98 B9 (Bj KK.o) rfl (qs ?_)
   have HE:=hid (show Az x s=({ x with cm:=(gCm s).1 },(gCm s).2) by unfold Az;rw [KK.o];rfl)
   go_upto_region 3 with (fail)
   refine Ab 98 [9,10,11,101] [0,1,2,3] (fun a0 HA0=>?_)
   have c4:=ev HA0 0 rfl
   have c3:=ev HA0 3 rfl
   refine qmo rfl c4 ?_
   refine QSeq.call rfl rfl Tryz.func76 (cCm_Q _ _ _ _ c6.out aK) (fun E=>Ap (E.d 0 0)) ?_
   rintro e bm ⟨rfl,qrd,hm⟩
   refine ⟨_,rfl,?_⟩
   have p7:=hid qrd
   have fc:=hm.size
   have j7:=hid (show Mod (fun k=>(R k)) w1 bm from hm)
   clear hm
   clear qrd c6
   refine qfd rfl 3 C1 c3 ?_
   refine QSeq.go fun act E=>?_
   refine Am rfl (Aa rfl) rfl (HB3.o.mod j7.out aH) (off:=3) (vs:=((gCm s).1.cells)) (by rw [Cm.len (gCm_OK HBY.o).2.1];kernel_rfl) (Cm_one _) gO (E.d 2 0) (ec (E.d 1 1)) ?_
   intro p8 qc0 hm
   have qB3:=qc0.eqv (b:=((Mg.segs ({ x with cm:=(gCm s).1 }:Mg) c5 c10 c11 c15 c18).flatten:List Value).toArray) ((Bh HLN.o 3 (by rw [Cm.len (gCm_OK HBY.o).2.1];rfl) rfl).trans rfl)
   clear qc0
   have Hx9:=hid qB3
   have fe:=hm.size
   have p9:=hid hm
   have d7:=hid (AA (S':=(fun k=>(R k)∨(k=w.heap.size))) j7.out hm iD aR)
   clear hm j7
   clear act E qB3 HB3
   have bn:=hid (p7.out.mod p9.out (sB HBR))
   clear p7 p9
   refine qe ?_
   clear HA0 c4 c3 a0
   have hrz:MgR.rd (fun k=>R2 k∨New w1 p8 k) p8 ((Mg.segs ({ x with cm:=(gCm s).1 }:Mg) c5 c10 c11 c15 c18).flatten) ({ x with cm:=(gCm s).1 }:Mg):=⟨_,_,_,_,_,rfl,{ HOK.o with cm:=gCm_OK HBY.o },(c7.out.mod d7.out aA).widen iD,(c8.out.mod d7.out aA).widen iD,(c9.out.mod d7.out aA).widen iD,(d5.out.mod d7.out aA).widen iD,(d6.out.mod d7.out aA).widen iD⟩
   have HRZ:=B8 hrz
   clear hrz
   go_wp2_with fail
   go_meet
   case rel=>exact ⟨_,_,_,HE.o,Hx9.o,HRZ.o,bn.out,(hmz.out.trans d7.out iA)⟩
  have K1:=B8 h1
  clear h1
  go_upto_region 2 with (fail)
  refine tst 98 B9 (Bk K1.o) rfl (qs ?_)
  by_cases h2:x.kd=2
  ·have KK:=B8 h2
   clear h2
   go_upto_region 4 with (fail)
   refine tst 98 B9 (Bj KK.o) rfl (qs ?_)
   have HE:=hid (show Az x s=({ x with st:=(gSt s).1 },(gSt s).2) by unfold Az;rw [KK.o];rfl)
   go_upto_region 5 with (fail)
   refine Ab 98 [14,15,16,101] [0,1,2,3] (fun a0 HA0=>?_)
   have c4:=ev HA0 0 rfl
   have c3:=ev HA0 3 rfl
   refine qmo rfl c4 ?_
   refine QSeq.call rfl rfl Tryz.func77 (cSt_Q _ _ _ _ c6.out aK) (fun E=>Ap (E.d 0 0)) ?_
   rintro e bp ⟨rfl,qrd,hm⟩
   refine ⟨_,rfl,?_⟩
   have q6:=hid qrd
   have ff:=hm.size
   have j8:=hid (show Mod (fun k=>(R k)) w1 bp from hm)
   clear hm
   clear qrd c6
   refine qfd rfl 40 C1 c3 ?_
   refine QSeq.go fun act E=>?_
   refine Am rfl (Aa rfl) rfl (HB3.o.mod j8.out aH) (off:=40) (vs:=((gSt s).1.cells)) gA (St.one _) gV (E.d 2 0) (ec (E.d 1 1)) ?_
   intro q7 qc0 hm
   have qB3:=qc0.eqv (b:=((Mg.segs ({ x with st:=(gSt s).1 }:Mg) c5 c10 c11 c15 c18).flatten:List Value).toArray) ((Bh HLN.o 4 gL rfl).trans rfl)
   clear qc0
   have bq:=hid qB3
   have fg:=hm.size
   have q8:=hid hm
   have d8:=hid (AA (S':=(fun k=>(R k)∨(k=w.heap.size))) j8.out hm iD aR)
   clear hm j8
   clear act E qB3 HB3
   have br:=hid (q6.out.mod q8.out (sB HBR))
   clear q6 q8
   refine qe ?_
   clear HA0 c4 c3 a0
   have hrz:MgR.rd (fun k=>R2 k∨New w1 q7 k) q7 ((Mg.segs ({ x with st:=(gSt s).1 }:Mg) c5 c10 c11 c15 c18).flatten) ({ x with st:=(gSt s).1 }:Mg):=⟨_,_,_,_,_,rfl,{ HOK.o with st:=gSt_OK HBY.o },(c7.out.mod d8.out aA).widen iD,(c8.out.mod d8.out aA).widen iD,(c9.out.mod d8.out aA).widen iD,(d5.out.mod d8.out aA).widen iD,(d6.out.mod d8.out aA).widen iD⟩
   have HRZ:=B8 hrz
   clear hrz
   go_wp2_with fail
   go_meet
   case rel=>exact ⟨_,_,_,HE.o,bq.out,HRZ.o,br.out,(hmz.out.trans d8.out iA)⟩
  have K2:=B8 h2
  clear h2
  go_upto_region 4 with (fail)
  refine tst 98 B9 (Bk K2.o) rfl (qs ?_)
  by_cases h3:x.kd=3
  ·have KK:=B8 h3
   clear h3
   go_upto_region 6 with (fail)
   refine tst 98 B9 (Bj KK.o) rfl (qs ?_)
   have HE:=hid (show Az x s=({ x with ce:=(gCe s).1 },(gCe s).2) by unfold Az;rw [KK.o];rfl)
   go_upto_region 7 with (fail)
   refine Ab 98 [19,20,21,101] [0,1,2,3] (fun a0 HA0=>?_)
   have c4:=ev HA0 0 rfl
   have c3:=ev HA0 3 rfl
   refine qmo rfl c4 ?_
   refine QSeq.call rfl rfl Tryz.func78 (cCe_G _ _ _ _ c6.out aK HLE.o) (fun E=>Ap (E.d 0 0)) ?_
   rintro e bt ⟨cn,rfl,qnw,qrd,hm⟩
   have HCN:=hid (CeR.len qnw)
   have HCO:=hid (CeR.one qnw)
   refine ⟨_,rfl,?_⟩
   have q9:=hid qnw
   have r5:=hid qrd
   have fh:=hm.size
   have j9:=hid (show Mod (fun k=>(R k)) w1 bt from hm)
   clear hm
   clear qnw qrd c6
   refine qfd rfl 78 C1 c3 ?_
   refine QSeq.go fun act E=>?_
   refine Am rfl (Aa rfl) rfl (HB3.o.mod j9.out aH) (off:=78) (vs:=cn) fI HCO.o (by rw [D3,Bb,HLN.o];show 78+_≤295;rw [HCN.o];decide) (E.d 2 0) (ec (E.d 1 1)) ?_
   intro r6 qc0 hm
   have qB3:=qc0.eqv (b:=((Mg.segs ({ x with ce:=(gCe s).1 }:Mg) cn c10 c11 c15 c18).flatten:List Value).toArray) ((Bh HLN.o 5 gE rfl).trans rfl)
   clear qc0
   have bu:=hid qB3
   have fi:=hm.size
   have l7:=hid hm
   have i9:=hid (AA (S':=(fun k=>(R k)∨(k=w.heap.size))) j9.out hm iD aR)
   clear hm j9
   clear act E qB3 HB3
   have bw:=hid (r5.out.mod l7.out (sB HBR))
   have bx:=hid (q9.out.mod l7.out aD)
   clear r5 q9 l7
   refine qe ?_
   clear HA0 c4 c3 a0
   have hrz:MgR.rd (fun k=>R2 k∨New w1 r6 k) r6 ((Mg.segs ({ x with ce:=(gCe s).1 }:Mg) cn c10 c11 c15 c18).flatten) ({ x with ce:=(gCe s).1 }:Mg):=⟨_,_,_,_,_,rfl,{ HOK.o with },bx.out.widen fF,(c8.out.mod i9.out aA).widen iD,(c9.out.mod i9.out aA).widen iD,(d5.out.mod i9.out aA).widen iD,(d6.out.mod i9.out aA).widen iD⟩
   have HRZ:=B8 hrz
   clear hrz
   go_wp2_with fail
   go_meet
   case rel=>exact ⟨_,_,_,HE.o,bu.out,HRZ.o,bw.out,(hmz.out.trans i9.out iA)⟩
  have K3:=B8 h3
  clear h3
  go_upto_region 6 with (fail)
  refine tst 98 B9 (Bk K3.o) rfl (qs ?_)
  by_cases h4:x.kd=4
  ·have KK:=B8 h4
   clear h4
   go_upto_region 8 with (fail)
   refine tst 98 B9 (Bj KK.o) rfl (qs ?_)
   have HE:=hid (show Az x s=({ x with ak:=(gSt s).1 },(gSt s).2) by unfold Az;rw [KK.o];rfl)
   go_upto_region 9 with (fail)
   refine Ab 98 [24,25,26,101] [0,1,2,3] (fun a0 HA0=>?_)
   have c4:=ev HA0 0 rfl
   have c3:=ev HA0 3 rfl
   refine qmo rfl c4 ?_
   refine QSeq.call rfl rfl Tryz.func79 (cAk_Q _ _ _ _ c6.out aK) (fun E=>Ap (E.d 0 0)) ?_
   rintro e bz ⟨rfl,qrd,hm⟩
   refine ⟨_,rfl,?_⟩
   have r7:=hid qrd
   have fj:=hm.size
   have l8:=hid (show Mod (fun k=>(R k)) w1 bz from hm)
   clear hm
   clear qrd c6
   refine qfd rfl 116 C1 c3 ?_
   refine QSeq.go fun act E=>?_
   refine Am rfl (Aa rfl) rfl (HB3.o.mod l8.out aH) (off:=116) (vs:=((gSt s).1.cells)) gA (St.one _) gT (E.d 2 0) (ec (E.d 1 1)) ?_
   intro r8 qc0 hm
   have qB3:=qc0.eqv (b:=((Mg.segs ({ x with ak:=(gSt s).1 }:Mg) c5 c10 c11 c15 c18).flatten:List Value).toArray) ((Bh HLN.o 6 gL rfl).trans rfl)
   clear qc0
   have cd:=hid qB3
   have fk:=hm.size
   have r9:=hid hm
   have d9:=hid (AA (S':=(fun k=>(R k)∨(k=w.heap.size))) l8.out hm iD aR)
   clear hm l8
   clear act E qB3 HB3
   have cf:=hid (r7.out.mod r9.out (sB HBR))
   clear r7 r9
   refine qe ?_
   clear HA0 c4 c3 a0
   have hrz:MgR.rd (fun k=>R2 k∨New w1 r8 k) r8 ((Mg.segs ({ x with ak:=(gSt s).1 }:Mg) c5 c10 c11 c15 c18).flatten) ({ x with ak:=(gSt s).1 }:Mg):=⟨_,_,_,_,_,rfl,{ HOK.o with ak:=gSt_OK HBY.o },(c7.out.mod d9.out aA).widen iD,(c8.out.mod d9.out aA).widen iD,(c9.out.mod d9.out aA).widen iD,(d5.out.mod d9.out aA).widen iD,(d6.out.mod d9.out aA).widen iD⟩
   have HRZ:=B8 hrz
   clear hrz
   go_wp2_with fail
   go_meet
   case rel=>exact ⟨_,_,_,HE.o,cd.out,HRZ.o,cf.out,(hmz.out.trans d9.out iA)⟩
  have K4:=B8 h4
  clear h4
  go_upto_region 8 with (fail)
  refine tst 98 B9 (Bk K4.o) rfl (qs ?_)
  by_cases h5:x.kd=5
  ·have KK:=B8 h5
   clear h5
   go_upto_region 10 with (fail)
   refine tst 98 B9 (Bj KK.o) rfl (qs ?_)
   have HE:=hid (show Az x s=({ x with ep:=(gI s).1,rn:=(gI (gI s).2).1,tm:=(rNum (gI (gI s).2).2).1 },(rNum (gI (gI s).2).2).2) by unfold Az;rw [KK.o];rfl)
   go_upto_region 11 with (fail)
   refine Ab 98 [29,30,31,32,33,34,35,105,36,107,37,109] [0,1,2,3,4,5,6,7,8,9,10,11] (fun a0 HA0=>?_)
   have c4:=ev HA0 0 rfl
   have c3:=ev HA0 3 rfl
   refine qmo rfl c4 ?_
   refine QSeq.call rfl rfl Tryz.func42 (cI_Q c6.out) (fun E=>Ar (E.d 0 0) rfl) ?_
   rintro e cg ⟨rfl,qrd,hm⟩
   refine ⟨_,rfl,?_⟩
   have s0:=hid qrd
   have fm:=hm.size
   have s5:=hid (show Mod (fun k=>(R k)) w1 cg from hm)
   clear hm
   clear qrd c6
   refine qmo rfl c4 ?_
   refine QSeq.call rfl rfl Tryz.func42 (cI_Q s0.out) (fun E=>Ar (E.d 2 0) rfl) ?_
   rintro e fo ⟨rfl,qrd,hm⟩
   refine ⟨_,rfl,?_⟩
   have s6:=hid qrd
   have fp:=hm.size
   have ch:=hid hm
   have s7:=hid (AA (S':=(fun k=>(R k))) s5.out hm (fun _ h=>h) aQ)
   clear hm s5
   clear qrd s0
   refine qmo rfl c4 ?_
   refine QSeq.call rfl rfl Tryz.func80 (RNum_R s6.out) (fun E=>Ap (E.d 4 0)) ?_
   rintro e fq ⟨rfl,qrd,hm⟩
   refine ⟨_,rfl,?_⟩
   have s8:=hid qrd
   have ft:=hm.size
   have cj:=hid hm
   have m7:=hid (AA (S':=(fun k=>(R k))) s7.out hm (fun _ h=>h) aQ)
   clear hm s7
   clear qrd s6
   refine qfd rfl 154 C1 c3 ?_
   refine QSeq.go fun act E=>?_
   refine Am rfl (Aa rfl) rfl (HB3.o.mod m7.out aH) (off:=154) (vs:=[Value.int .i64 (gI s).1]) aE one1 (by rw [D3,Bb,HLN.o];show 154+1≤295;decide) (E.d 6 0) (ec (E.d 1 5)) ?_
   intro fv qc0 hm
   have qB3:=qc0.eqv (b:=((Mg.segs ({ x with ep:=(gI s).1 }:Mg) c5 c10 c11 c15 c18).flatten:List Value).toArray) ((Bh HLN.o 7 (rfl) rfl).trans rfl)
   clear qc0
   have t0:=hid qB3
   have fw:=hm.size
   have t1:=hid hm
   have t2:=hid (AA (S':=(fun k=>(R k)∨(k=w.heap.size))) m7.out hm iD aR)
   clear hm m7
   clear act E qB3 HB3
   refine qfd rfl 155 C1 c3 ?_
   refine QSeq.go fun act E=>?_
   refine Am rfl (Aa rfl) rfl t0.out (off:=155) (vs:=[Value.int .i64 (gI (gI s).2).1]) aE one1 fB (E.d 8 0) (ec (E.d 3 5)) ?_
   intro fx qc0 hm
   have qB3:=qc0.eqv (b:=((Mg.segs ({ x with ep:=(gI s).1,rn:=(gI (gI s).2).1 }:Mg) c5 c10 c11 c15 c18).flatten:List Value).toArray) ((Bh (show (Mg.segs ({ x with ep:=(gI s).1 }:Mg) c5 c10 c11 c15 c18).map List.length=mgN from HLN.o) 8 (rfl) rfl).trans rfl)
   clear qc0
   have t8:=hid qB3
   have fy:=hm.size
   have t9:=hid hm
   have u0:=hid (AA (S':=(fun k=>(R k)∨(k=w.heap.size))) t2.out hm (fun _ h=>h) aR)
   clear hm t2
   clear act E qB3 t0
   refine qfd rfl 156 C1 c3 ?_
   refine QSeq.go fun act E=>?_
   refine Am rfl (Aa rfl) rfl t8.out (off:=156) (vs:=[Value.int .u64 ((rNum (gI (gI s).2).2).1:Nat)]) aE one1 eQ (E.d 10 0) (ec (E.d 5 5)) ?_
   intro u1 qc0 hm
   have qB3:=qc0.eqv (b:=((Mg.segs ({ x with ep:=(gI s).1,rn:=(gI (gI s).2).1,tm:=(rNum (gI (gI s).2).2).1 }:Mg) c5 c10 c11 c15 c18).flatten:List Value).toArray) ((Bh (show (Mg.segs ({ x with ep:=(gI s).1,rn:=(gI (gI s).2).1 }:Mg) c5 c10 c11 c15 c18).map List.length=mgN from HLN.o) 9 (rfl) rfl).trans rfl)
   clear qc0
   have ck:=hid qB3
   have fz:=hm.size
   have u2:=hid hm
   have g5:=hid (AA (S':=(fun k=>(R k)∨(k=w.heap.size))) u0.out hm (fun _ h=>h) aR)
   clear hm u0
   clear act E qB3 t8
   have co:=hid (((s8.out.mod t1.out (sB HBR)).mod t9.out (sB HBR)).mod u2.out (sB HBR))
   clear s8 ch cj t1 t9 u2
   refine qe ?_
   clear HA0 c4 c3 a0
   have hrz:MgR.rd (fun k=>R2 k∨New w1 u1 k) u1 ((Mg.segs ({ x with ep:=(gI s).1,rn:=(gI (gI s).2).1,tm:=(rNum (gI (gI s).2).2).1 }:Mg) c5 c10 c11 c15 c18).flatten) ({ x with ep:=(gI s).1,rn:=(gI (gI s).2).1,tm:=(rNum (gI (gI s).2).2).1 }:Mg):=⟨_,_,_,_,_,rfl,{ HOK.o with ep:=A8 _,rn:=A8 _,tm:=rNum_lt (gI_suf.bytes (gI_suf.bytes HBY.o)) },(c7.out.mod g5.out aA).widen iD,(c8.out.mod g5.out aA).widen iD,(c9.out.mod g5.out aA).widen iD,(d5.out.mod g5.out aA).widen iD,(d6.out.mod g5.out aA).widen iD⟩
   have HRZ:=B8 hrz
   clear hrz
   go_wp2_with fail
   go_meet
   case rel=>exact ⟨_,_,_,HE.o,ck.out,HRZ.o,co.out,(hmz.out.trans g5.out iA)⟩
  have K5:=B8 h5
  clear h5
  go_upto_region 10 with (fail)
  refine tst 98 B9 (Bk K5.o) rfl (qs ?_)
  by_cases h6:x.kd=6
  ·have KK:=B8 h6
   clear h6
   go_upto_region 12 with (fail)
   refine tst 98 B9 (Bj KK.o) rfl (qs ?_)
   have HE:=hid (show Az x s=({ x with pm:=(gPm s).1 },(gPm s).2) by unfold Az;rw [KK.o];rfl)
   go_upto_region 13 with (fail)
   refine Ab 98 [40,41,42,101] [0,1,2,3] (fun a0 HA0=>?_)
   have c4:=ev HA0 0 rfl
   have c3:=ev HA0 3 rfl
   refine qmo rfl c4 ?_
   refine QSeq.call rfl rfl Tryz.func81 (cPm_G _ _ _ _ c6.out aK HLE.o) (fun E=>Ap (E.d 0 0)) ?_
   rintro e cq ⟨cn,rfl,qnw,qrd,hm⟩
   have HCN:=hid (PmR.len qnw)
   have HCO:=hid (PmR.one qnw)
   refine ⟨_,rfl,?_⟩
   have u3:=hid qnw
   have u4:=hid qrd
   have gc:=hm.size
   have m8:=hid (show Mod (fun k=>(R k)) w1 cq from hm)
   clear hm
   clear qnw qrd c6
   refine qfd rfl 157 C1 c3 ?_
   refine QSeq.go fun act E=>?_
   refine Am rfl (Aa rfl) rfl (HB3.o.mod m8.out aH) (off:=157) (vs:=cn) fI HCO.o (by rw [D3,Bb,HLN.o];show 157+_≤295;rw [HCN.o];decide) (E.d 2 0) (ec (E.d 1 1)) ?_
   intro u5 qc0 hm
   have qB3:=qc0.eqv (b:=((Mg.segs ({ x with pm:=(gPm s).1 }:Mg) c5 cn c11 c15 c18).flatten:List Value).toArray) ((Bh HLN.o 10 gE rfl).trans rfl)
   clear qc0
   have cr:=hid qB3
   have gd:=hm.size
   have m9:=hid hm
   have j0:=hid (AA (S':=(fun k=>(R k)∨(k=w.heap.size))) m8.out hm iD aR)
   clear hm m8
   clear act E qB3 HB3
   have ct:=hid (u4.out.mod m9.out (sB HBR))
   have cw:=hid (u3.out.mod m9.out aD)
   clear u4 u3 m9
   refine qe ?_
   clear HA0 c4 c3 a0
   have hrz:MgR.rd (fun k=>R2 k∨New w1 u5 k) u5 ((Mg.segs ({ x with pm:=(gPm s).1 }:Mg) c5 cn c11 c15 c18).flatten) ({ x with pm:=(gPm s).1 }:Mg):=⟨_,_,_,_,_,rfl,{ HOK.o with },(c7.out.mod j0.out aA).widen iD,cw.out.widen fF,(c9.out.mod j0.out aA).widen iD,(d5.out.mod j0.out aA).widen iD,(d6.out.mod j0.out aA).widen iD⟩
   have HRZ:=B8 hrz
   clear hrz
   go_wp2_with fail
   go_meet
   case rel=>exact ⟨_,_,_,HE.o,cr.out,HRZ.o,ct.out,(hmz.out.trans j0.out iA)⟩
  have K6:=B8 h6
  clear h6
  go_upto_region 12 with (fail)
  refine tst 98 B9 (Bk K6.o) rfl (qs ?_)
  by_cases h7:x.kd=7
  ·have KK:=B8 h7
   clear h7
   go_upto_region 14 with (fail)
   refine tst 98 B9 (Bj KK.o) rfl (qs ?_)
   have HE:=hid (show Az x s=({ x with pr:=(gPr s).1 },(gPr s).2) by unfold Az;rw [KK.o];rfl)
   go_upto_region 15 with (fail)
   refine Ab 98 [45,46,47,101] [0,1,2,3] (fun a0 HA0=>?_)
   have c4:=ev HA0 0 rfl
   have c3:=ev HA0 3 rfl
   refine qmo rfl c4 ?_
   refine QSeq.call rfl rfl Tryz.func82 (cPr_G _ _ _ _ c6.out aK HLE.o) (fun E=>Ap (E.d 0 0)) ?_
   rintro e cx ⟨cn,rfl,qnw,qrd,hm⟩
   have HCN:=hid (PrR.len qnw)
   have HCO:=hid (PrR.one qnw)
   refine ⟨_,rfl,?_⟩
   have u6:=hid qnw
   have u7:=hid qrd
   have ge:=hm.size
   have n5:=hid (show Mod (fun k=>(R k)) w1 cx from hm)
   clear hm
   clear qnw qrd c6
   refine qfd rfl 163 C1 c3 ?_
   refine QSeq.go fun act E=>?_
   refine Am rfl (Aa rfl) rfl (HB3.o.mod n5.out aH) (off:=163) (vs:=cn) fI HCO.o (by rw [D3,Bb,HLN.o];show 163+_≤295;rw [HCN.o];decide) (E.d 2 0) (ec (E.d 1 1)) ?_
   intro u9 qc0 hm
   have qB3:=qc0.eqv (b:=((Mg.segs ({ x with pr:=(gPr s).1 }:Mg) c5 c10 cn c15 c18).flatten:List Value).toArray) ((Bh HLN.o 11 gE rfl).trans rfl)
   clear qc0
   have cy:=hid qB3
   have gf:=hm.size
   have n6:=hid hm
   have j3:=hid (AA (S':=(fun k=>(R k)∨(k=w.heap.size))) n5.out hm iD aR)
   clear hm n5
   clear act E qB3 HB3
   have da:=hid (u7.out.mod n6.out (sB HBR))
   have db:=hid (u6.out.mod n6.out aD)
   clear u7 u6 n6
   refine qe ?_
   clear HA0 c4 c3 a0
   have hrz:MgR.rd (fun k=>R2 k∨New w1 u9 k) u9 ((Mg.segs ({ x with pr:=(gPr s).1 }:Mg) c5 c10 cn c15 c18).flatten) ({ x with pr:=(gPr s).1 }:Mg):=⟨_,_,_,_,_,rfl,{ HOK.o with },(c7.out.mod j3.out aA).widen iD,(c8.out.mod j3.out aA).widen iD,db.out.widen fF,(d5.out.mod j3.out aA).widen iD,(d6.out.mod j3.out aA).widen iD⟩
   have HRZ:=B8 hrz
   clear hrz
   go_wp2_with fail
   go_meet
   case rel=>exact ⟨_,_,_,HE.o,cy.out,HRZ.o,da.out,(hmz.out.trans j3.out iA)⟩
  have K7:=B8 h7
  clear h7
  go_upto_region 14 with (fail)
  refine tst 98 B9 (Bk K7.o) rfl (qs ?_)
  by_cases h8:x.kd=8
  ·have KK:=B8 h8
   clear h8
   go_upto_region 16 with (fail)
   refine tst 98 B9 (Bj KK.o) rfl (qs ?_)
   have HE:=hid (show Az x s=({ x with vt:=(gVt s).1 },(gVt s).2) by unfold Az;rw [KK.o];rfl)
   go_upto_region 17 with (fail)
   refine Ab 98 [50,51,52,101] [0,1,2,3] (fun a0 HA0=>?_)
   have c4:=ev HA0 0 rfl
   have c3:=ev HA0 3 rfl
   refine qmo rfl c4 ?_
   refine QSeq.call rfl rfl Tryz.func83 (cVt_Q _ _ _ _ c6.out aK) (fun E=>Ap (E.d 0 0)) ?_
   rintro e dd ⟨rfl,qrd,hm⟩
   refine ⟨_,rfl,?_⟩
   have v5:=hid qrd
   have gg:=hm.size
   have n7:=hid (show Mod (fun k=>(R k)) w1 dd from hm)
   clear hm
   clear qrd c6
   refine qfd rfl 174 C1 c3 ?_
   refine QSeq.go fun act E=>?_
   refine Am rfl (Aa rfl) rfl (HB3.o.mod n7.out aH) (off:=174) (vs:=((gVt s).1.cells)) (by rw [Vt.len (gVt_OK HBY.o)];kernel_rfl) (Vt.one _) gS (E.d 2 0) (ec (E.d 1 1)) ?_
   intro v6 qc0 hm
   have qB3:=qc0.eqv (b:=((Mg.segs ({ x with vt:=(gVt s).1 }:Mg) c5 c10 c11 c15 c18).flatten:List Value).toArray) ((Bh HLN.o 12 (by rw [Vt.len (gVt_OK HBY.o)];rfl) rfl).trans rfl)
   clear qc0
   have df:=hid qB3
   have gh:=hm.size
   have v7:=hid hm
   have g6:=hid (AA (S':=(fun k=>(R k)∨(k=w.heap.size))) n7.out hm iD aR)
   clear hm n7
   clear act E qB3 HB3
   have dg:=hid (v5.out.mod v7.out (sB HBR))
   clear v5 v7
   refine qe ?_
   clear HA0 c4 c3 a0
   have hrz:MgR.rd (fun k=>R2 k∨New w1 v6 k) v6 ((Mg.segs ({ x with vt:=(gVt s).1 }:Mg) c5 c10 c11 c15 c18).flatten) ({ x with vt:=(gVt s).1 }:Mg):=⟨_,_,_,_,_,rfl,{ HOK.o with vt:=gVt_OK HBY.o },(c7.out.mod g6.out aA).widen iD,(c8.out.mod g6.out aA).widen iD,(c9.out.mod g6.out aA).widen iD,(d5.out.mod g6.out aA).widen iD,(d6.out.mod g6.out aA).widen iD⟩
   have HRZ:=B8 hrz
   clear hrz
   go_wp2_with fail
   go_meet
   case rel=>exact ⟨_,_,_,HE.o,df.out,HRZ.o,dg.out,(hmz.out.trans g6.out iA)⟩
  have K8:=B8 h8
  clear h8
  go_upto_region 16 with (fail)
  refine tst 98 B9 (Bk K8.o) rfl (qs ?_)
  by_cases h9:x.kd=9
  ·have KK:=B8 h9
   clear h9
   go_upto_region 18 with (fail)
   refine tst 98 B9 (Bj KK.o) rfl (qs ?_)
   have HE:=hid (show Az x s=({ x with ix:=(gI s).1,en:=(gEn (gI s).2).1 },(gEn (gI s).2).2) by unfold Az;rw [KK.o];rfl)
   go_upto_region 19 with (fail)
   refine Ab 98 [55,56,57,58,59,103,60,105] [0,1,2,3,4,5,6,7] (fun a0 HA0=>?_)
   have c4:=ev HA0 0 rfl
   have c3:=ev HA0 3 rfl
   refine qmo rfl c4 ?_
   refine QSeq.call rfl rfl Tryz.func42 (cI_Q c6.out) (fun E=>Ar (E.d 0 0) rfl) ?_
   rintro e dh ⟨rfl,qrd,hm⟩
   refine ⟨_,rfl,?_⟩
   have v8:=hid qrd
   have gi:=hm.size
   have x4:=hid (show Mod (fun k=>(R k)) w1 dh from hm)
   clear hm
   clear qrd c6
   refine qmo rfl c4 ?_
   refine QSeq.call rfl rfl Tryz.func84 (cEn_Q _ _ _ _ v8.out aK) (fun E=>Ap (E.d 2 0)) ?_
   rintro e gj ⟨rfl,qrd,hm⟩
   refine ⟨_,rfl,?_⟩
   have x5:=hid qrd
   have gk:=hm.size
   have di:=hid hm
   have n8:=hid (AA (S':=(fun k=>(R k))) x4.out hm (fun _ h=>h) aQ)
   clear hm x4
   clear qrd v8
   refine qfd rfl 212 C1 c3 ?_
   refine QSeq.go fun act E=>?_
   refine Am rfl (Aa rfl) rfl (HB3.o.mod n8.out aH) (off:=212) (vs:=[Value.int .i64 (gI s).1]) aE one1 cP (E.d 4 0) (ec (E.d 1 3)) ?_
   intro gm qc0 hm
   have qB3:=qc0.eqv (b:=((Mg.segs ({ x with ix:=(gI s).1 }:Mg) c5 c10 c11 c15 c18).flatten:List Value).toArray) ((Bh HLN.o 13 (rfl) rfl).trans rfl)
   clear qc0
   have x6:=hid qB3
   have gn:=hm.size
   have x7:=hid hm
   have x8:=hid (AA (S':=(fun k=>(R k)∨(k=w.heap.size))) n8.out hm iD aR)
   clear hm n8
   clear act E qB3 HB3
   refine qfd rfl 213 C1 c3 ?_
   refine QSeq.go fun act E=>?_
   refine Am rfl (Aa rfl) rfl x6.out (off:=213) (vs:=((gEn (gI s).2).1.cells)) (by rw [En.len (gEn_OK (gI_suf.bytes HBY.o))];kernel_rfl) (En.one _) eG (E.d 6 0) (ec (E.d 3 3)) ?_
   intro x9 qc0 hm
   have qB3:=qc0.eqv (b:=((Mg.segs ({ x with ix:=(gI s).1,en:=(gEn (gI s).2).1 }:Mg) c5 c10 c11 c15 c18).flatten:List Value).toArray) ((Bh (show (Mg.segs ({ x with ix:=(gI s).1 }:Mg) c5 c10 c11 c15 c18).map List.length=mgN from HLN.o) 14 (by rw [En.len (gEn_OK (gI_suf.bytes HBY.o))];rfl) rfl).trans rfl)
   clear qc0
   have dj:=hid qB3
   have gq:=hm.size
   have y0:=hid hm
   have g7:=hid (AA (S':=(fun k=>(R k)∨(k=w.heap.size))) x8.out hm (fun _ h=>h) aR)
   clear hm x8
   clear act E qB3 x6
   have dk:=hid ((x5.out.mod x7.out (sB HBR)).mod y0.out (sB HBR))
   clear x5 di x7 y0
   refine qe ?_
   clear HA0 c4 c3 a0
   have hrz:MgR.rd (fun k=>R2 k∨New w1 x9 k) x9 ((Mg.segs ({ x with ix:=(gI s).1,en:=(gEn (gI s).2).1 }:Mg) c5 c10 c11 c15 c18).flatten) ({ x with ix:=(gI s).1,en:=(gEn (gI s).2).1 }:Mg):=⟨_,_,_,_,_,rfl,{ HOK.o with ix:=A8 _,en:=gEn_OK (gI_suf.bytes HBY.o) },(c7.out.mod g7.out aA).widen iD,(c8.out.mod g7.out aA).widen iD,(c9.out.mod g7.out aA).widen iD,(d5.out.mod g7.out aA).widen iD,(d6.out.mod g7.out aA).widen iD⟩
   have HRZ:=B8 hrz
   clear hrz
   go_wp2_with fail
   go_meet
   case rel=>exact ⟨_,_,_,HE.o,dj.out,HRZ.o,dk.out,(hmz.out.trans g7.out iA)⟩
  have K9:=B8 h9
  clear h9
  go_upto_region 18 with (fail)
  refine tst 98 B9 (Bk K9.o) rfl (qs ?_)
  by_cases h10:x.kd=10
  ·have KK:=B8 h10
   clear h10
   go_upto_region 20 with (fail)
   refine tst 98 B9 (Bj KK.o) rfl (qs ?_)
   have HE:=hid (show Az x s=({ x with op:=(gOp s).1 },(gOp s).2) by unfold Az;rw [KK.o];rfl)
   go_upto_region 21 with (fail)
   refine Ab 98 [63,64,65,101] [0,1,2,3] (fun a0 HA0=>?_)
   have c4:=ev HA0 0 rfl
   have c3:=ev HA0 3 rfl
   refine qmo rfl c4 ?_
   refine QSeq.call rfl rfl Tryz.func85 (cOp_G _ _ _ _ c6.out aK HLE.o) (fun E=>Ap (E.d 0 0)) ?_
   rintro e dl ⟨cn,rfl,qnw,qrd,hm⟩
   have HCN:=hid (OpR.len qnw)
   have HCO:=hid (OpR.one qnw)
   refine ⟨_,rfl,?_⟩
   have y5:=hid qnw
   have y6:=hid qrd
   have gr:=hm.size
   have o5:=hid (show Mod (fun k=>(R k)) w1 dl from hm)
   clear hm
   clear qnw qrd c6
   refine qfd rfl 248 C1 c3 ?_
   refine QSeq.go fun act E=>?_
   refine Am rfl (Aa rfl) rfl (HB3.o.mod o5.out aH) (off:=248) (vs:=cn) fI HCO.o (by rw [D3,Bb,HLN.o];show 248+_≤295;rw [HCN.o];decide) (E.d 2 0) (ec (E.d 1 1)) ?_
   intro y7 qc0 hm
   have qB3:=qc0.eqv (b:=((Mg.segs ({ x with op:=(gOp s).1 }:Mg) c5 c10 c11 cn c18).flatten:List Value).toArray) ((Bh HLN.o 15 gE rfl).trans rfl)
   clear qc0
   have dm:=hid qB3
   have gu:=hm.size
   have o6:=hid hm
   have j4:=hid (AA (S':=(fun k=>(R k)∨(k=w.heap.size))) o5.out hm iD aR)
   clear hm o5
   clear act E qB3 HB3
   have dp:=hid (y6.out.mod o6.out (sB HBR))
   have dq:=hid (y5.out.mod o6.out aD)
   clear y6 y5 o6
   refine qe ?_
   clear HA0 c4 c3 a0
   have hrz:MgR.rd (fun k=>R2 k∨New w1 y7 k) y7 ((Mg.segs ({ x with op:=(gOp s).1 }:Mg) c5 c10 c11 cn c18).flatten) ({ x with op:=(gOp s).1 }:Mg):=⟨_,_,_,_,_,rfl,{ HOK.o with },(c7.out.mod j4.out aA).widen iD,(c8.out.mod j4.out aA).widen iD,(c9.out.mod j4.out aA).widen iD,dq.out.widen fF,(d6.out.mod j4.out aA).widen iD⟩
   have HRZ:=B8 hrz
   clear hrz
   go_wp2_with fail
   go_meet
   case rel=>exact ⟨_,_,_,HE.o,dm.out,HRZ.o,dp.out,(hmz.out.trans j4.out iA)⟩
  have K10:=B8 h10
  clear h10
  go_upto_region 20 with (fail)
  refine tst 98 B9 (Bk K10.o) rfl (qs ?_)
  by_cases h11:x.kd=11
  ·have KK:=B8 h11
   clear h11
   go_upto_region 22 with (fail)
   refine tst 98 B9 (Bj KK.o) rfl (qs ?_)
   have HE:=hid (show Az x s=({ x with ix:=(gI s).1 },(gI s).2) by unfold Az;rw [KK.o];rfl)
   go_upto_region 23 with (fail)
   refine Ab 98 [68,69,70,101] [0,1,2,3] (fun a0 HA0=>?_)
   have c4:=ev HA0 0 rfl
   have c3:=ev HA0 3 rfl
   refine qmo rfl c4 ?_
   refine QSeq.call rfl rfl Tryz.func42 (cI_Q c6.out) (fun E=>Ar (E.d 0 0) rfl) ?_
   rintro e dr ⟨rfl,qrd,hm⟩
   refine ⟨_,rfl,?_⟩
   have y8:=hid qrd
   have gv:=hm.size
   have o7:=hid (show Mod (fun k=>(R k)) w1 dr from hm)
   clear hm
   clear qrd c6
   refine qfd rfl 212 C1 c3 ?_
   refine QSeq.go fun act E=>?_
   refine Am rfl (Aa rfl) rfl (HB3.o.mod o7.out aH) (off:=212) (vs:=[Value.int .i64 (gI s).1]) aE one1 cP (E.d 2 0) (ec (E.d 1 1)) ?_
   intro z0 qc0 hm
   have qB3:=qc0.eqv (b:=((Mg.segs ({ x with ix:=(gI s).1 }:Mg) c5 c10 c11 c15 c18).flatten:List Value).toArray) ((Bh HLN.o 13 (rfl) rfl).trans rfl)
   clear qc0
   have dt:=hid qB3
   have gx:=hm.size
   have z3:=hid hm
   have g8:=hid (AA (S':=(fun k=>(R k)∨(k=w.heap.size))) o7.out hm iD aR)
   clear hm o7
   clear act E qB3 HB3
   have du:=hid (y8.out.mod z3.out (sB HBR))
   clear y8 z3
   refine qe ?_
   clear HA0 c4 c3 a0
   have hrz:MgR.rd (fun k=>R2 k∨New w1 z0 k) z0 ((Mg.segs ({ x with ix:=(gI s).1 }:Mg) c5 c10 c11 c15 c18).flatten) ({ x with ix:=(gI s).1 }:Mg):=⟨_,_,_,_,_,rfl,{ HOK.o with ix:=A8 _ },(c7.out.mod g8.out aA).widen iD,(c8.out.mod g8.out aA).widen iD,(c9.out.mod g8.out aA).widen iD,(d5.out.mod g8.out aA).widen iD,(d6.out.mod g8.out aA).widen iD⟩
   have HRZ:=B8 hrz
   clear hrz
   go_wp2_with fail
   go_meet
   case rel=>exact ⟨_,_,_,HE.o,dt.out,HRZ.o,du.out,(hmz.out.trans g8.out iA)⟩
  have K11:=B8 h11
  clear h11
  go_upto_region 22 with (fail)
  refine tst 98 B9 (Bk K11.o) rfl (qs ?_)
  by_cases h12:x.kd=12
  ·have KK:=B8 h12
   clear h12
   go_upto_region 24 with (fail)
   refine tst 98 B9 (Bj KK.o) rfl (qs ?_)
   have HE:=hid (show Az x s=({ x with dn:=(gDn s).1 },(gDn s).2) by unfold Az;rw [KK.o];rfl)
   go_upto_region 25 with (fail)
   refine Ab 98 [73,74,75,101] [0,1,2,3] (fun a0 HA0=>?_)
   have c4:=ev HA0 0 rfl
   have c3:=ev HA0 3 rfl
   refine qmo rfl c4 ?_
   refine QSeq.call rfl rfl Tryz.func86 (cDn_Q _ _ _ _ c6.out aK) (fun E=>Ap (E.d 0 0)) ?_
   rintro e dv ⟨rfl,qrd,hm⟩
   refine ⟨_,rfl,?_⟩
   have z4:=hid qrd
   have gy:=hm.size
   have o8:=hid (show Mod (fun k=>(R k)) w1 dv from hm)
   clear hm
   clear qrd c6
   refine qfd rfl 282 C1 c3 ?_
   refine QSeq.go fun act E=>?_
   refine Am rfl (Aa rfl) rfl (HB3.o.mod o8.out aH) (off:=282) (vs:=((gDn s).1.cells)) aE (Dn.one _) (by rw [D3,Bb,HLN.o];show 282+4≤295;decide) (E.d 2 0) (ec (E.d 1 1)) ?_
   intro z5 qc0 hm
   have qB3:=qc0.eqv (b:=((Mg.segs ({ x with dn:=(gDn s).1 }:Mg) c5 c10 c11 c15 c18).flatten:List Value).toArray) ((Bh HLN.o 16 rfl rfl).trans rfl)
   clear qc0
   have dw:=hid qB3
   have gz:=hm.size
   have z6:=hid hm
   have g9:=hid (AA (S':=(fun k=>(R k)∨(k=w.heap.size))) o8.out hm iD aR)
   clear hm o8
   clear act E qB3 HB3
   have dx:=hid (z4.out.mod z6.out (sB HBR))
   clear z4 z6
   refine qe ?_
   clear HA0 c4 c3 a0
   have hrz:MgR.rd (fun k=>R2 k∨New w1 z5 k) z5 ((Mg.segs ({ x with dn:=(gDn s).1 }:Mg) c5 c10 c11 c15 c18).flatten) ({ x with dn:=(gDn s).1 }:Mg):=⟨_,_,_,_,_,rfl,{ HOK.o with dn:=gDn_OK HBY.o },(c7.out.mod g9.out aA).widen iD,(c8.out.mod g9.out aA).widen iD,(c9.out.mod g9.out aA).widen iD,(d5.out.mod g9.out aA).widen iD,(d6.out.mod g9.out aA).widen iD⟩
   have HRZ:=B8 hrz
   clear hrz
   go_wp2_with fail
   go_meet
   case rel=>exact ⟨_,_,_,HE.o,dw.out,HRZ.o,dx.out,(hmz.out.trans g9.out iA)⟩
  have K12:=B8 h12
  clear h12
  go_upto_region 24 with (fail)
  refine tst 98 B9 (Bk K12.o) rfl (qs ?_)
  by_cases h13:x.kd=13
  ·have KK:=B8 h13
   clear h13
   go_upto_region 26 with (fail)
   refine tst 98 B9 (Bj KK.o) rfl (qs ?_)
   have HE:=hid (show Az x s=({ x with ix:=(gI s).1,rp:=strOfNums (rRow 256 (gI s).2).1 },(rRow 256 (gI s).2).2) by unfold Az;rw [KK.o];rfl)
   go_upto_region 27 with (fail)
   generalize ha0:Act.mk _ _=a0
   have c4:a0.eval (.tmp 0)=.pointer (some ⟨r,0,none⟩):=by rw [← ha0];rfl
   have c3:a0.eval (.tmp 3)=.pointer (some ⟨w.heap.size,0,none⟩):=by rw [← ha0];rfl
   have hsz0:a0.tmps.size=98:=by rw [← ha0];rfl
   have HA0:=hid ha0
   clear ha0
   refine Bc 98 hsz0 [78,79,80,81,82,83,104,84,106] (fun k=>(R k)∨(k=w.heap.size)) (fun k j=>(k=0∧((R j)))∨(k=1∧((R j)))∨(k=2∧((j=w.heap.size)))∨(k=3∧((j=w.heap.size)))) (by intro k j h;(try dsimp only at h ⊢);rcases h with ⟨-,h⟩|⟨-,h⟩|⟨-,h⟩|⟨-,h⟩;(exact Or.inl (h));(exact Or.inl (h));(exact Or.inr (h));(exact Or.inr (h))) [qi (.pointer (some ⟨r,0,none⟩)),qi (.int .i64 (gI s).1),qi (.pointer (some ⟨r,0,none⟩)),qx 1 w1.heap.size (fun k=>(R k)∨(k=w.heap.size)) (fun R w v=>RdR R ((rRow 256 (gI s).2).1).length w v (rRow 256 (gI s).2).1),qi (.string (strOfNums (rRow 256 (gI s).2).1)),qi (.pointer (some ⟨w.heap.size,212,none⟩)),qv 2,qi (.pointer (some ⟨w.heap.size,286,none⟩)),qv 3] ⟨Ac,Ac,Ac,(qx_stable (qr_stable rdR_cells)),Ac,Ac,Ah,Ac,Ah,trivial⟩ [1,3,6,8] ⟨?_,?_,?_,?_,?_,?_,?_,?_,?_,trivial⟩ ?_
   ·exact stq (fun E=>Al rfl (E.v c4))
   ·exact Ad rfl
   ·exact stq (fun E=>Al rfl (E.v c4))
   ·exact Ad rfl
   ·refine Ay rfl rfl rfl fun _ _ _ _ _ _ _ _ _ hd _ _=>?_
    obtain ⟨-,Rq,-,hrd⟩:=hd ⟨3,.data⟩ bA rfl _ rfl
    exact Bl rfl (Aa rfl) (ex_conv rfl rfl (bytes_string hrd.1)) QE.refl rfl
   ·exact stq (fun E=>Ae rfl C1 rfl aE (E.v c3))
   ·exact Ad rfl
   ·exact stq (fun E=>Ae rfl C1 rfl aE (E.v c3))
   ·exact Ad rfl
   intro ia hr
   have ib:=hr.size
   have z7:=hid (hr.new (S:=(fun k=>(R k)∨(k=w.heap.size))))
   have z9:=hid (c6.out.mod hr aO)
   clear c6
   have aa:=hid (HB3.o.mod hr aG)
   clear HB3
   clear hr
   refine QChain.go fun Z act E=>?_
   refine Aj (args:=#[.pointer (some ⟨r,0,none⟩),.int .i64 1099511627776]) rfl (Aa rfl) rfl Tryz.func42 (Ar (E.d 0) rfl) (cI_Q z9.out) ?_
   rintro e ic ⟨rfl,qrd,hm⟩
   have ig:=hm.size
   refine ⟨_,rfl,hm.mono aW,(fun _=>rfl),?_⟩
   intro dy hr
   have ii:=hr.size
   have ac:=hid (qrd.mod hr aO)
   have hmr:=hm.two hr
   have ae:=hid (aa.out.mod hmr bM)
   clear aa
   clear hmr
   have af:=hid (z7.out.goM hm hr eL)
   clear z7 hm hr Z act E qrd z9
   refine QChain.goP fun Z act E=>?_
   refine Aj (args:=#[.pointer (some ⟨r,0,none⟩),.int .i64 256]) rfl (Aa rfl) rfl Tryz.func87 (Ar (E.d 2) rfl) (cRow_Q ac.out) ?_
   rintro e dz ⟨vr,rfl,qrow,qrd,hm⟩
   have ij:=hm.size
   refine ⟨_,rfl,hm.mono (by intro k hk h;first|omega|exact Or.inl ⟨aZ,Or.inr (Or.inl ⟨rfl,h⟩)⟩),(fun Z hZ=>⟨rfl,New dy dz,fun j hj=>⟨by omega,fun h=>by omega,fun h=>by have hz:=hZ j h.2;(try dsimp only at hz);(try simp only [false_or] at hz);omega⟩,qrow⟩),?_⟩
   clear qrow
   intro ik hr
   have il:=hr.size
   have ag:=hid (qrd.mod hr aO)
   have hmr:=hm.two hr
   have ah:=hid (ae.out.mod hmr bM)
   clear ae
   clear hmr
   have aj:=hid (af.out.goM hm hr eL)
   clear af hm hr Z act E qrd ac
   refine QChain.go fun Z act E=>?_
   refine Am rfl (Aa rfl) rfl ah.out (off:=212) (vs:=[Value.int .i64 (gI s).1]) aE one1 cP (E.d 5) (ec (E.d 1)) ?_
   intro im qc0 hm
   have qB3:=qc0.eqv (b:=((Mg.segs ({ x with ix:=(gI s).1 }:Mg) c5 c10 c11 c15 c18).flatten:List Value).toArray) ((Bh HLN.o 13 (rfl) rfl).trans rfl)
   clear qc0
   have io:=hm.size
   refine ⟨hm.mono cG,(fun _=>rfl),?_⟩
   intro ip hr
   have iq:=hr.size
   have am:=hid (qB3.mod hr aG)
   have hmr:=hm.two hr
   have ap:=hid (ag.out.mod hmr aO)
   clear ag
   clear hmr
   have aq:=hid (aj.out.goM hm hr eL)
   clear aj hm hr Z act E qB3 ah
   refine QChain.go fun Z act E=>?_
   refine Am rfl (Aa rfl) rfl am.out (off:=286) (vs:=[Value.string (strOfNums (rRow 256 (gI s).2).1)]) aE one1 fA (E.d 7) (ec (E.d 4)) ?_
   intro ir qc0 hm
   have qB3:=qc0.eqv (b:=((Mg.segs ({ x with ix:=(gI s).1,rp:=strOfNums (rRow 256 (gI s).2).1 }:Mg) c5 c10 c11 c15 c18).flatten:List Value).toArray) ((Bh (show (Mg.segs ({ x with ix:=(gI s).1 }:Mg) c5 c10 c11 c15 c18).map List.length=mgN from HLN.o) 17 (rfl) rfl).trans rfl)
   clear qc0
   have iu:=hm.size
   refine ⟨hm.mono cG,(fun _=>rfl),?_⟩
   intro ar hr
   have iv:=hr.size
   have eb:=hid (qB3.mod hr aG)
   have hmr:=hm.two hr
   have ed:=hid (ap.out.mod hmr aO)
   clear ap
   clear hmr
   have i7:=hid (aq.out.goM hm hr eL)
   clear aq hm hr Z act E qB3 am
   refine QChain.nil fun vs hl hzz hrows hne=>?_
   obtain ⟨Z,hYZ,hZb,hV⟩:=hzz
   have f0:=fvi hV hl 0
   have f1:=fvi hV hl 1
   have f2:=fvi hV hl 2
   have k3:=hV 3 _ (getq hl aM)
   rw [show vs=[gw vs 0,gw vs 1,gw vs 2,gw vs 3,gw vs 4,gw vs 5,gw vs 6,gw vs 7,gw vs 8] from (Bi hl).trans rfl]
   have ha0:=HA0.o
   subst ha0
   clear HA0 hV hYZ hZb hsz0 hrows hne c4 c3
   simp only [Au,Act.put,sIB,sCZ,sCS,List.set_nil,f0,f1,f2]
   clear hl f0 f1 f2
   have hrz:MgR.rd (fun k=>R2 k∨New w1 ar k) ar ((Mg.segs ({ x with ix:=(gI s).1,rp:=strOfNums (rRow 256 (gI s).2).1 }:Mg) c5 c10 c11 c15 c18).flatten) ({ x with ix:=(gI s).1,rp:=strOfNums (rRow 256 (gI s).2).1 }:Mg):=⟨_,_,_,_,_,rfl,{ HOK.o with ix:=A8 _ },(c7.out.mod i7.out aA).widen iD,(c8.out.mod i7.out aA).widen iD,(c9.out.mod i7.out aA).widen iD,(d5.out.mod i7.out aA).widen iD,(d6.out.mod i7.out aA).widen iD⟩
   have HRZ:=B8 hrz
   clear hrz
   go_wp2_with fail
   go_meet
   case rel=>exact ⟨_,_,_,HE.o,eb.out,HRZ.o,ed.out,(hmz.out.trans i7.out iA)⟩
  have K13:=B8 h13
  clear h13
  go_upto_region 26 with (fail)
  refine tst 98 B9 (Bk K13.o) rfl (qs ?_)
  by_cases h14:x.kd=14
  ·have KK:=B8 h14
   clear h14
   go_upto_region 28 with (fail)
   refine tst 98 B9 (Bj KK.o) rfl (qs ?_)
   have HE:=hid (show Az x s=({ x with dc:=(Dc.mk (gI s).1 (gI (gI s).2).1 (gBa (gI (gI s).2).2).1 (Av gVt (gBa (gI (gI s).2).2).2).1) },(Av gVt (gBa (gI (gI s).2).2).2).2) by unfold Az;rw [KK.o];rfl)
   go_upto_region 29 with (fail)
   refine Ab 98 [87,88,89,90,91,92,93,94,95,96,108] [0,1,2,3,4,5,6,7,8,9,10] (fun a0 HA0=>?_)
   have c4:=ev HA0 0 rfl
   have c3:=ev HA0 3 rfl
   refine qmo rfl c4 ?_
   refine QSeq.call rfl rfl Tryz.func42 (cI_Q c6.out) (fun E=>Ar (E.d 0 0) rfl) ?_
   rintro e ee ⟨rfl,qrd,hm⟩
   refine ⟨_,rfl,?_⟩
   have au:=hid qrd
   have iw:=hm.size
   have av:=hid (show Mod (fun k=>(R k)) w1 ee from hm)
   clear hm
   clear qrd c6
   refine qmo rfl c4 ?_
   refine QSeq.call rfl rfl Tryz.func42 (cI_Q au.out) (fun E=>Ar (E.d 2 0) rfl) ?_
   rintro e eg ⟨rfl,qrd,hm⟩
   refine ⟨_,rfl,?_⟩
   have aw:=hid qrd
   have iy:=hm.size
   have eh:=hid hm
   have ax:=hid (AA (S':=(fun k=>(R k))) av.out hm (fun _ h=>h) aQ)
   clear hm av
   clear qrd au
   refine qmo rfl c4 ?_
   refine QSeq.call rfl rfl Tryz.func88 (cBa_G _ _ _ _ aw.out aK (C4 (gI_suf.len _) (C4 (gI_suf.len _) HLE.o))) (fun E=>Ap (E.d 4 0)) ?_
   rintro e ay ⟨cb,rfl,qba,qrd,hm⟩
   obtain ⟨v1,v2,v3,rfl,hokb,qba,qbo,qbt⟩:=qba
   obtain ⟨aob0,capb0,rfl⟩:=qba.shape
   obtain ⟨aob1,capb1,rfl⟩:=qbo.shape
   obtain ⟨aob2,capb2,rfl⟩:=qbt.shape
   clear hokb
   refine ⟨_,rfl,?_⟩
   have az:=hid qba
   have bb:=hid qrd
   have bc:=hid qbo
   have bf:=hid qbt
   have iz:=hm.size
   have ei:=hid hm
   have bg:=hid (AA (S':=(fun k=>(R k))) ax.out hm (fun _ h=>h) aQ)
   clear hm ax
   clear qba qrd qbo qbt aw
   refine qmo rfl c4 ?_
   refine QSeq.call rfl rfl Tryz.func89 (cList_Vt _ _ _ _ bb.out aK (C4 (gBa_suf.len _) (C4 (gI_suf.len _) (C4 (gI_suf.len _) HLE.o)))) (fun E=>Ar (E.d 6 0) rfl) ?_
   rintro e ej ⟨vl,rfl,qvl,qrd,hm⟩
   obtain ⟨aol,capl,rfl⟩:=qvl.shape
   refine ⟨_,rfl,?_⟩
   have bh:=hid qvl
   have bj:=hid qrd
   have ja:=hm.size
   have j6:=hid hm
   have o9:=hid (AA (S':=(fun k=>(R k))) bg.out hm (fun _ h=>h) aQ)
   clear hm bg
   clear qvl qrd bb
   refine QSeq.go fun act E=>?_
   refine Bu rfl (Aa rfl) (v:=.agg (((Dc.mk (gI s).1 (gI (gI s).2).1 (gBa (gI (gI s).2).2).1 (Av gVt (gBa (gI (gI s).2).2).2).1).cells (Value.slice aob0 (gBa (gI (gI s).2).2).1.ps.length capb0) (Value.slice aob1 (gBa (gI (gI s).2).2).1.os.length capb1) (Value.slice aob2 (gBa (gI (gI s).2).2).1.ts.length capb2) (Value.slice aol (Av gVt (gBa (gI (gI s).2).2).2).1.length capl)):List Value).toArray) (Bo rfl (z:=zq11) (places:=[(0,1),(1,1),(2,5),(7,1)]) aE (parts:=[(0,.int .i64 (gI s).1),(1,.int .i64 (gI (gI s).2).1),(2,.agg #[.int .i64 (gBa (gI (gI s).2).2).1.ep,.int .u64 ((gBa (gI (gI s).2).2).1.tm:Nat),Value.slice aob0 (gBa (gI (gI s).2).2).1.ps.length capb0,Value.slice aob1 (gBa (gI (gI s).2).2).1.os.length capb1,Value.slice aob2 (gBa (gI (gI s).2).2).1.ts.length capb2]),(3,.slice aol (Av gVt (gBa (gI (gI s).2).2).2).1.length capl)]) (by simp only [C8,C5,C6,show act.eval (.tmp 88)=.int .i64 (gI s).1 from (E.d 1 6),show act.eval (.tmp 90)=.int .i64 (gI (gI s).2).1 from (E.d 3 4),show act.eval (.tmp 92)=.agg #[.int .i64 (gBa (gI (gI s).2).2).1.ep,.int .u64 ((gBa (gI (gI s).2).2).1.tm:Nat),Value.slice aob0 (gBa (gI (gI s).2).2).1.ps.length capb0,Value.slice aob1 (gBa (gI (gI s).2).2).1.os.length capb1,Value.slice aob2 (gBa (gI (gI s).2).2).1.ts.length capb2] from (E.d 5 2),show act.eval (.tmp 94)=.slice aol (Av gVt (gBa (gI (gI s).2).2).2).1.length capl from (E.d 7 0)];try rfl) (r:=((Dc.mk (gI s).1 (gI (gI s).2).1 (gBa (gI (gI s).2).2).1 (Av gVt (gBa (gI (gI s).2).2).2).1).cells (Value.slice aob0 (gBa (gI (gI s).2).2).1.ps.length capb0) (Value.slice aob1 (gBa (gI (gI s).2).2).1.os.length capb1) (Value.slice aob2 (gBa (gI (gI s).2).2).1.ts.length capb2) (Value.slice aol (Av gVt (gBa (gI (gI s).2).2).2).1.length capl))) (by exact Bn (ns:=[1,1,5,1]) rfl [(0,.int .i64 (gI s).1),(1,.int .i64 (gI (gI s).2).1),(2,.agg #[.int .i64 (gBa (gI (gI s).2).2).1.ep,.int .u64 ((gBa (gI (gI s).2).2).1.tm:Nat),Value.slice aob0 (gBa (gI (gI s).2).2).1.ps.length capb0,Value.slice aob1 (gBa (gI (gI s).2).2).1.os.length capb1,Value.slice aob2 (gBa (gI (gI s).2).2).1.ts.length capb2]),(3,.slice aol (Av gVt (gBa (gI (gI s).2).2).2).1.length capl)] [[.int .i64 0],[.int .i64 0],zq8,[.slice none 0 0]] rfl ⟨rfl,rfl,rfl,rfl,trivial⟩)) ?_
   clear act E
   refine qfd rfl 287 C1 c3 ?_
   refine QSeq.go fun act E=>?_
   refine Am rfl (Aa rfl) rfl (HB3.o.mod o9.out aH) (off:=287) (vs:=((Dc.mk (gI s).1 (gI (gI s).2).1 (gBa (gI (gI s).2).2).1 (Av gVt (gBa (gI (gI s).2).2).2).1).cells (Value.slice aob0 (gBa (gI (gI s).2).2).1.ps.length capb0) (Value.slice aob1 (gBa (gI (gI s).2).2).1.os.length capb1) (Value.slice aob2 (gBa (gI (gI s).2).2).1.ts.length capb2) (Value.slice aol (Av gVt (gBa (gI (gI s).2).2).2).1.length capl))) aE fL (by rw [D3,Bb,HLN.o];show 287+8≤295;decide) (E.d 9 0) (ec (E.d 8 1)) ?_
   intro p5 qc0 hm
   have qB3:=qc0.eqv (b:=((Mg.segs ({ x with dc:=(Dc.mk (gI s).1 (gI (gI s).2).1 (gBa (gI (gI s).2).2).1 (Av gVt (gBa (gI (gI s).2).2).2).1) }:Mg) c5 c10 c11 c15 ((Dc.mk (gI s).1 (gI (gI s).2).1 (gBa (gI (gI s).2).2).1 (Av gVt (gBa (gI (gI s).2).2).2).1).cells (Value.slice aob0 (gBa (gI (gI s).2).2).1.ps.length capb0) (Value.slice aob1 (gBa (gI (gI s).2).2).1.os.length capb1) (Value.slice aob2 (gBa (gI (gI s).2).2).1.ts.length capb2) (Value.slice aol (Av gVt (gBa (gI (gI s).2).2).2).1.length capl))).flatten:List Value).toArray) ((Bh HLN.o 18 (rfl) rfl).trans rfl)
   clear qc0
   have eo:=hid qB3
   have jb:=hm.size
   have i8:=hid hm
   have j5:=hid (AA (S':=(fun k=>(R k)∨(k=w.heap.size))) o9.out hm iD aR)
   clear hm o9
   clear act E qB3 HB3
   have eq:=hid (bj.out.mod i8.out (sB HBR))
   have er:=hid ((az.out.mod j6.out aT).mod i8.out aD)
   have et:=hid ((bc.out.mod j6.out aT).mod i8.out aD)
   have eu:=hid ((bf.out.mod j6.out aT).mod i8.out aD)
   have ew:=hid (bh.out.mod i8.out aD)
   clear bj az bc bf bh eh ei j6 i8
   refine qe ?_
   clear HA0 c4 c3 a0
   have HDN:=hid (show DcR.rd (fun k=>(New eg ay k)∨(New ay ej k)) p5 ((Dc.mk (gI s).1 (gI (gI s).2).1 (gBa (gI (gI s).2).2).1 (Av gVt (gBa (gI (gI s).2).2).2).1).cells (Value.slice aob0 (gBa (gI (gI s).2).2).1.ps.length capb0) (Value.slice aob1 (gBa (gI (gI s).2).2).1.os.length capb1) (Value.slice aob2 (gBa (gI (gI s).2).2).1.ts.length capb2) (Value.slice aol (Av gVt (gBa (gI (gI s).2).2).2).1.length capl)) (Dc.mk (gI s).1 (gI (gI s).2).1 (gBa (gI (gI s).2).2).1 (Av gVt (gBa (gI (gI s).2).2).2).1) from ⟨_,_,_,_,rfl,⟨A8 _,A8 _,gBa_OK (gI_suf.bytes (gI_suf.bytes HBY.o))⟩,er.out.widen bF,et.out.widen bF,eu.out.widen bF,ew.out.widen bF⟩)
   have hrz:MgR.rd (fun k=>R2 k∨New w1 p5 k) p5 ((Mg.segs ({ x with dc:=(Dc.mk (gI s).1 (gI (gI s).2).1 (gBa (gI (gI s).2).2).1 (Av gVt (gBa (gI (gI s).2).2).2).1) }:Mg) c5 c10 c11 c15 ((Dc.mk (gI s).1 (gI (gI s).2).1 (gBa (gI (gI s).2).2).1 (Av gVt (gBa (gI (gI s).2).2).2).1).cells (Value.slice aob0 (gBa (gI (gI s).2).2).1.ps.length capb0) (Value.slice aob1 (gBa (gI (gI s).2).2).1.os.length capb1) (Value.slice aob2 (gBa (gI (gI s).2).2).1.ts.length capb2) (Value.slice aol (Av gVt (gBa (gI (gI s).2).2).2).1.length capl))).flatten) ({ x with dc:=(Dc.mk (gI s).1 (gI (gI s).2).1 (gBa (gI (gI s).2).2).1 (Av gVt (gBa (gI (gI s).2).2).2).1) }:Mg):=⟨_,_,_,_,_,rfl,{ HOK.o with },(c7.out.mod j5.out aA).widen iD,(c8.out.mod j5.out aA).widen iD,(c9.out.mod j5.out aA).widen iD,(d5.out.mod j5.out aA).widen iD,HDN.o.widen aI⟩
   have HRZ:=B8 hrz
   clear hrz
   go_wp2_with fail
   go_meet
   case rel=>exact ⟨_,_,_,HE.o,eo.out,HRZ.o,eq.out,(hmz.out.trans j5.out iA)⟩
  have K14:=B8 h14
  clear h14
  go_upto_region 28 with (fail)
  refine tst 98 B9 (Bk K14.o) rfl (qs ?_)
  have HE:=hid (show Az x s=(x,s) by unfold Az;rw [if_neg K1.o,if_neg K2.o,if_neg K3.o,if_neg K4.o,if_neg K5.o,if_neg K6.o,if_neg K7.o,if_neg K8.o,if_neg K9.o,if_neg K10.o,if_neg K11.o,if_neg K12.o,if_neg K13.o,if_neg K14.o])
  have hrz:MgR.rd (fun k=>R2 k∨New w1 w1 k) w1 ((Mg.segs x c5 c10 c11 c15 c18).flatten) x:=⟨_,_,_,_,_,rfl,HOK.o,c7.out.widen iD,c8.out.widen iD,c9.out.widen iD,d5.out.widen iD,d6.out.widen iD⟩
  have HRZ:=B8 hrz
  clear hrz
  go_wp2_with fail
  go_meet
  case rel=>exact ⟨_,_,_,HE.o,HB3.o,HRZ.o,c6.out,hmz.out⟩
 case rest=>
  obtain ⟨wq,rfl⟩:∃ x,x=wc:=⟨_,rfl⟩
  obtain ⟨y,st,cz,he,hb,hrz,hrd,hm⟩:=hcut
  have zwq:=hm.size
  have HE:=B8 he
  have HBZ:=B8 hb
  have HRM:=B8 hrz
  have HSZ:=hid (MgR.len hrz)
  have HON:=hid (MgR.one hrz)
  have HRD2:=B8 hrd
  clear he hb hrz hrd
  clear c7
  clear c8
  clear c9
  clear d5
  clear d6
  clear HB3
  clear c6
  have bk:=hid (HB4.o.mod hm bM)
  have ex:=hid (HM0.o.trans hm aC)
  clear HB4 HM0
  clear hm
  go_upto_region 30 with (fail)
  refine Ab 98 [97,99] [0,1] (fun a0 HA0=>?_)
  have c3:=ev HA0 3 rfl
  have bl:=ev HA0 4 rfl
  refine QSeq.pure rfl _ (fun E=>Ak rfl C1 rfl (off:=0) (cs:=cz) cD (E.v c3) (Cs.whole HBZ.o)) ?_
  refine QSeq.go fun act E=>?_
  refine Am rfl (Aa rfl) rfl bk.out (off:=0) (vs:=cz) cD HON.o eC (E.v bl) (ec (E.d 0 0)) ?_
  intro ey qc0 hm
  have qB4:=qc0.eqv (b:=(cz:List Value).toArray) (Aw _ _ hJ)
  clear qc0
  have ez:=hid qB4
  have jc:=hm.size
  have p6:=hid (show Mod (fun k=>(k=w.heap.size+1)) wq ey from hm)
  clear hm
  clear act E qB4 bk
  refine qe ?_
  clear HA0 c3 bl a0
  go_wp2
  exact bodyPost_ret (A0 rfl _ _ (w.heap.size+1) cz rfl (fun k u hu=>by rw [ez.out.cell];simpa using hu) C1 rfl cD) rfl ⟨_,rfl,by rw [HE.o];exact (HRM.o.mod p6.out aB).widen aI,by rw [HE.o];exact (HRD2.o.mod p6.out (sB HBR)),(ex.out.trans p6.out cW)⟩
end Go.Proofs.YtnaoeginonpicaaGreat
