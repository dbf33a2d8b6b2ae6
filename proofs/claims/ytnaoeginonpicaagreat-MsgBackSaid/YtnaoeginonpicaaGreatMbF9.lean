/- MsgBack: for every reading the law returns true. No condition. -/
import Derived.Test.YtnaoeginonpicaaGreatMbF8
import Derived.Deep.CutBlock
import Derived.Deep.RegionHeld3
import Derived.IntWalk
import Derived.Deep.Cut
import Derived.ProofKit
import Derived.OpenShut
import Derived.ChangeOld
set_option maxRecDepth 100000
set_option linter.unusedVariables false
open Go renaming Lib.hid→B5
open Go.Proofs renaming Tryz.underlying3→B6,Tryz.underlying61→B7,Tryz.underlying45→C2,Tryz.underlying47→C6,Tryz.underlying43→C8,Tryz.underlying52→D1,Tryz.underlying127→D2,Tryz.underlying59→D3,Tryz.underlying25→D5,Tryz.underlying100→D6,Tryz.func67→D7,Tryz.underlying30→D8,Tryz.underlying4→E0
open List renaming append_assoc→B8,length_append→C0,size_toArray→C3,length_nil→C4,length_cons→C5,map_toArray→C7,map_cons→C9,map_nil→D0,not_mem_nil→D4,mem_cons→D9
open Nat renaming le_refl→B9,le_trans→C1
open List renaming setIfInBounds_toArray → sIB, set_cons_zero → sCZ, set_cons_succ → sCS
namespace Go.Proofs.YtnaoeginonpicaaGreat
open Go Go.RowKit Go.Gv
theorem RrR.box7 {T:TypeId} {R:Nat→Prop} {N g:Nat} {w:World} {v:Value} {bs:List Int} (hc:Cs w g #[v,.bool false] T) (h:RdR R N w v bs) (hg:R g) (hne:0 < bs.length→∀ k,v.ownBlock=some k→k≠g):RrR T R w g (some bs):=
 ⟨v,⟨hc,h.1,fun h0 k hk e=>hne h0 k hk e⟩,hg,fun h0 k hk=>h.2.1 h0 k hk⟩
theorem RrR.b07 {T:TypeId} {R:Nat→Prop} {w:World} {r:Nat} {s:RSt} (h:RrR T R w r s):∃ ao cap,w.cell? ⟨r,0,none⟩=some (.slice ao (s.getD []).length cap):=by
 obtain ⟨v,h1,-⟩:=h
 obtain ⟨ao,cap,rfl,-⟩:=h1.2.1.shape
 exact ⟨ao,cap,(h1.1.cell 0).trans rfl⟩
theorem ite_kd {c:Prop} [Decidable c] {a b:Mg × RSt} {k:Int} (ha:a.1.kd=k) (hb:b.1.kd=k):(if c then a else b).1.kd=k:=by
 by_cases h:c<;>simp [h,ha,hb]
/-- what was read: its state, and where that is none no more is known -/
theorem gb_eq {x y:Mg} {s st:RSt} (h:Az x s=(y,st)):(Az x s).2=st∧(st≠none→(Az x s).1=y):=by rw [h];exact ⟨rfl,fun _=>rfl⟩
theorem unpack_kd {bs:List Int} (h:okKd (gMg (some bs)).1.kd=false):unpackB bs=none:=unpack_no2 (by unfold packs;rw [h];rfl)
theorem gBody_kd (x:Mg) (s:RSt):(Az x s).1.kd=x.kd:=by
 unfold Az
 repeat' (first|rfl|(refine ite_kd ?_ ?_))
theorem RrR.in_ {T:TypeId} {R:Nat→Prop} {w:World} {r:Nat} {s:RSt} (h:RrR T R w r s):R r:=by
 obtain ⟨v,-,h1,-⟩:=h
 exact h1
set_option maxHeartbeats 16000000 in
theorem RefUnpack_Q:∀ (R2:Nat→Prop) (v:Value) (bs:List Int) (w:World),RdR R2 900000 w v bs→(∀ k,R2 k→k < w.heap.size)→
 Calls Tryz.prog 12 #[v] w fun e w'=>∃ cs,e=.returned (.tuple #[.agg cs.toArray,.bool (unpackB bs).isSome])∧MgR.rd (New w w') w' cs ((unpackB bs).getD zMg)∧Mod (fun _=>False) w w':=by
 intro R2 v bs w hx hB2
 obtain ⟨ao,cap,rfl⟩:=hx.shape
 obtain ⟨um,hum⟩:∃ z,z=unpackB bs:=⟨_,rfl⟩
 rw [← hum]
 obtain ⟨ub,hub⟩:∃ z,z=um.isSome:=⟨_,rfl⟩
 rw [← hub]
 obtain ⟨uy,huy⟩:∃ z,z=um.getD zMg:=⟨_,rfl⟩
 rw [← huy]
 have HUM:=B5 hum
 have HUB:=B5 hub
 have HUY:=B5 huy
 have HX:=B5 hx
 have HBT:=B5 hB2
 have HL:=hid (show bs.length≤900000 from hx.2.2)
 have HBB:=hid (show Bytes bs from hx.1.1)
 have HNB:=hid (show OwR (fun k=>False) 900000 w (.slice none 0 0) [] from ⟨Own.nil _ _ _ _,(fun g h=>by cases h),Nat.zero_le _⟩)
 clear hum hub huy hx hB2
 go_enter Tryz.func12,Tryz.ntmps12
 go_upto_region 1 with (fail)
 obtain ⟨w1,hw1⟩:∃ zz,zz=(w.alloc (.cells ((mg0C 0 0 0):List Value).toArray 61)):=⟨_,rfl⟩
 change Code.wp _ _ _ _ (w.alloc (.cells ((mg0C 0 0 0):List Value).toArray 61))
 rw [← hw1]
 have HB2:=hid (show Cs w1 (w.heap.size) ((mg0C 0 0 0):List Value).toArray 61 by rw [hw1];exact Cs.new _ _ _)
 have hm:Mod (fun _=>False) w w1:=by rw [hw1];exact (Mod.refl _ _).alloc _
 have HM0:=hid (show Mod (fun _=>False) w w1 from hm.mono (fun _ _ h=>h.elim))
 have hs1:w1.heap.size=w.heap.size+1:=by rw [hw1];simp
 have fz:=hid (HX.o.mod hm (fun _ _ h=>h))
 clear HX
 have t0:=hid (HNB.o.mod hm (fun _ _ h=>h))
 clear HNB
 clear hw1 hm
 go_upto_region 1 with (fail)
 refine Aa 178 [8,9,10,11,4] [0,1,2,3,4] (fun a0 HA0=>?_)
 have d9:=ev HA0 0 rfl
 refine qmo rfl d9 ?_
 refine QSeq.go fun act E=>?_
 refine qc_appR rfl (Ab rfl) rfl rfl (E.d 0 0) t0.out fz.out (by have:=HL.o;simpa using this) ?_
 intro ao1 cap1 d6 qnb hm
 have t1:=hid (qnb.widen (R':=(fun k=>(False)∨(New w1 d6 k))) (fun _ h=>h) (B9 _))
 have lf:=hm.size
 have t2:=hid (show Mod (fun k=>(False)) w1 d6 from hm)
 clear hm
 clear act E qnb t0
 refine QSeq.go fun act E=>?_
 refine Br rfl (Ab rfl) (v:=.agg #[Value.slice ao1 (([]:List Int).length+bs.length) cap1,.bool false]) (Bj rfl (z:=[.slice none 0 0,.bool false]) (places:=[(0,1),(1,1)]) aD (parts:=[(0,.slice ao1 (([]:List Int).length+bs.length) cap1)]) (by simp only [C7,C9,D0,show act.eval (.tmp 9)=.slice ao1 (([]:List Int).length+bs.length) cap1 from (E.d 1 0)];try rfl) (r:=[Value.slice ao1 (([]:List Int).length+bs.length) cap1,.bool false]) (by exact Bi (ns:=[1,1]) rfl [(0,.slice ao1 (([]:List Int).length+bs.length) cap1)] [[.slice none 0 0],[.bool false]] rfl ⟨rfl,trivial⟩)) ?_
 clear act E
 refine QSeq.go fun act E=>?_
 refine qc_box rfl (Ab rfl) rfl (vs:=[Value.slice ao1 (([]:List Int).length+bs.length) cap1,.bool false]) (by rw [show act.eval (.tmp 10)=_ from (E.d 2 0)];rfl) ?_
 intro c7 qbx hm
 have lg:=qbx.lt
 have t4:=hid qbx
 have lh:=hm.size
 have t8:=hid hm
 have c8:=hid (t2.out.goE hm)
 clear hm t2
 clear act E qbx
 have hnb:=(t1.out.mod t8.out (fun _ _ h=>h))
 rw [List.nil_append] at hnb
 have HRD0:=hid (RrR.box7 (R:=(fun k=>(New w1 d6 k)∨(k=d6.heap.size))) t4.out (hnb.rd.widen gM (B9 _)) (Or.inr rfl) (by intro h0 k hk e;have hb:=hnb.2.1 k hk;(try simp only [false_or] at hb);omega))
 clear hnb t4 t1
 refine qas rfl 3 0 ?_
 clear t8
 refine qe ?_
 clear HA0 d9 a0
 have HO0:=hid (MgR.one (mg0_rd (A9 (some bs)) (A9 (gI (some bs)).2) (A9 (gI (gI (some bs)).2).2) (fun _=>False) w))
 go_upto_region 2 with (fail)
 refine Aa 178 [12,13,14,15,16,17,18,5,186] [0,1,2,3,4,5,6,7,8] (fun a0 HA0=>?_)
 have c3:=ev HA0 4 rfl
 refine qmo rfl c3 ?_
 refine QSeq.call rfl rfl Tryz.func46 (dI_Q HRD0.o) (fun E=>An (E.d 0 0) rfl) ?_
 rintro e gc ⟨rfl,qrd,hm⟩
 refine ⟨_,rfl,?_⟩
 have t9:=hid qrd
 have li:=hm.size
 have u0:=hid (show Mod (fun k=>(New w1 d6 k)∨(k=d6.heap.size)) c7 gc from hm)
 clear hm
 clear qrd HRD0
 refine qmo rfl c3 ?_
 refine QSeq.call rfl rfl Tryz.func46 (dI_Q t9.out) (fun E=>An (E.d 2 0) rfl) ?_
 rintro e lj ⟨rfl,qrd,hm⟩
 refine ⟨_,rfl,?_⟩
 have u1:=hid qrd
 have lk:=hm.size
 have gd:=hid hm
 have u2:=hid (AB (S':=(fun k=>(New w1 d6 k)∨(k=d6.heap.size))) u0.out hm (fun _ h=>h) (by intro k h0 h2;rcases h2 with h2|h2;exact Or.inl h2;exact Or.inr (h2)))
 clear hm u0
 clear qrd t9
 refine qmo rfl c3 ?_
 refine QSeq.call rfl rfl Tryz.func46 (dI_Q u1.out) (fun E=>An (E.d 4 0) rfl) ?_
 rintro e c6 ⟨rfl,qrd,hm⟩
 refine ⟨_,rfl,?_⟩
 have u3:=hid qrd
 have ll:=hm.size
 have ge:=hid hm
 have u4:=hid (AB (S':=(fun k=>(New w1 d6 k)∨(k=d6.heap.size))) u2.out hm (fun _ h=>h) (by intro k h0 h2;rcases h2 with h2|h2;exact Or.inl h2;exact Or.inr (h2)))
 clear hm u2
 clear qrd u1
 refine QSeq.go fun act E=>?_
 refine Br rfl (Ab rfl) (v:=.agg ((mg0C (gI (some bs)).1 (gI (gI (some bs)).2).1 (gI (gI (gI (some bs)).2).2).1):List Value).toArray) (Bj rfl (z:=(mg0C 0 0 0)) (places:=[(0,1),(1,1),(2,1),(3,37),(40,38),(78,38),(116,38),(154,1),(155,1),(156,1),(157,6),(163,11),(174,38),(212,1),(213,35),(248,34),(282,4),(286,1),(287,8)]) aD (parts:=[(0,.int .i64 (gI (some bs)).1),(1,.int .i64 (gI (gI (some bs)).2).1),(2,.int .i64 (gI (gI (gI (some bs)).2).2).1)]) (by simp only [C7,C9,D0,show act.eval (.tmp 13)=.int .i64 (gI (some bs)).1 from (E.d 1 4),show act.eval (.tmp 15)=.int .i64 (gI (gI (some bs)).2).1 from (E.d 3 2),show act.eval (.tmp 17)=.int .i64 (gI (gI (gI (some bs)).2).2).1 from (E.d 5 0)];try rfl) (r:=(mg0C (gI (some bs)).1 (gI (gI (some bs)).2).1 (gI (gI (gI (some bs)).2).2).1)) dC) ?_
 clear act E
 refine QSeq.go fun act E=>?_
 refine B3 rfl (Ab rfl) rfl (z:=(mg0C 0 0 0)) aD ?_
 intro lm qqm hm
 have lp:=qqm.lt
 have u5:=hid qqm
 have lq:=hm.size
 have u6:=hid hm
 have u7:=hid (u4.out.goE hm)
 clear hm u4
 clear act E qqm
 refine QSeq.go fun act E=>?_
 have hlz:((mg0C (gI (some bs)).1 (gI (gI (some bs)).2).1 (gI (gI (gI (some bs)).2).2).1)).length=List.length ((mg0C 0 0 0):List Value):=rfl
 refine Ah rfl (Ab rfl) rfl u5.out (off:=0) (vs:=(mg0C (gI (some bs)).1 (gI (gI (some bs)).2).1 (gI (gI (gI (some bs)).2).2).1)) cO HO0.o bK (E.d 7 0) (ec (E.d 6 1)) ?_
 intro c9 qc0 hm
 have qqm:=qc0.eqv (b:=((mg0C (gI (some bs)).1 (gI (gI (some bs)).2).1 (gI (gI (gI (some bs)).2).2).1):List Value).toArray) (Ap (((mg0C 0 0 0):List Value).toArray) _ dO)
 clear qc0 hlz
 have u9:=hid qqm
 have lr:=hm.size
 have v5:=hid hm
 have d5:=hid (AB (S':=(fun k=>(New w1 d6 k)∨(k=d6.heap.size))) u7.out hm (fun _ h=>h) cG)
 clear hm u7
 clear act E qqm u5
 have v6:=hid ((u3.out.mod u6.out (fun _ _ h=>h)).mod v5.out aE)
 clear u3 gd ge u6 v5
 refine qe ?_
 clear HA0 c3 a0
 obtain ⟨s,hs⟩:∃ z,z=(gI (gI (gI (some bs)).2).2).2:=⟨_,rfl⟩
 obtain ⟨x,hx⟩:∃ z:Mg,z=(mg0 (gI (some bs)).1 (gI (gI (some bs)).2).1 (gI (gI (gI (some bs)).2).2).1):=⟨_,rfl⟩
 obtain ⟨R,hR⟩:∃ R:Nat→Prop,R=(fun k=>(New w1 d6 k)∨(k=d6.heap.size)):=⟨_,rfl⟩
 have hrd:=v6.out
 rw [← hs,← hR] at hrd
 obtain ⟨r,hr⟩:∃ z,z=d6.heap.size:=⟨_,rfl⟩
 rw [← hr] at hrd
 rw [← hr]
 have HG:=hid (show gMg (some bs)=Az x s by rw [hx,hs];rfl)
 have HBR:=hid (show ∀ k,R k→k < c7.heap.size by rw [hR];intro k h1;(try simp only [false_or] at h1);omega)
 have HNR:=hid (show ∀ k,R k→w1.heap.size≤k by rw [hR];intro k h1;(try simp only [false_or] at h1);omega)
 have HNB2:=hid (show ¬ R w.heap.size from fun h=>by have:=HNR.o _ h;omega)
 have hq:MgR.rd (fun _=>False) w (mg0C (gI (some bs)).1 (gI (gI (some bs)).2).1 (gI (gI (gI (some bs)).2).2).1) x:=by rw [hx];exact mg0_rd (A9 _) (A9 _) (A9 _) _ _
 obtain ⟨c5,c10,c11,c15,c18,hcs,hok,h5,h10,h11,h15,h18⟩:=hq
 have hb:=u9.out
 rw [hcs] at hb
 have HQM:=B5 hb
 have HRD:=B5 hrd
 have HOK:=B5 hok
 have HLN:=hid (Mg.lns hok h5 h10 h11 h15 h18)
 have HLE:=hid (show (s.getD []).length≤900000 by rw [hs];exact (C1 (gI_suf.len _) (C1 (gI_suf.len _) (C1 (gI_suf.len _) HL.o))))
 have HBY:=hid hrd.bytes
 have HC5:=hid (CeR.len h5)
 have HC10:=hid (PmR.len h10)
 have HC11:=hid (PrR.len h11)
 have HC15:=hid (OpR.len h15)
 have HC18:=hid (DcR.len h18)
 have H5:=B5 h5
 have H10:=B5 h10
 have H11:=B5 h11
 have H15:=B5 h15
 have H18:=B5 h18
 have hm9:=((HM0.o.trans c8.out aE).trans d5.out aE)
 have HMR:=hid (show Mod R w c9 from hm9.mono (fun _ _ h=>h.elim))
 clear hrd hcs hb hok h5 h10 h11 h15 h18 hx hs hR hm9 v6 u9 HM0
 go_upto_region 3 with (fail)
 refine Aa 178 [19,20] [0,1] (fun a0 HA0=>?_)
 have c4:=ev HA0 5 rfl
 refine qfd rfl 0 B7 c4 ?_
 refine QSeq.pure rfl (.int .i64 x.kd) (fun E=>Af rfl B6 rfl (E.d 0 0) (AE HQM.o HLN.o 0 rfl (o:=0) (k:=0) rfl rfl rfl)) ?_
 refine qe ?_
 clear HA0 c4 a0
 go_upto_block 0 with (fail)
 go_cut [6,7] from 21 (fun t6 t7 w'=>∃ (y:Mg) (st:RSt) (cz:List Value),((Az x s).2=st∧(st≠none→(Az x s).1=y))∧Cs w' (c6.heap.size) cz.toArray 61∧MgR.rd (New c7 w') w' cz y∧RrR 100 R w' (r) st∧Cs w' (w.heap.size) (mg0C 0 0 0).toArray 61∧okKd x.kd=true∧Mod R w w')
 case first=>
  by_cases h1:x.kd=1
  ·have KK:=B5 h1
   clear h1
   go_upto_region 5 with (fail)
   refine tst 178 B6 (Bl KK.o) rfl (qs ?_)
   have HE:=hid (show Az x s=(({ x with cm:=(gCm s).1 }:Mg),(gCm s).2) by unfold Az;rw [KK.o];rfl)
   go_upto_region 6 with (fail)
   refine Aa 178 [24,25,26,181] [0,1,2,3] (fun a0 HA0=>?_)
   have c3:=ev HA0 4 rfl
   have c4:=ev HA0 5 rfl
   refine qmo rfl c3 ?_
   refine QSeq.call rfl rfl Tryz.func47 (dCm_Q _ _ _ _ HRD.o aL) (fun E=>A0 (E.d 0 0)) ?_
   rintro e gf ⟨rfl,qrd,hm⟩
   refine ⟨_,rfl,?_⟩
   have v7:=hid qrd
   have ls:=hm.size
   have n7:=hid (show Mod (fun k=>(R k)) c9 gf from hm)
   clear hm
   clear qrd HRD
   refine qfd rfl 3 B7 c4 ?_
   refine QSeq.go fun act E=>?_
   refine Ah rfl (Ab rfl) rfl (HQM.o.mod n7.out aY) (off:=3) (vs:=((gCm s).1.cells)) (by rw [Cm.len (gCm_OK HBY.o).2.1];kernel_rfl) (Cm_one _) gR (E.d 2 0) (ec (E.d 1 1)) ?_
   intro v8 qc0 hm
   have qqm:=qc0.eqv (b:=((Mg.segs ({ x with cm:=(gCm s).1 }:Mg) c5 c10 c11 c15 c18).flatten:List Value).toArray) ((A2 HLN.o 3 (by rw [Cm.len (gCm_OK HBY.o).2.1];rfl) rfl).trans rfl)
   clear qc0
   have gg:=hid qqm
   have lu:=hm.size
   have x4:=hid hm
   have g6:=hid (AB (S':=(fun k=>(R k)∨(k=c6.heap.size))) n7.out hm (fun _ h=>Or.inl h) aT)
   clear hm n7
   clear act E qqm HQM
   have gh:=hid (v7.out.mod x4.out (sB HBR))
   clear v7 x4
   refine qe ?_
   clear HA0 c3 c4 a0
   have hrz:MgR.rd (New c7 v8) v8 ((Mg.segs ({ x with cm:=(gCm s).1 }:Mg) c5 c10 c11 c15 c18).flatten) ({ x with cm:=(gCm s).1 }:Mg):=⟨_,_,_,_,_,rfl,{ HOK.o with cm:=gCm_OK HBY.o },(H5.o.mod (HMR.o.trans g6.out aC) (fun _ h _=>h.elim)).widen (fun _ h=>h.elim),(H10.o.mod (HMR.o.trans g6.out aC) (fun _ h _=>h.elim)).widen (fun _ h=>h.elim),(H11.o.mod (HMR.o.trans g6.out aC) (fun _ h _=>h.elim)).widen (fun _ h=>h.elim),(H15.o.mod (HMR.o.trans g6.out aC) (fun _ h _=>h.elim)).widen (fun _ h=>h.elim),(H18.o.mod (HMR.o.trans g6.out aC) (fun _ h _=>h.elim)).widen (fun _ h=>h.elim)⟩
   have HRZ:=B5 hrz
   clear hrz
   go_wp2_with fail
   go_meet
   case rel=>exact ⟨_,_,_,gb_eq HE.o,gg.out,HRZ.o,gh.out,(((HB2.o.mod c8.out aJ).mod d5.out aJ).mod g6.out aW),dW,(HMR.o.trans g6.out aC)⟩
  have K1:=B5 h1
  clear h1
  go_upto_region 5 with (fail)
  refine tst 178 B6 (Bk K1.o) rfl (qs ?_)
  by_cases h2:x.kd=2
  ·have KK:=B5 h2
   clear h2
   go_upto_region 7 with (fail)
   refine tst 178 B6 (Bl KK.o) rfl (qs ?_)
   have HE:=hid (show Az x s=(({ x with st:=(gSt s).1 }:Mg),(gSt s).2) by unfold Az;rw [KK.o];rfl)
   go_upto_region 8 with (fail)
   refine Aa 178 [29,30,31,181] [0,1,2,3] (fun a0 HA0=>?_)
   have c3:=ev HA0 4 rfl
   have c4:=ev HA0 5 rfl
   refine qmo rfl c3 ?_
   refine QSeq.call rfl rfl Tryz.func48 (dSt_Q _ _ _ _ HRD.o aL) (fun E=>A0 (E.d 0 0)) ?_
   rintro e gi ⟨rfl,qrd,hm⟩
   refine ⟨_,rfl,?_⟩
   have x5:=hid qrd
   have lv:=hm.size
   have n8:=hid (show Mod (fun k=>(R k)) c9 gi from hm)
   clear hm
   clear qrd HRD
   refine qfd rfl 40 B7 c4 ?_
   refine QSeq.go fun act E=>?_
   refine Ah rfl (Ab rfl) rfl (HQM.o.mod n8.out aY) (off:=40) (vs:=((gSt s).1.cells)) fY (St.one _) gY (E.d 2 0) (ec (E.d 1 1)) ?_
   intro x6 qc0 hm
   have qqm:=qc0.eqv (b:=((Mg.segs ({ x with st:=(gSt s).1 }:Mg) c5 c10 c11 c15 c18).flatten:List Value).toArray) ((A2 HLN.o 4 gN rfl).trans rfl)
   clear qc0
   have gj:=hid qqm
   have lw:=hm.size
   have x7:=hid hm
   have g7:=hid (AB (S':=(fun k=>(R k)∨(k=c6.heap.size))) n8.out hm (fun _ h=>Or.inl h) aT)
   clear hm n8
   clear act E qqm HQM
   have gk:=hid (x5.out.mod x7.out (sB HBR))
   clear x5 x7
   refine qe ?_
   clear HA0 c3 c4 a0
   have hrz:MgR.rd (New c7 x6) x6 ((Mg.segs ({ x with st:=(gSt s).1 }:Mg) c5 c10 c11 c15 c18).flatten) ({ x with st:=(gSt s).1 }:Mg):=⟨_,_,_,_,_,rfl,{ HOK.o with st:=gSt_OK HBY.o },(H5.o.mod (HMR.o.trans g7.out aC) (fun _ h _=>h.elim)).widen (fun _ h=>h.elim),(H10.o.mod (HMR.o.trans g7.out aC) (fun _ h _=>h.elim)).widen (fun _ h=>h.elim),(H11.o.mod (HMR.o.trans g7.out aC) (fun _ h _=>h.elim)).widen (fun _ h=>h.elim),(H15.o.mod (HMR.o.trans g7.out aC) (fun _ h _=>h.elim)).widen (fun _ h=>h.elim),(H18.o.mod (HMR.o.trans g7.out aC) (fun _ h _=>h.elim)).widen (fun _ h=>h.elim)⟩
   have HRZ:=B5 hrz
   clear hrz
   go_wp2_with fail
   go_meet
   case rel=>exact ⟨_,_,_,gb_eq HE.o,gj.out,HRZ.o,gk.out,(((HB2.o.mod c8.out aJ).mod d5.out aJ).mod g7.out aW),dW,(HMR.o.trans g7.out aC)⟩
  have K2:=B5 h2
  clear h2
  go_upto_region 7 with (fail)
  refine tst 178 B6 (Bk K2.o) rfl (qs ?_)
  by_cases h3:x.kd=3
  ·have KK:=B5 h3
   clear h3
   go_upto_region 9 with (fail)
   refine tst 178 B6 (Bl KK.o) rfl (qs ?_)
   obtain ⟨st2,hp2⟩:∃ z,z=(gCe s).2:=⟨_,rfl⟩
   have HP2:=hid hp2.symm
   clear hp2
   go_upto_region 10 with (fail)
   refine Aa 178 [34,35,36,181] [0,1,2,3] (fun a0 HA0=>?_)
   have c3:=ev HA0 4 rfl
   have c4:=ev HA0 5 rfl
   refine qmo rfl c3 ?_
   refine QSeq.call rfl rfl Tryz.func49 (dCe_U.to HP2.o HRD.o aL HLE.o) (fun E=>A0 (E.d 0 0)) ?_
   rintro e gm ⟨cn,yn,rfl,qnw,qrd,hyn,hm⟩
   have HYN:=B5 hyn
   have HCN:=hid (CeR.len qnw)
   have HCO:=hid (CeR.one qnw)
   clear hyn
   refine ⟨_,rfl,?_⟩
   have x8:=hid qnw
   have x9:=hid qrd
   have lx:=hm.size
   have o4:=hid (show Mod (fun k=>(R k)) c9 gm from hm)
   clear hm
   clear qnw qrd HRD
   refine qfd rfl 78 B7 c4 ?_
   refine QSeq.go fun act E=>?_
   refine Ah rfl (Ab rfl) rfl (HQM.o.mod o4.out aY) (off:=78) (vs:=cn) fG HCO.o (by rw [C3,Bb,HLN.o];show 78+_≤295;rw [HCN.o];decide) (E.d 2 0) (ec (E.d 1 1)) ?_
   intro y0 qc0 hm
   have qqm:=qc0.eqv (b:=((Mg.segs ({ x with ce:=yn }:Mg) cn c10 c11 c15 c18).flatten:List Value).toArray) ((A2 HLN.o 5 gE rfl).trans rfl)
   clear qc0
   have gn:=hid qqm
   have ly:=hm.size
   have o5:=hid hm
   have j6:=hid (AB (S':=(fun k=>(R k)∨(k=c6.heap.size))) o4.out hm (fun _ h=>Or.inl h) aT)
   clear hm o4
   clear act E qqm HQM
   have gq:=hid (x9.out.mod o5.out (sB HBR))
   have gr:=hid (x8.out.mod o5.out aE)
   clear x9 x8 o5
   refine qe ?_
   clear HA0 c3 c4 a0
   have HE:=hid (show (Az x s).2=st2∧(st2≠none→(Az x s).1=({ x with ce:=yn }:Mg)) from ⟨(by unfold Az;rw [KK.o];exact HP2.o),fun h=>by rw [HYN.o h];unfold Az;rw [KK.o];rfl⟩)
   have hrz:MgR.rd (New c7 y0) y0 ((Mg.segs ({ x with ce:=yn }:Mg) cn c10 c11 c15 c18).flatten) ({ x with ce:=yn }:Mg):=⟨_,_,_,_,_,rfl,{ HOK.o with },gr.out.widen cJ,(H10.o.mod (HMR.o.trans j6.out aC) (fun _ h _=>h.elim)).widen (fun _ h=>h.elim),(H11.o.mod (HMR.o.trans j6.out aC) (fun _ h _=>h.elim)).widen (fun _ h=>h.elim),(H15.o.mod (HMR.o.trans j6.out aC) (fun _ h _=>h.elim)).widen (fun _ h=>h.elim),(H18.o.mod (HMR.o.trans j6.out aC) (fun _ h _=>h.elim)).widen (fun _ h=>h.elim)⟩
   have HRZ:=B5 hrz
   clear hrz
   go_wp2_with fail
   go_meet
   case rel=>exact ⟨_,_,_,HE.o,gn.out,HRZ.o,gq.out,(((HB2.o.mod c8.out aJ).mod d5.out aJ).mod j6.out aW),dW,(HMR.o.trans j6.out aC)⟩
  have K3:=B5 h3
  clear h3
  go_upto_region 9 with (fail)
  refine tst 178 B6 (Bk K3.o) rfl (qs ?_)
  by_cases h4:x.kd=4
  ·have KK:=B5 h4
   clear h4
   go_upto_region 11 with (fail)
   refine tst 178 B6 (Bl KK.o) rfl (qs ?_)
   have HE:=hid (show Az x s=(({ x with ak:=(gSt s).1 }:Mg),(gSt s).2) by unfold Az;rw [KK.o];rfl)
   go_upto_region 12 with (fail)
   refine Aa 178 [39,40,41,42,43,44,45,46,47,48,49,50,190] [0,1,2,3,4,5,6,7,8,9,10,11,12] (fun a0 HA0=>?_)
   have c3:=ev HA0 4 rfl
   have c4:=ev HA0 5 rfl
   refine qmo rfl c3 ?_
   refine QSeq.call rfl rfl Tryz.func46 (dI_Q HRD.o) (fun E=>An (E.d 0 0) rfl) ?_
   rintro e gu ⟨rfl,qrd,hm⟩
   refine ⟨_,rfl,?_⟩
   have y5:=hid qrd
   have lz:=hm.size
   have y6:=hid (show Mod (fun k=>(R k)) c9 gu from hm)
   clear hm
   clear qrd HRD
   refine qmo rfl c3 ?_
   refine QSeq.call rfl rfl Tryz.func50 (dName_Q _ _ _ _ y5.out aL) (fun E=>A0 (E.d 2 0)) ?_
   rintro e mc ⟨rfl,qrd,hm⟩
   refine ⟨_,rfl,?_⟩
   have y7:=hid qrd
   have md:=hm.size
   have gv:=hid hm
   have y8:=hid (AB (S':=(fun k=>(R k))) y6.out hm (fun _ h=>h) aQ)
   clear hm y6
   clear qrd y5
   refine qmo rfl c3 ?_
   refine QSeq.call rfl rfl Tryz.func51 (RefRHash_R y7.out) (fun E=>A0 (E.d 4 0)) ?_
   rintro e me ⟨rfl,qrd,hm⟩
   refine ⟨_,rfl,?_⟩
   have z0:=hid qrd
   have mf:=hm.size
   have gx:=hid hm
   have z7:=hid (AB (S':=(fun k=>(R k))) y8.out hm (fun _ h=>h) aQ)
   clear hm y8
   clear qrd y7
   refine qmo rfl c3 ?_
   refine QSeq.call rfl rfl Tryz.func52 (RefRNum_R z0.out) (fun E=>A0 (E.d 6 0)) ?_
   rintro e mg ⟨rfl,qrd,hm⟩
   refine ⟨_,rfl,?_⟩
   have z9:=hid qrd
   have mh:=hm.size
   have gy:=hid hm
   have aa:=hid (AB (S':=(fun k=>(R k))) z7.out hm (fun _ h=>h) aQ)
   clear hm z7
   clear qrd z0
   refine qmo rfl c3 ?_
   refine QSeq.call rfl rfl Tryz.func53 (dSig_Q _ _ _ _ z9.out aL) (fun E=>A0 (E.d 8 0)) ?_
   rintro e mi ⟨rfl,qrd,hm⟩
   refine ⟨_,rfl,?_⟩
   have ab:=hid qrd
   have mj:=hm.size
   have gz:=hid hm
   have o6:=hid (AB (S':=(fun k=>(R k))) aa.out hm (fun _ h=>h) aQ)
   clear hm aa
   clear qrd z9
   refine QSeq.go fun act E=>?_
   refine Br rfl (Ab rfl) (v:=.agg ((gSt s).1.cells:List Value).toArray) (Bj rfl (z:=[.int .i64 0,.int .i64 0,.int .i64 0,.int .u8 0,.int .u8 0,.int .u8 0,.int .u8 0,.int .u8 0,.int .u8 0,.int .u8 0,.int .u8 0,.int .u8 0,.int .u8 0,.int .u8 0,.int .u8 0,.int .u8 0,.int .u8 0,.int .u8 0,.int .u8 0,.int .u8 0,.int .u8 0,.int .u8 0,.int .u8 0,.int .u8 0,.int .u8 0,.int .u8 0,.int .u8 0,.int .u8 0,.int .u8 0,.int .u8 0,.int .u8 0,.int .u8 0,.int .u8 0,.int .u8 0,.int .u8 0,.int .u64 0,.int .i64 0,.int .i64 0]) (places:=[(0,1),(1,2),(3,32),(35,1),(36,2)]) aD (parts:=[(0,.int .i64 (gI s).1),(1,.agg #[.int .i64 (gSig (gI s).2).1.1,.int .i64 (gSig (gI s).2).1.2]),(2,hv (A3 (gSig (gI s).2).2).1),(3,.int .u64 ((rNum (A3 (gSig (gI s).2).2).2).1:Nat)),(4,.agg #[.int .i64 (gSig (rNum (A3 (gSig (gI s).2).2).2).2).1.1,.int .i64 (gSig (rNum (A3 (gSig (gI s).2).2).2).2).1.2])]) (by simp only [C7,C9,D0,show act.eval (.tmp 40)=.int .i64 (gI s).1 from (E.d 1 8),show act.eval (.tmp 42)=.agg #[.int .i64 (gSig (gI s).2).1.1,.int .i64 (gSig (gI s).2).1.2] from (E.d 3 6),show act.eval (.tmp 44)=hv (A3 (gSig (gI s).2).2).1 from (E.d 5 4),show act.eval (.tmp 46)=.int .u64 ((rNum (A3 (gSig (gI s).2).2).2).1:Nat) from (E.d 7 2),show act.eval (.tmp 48)=.agg #[.int .i64 (gSig (rNum (A3 (gSig (gI s).2).2).2).2).1.1,.int .i64 (gSig (rNum (A3 (gSig (gI s).2).2).2).2).1.2] from (E.d 9 0)];try rfl) (r:=(gSt s).1.cells) aS) ?_
   clear act E
   refine qfd rfl 116 B7 c4 ?_
   refine QSeq.go fun act E=>?_
   refine Ah rfl (Ab rfl) rfl (HQM.o.mod o6.out aY) (off:=116) (vs:=((gSt s).1.cells)) fY (St.one _) gV (E.d 11 0) (ec (E.d 10 1)) ?_
   intro ac qc0 hm
   have qqm:=qc0.eqv (b:=((Mg.segs ({ x with ak:=(gSt s).1 }:Mg) c5 c10 c11 c15 c18).flatten:List Value).toArray) ((A2 HLN.o 6 gN rfl).trans rfl)
   clear qc0
   have ia:=hid qqm
   have ml:=hm.size
   have ae:=hid hm
   have g8:=hid (AB (S':=(fun k=>(R k)∨(k=c6.heap.size))) o6.out hm (fun _ h=>Or.inl h) aT)
   clear hm o6
   clear act E qqm HQM
   have ib:=hid (ab.out.mod ae.out (sB HBR))
   clear ab gv gx gy gz ae
   refine qe ?_
   clear HA0 c3 c4 a0
   have hrz:MgR.rd (New c7 ac) ac ((Mg.segs ({ x with ak:=(gSt s).1 }:Mg) c5 c10 c11 c15 c18).flatten) ({ x with ak:=(gSt s).1 }:Mg):=⟨_,_,_,_,_,rfl,{ HOK.o with ak:=gSt_OK HBY.o },(H5.o.mod (HMR.o.trans g8.out aC) (fun _ h _=>h.elim)).widen (fun _ h=>h.elim),(H10.o.mod (HMR.o.trans g8.out aC) (fun _ h _=>h.elim)).widen (fun _ h=>h.elim),(H11.o.mod (HMR.o.trans g8.out aC) (fun _ h _=>h.elim)).widen (fun _ h=>h.elim),(H15.o.mod (HMR.o.trans g8.out aC) (fun _ h _=>h.elim)).widen (fun _ h=>h.elim),(H18.o.mod (HMR.o.trans g8.out aC) (fun _ h _=>h.elim)).widen (fun _ h=>h.elim)⟩
   have HRZ:=B5 hrz
   clear hrz
   go_wp2_with fail
   go_meet
   case rel=>exact ⟨_,_,_,gb_eq HE.o,ia.out,HRZ.o,ib.out,(((HB2.o.mod c8.out aJ).mod d5.out aJ).mod g8.out aW),dW,(HMR.o.trans g8.out aC)⟩
  have K4:=B5 h4
  clear h4
  go_upto_region 11 with (fail)
  refine tst 178 B6 (Bk K4.o) rfl (qs ?_)
  by_cases h5:x.kd=5
  ·have KK:=B5 h5
   clear h5
   go_upto_region 13 with (fail)
   refine tst 178 B6 (Bl KK.o) rfl (qs ?_)
   have HE:=hid (show Az x s=(({ x with ep:=(gI s).1,rn:=(gI (gI s).2).1,tm:=(rNum (gI (gI s).2).2).1 }:Mg),(rNum (gI (gI s).2).2).2) by unfold Az;rw [KK.o];rfl)
   go_upto_region 14 with (fail)
   refine Aa 178 [53,54,55,56,57,58,59,185,60,187,61,189] [0,1,2,3,4,5,6,7,8,9,10,11] (fun a0 HA0=>?_)
   have c3:=ev HA0 4 rfl
   have c4:=ev HA0 5 rfl
   refine qmo rfl c3 ?_
   refine QSeq.call rfl rfl Tryz.func46 (dI_Q HRD.o) (fun E=>An (E.d 0 0) rfl) ?_
   rintro e ic ⟨rfl,qrd,hm⟩
   refine ⟨_,rfl,?_⟩
   have af:=hid qrd
   have mm:=hm.size
   have ag:=hid (show Mod (fun k=>(R k)) c9 ic from hm)
   clear hm
   clear qrd HRD
   refine qmo rfl c3 ?_
   refine QSeq.call rfl rfl Tryz.func46 (dI_Q af.out) (fun E=>An (E.d 2 0) rfl) ?_
   rintro e mn ⟨rfl,qrd,hm⟩
   refine ⟨_,rfl,?_⟩
   have ah:=hid qrd
   have mo:=hm.size
   have ig:=hid hm
   have ai:=hid (AB (S':=(fun k=>(R k))) ag.out hm (fun _ h=>h) aQ)
   clear hm ag
   clear qrd af
   refine qmo rfl c3 ?_
   refine QSeq.call rfl rfl Tryz.func52 (RefRNum_R ah.out) (fun E=>A0 (E.d 4 0)) ?_
   rintro e mp ⟨rfl,qrd,hm⟩
   refine ⟨_,rfl,?_⟩
   have aj:=hid qrd
   have mq:=hm.size
   have ii:=hid hm
   have o7:=hid (AB (S':=(fun k=>(R k))) ai.out hm (fun _ h=>h) aQ)
   clear hm ai
   clear qrd ah
   refine qfd rfl 154 B7 c4 ?_
   refine QSeq.go fun act E=>?_
   refine Ah rfl (Ab rfl) rfl (HQM.o.mod o7.out aY) (off:=154) (vs:=[Value.int .i64 (gI s).1]) aD one1 (by rw [C3,Bb,HLN.o];show 154+1≤295;decide) (E.d 6 0) (ec (E.d 1 5)) ?_
   intro ms qc0 hm
   have qqm:=qc0.eqv (b:=((Mg.segs ({ x with ep:=(gI s).1 }:Mg) c5 c10 c11 c15 c18).flatten:List Value).toArray) ((A2 HLN.o 7 (rfl) rfl).trans rfl)
   clear qc0
   have am:=hid qqm
   have mt:=hm.size
   have ap:=hid hm
   have aq:=hid (AB (S':=(fun k=>(R k)∨(k=c6.heap.size))) o7.out hm (fun _ h=>Or.inl h) aT)
   clear hm o7
   clear act E qqm HQM
   refine qfd rfl 155 B7 c4 ?_
   refine QSeq.go fun act E=>?_
   refine Ah rfl (Ab rfl) rfl am.out (off:=155) (vs:=[Value.int .i64 (gI (gI s).2).1]) aD one1 eZ (E.d 8 0) (ec (E.d 3 5)) ?_
   intro mu qc0 hm
   have qqm:=qc0.eqv (b:=((Mg.segs ({ x with ep:=(gI s).1,rn:=(gI (gI s).2).1 }:Mg) c5 c10 c11 c15 c18).flatten:List Value).toArray) ((A2 (show (Mg.segs ({ x with ep:=(gI s).1 }:Mg) c5 c10 c11 c15 c18).map List.length=mgN from HLN.o) 8 (rfl) rfl).trans rfl)
   clear qc0
   have ar:=hid qqm
   have mv:=hm.size
   have au:=hid hm
   have av:=hid (AB (S':=(fun k=>(R k)∨(k=c6.heap.size))) aq.out hm (fun _ h=>h) aT)
   clear hm aq
   clear act E qqm am
   refine qfd rfl 156 B7 c4 ?_
   refine QSeq.go fun act E=>?_
   refine Ah rfl (Ab rfl) rfl ar.out (off:=156) (vs:=[Value.int .u64 ((rNum (gI (gI s).2).2).1:Nat)]) aD one1 eP (E.d 10 0) (ec (E.d 5 5)) ?_
   intro aw qc0 hm
   have qqm:=qc0.eqv (b:=((Mg.segs ({ x with ep:=(gI s).1,rn:=(gI (gI s).2).1,tm:=(rNum (gI (gI s).2).2).1 }:Mg) c5 c10 c11 c15 c18).flatten:List Value).toArray) ((A2 (show (Mg.segs ({ x with ep:=(gI s).1,rn:=(gI (gI s).2).1 }:Mg) c5 c10 c11 c15 c18).map List.length=mgN from HLN.o) 9 (rfl) rfl).trans rfl)
   clear qc0
   have ij:=hid qqm
   have mw:=hm.size
   have ax:=hid hm
   have g9:=hid (AB (S':=(fun k=>(R k)∨(k=c6.heap.size))) av.out hm (fun _ h=>h) aT)
   clear hm av
   clear act E qqm ar
   have ik:=hid (((aj.out.mod ap.out (sB HBR)).mod au.out (sB HBR)).mod ax.out (sB HBR))
   clear aj ig ii ap au ax
   refine qe ?_
   clear HA0 c3 c4 a0
   have hrz:MgR.rd (New c7 aw) aw ((Mg.segs ({ x with ep:=(gI s).1,rn:=(gI (gI s).2).1,tm:=(rNum (gI (gI s).2).2).1 }:Mg) c5 c10 c11 c15 c18).flatten) ({ x with ep:=(gI s).1,rn:=(gI (gI s).2).1,tm:=(rNum (gI (gI s).2).2).1 }:Mg):=⟨_,_,_,_,_,rfl,{ HOK.o with ep:=A9 _,rn:=A9 _,tm:=rNum_lt (gI_suf.bytes (gI_suf.bytes HBY.o)) },(H5.o.mod (HMR.o.trans g9.out aC) (fun _ h _=>h.elim)).widen (fun _ h=>h.elim),(H10.o.mod (HMR.o.trans g9.out aC) (fun _ h _=>h.elim)).widen (fun _ h=>h.elim),(H11.o.mod (HMR.o.trans g9.out aC) (fun _ h _=>h.elim)).widen (fun _ h=>h.elim),(H15.o.mod (HMR.o.trans g9.out aC) (fun _ h _=>h.elim)).widen (fun _ h=>h.elim),(H18.o.mod (HMR.o.trans g9.out aC) (fun _ h _=>h.elim)).widen (fun _ h=>h.elim)⟩
   have HRZ:=B5 hrz
   clear hrz
   go_wp2_with fail
   go_meet
   case rel=>exact ⟨_,_,_,gb_eq HE.o,ij.out,HRZ.o,ik.out,(((HB2.o.mod c8.out aJ).mod d5.out aJ).mod g9.out aW),dW,(HMR.o.trans g9.out aC)⟩
  have K5:=B5 h5
  clear h5
  go_upto_region 13 with (fail)
  refine tst 178 B6 (Bk K5.o) rfl (qs ?_)
  by_cases h6:x.kd=6
  ·have KK:=B5 h6
   clear h6
   go_upto_region 15 with (fail)
   refine tst 178 B6 (Bl KK.o) rfl (qs ?_)
   obtain ⟨st2,hp2⟩:∃ z,z=(gPm s).2:=⟨_,rfl⟩
   have HP2:=hid hp2.symm
   clear hp2
   go_upto_region 16 with (fail)
   refine Aa 178 [64,65,66,181] [0,1,2,3] (fun a0 HA0=>?_)
   have c3:=ev HA0 4 rfl
   have c4:=ev HA0 5 rfl
   refine qmo rfl c3 ?_
   refine QSeq.call rfl rfl Tryz.func54 (dPm_U.to HP2.o HRD.o aL HLE.o) (fun E=>A0 (E.d 0 0)) ?_
   rintro e il ⟨cn,yn,rfl,qnw,qrd,hyn,hm⟩
   have HYN:=B5 hyn
   have HCN:=hid (PmR.len qnw)
   have HCO:=hid (PmR.one qnw)
   clear hyn
   refine ⟨_,rfl,?_⟩
   have ay:=hid qnw
   have az:=hid qrd
   have mx:=hm.size
   have o8:=hid (show Mod (fun k=>(R k)) c9 il from hm)
   clear hm
   clear qnw qrd HRD
   refine qfd rfl 157 B7 c4 ?_
   refine QSeq.go fun act E=>?_
   refine Ah rfl (Ab rfl) rfl (HQM.o.mod o8.out aY) (off:=157) (vs:=cn) fG HCO.o (by rw [C3,Bb,HLN.o];show 157+_≤295;rw [HCN.o];decide) (E.d 2 0) (ec (E.d 1 1)) ?_
   intro bc qc0 hm
   have qqm:=qc0.eqv (b:=((Mg.segs ({ x with pm:=yn }:Mg) c5 cn c11 c15 c18).flatten:List Value).toArray) ((A2 HLN.o 10 gE rfl).trans rfl)
   clear qc0
   have im:=hid qqm
   have my:=hm.size
   have o9:=hid hm
   have j7:=hid (AB (S':=(fun k=>(R k)∨(k=c6.heap.size))) o8.out hm (fun _ h=>Or.inl h) aT)
   clear hm o8
   clear act E qqm HQM
   have io:=hid (az.out.mod o9.out (sB HBR))
   have ip:=hid (ay.out.mod o9.out aE)
   clear az ay o9
   refine qe ?_
   clear HA0 c3 c4 a0
   have HE:=hid (show (Az x s).2=st2∧(st2≠none→(Az x s).1=({ x with pm:=yn }:Mg)) from ⟨(by unfold Az;rw [KK.o];exact HP2.o),fun h=>by rw [HYN.o h];unfold Az;rw [KK.o];rfl⟩)
   have hrz:MgR.rd (New c7 bc) bc ((Mg.segs ({ x with pm:=yn }:Mg) c5 cn c11 c15 c18).flatten) ({ x with pm:=yn }:Mg):=⟨_,_,_,_,_,rfl,{ HOK.o with },(H5.o.mod (HMR.o.trans j7.out aC) (fun _ h _=>h.elim)).widen (fun _ h=>h.elim),ip.out.widen cJ,(H11.o.mod (HMR.o.trans j7.out aC) (fun _ h _=>h.elim)).widen (fun _ h=>h.elim),(H15.o.mod (HMR.o.trans j7.out aC) (fun _ h _=>h.elim)).widen (fun _ h=>h.elim),(H18.o.mod (HMR.o.trans j7.out aC) (fun _ h _=>h.elim)).widen (fun _ h=>h.elim)⟩
   have HRZ:=B5 hrz
   clear hrz
   go_wp2_with fail
   go_meet
   case rel=>exact ⟨_,_,_,HE.o,im.out,HRZ.o,io.out,(((HB2.o.mod c8.out aJ).mod d5.out aJ).mod j7.out aW),dW,(HMR.o.trans j7.out aC)⟩
  have K6:=B5 h6
  clear h6
  go_upto_region 15 with (fail)
  refine tst 178 B6 (Bk K6.o) rfl (qs ?_)
  by_cases h7:x.kd=7
  ·have KK:=B5 h7
   clear h7
   go_upto_region 17 with (fail)
   refine tst 178 B6 (Bl KK.o) rfl (qs ?_)
   obtain ⟨st2,hp2⟩:∃ z,z=(gBa (gI (gI (gI (gI s).2).2).2).2).2:=⟨_,rfl⟩
   have HP2:=hid hp2.symm
   clear hp2
   go_upto_region 18 with (fail)
   refine Aa 178 [69,70,71,72,73,74,75,76,77,78,79,80,81,82,83,193] [0,1,2,3,4,5,6,7,8,9,10,11,12,13,14,15] (fun a0 HA0=>?_)
   have c3:=ev HA0 4 rfl
   have c4:=ev HA0 5 rfl
   refine qmo rfl c3 ?_
   refine QSeq.call rfl rfl Tryz.func46 (dI_Q HRD.o) (fun E=>An (E.d 0 0) rfl) ?_
   rintro e iq ⟨rfl,qrd,hm⟩
   refine ⟨_,rfl,?_⟩
   have bf:=hid qrd
   have mz:=hm.size
   have bg:=hid (show Mod (fun k=>(R k)) c9 iq from hm)
   clear hm
   clear qrd HRD
   refine qmo rfl c3 ?_
   refine QSeq.call rfl rfl Tryz.func46 (dI_Q bf.out) (fun E=>An (E.d 2 0) rfl) ?_
   rintro e nd ⟨rfl,qrd,hm⟩
   refine ⟨_,rfl,?_⟩
   have bh:=hid qrd
   have nf:=hm.size
   have ir:=hid hm
   have bi:=hid (AB (S':=(fun k=>(R k))) bg.out hm (fun _ h=>h) aQ)
   clear hm bg
   clear qrd bf
   refine qmo rfl c3 ?_
   refine QSeq.call rfl rfl Tryz.func46 (dI_Q bh.out) (fun E=>An (E.d 4 0) rfl) ?_
   rintro e ng ⟨rfl,qrd,hm⟩
   refine ⟨_,rfl,?_⟩
   have bj:=hid qrd
   have nh:=hm.size
   have iu:=hid hm
   have bk:=hid (AB (S':=(fun k=>(R k))) bi.out hm (fun _ h=>h) aQ)
   clear hm bi
   clear qrd bh
   refine QSeq.pure rfl (.int .i64 ((gI (gI (gI s).2).2).1 - 1)) (fun E=>Am rfl (E.d 5 0) rfl (Ag _ _ _ _ _ _) (run_sub_i _ _ B6) (congrArg (Value.int .i64) (IntWalk.i64_in _ (gI_less _)))) ?_
   refine qmo rfl c3 ?_
   refine QSeq.call rfl rfl Tryz.func46 (dI_Q bj.out) (fun E=>An (E.d 7 0) rfl) ?_
   rintro e iv ⟨rfl,qrd,hm⟩
   refine ⟨_,rfl,?_⟩
   have bl:=hid qrd
   have ni:=hm.size
   have iw:=hid hm
   have bm:=hid (AB (S':=(fun k=>(R k))) bk.out hm (fun _ h=>h) aQ)
   clear hm bk
   clear qrd bj
   refine qmo rfl c3 ?_
   refine QSeq.call rfl rfl Tryz.func55 (dBa_U.to HP2.o bl.out aL (C1 (gI_suf.len _) (C1 (gI_suf.len _) (C1 (gI_suf.len _) (C1 (gI_suf.len _) HLE.o))))) (fun E=>A0 (E.d 9 0)) ?_
   rintro e iy ⟨cb,yb,rfl,qba,qrd,hyb,hm⟩
   have HYB:=B5 hyb
   obtain ⟨v1,v2,v3,rfl,hokb,qba,qbo,qbt⟩:=qba
   obtain ⟨aob0,capb0,rfl⟩:=qba.shape
   obtain ⟨aob1,capb1,rfl⟩:=qbo.shape
   obtain ⟨aob2,capb2,rfl⟩:=qbt.shape
   have HKB:=B5 hokb
   clear hokb hyb
   refine ⟨_,rfl,?_⟩
   have bn:=hid qba
   have bp:=hid qrd
   have bq:=hid qbo
   have br:=hid qbt
   have nj:=hm.size
   have iz:=hid hm
   have bt:=hid (AB (S':=(fun k=>(R k))) bm.out hm (fun _ h=>h) aQ)
   clear hm bm
   clear qba qrd qbo qbt bl
   refine qmo rfl c3 ?_
   refine QSeq.call rfl rfl Tryz.func53 (dSig_Q _ _ _ _ bp.out aL) (fun E=>A0 (E.d 11 0)) ?_
   rintro e nk ⟨rfl,qrd,hm⟩
   refine ⟨_,rfl,?_⟩
   have bu:=hid qrd
   have nl:=hm.size
   have n6:=hid hm
   have p4:=hid (AB (S':=(fun k=>(R k))) bt.out hm (fun _ h=>h) aQ)
   clear hm bt
   clear qrd bp
   refine QSeq.go fun act E=>?_
   refine Br rfl (Ab rfl) (v:=.agg ((Pr.cells (Pr.mk (gI s).1 (gI (gI s).2).1 ((gI (gI (gI s).2).2).1 - 1) (gI (gI (gI (gI s).2).2).2).1 yb (gSig st2).1.1 (gSig st2).1.2) (Value.slice aob0 yb.ps.length capb0) (Value.slice aob1 yb.os.length capb1) (Value.slice aob2 yb.ts.length capb2)):List Value).toArray) (Bj rfl (z:=[.int .i64 0,.int .i64 0,.int .i64 0,.int .i64 0,.int .i64 0,.int .u64 0,.slice none 0 0,.slice none 0 0,.slice none 0 0,.int .i64 0,.int .i64 0]) (places:=[(0,1),(1,1),(2,1),(3,1),(4,5),(9,2)]) aD (parts:=[(0,.int .i64 (gI s).1),(1,.int .i64 (gI (gI s).2).1),(2,.int .i64 ((gI (gI (gI s).2).2).1 - 1)),(3,.int .i64 (gI (gI (gI (gI s).2).2).2).1),(4,.agg #[.int .i64 yb.ep,.int .u64 (yb.tm:Nat),Value.slice aob0 yb.ps.length capb0,Value.slice aob1 yb.os.length capb1,Value.slice aob2 yb.ts.length capb2]),(5,.agg #[.int .i64 (gSig st2).1.1,.int .i64 (gSig st2).1.2])]) (by simp only [C7,C9,D0,show act.eval (.tmp 70)=.int .i64 (gI s).1 from (E.d 1 11),show act.eval (.tmp 72)=.int .i64 (gI (gI s).2).1 from (E.d 3 9),show act.eval (.tmp 75)=.int .i64 ((gI (gI (gI s).2).2).1 - 1) from (E.d 6 6),show act.eval (.tmp 77)=.int .i64 (gI (gI (gI (gI s).2).2).2).1 from (E.d 8 4),show act.eval (.tmp 79)=.agg #[.int .i64 yb.ep,.int .u64 (yb.tm:Nat),Value.slice aob0 yb.ps.length capb0,Value.slice aob1 yb.os.length capb1,Value.slice aob2 yb.ts.length capb2] from (E.d 10 2),show act.eval (.tmp 81)=.agg #[.int .i64 (gSig st2).1.1,.int .i64 (gSig st2).1.2] from (E.d 12 0)];try rfl) (r:=(Pr.cells (Pr.mk (gI s).1 (gI (gI s).2).1 ((gI (gI (gI s).2).2).1 - 1) (gI (gI (gI (gI s).2).2).2).1 yb (gSig st2).1.1 (gSig st2).1.2) (Value.slice aob0 yb.ps.length capb0) (Value.slice aob1 yb.os.length capb1) (Value.slice aob2 yb.ts.length capb2))) (by exact Bi (ns:=[1,1,1,1,5,2]) rfl [(0,.int .i64 (gI s).1),(1,.int .i64 (gI (gI s).2).1),(2,.int .i64 ((gI (gI (gI s).2).2).1 - 1)),(3,.int .i64 (gI (gI (gI (gI s).2).2).2).1),(4,.agg #[.int .i64 yb.ep,.int .u64 (yb.tm:Nat),Value.slice aob0 yb.ps.length capb0,Value.slice aob1 yb.os.length capb1,Value.slice aob2 yb.ts.length capb2]),(5,.agg #[.int .i64 (gSig st2).1.1,.int .i64 (gSig st2).1.2])] [[.int .i64 0],[.int .i64 0],[.int .i64 0],[.int .i64 0],[.int .i64 0,.int .u64 0,.slice none 0 0,.slice none 0 0,.slice none 0 0],[.int .i64 0,.int .i64 0]] rfl ⟨rfl,rfl,rfl,rfl,rfl,rfl,trivial⟩)) ?_
   clear act E
   refine qfd rfl 163 B7 c4 ?_
   refine QSeq.go fun act E=>?_
   refine Ah rfl (Ab rfl) rfl (HQM.o.mod p4.out aY) (off:=163) (vs:=(Pr.cells (Pr.mk (gI s).1 (gI (gI s).2).1 ((gI (gI (gI s).2).2).1 - 1) (gI (gI (gI (gI s).2).2).2).1 yb (gSig st2).1.1 (gSig st2).1.2) (Value.slice aob0 yb.ps.length capb0) (Value.slice aob1 yb.os.length capb1) (Value.slice aob2 yb.ts.length capb2))) aD eV (by rw [C3,Bb,HLN.o];show 163+11≤295;decide) (E.d 14 0) (ec (E.d 13 1)) ?_
   intro p5 qc0 hm
   have qqm:=qc0.eqv (b:=((Mg.segs ({ x with pr:=(Pr.mk (gI s).1 (gI (gI s).2).1 ((gI (gI (gI s).2).2).1 - 1) (gI (gI (gI (gI s).2).2).2).1 yb (gSig st2).1.1 (gSig st2).1.2) }:Mg) c5 c10 (Pr.cells (Pr.mk (gI s).1 (gI (gI s).2).1 ((gI (gI (gI s).2).2).1 - 1) (gI (gI (gI (gI s).2).2).2).1 yb (gSig st2).1.1 (gSig st2).1.2) (Value.slice aob0 yb.ps.length capb0) (Value.slice aob1 yb.os.length capb1) (Value.slice aob2 yb.ts.length capb2)) c15 c18).flatten:List Value).toArray) ((A2 HLN.o 11 (rfl) rfl).trans rfl)
   clear qc0
   have ja:=hid qqm
   have nn:=hm.size
   have l8:=hid hm
   have j8:=hid (AB (S':=(fun k=>(R k)∨(k=c6.heap.size))) p4.out hm (fun _ h=>Or.inl h) aT)
   clear hm p4
   clear act E qqm HQM
   have jb:=hid (bu.out.mod l8.out (sB HBR))
   have jc:=hid ((bn.out.mod n6.out aV).mod l8.out aE)
   have jd:=hid ((bq.out.mod n6.out aV).mod l8.out aE)
   have je:=hid ((br.out.mod n6.out aV).mod l8.out aE)
   clear bu bn bq br ir iu iw iz n6 l8
   refine qe ?_
   clear HA0 c3 c4 a0
   have HPN:=hid (show PrR.rd (fun k=>(New iv iy k)) p5 (Pr.cells (Pr.mk (gI s).1 (gI (gI s).2).1 ((gI (gI (gI s).2).2).1 - 1) (gI (gI (gI (gI s).2).2).2).1 yb (gSig st2).1.1 (gSig st2).1.2) (Value.slice aob0 yb.ps.length capb0) (Value.slice aob1 yb.os.length capb1) (Value.slice aob2 yb.ts.length capb2)) (Pr.mk (gI s).1 (gI (gI s).2).1 ((gI (gI (gI s).2).2).1 - 1) (gI (gI (gI (gI s).2).2).2).1 yb (gSig st2).1.1 (gSig st2).1.2) from ⟨_,_,_,rfl,⟨A9 _,A9 _,gI_less _,A9 _,HKB.o,A9 _,A9 _⟩,jc.out.widen gL,jd.out.widen gL,je.out.widen gL⟩)
   have he:Az x s=(({ x with pr:=(Pr.mk (gI s).1 (gI (gI s).2).1 ((gI (gI (gI s).2).2).1 - 1) (gI (gI (gI (gI s).2).2).2).1 (gBa (gI (gI (gI (gI s).2).2).2).2).1 (gSig (gBa (gI (gI (gI (gI s).2).2).2).2).2).1.1 (gSig (gBa (gI (gI (gI (gI s).2).2).2).2).2).1.2) }:Mg),(gSig (gBa (gI (gI (gI (gI s).2).2).2).2).2).2):=by unfold Az;rw [KK.o];rfl
   rw [HP2.o] at he
   have HE:=hid (show (Az x s).2=(gSig st2).2∧((gSig st2).2≠none→(Az x s).1=({ x with pr:=(Pr.mk (gI s).1 (gI (gI s).2).1 ((gI (gI (gI s).2).2).1 - 1) (gI (gI (gI (gI s).2).2).2).1 yb (gSig st2).1.1 (gSig st2).1.2) }:Mg)) from ⟨by rw [he],fun h=>by rw [HYB.o (fun e=>h (by rw [e];exact gSig_suf.no)),he]⟩)
   clear he
   have hrz:MgR.rd (New c7 p5) p5 ((Mg.segs ({ x with pr:=(Pr.mk (gI s).1 (gI (gI s).2).1 ((gI (gI (gI s).2).2).1 - 1) (gI (gI (gI (gI s).2).2).2).1 yb (gSig st2).1.1 (gSig st2).1.2) }:Mg) c5 c10 (Pr.cells (Pr.mk (gI s).1 (gI (gI s).2).1 ((gI (gI (gI s).2).2).1 - 1) (gI (gI (gI (gI s).2).2).2).1 yb (gSig st2).1.1 (gSig st2).1.2) (Value.slice aob0 yb.ps.length capb0) (Value.slice aob1 yb.os.length capb1) (Value.slice aob2 yb.ts.length capb2)) c15 c18).flatten) ({ x with pr:=(Pr.mk (gI s).1 (gI (gI s).2).1 ((gI (gI (gI s).2).2).1 - 1) (gI (gI (gI (gI s).2).2).2).1 yb (gSig st2).1.1 (gSig st2).1.2) }:Mg):=⟨_,_,_,_,_,rfl,{ HOK.o with },(H5.o.mod (HMR.o.trans j8.out aC) (fun _ h _=>h.elim)).widen (fun _ h=>h.elim),(H10.o.mod (HMR.o.trans j8.out aC) (fun _ h _=>h.elim)).widen (fun _ h=>h.elim),HPN.o.widen cJ,(H15.o.mod (HMR.o.trans j8.out aC) (fun _ h _=>h.elim)).widen (fun _ h=>h.elim),(H18.o.mod (HMR.o.trans j8.out aC) (fun _ h _=>h.elim)).widen (fun _ h=>h.elim)⟩
   have HRZ:=B5 hrz
   clear hrz
   go_wp2_with fail
   go_meet
   case rel=>exact ⟨_,_,_,HE.o,ja.out,HRZ.o,jb.out,(((HB2.o.mod c8.out aJ).mod d5.out aJ).mod j8.out aW),dW,(HMR.o.trans j8.out aC)⟩
  have K7:=B5 h7
  clear h7
  go_upto_region 17 with (fail)
  refine tst 178 B6 (Bk K7.o) rfl (qs ?_)
  by_cases h8:x.kd=8
  ·have KK:=B5 h8
   clear h8
   go_upto_region 19 with (fail)
   refine tst 178 B6 (Bl KK.o) rfl (qs ?_)
   have HE:=hid (show Az x s=(({ x with vt:=(gVt s).1 }:Mg),(gVt s).2) by unfold Az;rw [KK.o];rfl)
   go_upto_region 20 with (fail)
   refine Aa 178 [86,87,88,181] [0,1,2,3] (fun a0 HA0=>?_)
   have c3:=ev HA0 4 rfl
   have c4:=ev HA0 5 rfl
   refine qmo rfl c3 ?_
   refine QSeq.call rfl rfl Tryz.func56 (dVt_Q _ _ _ _ HRD.o aL) (fun E=>A0 (E.d 0 0)) ?_
   rintro e jf ⟨rfl,qrd,hm⟩
   refine ⟨_,rfl,?_⟩
   have bw:=hid qrd
   have np:=hm.size
   have p6:=hid (show Mod (fun k=>(R k)) c9 jf from hm)
   clear hm
   clear qrd HRD
   refine qfd rfl 174 B7 c4 ?_
   refine QSeq.go fun act E=>?_
   refine Ah rfl (Ab rfl) rfl (HQM.o.mod p6.out aY) (off:=174) (vs:=((gVt s).1.cells)) (by rw [Vt.len (gVt_OK HBY.o)];kernel_rfl) (Vt.one _) gU (E.d 2 0) (ec (E.d 1 1)) ?_
   intro bx qc0 hm
   have qqm:=qc0.eqv (b:=((Mg.segs ({ x with vt:=(gVt s).1 }:Mg) c5 c10 c11 c15 c18).flatten:List Value).toArray) ((A2 HLN.o 12 (by rw [Vt.len (gVt_OK HBY.o)];rfl) rfl).trans rfl)
   clear qc0
   have jg:=hid qqm
   have nq:=hm.size
   have bz:=hid hm
   have i7:=hid (AB (S':=(fun k=>(R k)∨(k=c6.heap.size))) p6.out hm (fun _ h=>Or.inl h) aT)
   clear hm p6
   clear act E qqm HQM
   have jh:=hid (bw.out.mod bz.out (sB HBR))
   clear bw bz
   refine qe ?_
   clear HA0 c3 c4 a0
   have hrz:MgR.rd (New c7 bx) bx ((Mg.segs ({ x with vt:=(gVt s).1 }:Mg) c5 c10 c11 c15 c18).flatten) ({ x with vt:=(gVt s).1 }:Mg):=⟨_,_,_,_,_,rfl,{ HOK.o with vt:=gVt_OK HBY.o },(H5.o.mod (HMR.o.trans i7.out aC) (fun _ h _=>h.elim)).widen (fun _ h=>h.elim),(H10.o.mod (HMR.o.trans i7.out aC) (fun _ h _=>h.elim)).widen (fun _ h=>h.elim),(H11.o.mod (HMR.o.trans i7.out aC) (fun _ h _=>h.elim)).widen (fun _ h=>h.elim),(H15.o.mod (HMR.o.trans i7.out aC) (fun _ h _=>h.elim)).widen (fun _ h=>h.elim),(H18.o.mod (HMR.o.trans i7.out aC) (fun _ h _=>h.elim)).widen (fun _ h=>h.elim)⟩
   have HRZ:=B5 hrz
   clear hrz
   go_wp2_with fail
   go_meet
   case rel=>exact ⟨_,_,_,gb_eq HE.o,jg.out,HRZ.o,jh.out,(((HB2.o.mod c8.out aJ).mod d5.out aJ).mod i7.out aW),dW,(HMR.o.trans i7.out aC)⟩
  have K8:=B5 h8
  clear h8
  go_upto_region 19 with (fail)
  refine tst 178 B6 (Bk K8.o) rfl (qs ?_)
  by_cases h9:x.kd=9
  ·have KK:=B5 h9
   clear h9
   go_upto_region 21 with (fail)
   refine tst 178 B6 (Bl KK.o) rfl (qs ?_)
   have HE:=hid (show Az x s=(({ x with ix:=(gI s).1,en:=(gEn (gI s).2).1 }:Mg),(gEn (gI s).2).2) by unfold Az;rw [KK.o];rfl)
   go_upto_region 22 with (fail)
   refine Aa 178 [91,92,93,181] [0,1,2,3] (fun a0 HA0=>?_)
   have c3:=ev HA0 4 rfl
   have c4:=ev HA0 5 rfl
   refine qmo rfl c3 ?_
   refine QSeq.call rfl rfl Tryz.func46 (dI_Q HRD.o) (fun E=>An (E.d 0 0) rfl) ?_
   rintro e ji ⟨rfl,qrd,hm⟩
   refine ⟨_,rfl,?_⟩
   have cd:=hid qrd
   have nr:=hm.size
   have p7:=hid (show Mod (fun k=>(R k)) c9 ji from hm)
   clear hm
   clear qrd HRD
   refine qfd rfl 212 B7 c4 ?_
   refine QSeq.go fun act E=>?_
   refine Ah rfl (Ab rfl) rfl (HQM.o.mod p7.out aY) (off:=212) (vs:=[Value.int .i64 (gI s).1]) aD one1 cP (E.d 2 0) (ec (E.d 1 1)) ?_
   intro jj qc0 hm
   have qqm:=qc0.eqv (b:=((Mg.segs ({ x with ix:=(gI s).1 }:Mg) c5 c10 c11 c15 c18).flatten:List Value).toArray) ((A2 HLN.o 13 (rfl) rfl).trans rfl)
   clear qc0
   have cf:=hid qqm
   have nt:=hm.size
   have cg:=hid hm
   have i8:=hid (AB (S':=(fun k=>(R k)∨(k=c6.heap.size))) p7.out hm (fun _ h=>Or.inl h) aT)
   clear hm p7
   clear act E qqm HQM
   have ch:=hid (cd.out.mod cg.out (sB HBR))
   clear cd cg
   refine qe ?_
   clear HA0 c3 c4 a0
   go_upto_region 23 with (fail)
   refine Aa 178 [94,95,96,97,98,99,100,101,186] [0,1,2,3,4,5,6,7,8] (fun a0 HA0=>?_)
   have c3:=ev HA0 4 rfl
   have c4:=ev HA0 5 rfl
   refine qmo rfl c3 ?_
   refine QSeq.call rfl rfl Tryz.func50 (dName_Q _ _ _ _ ch.out aL) (fun E=>A0 (E.d 0 0)) ?_
   rintro e jk ⟨rfl,qrd,hm⟩
   refine ⟨_,rfl,?_⟩
   have ci:=hid qrd
   have nu:=hm.size
   have cj:=hid (show Mod (fun k=>(R k)) jj jk from hm)
   clear hm
   clear qrd ch
   refine qmo rfl c3 ?_
   refine QSeq.call rfl rfl Tryz.func51 (RefRHash_R ci.out) (fun E=>A0 (E.d 2 0)) ?_
   rintro e nv ⟨rfl,qrd,hm⟩
   refine ⟨_,rfl,?_⟩
   have ck:=hid qrd
   have nw:=hm.size
   have jl:=hid hm
   have co:=hid (AB (S':=(fun k=>(R k))) cj.out hm (fun _ h=>h) aQ)
   clear hm cj
   clear qrd ci
   refine qmo rfl c3 ?_
   refine QSeq.call rfl rfl Tryz.func52 (RefRNum_R ck.out) (fun E=>A0 (E.d 4 0)) ?_
   rintro e nx ⟨rfl,qrd,hm⟩
   refine ⟨_,rfl,?_⟩
   have cq:=hid qrd
   have ny:=hm.size
   have jm:=hid hm
   have p8:=hid (AB (S':=(fun k=>(R k))) co.out hm (fun _ h=>h) aQ)
   clear hm co
   clear qrd ck
   refine QSeq.go fun act E=>?_
   refine Br rfl (Ab rfl) (v:=.agg ((gEn (gI s).2).1.cells:List Value).toArray) (Bj rfl (z:=[.int .i64 0,.int .i64 0,.int .u8 0,.int .u8 0,.int .u8 0,.int .u8 0,.int .u8 0,.int .u8 0,.int .u8 0,.int .u8 0,.int .u8 0,.int .u8 0,.int .u8 0,.int .u8 0,.int .u8 0,.int .u8 0,.int .u8 0,.int .u8 0,.int .u8 0,.int .u8 0,.int .u8 0,.int .u8 0,.int .u8 0,.int .u8 0,.int .u8 0,.int .u8 0,.int .u8 0,.int .u8 0,.int .u8 0,.int .u8 0,.int .u8 0,.int .u8 0,.int .u8 0,.int .u8 0,.int .u64 0]) (places:=[(0,2),(2,32),(34,1)]) aD (parts:=[(0,.agg #[.int .i64 (gSig (gI s).2).1.1,.int .i64 (gSig (gI s).2).1.2]),(1,hv (A3 (gSig (gI s).2).2).1),(2,.int .u64 ((rNum (A3 (gSig (gI s).2).2).2).1:Nat))]) (by simp only [C7,C9,D0,show act.eval (.tmp 95)=.agg #[.int .i64 (gSig (gI s).2).1.1,.int .i64 (gSig (gI s).2).1.2] from (E.d 1 4),show act.eval (.tmp 97)=hv (A3 (gSig (gI s).2).2).1 from (E.d 3 2),show act.eval (.tmp 99)=.int .u64 ((rNum (A3 (gSig (gI s).2).2).2).1:Nat) from (E.d 5 0)];try rfl) (r:=(gEn (gI s).2).1.cells) (by exact Bi (ns:=[2,32,1]) rfl [(0,.agg #[.int .i64 (gSig (gI s).2).1.1,.int .i64 (gSig (gI s).2).1.2]),(1,hv (A3 (gSig (gI s).2).2).1),(2,.int .u64 ((rNum (A3 (gSig (gI s).2).2).2).1:Nat))] [[.int .i64 0,.int .i64 0],[.int .u8 0,.int .u8 0,.int .u8 0,.int .u8 0,.int .u8 0,.int .u8 0,.int .u8 0,.int .u8 0,.int .u8 0,.int .u8 0,.int .u8 0,.int .u8 0,.int .u8 0,.int .u8 0,.int .u8 0,.int .u8 0,.int .u8 0,.int .u8 0,.int .u8 0,.int .u8 0,.int .u8 0,.int .u8 0,.int .u8 0,.int .u8 0,.int .u8 0,.int .u8 0,.int .u8 0,.int .u8 0,.int .u8 0,.int .u8 0,.int .u8 0,.int .u8 0],[.int .u64 0]] rfl ⟨rfl,(szv cW),rfl,trivial⟩)) ?_
   clear act E
   refine qfd rfl 213 B7 c4 ?_
   refine QSeq.go fun act E=>?_
   refine Ah rfl (Ab rfl) rfl (cf.out.mod p8.out aY) (off:=213) (vs:=((gEn (gI s).2).1.cells)) (by rw [En.len (gEn_OK (gI_suf.bytes HBY.o))];kernel_rfl) (En.one _) eG (E.d 7 0) (ec (E.d 6 1)) ?_
   intro cr qc0 hm
   have qqm:=qc0.eqv (b:=((Mg.segs ({ x with ix:=(gI s).1,en:=(gEn (gI s).2).1 }:Mg) c5 c10 c11 c15 c18).flatten:List Value).toArray) ((A2 (show (Mg.segs ({ x with ix:=(gI s).1 }:Mg) c5 c10 c11 c15 c18).map List.length=mgN from HLN.o) 14 (by rw [En.len (gEn_OK (gI_suf.bytes HBY.o))];rfl) rfl).trans rfl)
   clear qc0
   have jn:=hid qqm
   have nz:=hm.size
   have ct:=hid hm
   have i9:=hid (AB (S':=(fun k=>(R k)∨(k=c6.heap.size))) p8.out hm (fun _ h=>Or.inl h) aT)
   clear hm p8
   clear act E qqm cf
   have jo:=hid (cq.out.mod ct.out (sB HBR))
   clear cq jl jm ct
   refine qe ?_
   clear HA0 c3 c4 a0
   have hrz:MgR.rd (New c7 cr) cr ((Mg.segs ({ x with ix:=(gI s).1,en:=(gEn (gI s).2).1 }:Mg) c5 c10 c11 c15 c18).flatten) ({ x with ix:=(gI s).1,en:=(gEn (gI s).2).1 }:Mg):=⟨_,_,_,_,_,rfl,{ HOK.o with ix:=A9 _,en:=gEn_OK (gI_suf.bytes HBY.o) },(H5.o.mod ((HMR.o.trans i8.out aC).trans i9.out aC) (fun _ h _=>h.elim)).widen (fun _ h=>h.elim),(H10.o.mod ((HMR.o.trans i8.out aC).trans i9.out aC) (fun _ h _=>h.elim)).widen (fun _ h=>h.elim),(H11.o.mod ((HMR.o.trans i8.out aC).trans i9.out aC) (fun _ h _=>h.elim)).widen (fun _ h=>h.elim),(H15.o.mod ((HMR.o.trans i8.out aC).trans i9.out aC) (fun _ h _=>h.elim)).widen (fun _ h=>h.elim),(H18.o.mod ((HMR.o.trans i8.out aC).trans i9.out aC) (fun _ h _=>h.elim)).widen (fun _ h=>h.elim)⟩
   have HRZ:=B5 hrz
   clear hrz
   go_wp2_with fail
   go_meet
   case rel=>exact ⟨_,_,_,gb_eq HE.o,jn.out,HRZ.o,jo.out,((((HB2.o.mod c8.out aJ).mod d5.out aJ).mod i8.out aW).mod i9.out aW),dW,((HMR.o.trans i8.out aC).trans i9.out aC)⟩
  have K9:=B5 h9
  clear h9
  go_upto_region 21 with (fail)
  refine tst 178 B6 (Bk K9.o) rfl (qs ?_)
  by_cases h10:x.kd=10
  ·have KK:=B5 h10
   clear h10
   go_upto_region 24 with (fail)
   refine tst 178 B6 (Bl KK.o) rfl (qs ?_)
   obtain ⟨st2,hp2⟩:∃ z,z=(gOp s).2:=⟨_,rfl⟩
   have HP2:=hid hp2.symm
   clear hp2
   go_upto_region 25 with (fail)
   refine Aa 178 [104,105,106,181] [0,1,2,3] (fun a0 HA0=>?_)
   have c3:=ev HA0 4 rfl
   have c4:=ev HA0 5 rfl
   refine qmo rfl c3 ?_
   refine QSeq.call rfl rfl Tryz.func57 (dOp_G.toU.to HP2.o HRD.o aL HLE.o) (fun E=>A0 (E.d 0 0)) ?_
   rintro e jp ⟨cn,yn,rfl,qnw,qrd,hyn,hm⟩
   have HYN:=B5 hyn
   have HCN:=hid (OpR.len qnw)
   have HCO:=hid (OpR.one qnw)
   clear hyn
   refine ⟨_,rfl,?_⟩
   have cx:=hid qnw
   have da:=hid qrd
   have oc:=hm.size
   have p9:=hid (show Mod (fun k=>(R k)) c9 jp from hm)
   clear hm
   clear qnw qrd HRD
   refine qfd rfl 248 B7 c4 ?_
   refine QSeq.go fun act E=>?_
   refine Ah rfl (Ab rfl) rfl (HQM.o.mod p9.out aY) (off:=248) (vs:=cn) fG HCO.o (by rw [C3,Bb,HLN.o];show 248+_≤295;rw [HCN.o];decide) (E.d 2 0) (ec (E.d 1 1)) ?_
   intro db qc0 hm
   have qqm:=qc0.eqv (b:=((Mg.segs ({ x with op:=yn }:Mg) c5 c10 c11 cn c18).flatten:List Value).toArray) ((A2 HLN.o 15 gE rfl).trans rfl)
   clear qc0
   have jq:=hid qqm
   have od:=hm.size
   have q6:=hid hm
   have j9:=hid (AB (S':=(fun k=>(R k)∨(k=c6.heap.size))) p9.out hm (fun _ h=>Or.inl h) aT)
   clear hm p9
   clear act E qqm HQM
   have jr:=hid (da.out.mod q6.out (sB HBR))
   have js:=hid (cx.out.mod q6.out aE)
   clear da cx q6
   refine qe ?_
   clear HA0 c3 c4 a0
   have HE:=hid (show (Az x s).2=st2∧(st2≠none→(Az x s).1=({ x with op:=yn }:Mg)) from ⟨(by unfold Az;rw [KK.o];exact HP2.o),fun h=>by rw [HYN.o h];unfold Az;rw [KK.o];rfl⟩)
   have hrz:MgR.rd (New c7 db) db ((Mg.segs ({ x with op:=yn }:Mg) c5 c10 c11 cn c18).flatten) ({ x with op:=yn }:Mg):=⟨_,_,_,_,_,rfl,{ HOK.o with },(H5.o.mod (HMR.o.trans j9.out aC) (fun _ h _=>h.elim)).widen (fun _ h=>h.elim),(H10.o.mod (HMR.o.trans j9.out aC) (fun _ h _=>h.elim)).widen (fun _ h=>h.elim),(H11.o.mod (HMR.o.trans j9.out aC) (fun _ h _=>h.elim)).widen (fun _ h=>h.elim),js.out.widen cJ,(H18.o.mod (HMR.o.trans j9.out aC) (fun _ h _=>h.elim)).widen (fun _ h=>h.elim)⟩
   have HRZ:=B5 hrz
   clear hrz
   go_wp2_with fail
   go_meet
   case rel=>exact ⟨_,_,_,HE.o,jq.out,HRZ.o,jr.out,(((HB2.o.mod c8.out aJ).mod d5.out aJ).mod j9.out aW),dW,(HMR.o.trans j9.out aC)⟩
  have K10:=B5 h10
  clear h10
  go_upto_region 24 with (fail)
  refine tst 178 B6 (Bk K10.o) rfl (qs ?_)
  by_cases h11:x.kd=11
  ·have KK:=B5 h11
   clear h11
   go_upto_region 26 with (fail)
   refine tst 178 B6 (Bl KK.o) rfl (qs ?_)
   have HE:=hid (show Az x s=(({ x with ix:=(gI s).1 }:Mg),(gI s).2) by unfold Az;rw [KK.o];rfl)
   go_upto_region 27 with (fail)
   refine Aa 178 [109,110,111,181] [0,1,2,3] (fun a0 HA0=>?_)
   have c3:=ev HA0 4 rfl
   have c4:=ev HA0 5 rfl
   refine qmo rfl c3 ?_
   refine QSeq.call rfl rfl Tryz.func46 (dI_Q HRD.o) (fun E=>An (E.d 0 0) rfl) ?_
   rintro e jt ⟨rfl,qrd,hm⟩
   refine ⟨_,rfl,?_⟩
   have dd:=hid qrd
   have og:=hm.size
   have q7:=hid (show Mod (fun k=>(R k)) c9 jt from hm)
   clear hm
   clear qrd HRD
   refine qfd rfl 212 B7 c4 ?_
   refine QSeq.go fun act E=>?_
   refine Ah rfl (Ab rfl) rfl (HQM.o.mod q7.out aY) (off:=212) (vs:=[Value.int .i64 (gI s).1]) aD one1 cP (E.d 2 0) (ec (E.d 1 1)) ?_
   intro df qc0 hm
   have qqm:=qc0.eqv (b:=((Mg.segs ({ x with ix:=(gI s).1 }:Mg) c5 c10 c11 c15 c18).flatten:List Value).toArray) ((A2 HLN.o 13 (rfl) rfl).trans rfl)
   clear qc0
   have ju:=hid qqm
   have oh:=hm.size
   have dg:=hid hm
   have j0:=hid (AB (S':=(fun k=>(R k)∨(k=c6.heap.size))) q7.out hm (fun _ h=>Or.inl h) aT)
   clear hm q7
   clear act E qqm HQM
   have jv:=hid (dd.out.mod dg.out (sB HBR))
   clear dd dg
   refine qe ?_
   clear HA0 c3 c4 a0
   have hrz:MgR.rd (New c7 df) df ((Mg.segs ({ x with ix:=(gI s).1 }:Mg) c5 c10 c11 c15 c18).flatten) ({ x with ix:=(gI s).1 }:Mg):=⟨_,_,_,_,_,rfl,{ HOK.o with ix:=A9 _ },(H5.o.mod (HMR.o.trans j0.out aC) (fun _ h _=>h.elim)).widen (fun _ h=>h.elim),(H10.o.mod (HMR.o.trans j0.out aC) (fun _ h _=>h.elim)).widen (fun _ h=>h.elim),(H11.o.mod (HMR.o.trans j0.out aC) (fun _ h _=>h.elim)).widen (fun _ h=>h.elim),(H15.o.mod (HMR.o.trans j0.out aC) (fun _ h _=>h.elim)).widen (fun _ h=>h.elim),(H18.o.mod (HMR.o.trans j0.out aC) (fun _ h _=>h.elim)).widen (fun _ h=>h.elim)⟩
   have HRZ:=B5 hrz
   clear hrz
   go_wp2_with fail
   go_meet
   case rel=>exact ⟨_,_,_,gb_eq HE.o,ju.out,HRZ.o,jv.out,(((HB2.o.mod c8.out aJ).mod d5.out aJ).mod j0.out aW),dW,(HMR.o.trans j0.out aC)⟩
  have K11:=B5 h11
  clear h11
  go_upto_region 26 with (fail)
  refine tst 178 B6 (Bk K11.o) rfl (qs ?_)
  by_cases h12:x.kd=12
  ·have KK:=B5 h12
   clear h12
   go_upto_region 28 with (fail)
   refine tst 178 B6 (Bl KK.o) rfl (qs ?_)
   have HE:=hid (show Az x s=(({ x with dn:=(gDn s).1 }:Mg),(gDn s).2) by unfold Az;rw [KK.o];rfl)
   go_upto_region 29 with (fail)
   refine Aa 178 [114,115,116,181] [0,1,2,3] (fun a0 HA0=>?_)
   have c3:=ev HA0 4 rfl
   have c4:=ev HA0 5 rfl
   refine qmo rfl c3 ?_
   refine QSeq.call rfl rfl Tryz.func58 (dDn_Q _ _ _ _ HRD.o aL) (fun E=>A0 (E.d 0 0)) ?_
   rintro e jw ⟨rfl,qrd,hm⟩
   refine ⟨_,rfl,?_⟩
   have dh:=hid qrd
   have oi:=hm.size
   have q8:=hid (show Mod (fun k=>(R k)) c9 jw from hm)
   clear hm
   clear qrd HRD
   refine qfd rfl 282 B7 c4 ?_
   refine QSeq.go fun act E=>?_
   refine Ah rfl (Ab rfl) rfl (HQM.o.mod q8.out aY) (off:=282) (vs:=((gDn s).1.cells)) aD (Dn.one _) (by rw [C3,Bb,HLN.o];show 282+4≤295;decide) (E.d 2 0) (ec (E.d 1 1)) ?_
   intro di qc0 hm
   have qqm:=qc0.eqv (b:=((Mg.segs ({ x with dn:=(gDn s).1 }:Mg) c5 c10 c11 c15 c18).flatten:List Value).toArray) ((A2 HLN.o 16 rfl rfl).trans rfl)
   clear qc0
   have jx:=hid qqm
   have oj:=hm.size
   have dj:=hid hm
   have j3:=hid (AB (S':=(fun k=>(R k)∨(k=c6.heap.size))) q8.out hm (fun _ h=>Or.inl h) aT)
   clear hm q8
   clear act E qqm HQM
   have jy:=hid (dh.out.mod dj.out (sB HBR))
   clear dh dj
   refine qe ?_
   clear HA0 c3 c4 a0
   have hrz:MgR.rd (New c7 di) di ((Mg.segs ({ x with dn:=(gDn s).1 }:Mg) c5 c10 c11 c15 c18).flatten) ({ x with dn:=(gDn s).1 }:Mg):=⟨_,_,_,_,_,rfl,{ HOK.o with dn:=gDn_OK HBY.o },(H5.o.mod (HMR.o.trans j3.out aC) (fun _ h _=>h.elim)).widen (fun _ h=>h.elim),(H10.o.mod (HMR.o.trans j3.out aC) (fun _ h _=>h.elim)).widen (fun _ h=>h.elim),(H11.o.mod (HMR.o.trans j3.out aC) (fun _ h _=>h.elim)).widen (fun _ h=>h.elim),(H15.o.mod (HMR.o.trans j3.out aC) (fun _ h _=>h.elim)).widen (fun _ h=>h.elim),(H18.o.mod (HMR.o.trans j3.out aC) (fun _ h _=>h.elim)).widen (fun _ h=>h.elim)⟩
   have HRZ:=B5 hrz
   clear hrz
   go_wp2_with fail
   go_meet
   case rel=>exact ⟨_,_,_,gb_eq HE.o,jx.out,HRZ.o,jy.out,(((HB2.o.mod c8.out aJ).mod d5.out aJ).mod j3.out aW),dW,(HMR.o.trans j3.out aC)⟩
  have K12:=B5 h12
  clear h12
  go_upto_region 28 with (fail)
  refine tst 178 B6 (Bk K12.o) rfl (qs ?_)
  by_cases h13:x.kd=13
  ·have KK:=B5 h13
   clear h13
   go_upto_region 30 with (fail)
   refine tst 178 B6 (Bl KK.o) rfl (qs ?_)
   have HE:=hid (show Az x s=(({ x with ix:=(gI s).1,rp:=strOfNums (rRow 256 (gI s).2).1 }:Mg),(rRow 256 (gI s).2).2) by unfold Az;rw [KK.o];rfl)
   go_upto_region 31 with (fail)
   refine Aa 178 [119,120,121,181] [0,1,2,3] (fun a0 HA0=>?_)
   have c3:=ev HA0 4 rfl
   have c4:=ev HA0 5 rfl
   refine qmo rfl c3 ?_
   refine QSeq.call rfl rfl Tryz.func46 (dI_Q HRD.o) (fun E=>An (E.d 0 0) rfl) ?_
   rintro e jz ⟨rfl,qrd,hm⟩
   refine ⟨_,rfl,?_⟩
   have dk:=hid qrd
   have ol:=hm.size
   have q9:=hid (show Mod (fun k=>(R k)) c9 jz from hm)
   clear hm
   clear qrd HRD
   refine qfd rfl 212 B7 c4 ?_
   refine QSeq.go fun act E=>?_
   refine Ah rfl (Ab rfl) rfl (HQM.o.mod q9.out aY) (off:=212) (vs:=[Value.int .i64 (gI s).1]) aD one1 cP (E.d 2 0) (ec (E.d 1 1)) ?_
   intro ka qc0 hm
   have qqm:=qc0.eqv (b:=((Mg.segs ({ x with ix:=(gI s).1 }:Mg) c5 c10 c11 c15 c18).flatten:List Value).toArray) ((A2 HLN.o 13 (rfl) rfl).trans rfl)
   clear qc0
   have dl:=hid qqm
   have om:=hm.size
   have dm:=hid hm
   have j4:=hid (AB (S':=(fun k=>(R k)∨(k=c6.heap.size))) q9.out hm (fun _ h=>Or.inl h) aT)
   clear hm q9
   clear act E qqm HQM
   have dp:=hid (dk.out.mod dm.out (sB HBR))
   clear dk dm
   refine qe ?_
   clear HA0 c3 c4 a0
   go_upto_region 32 with (fail)
   refine Aa 178 [122,123,124,125,182] [0,1,2,3,4] (fun a0 HA0=>?_)
   have c3:=ev HA0 4 rfl
   have c4:=ev HA0 5 rfl
   refine qmo rfl c3 ?_
   refine QSeq.call rfl rfl Tryz.func59 (dRow_Q dp.out (C1 (gI_suf.len _) HLE.o)) (fun E=>An (E.d 0 0) rfl) ?_
   rintro e kb ⟨vr,rfl,qrow,qrd,hm⟩
   obtain ⟨aor,capr,rfl⟩:=qrow.shape
   refine ⟨_,rfl,?_⟩
   have r3:=hid qrow
   have dq:=hid qrd
   have oo:=hm.size
   have r4:=hid (show Mod (fun k=>(R k)) ka kb from hm)
   clear hm
   clear qrow qrd dp
   refine QSeq.pure rfl (.string (strOfNums (rRow 256 (gI s).2).1)) (fun E=>ex_conv rfl rfl (by rw [(E.d 1 0)];exact bytes_string (r3.out).1)) ?_
   refine qfd rfl 286 B7 c4 ?_
   refine QSeq.go fun act E=>?_
   refine Ah rfl (Ab rfl) rfl (dl.out.mod r4.out aY) (off:=286) (vs:=[Value.string (strOfNums (rRow 256 (gI s).2).1)]) aD one1 eY (E.d 3 0) (ec (E.d 2 1)) ?_
   intro dr qc0 hm
   have qqm:=qc0.eqv (b:=((Mg.segs ({ x with ix:=(gI s).1,rp:=strOfNums (rRow 256 (gI s).2).1 }:Mg) c5 c10 c11 c15 c18).flatten:List Value).toArray) ((A2 (show (Mg.segs ({ x with ix:=(gI s).1 }:Mg) c5 c10 c11 c15 c18).map List.length=mgN from HLN.o) 17 (rfl) rfl).trans rfl)
   clear qc0
   have kc:=hid qqm
   have oq:=hm.size
   have r5:=hid hm
   have j5:=hid (AB (S':=(fun k=>(R k)∨(k=c6.heap.size))) r4.out hm (fun _ h=>Or.inl h) aT)
   clear hm r4
   clear act E qqm dl
   have ke:=hid (dq.out.mod r5.out (sB HBR))
   have ot:=hid (r3.out.mod r5.out aE)
   clear dq r3 r5
   refine qe ?_
   clear HA0 c3 c4 a0
   have hrz:MgR.rd (New c7 dr) dr ((Mg.segs ({ x with ix:=(gI s).1,rp:=strOfNums (rRow 256 (gI s).2).1 }:Mg) c5 c10 c11 c15 c18).flatten) ({ x with ix:=(gI s).1,rp:=strOfNums (rRow 256 (gI s).2).1 }:Mg):=⟨_,_,_,_,_,rfl,{ HOK.o with ix:=A9 _ },(H5.o.mod ((HMR.o.trans j4.out aC).trans j5.out aC) (fun _ h _=>h.elim)).widen (fun _ h=>h.elim),(H10.o.mod ((HMR.o.trans j4.out aC).trans j5.out aC) (fun _ h _=>h.elim)).widen (fun _ h=>h.elim),(H11.o.mod ((HMR.o.trans j4.out aC).trans j5.out aC) (fun _ h _=>h.elim)).widen (fun _ h=>h.elim),(H15.o.mod ((HMR.o.trans j4.out aC).trans j5.out aC) (fun _ h _=>h.elim)).widen (fun _ h=>h.elim),(H18.o.mod ((HMR.o.trans j4.out aC).trans j5.out aC) (fun _ h _=>h.elim)).widen (fun _ h=>h.elim)⟩
   have HRZ:=B5 hrz
   clear hrz
   go_wp2_with fail
   go_meet
   case rel=>exact ⟨_,_,_,gb_eq HE.o,kc.out,HRZ.o,ke.out,((((HB2.o.mod c8.out aJ).mod d5.out aJ).mod j4.out aW).mod j5.out aW),dW,((HMR.o.trans j4.out aC).trans j5.out aC)⟩
  have K13:=B5 h13
  clear h13
  go_upto_region 30 with (fail)
  refine tst 178 B6 (Bk K13.o) rfl (qs ?_)
  by_cases h14:x.kd=14
  ·have KK:=B5 h14
   clear h14
   go_upto_region 33 with (fail)
   refine tst 178 B6 (Bl KK.o) rfl (qs ?_)
   obtain ⟨st2,hp2⟩:∃ z,z=(gBa (gI (gI s).2).2).2:=⟨_,rfl⟩
   have HP2:=hid hp2.symm
   clear hp2
   go_upto_region 34 with (fail)
   refine Aa 178 [128,129,130,131,132,133,134,135,186] [0,1,2,3,4,5,6,7,8] (fun a0 HA0=>?_)
   have c3:=ev HA0 4 rfl
   have c4:=ev HA0 5 rfl
   refine qmo rfl c3 ?_
   refine QSeq.call rfl rfl Tryz.func46 (dI_Q HRD.o) (fun E=>An (E.d 0 0) rfl) ?_
   rintro e kf ⟨rfl,qrd,hm⟩
   refine ⟨_,rfl,?_⟩
   have dt:=hid qrd
   have ou:=hm.size
   have du:=hid (show Mod (fun k=>(R k)) c9 kf from hm)
   clear hm
   clear qrd HRD
   refine qmo rfl c3 ?_
   refine QSeq.call rfl rfl Tryz.func46 (dI_Q dt.out) (fun E=>An (E.d 2 0) rfl) ?_
   rintro e r6 ⟨rfl,qrd,hm⟩
   refine ⟨_,rfl,?_⟩
   have dv:=hid qrd
   have ov:=hm.size
   have kg:=hid hm
   have dw:=hid (AB (S':=(fun k=>(R k))) du.out hm (fun _ h=>h) aQ)
   clear hm du
   clear qrd dt
   refine qmo rfl c3 ?_
   refine QSeq.call rfl rfl Tryz.func55 (dBa_U.to HP2.o dv.out aL (C1 (gI_suf.len _) (C1 (gI_suf.len _) HLE.o))) (fun E=>A0 (E.d 4 0)) ?_
   rintro e r7 ⟨cb,yb,rfl,qba,qrd,hyb,hm⟩
   have HYB:=B5 hyb
   obtain ⟨v1,v2,v3,rfl,hokb,qba,qbo,qbt⟩:=qba
   obtain ⟨aob0,capb0,rfl⟩:=qba.shape
   obtain ⟨aob1,capb1,rfl⟩:=qbo.shape
   obtain ⟨aob2,capb2,rfl⟩:=qbt.shape
   have HKB:=B5 hokb
   clear hokb hyb
   refine ⟨_,rfl,?_⟩
   have dx:=hid qba
   have dy:=hid qrd
   have dz:=hid qbo
   have eb:=hid qbt
   have ow:=hm.size
   have kh:=hid hm
   have r8:=hid (AB (S':=(fun k=>(R k))) dw.out hm (fun _ h=>h) aQ)
   clear hm dw
   clear qba qrd qbo qbt dv
   refine QSeq.go fun act E=>?_
   refine Br rfl (Ab rfl) (v:=.agg ((Dc.cells (Dc.mk (gI s).1 (gI (gI s).2).1 yb []) (Value.slice aob0 yb.ps.length capb0) (Value.slice aob1 yb.os.length capb1) (Value.slice aob2 yb.ts.length capb2) (Value.slice none 0 0)):List Value).toArray) (Bj rfl (z:=[.int .i64 0,.int .i64 0,.int .i64 0,.int .u64 0,.slice none 0 0,.slice none 0 0,.slice none 0 0,.slice none 0 0]) (places:=[(0,1),(1,1),(2,5),(7,1)]) aD (parts:=[(0,.int .i64 (gI s).1),(1,.int .i64 (gI (gI s).2).1),(2,.agg #[.int .i64 yb.ep,.int .u64 (yb.tm:Nat),Value.slice aob0 yb.ps.length capb0,Value.slice aob1 yb.os.length capb1,Value.slice aob2 yb.ts.length capb2])]) (by simp only [C7,C9,D0,show act.eval (.tmp 129)=.int .i64 (gI s).1 from (E.d 1 4),show act.eval (.tmp 131)=.int .i64 (gI (gI s).2).1 from (E.d 3 2),show act.eval (.tmp 133)=.agg #[.int .i64 yb.ep,.int .u64 (yb.tm:Nat),Value.slice aob0 yb.ps.length capb0,Value.slice aob1 yb.os.length capb1,Value.slice aob2 yb.ts.length capb2] from (E.d 5 0)];try rfl) (r:=(Dc.cells (Dc.mk (gI s).1 (gI (gI s).2).1 yb []) (Value.slice aob0 yb.ps.length capb0) (Value.slice aob1 yb.os.length capb1) (Value.slice aob2 yb.ts.length capb2) (Value.slice none 0 0))) (by exact Bi (ns:=[1,1,5,1]) rfl [(0,.int .i64 (gI s).1),(1,.int .i64 (gI (gI s).2).1),(2,.agg #[.int .i64 yb.ep,.int .u64 (yb.tm:Nat),Value.slice aob0 yb.ps.length capb0,Value.slice aob1 yb.os.length capb1,Value.slice aob2 yb.ts.length capb2])] [[.int .i64 0],[.int .i64 0],[.int .i64 0,.int .u64 0,.slice none 0 0,.slice none 0 0,.slice none 0 0],[.slice none 0 0]] rfl ⟨rfl,rfl,rfl,trivial⟩)) ?_
   clear act E
   refine qfd rfl 287 B7 c4 ?_
   refine QSeq.go fun act E=>?_
   refine Ah rfl (Ab rfl) rfl (HQM.o.mod r8.out aY) (off:=287) (vs:=(Dc.cells (Dc.mk (gI s).1 (gI (gI s).2).1 yb []) (Value.slice aob0 yb.ps.length capb0) (Value.slice aob1 yb.os.length capb1) (Value.slice aob2 yb.ts.length capb2) (Value.slice none 0 0))) aD fK (by rw [C3,Bb,HLN.o];show 287+8≤295;decide) (E.d 7 0) (ec (E.d 6 1)) ?_
   intro ki qc0 hm
   have qqm:=qc0.eqv (b:=((Mg.segs ({ x with dc:=(Dc.mk (gI s).1 (gI (gI s).2).1 yb []) }:Mg) c5 c10 c11 c15 (Dc.cells (Dc.mk (gI s).1 (gI (gI s).2).1 yb []) (Value.slice aob0 yb.ps.length capb0) (Value.slice aob1 yb.os.length capb1) (Value.slice aob2 yb.ts.length capb2) (Value.slice none 0 0))).flatten:List Value).toArray) ((A2 HLN.o 18 (rfl) rfl).trans rfl)
   clear qc0
   have ed:=hid qqm
   have ox:=hm.size
   have m7:=hid hm
   have ee:=hid (AB (S':=(fun k=>(R k)∨(k=c6.heap.size))) r8.out hm (fun _ h=>Or.inl h) aT)
   clear hm r8
   clear act E qqm HQM
   have eg:=hid (dy.out.mod m7.out (sB HBR))
   have eh:=hid (dx.out.mod m7.out aE)
   have ei:=hid (dz.out.mod m7.out aE)
   have ej:=hid (eb.out.mod m7.out aE)
   clear dy dx dz eb kg kh m7
   refine qe ?_
   clear HA0 c3 c4 a0
   have HLD:=hid (show ∀ (a:List Vt) (v:Value),(Mg.segs ({ x with dc:=(Dc.mk (gI s).1 (gI (gI s).2).1 yb a) }:Mg) c5 c10 c11 c15 (Dc.cells (Dc.mk (gI s).1 (gI (gI s).2).1 yb a) (Value.slice aob0 yb.ps.length capb0) (Value.slice aob1 yb.os.length capb1) (Value.slice aob2 yb.ts.length capb2) (v))).map List.length=mgN from fun a v=>AF (x:=({ x with dc:=(Dc.mk (gI s).1 (gI (gI s).2).1 yb a) }:Mg)) { HOK.o with } HC5.o HC10.o HC11.o HC15.o rfl)
   have HLB:=hid (show (st2.getD []).length≤900000 by rw [← HP2.o];exact C1 (gBa_suf.len _) (C1 (gI_suf.len _) (C1 (gI_suf.len _) HLE.o)))
   go_upto_region 35 with (fail)
   refine Aa 178 [136,137,6] [0,1,2] (fun a0 HA0=>?_)
   have c3:=ev HA0 4 rfl
   refine qmo rfl c3 ?_
   refine QSeq.call rfl rfl Tryz.func46 (RefRInt_R eg.out aF) (fun E=>An (E.d 0 0) rfl) ?_
   rintro e d8 ⟨rfl,qrd,hm⟩
   refine ⟨_,rfl,?_⟩
   have eo:=hid qrd
   have oy:=hm.size
   have l7:=hid (show Mod (fun k=>(R k)) ki d8 from hm)
   clear hm
   clear qrd eg
   refine qas rfl 1 0 ?_
   refine qe ?_
   clear HA0 c3 a0
   obtain ⟨n9,hn⟩:∃ n,n=(rInt 100 st2).1:=⟨_,rfl⟩
   obtain ⟨s9,hs1⟩:∃ z,z=(rInt 100 st2).2:=⟨_,rfl⟩
   have hn100_9:n9≤100:=by have:=rInt_le 100 st2;omega
   have HLS9:=hid (show (s9.getD []).length≤900000 by rw [hs1];exact C1 ((rInt_suf 100).len _) HLB.o)
   have HGL9:=hid (show Av gVt st2=Bt gVt n9 [] s9 by rw [hn,hs1];rfl)
   rw [← hn]
   have hq:=eo.out
   rw [← hs1] at hq
   have HR9:=B5 hq
   clear hq hn hs1 eo
   go_upto_region 36 with (fail)
   refine Aa 178 [7] [0] (fun a0 HA0=>?_)
   refine QSeq.pure rfl (.int .i64 0) (fun E=>Aw rfl rfl) ?_
   refine qe ?_
   clear HA0 a0
   go_wp2
   go_loopw [7] (fun ti wr=>∃ (k:Nat) (acc:List Vt) (st:RSt) (v:Value),ti=.int .i64 (k:Int)∧k≤n9∧acc.length=k∧(st.getD []).length≤900000∧Ru gVt n9 s9 k acc st∧d8.heap.size≤wr.heap.size∧OwS VtR 49 (fun b=>d8.heap.size≤b∧b < wr.heap.size) (fun b=>d8.heap.size≤b∧b < wr.heap.size) wr v acc∧Cs wr (c6.heap.size) ((Mg.segs ({ x with dc:=(Dc.mk (gI s).1 (gI (gI s).2).1 yb acc) }:Mg) c5 c10 c11 c15 (Dc.cells (Dc.mk (gI s).1 (gI (gI s).2).1 yb acc) (Value.slice aob0 yb.ps.length capb0) (Value.slice aob1 yb.os.length capb1) (Value.slice aob2 yb.ts.length capb2) (v))).flatten:List Value).toArray 61∧RrR 100 R wr r st∧Cs wr (w.heap.size) (mg0C 0 0 0).toArray 61∧RdS PmR (fun k=>(New r6 r7 k)) wr (.slice aob0 yb.ps.length capb0) yb.ps∧RdS OpR (fun k=>(New r6 r7 k)) wr (.slice aob1 yb.os.length capb1) yb.os∧RdS TbR (fun k=>(New r6 r7 k)) wr (.slice aob2 yb.ts.length capb2) yb.ts∧Mod R w wr) (fun ti _=>n9 - (intOf ti).toNat)
   case atStart=>exact ⟨0,[],s9,.slice none 0 0,rfl,Nat.zero_le _,rfl,HLS9.o,Ru.start gVt_suf _ _,B9 _,OwS.nil _ _ _ _ _,(ed.out.mod l7.out aY),HR9.o,((((HB2.o.mod c8.out aJ).mod d5.out aJ).mod ee.out aW).mod l7.out aY),(eh.out.mod l7.out aV),(ei.out.mod l7.out aV),(ej.out.mod l7.out aV),((HMR.o.trans ee.out aC).trans l7.out (fun _ _ h=>h))⟩
   case round=>
    obtain ⟨k9,acc9,st9,v9,rfl,hk,hka,hst,hru,hz,ha,hbx,hr,hk_0,hk_1,hk_2,hk_3,hm⟩:=hrel
    obtain ⟨wl9,rfl⟩:∃ x,x=wr:=⟨_,rfl⟩
    obtain ⟨aol9,capl9,rfl⟩:=ha.shape
    have HAL9:=B5 ha
    have HBXL9:=B5 hbx
    have HRL9:=B5 hr
    have HML9:=B5 hm
    have HST9:=B5 hst
    have HRU9:=B5 hru
    have HKA9:=B5 hka
    have HKP9_0:=B5 hk_0
    have HKP9_1:=B5 hk_1
    have HKP9_2:=B5 hk_2
    have HKP9_3:=B5 hk_3
    clear ha hbx hr hm hst hru hka hk_0 hk_1 hk_2 hk_3 HB2 HR9 ed HMR eh ei ej
    by_cases hgo9:k9 < n9∧st9≠none
    ·obtain ⟨hlt9,hsn9⟩:=hgo9
     cases st9 with
     | none=>exact absurd rfl hsn9
     | some l9=>
      go_upto_region 37 with (fail)
      refine Aa 178 [138,139,140,141,142,143,144,145,146,147] [0,1,2,3,4,5,6,7,8,9] (fun a0 HA0=>?_)
      have c3:=ev HA0 4 rfl
      have m8:=ev HA0 6 rfl
      have g5:=ev HA0 7 rfl
      refine qmo rfl g5 ?_
      refine qmo rfl m8 ?_
      refine QSeq.pure rfl (.bool true) (fun E=>Am rfl (E.d 0 1) (E.d 1 0) (Ag _ _ _ _ _ _) (Ay _ _ _ B6) (congrArg Value.bool (decide_eq_true aM))) ?_
      refine qmv rfl 2 0 ?_
      refine AC rfl (.pointer (some ⟨r,0,none⟩)) (fun E=>((Ac rfl rfl (E.sz 141 aF) (E.d 3 0)).trans rfl)) (fun E=>Al rfl (E.v c3)) ?_
      refine AC rfl (.pointer (some ⟨r,0,none⟩)) (fun E=>((Ac rfl rfl (E.sz 141 aF) (E.d 3 1)).trans rfl)) (fun E=>ex_nil rfl (E.d 4 0)) ?_
      refine AC rfl (.pointer (some ⟨r,1,none⟩)) (fun E=>((Ac rfl rfl (E.sz 141 aF) (E.d 3 2)).trans rfl)) (fun E=>Ae rfl D6 rfl aD (E.d 5 0)) ?_
      refine AC rfl (.bool false) (fun E=>((Ac rfl rfl (E.sz 141 aF) (E.d 3 3)).trans rfl)) (fun E=>Af rfl E0 rfl (E.d 6 0) (AJ HRL9.o)) ?_
      refine AC rfl (.bool true) (fun E=>((Ac rfl rfl (E.sz 141 aF) (E.d 3 4)).trans rfl)) (fun E=>Bm rfl (E.d 7 0)) ?_
      refine QSeq.pure rfl (.bool true) (fun E=>Bg rfl (E.d 3 5) (E.d 8 0) rfl) ?_
      refine qe ?_
      clear HA0 c3 m8 g5 a0
      obtain ⟨st2_9,hp2⟩:∃ z,z=(gVt (some l9)).2:=⟨_,rfl⟩
      have HP2_9:=hid hp2.symm
      clear hp2
      have HST2_9:=hid (show (st2_9.getD []).length≤900000 by rw [← HP2_9.o];exact C1 (gVt_suf.len _) HST9.o)
      go_upto_region 39 with (fail)
      generalize ha0:Act.mk _ _=a0
      have c3:a0.eval (.tmp 4)=.pointer (some ⟨r,0,none⟩):=by rw [← ha0];rfl
      have c4:a0.eval (.tmp 5)=.pointer (some ⟨c6.heap.size,0,none⟩):=by rw [← ha0];rfl
      have hsz0:a0.tmps.size=178:=by rw [← ha0];rfl
      have HA0:=hid ha0
      clear ha0
      refine A8 178 hsz0 [150,151,152,153,154,155,156,157,158,187] (fun k=>(R k)∨(New d8 wl9 k)∨(k=c6.heap.size)) (fun k j=>(k=0∧((R j)))∨(k=2∧((New d8 wl9 j)))∨(k=3∧((j=c6.heap.size)))) bJ [qi (.pointer (some ⟨c6.heap.size,287,none⟩)),qi (.pointer (some ⟨c6.heap.size,294,none⟩)),qi (.slice aol9 acc9.length capl9),qi (.pointer (some ⟨r,0,none⟩)),qv 0,qv 1,qv 2,qi (.pointer (some ⟨c6.heap.size,287,none⟩)),qi (.pointer (some ⟨c6.heap.size,294,none⟩)),qv 3] ⟨Ad,Ad,Ad,Ad,Ar,Ar,Ar,Ad,Ad,Ar,trivial⟩ [4,5,6,9] ⟨?_,?_,?_,?_,?_,?_,?_,?_,?_,?_,trivial⟩ ?_
      ·exact stq (fun E=>Ae rfl B7 rfl aD (E.v c4))
      ·exact stq (fun E=>Ae rfl D3 rfl aD (E.d 0))
      ·refine A5 rfl rfl rfl fun _ _ _ _ _ _ hm0 _ _ hd hub _=>?_
       have h1:=hd ⟨1,.data⟩ bD rfl _ rfl
       refine Bo rfl (Ab rfl) (Af rfl Tryz.underlying57 rfl h1 (AE (HBXL9.o.mod hm0 (by intro h2;have hu:=hub 3 9 rfl aD;rcases h2 with ⟨h0,kk,hk,h2⟩|h2<;>first|omega|(rcases h2 with ⟨hkk,h2⟩|⟨hkk,h2⟩|⟨hkk,h2⟩<;>first|omega|(have hb:=HBR.o _ h2;omega)|exact HNB2.o h2))) (HLD.o _ _) 18 rfl (o:=287) (k:=7) rfl rfl rfl)) QE.refl ?_
       rfl
      ·exact stq (fun E=>Al rfl (E.v c3))
      ·exact Ai rfl
      ·exact Ai rfl
      ·exact Ai rfl
      ·exact stq (fun E=>Ae rfl B7 rfl aD (E.v c4))
      ·exact stq (fun E=>Ae rfl D3 rfl aD (E.d 7))
      ·exact Ai rfl
      intro r9 hr
      have oz:=hr.size
      have eq:=hid (hr.new (S:=(fun k=>(R k)∨(New d8 wl9 k)∨(k=c6.heap.size))))
      have er:=hid (HAL9.o.mod hr aE aE)
      clear HAL9
      have et:=hid (HBXL9.o.mod hr aJ)
      clear HBXL9
      have eu:=hid (HRL9.o.mod hr aO)
      clear HRL9
      clear hr
      refine QChain.go fun Z act E=>?_
      refine Aq (args:=#[.pointer (some ⟨r,0,none⟩)]) rfl (Ab rfl) rfl Tryz.func56 (A0 (E.d 3)) (dVt_G.toU.to HP2_9.o eu.out aL HST9.o) ?_
      rintro e s0 ⟨cs9,y9,rfl,qel,qrd,hy9,hm⟩
      have HY9:=B5 hy9
      clear hy9
      have pa:=hm.size
      refine ⟨_,rfl,hm.mono aX,(fun _=>rfl),?_⟩
      intro s5 hr
      have pb:=hr.size
      have s6:=hid ((qel.widen (R':=(fun k=>(New r9 s0 k))) (fun _ h=>h)).mod hr aE)
      have ew:=hid (qrd.mod hr aO)
      have hmr:=hm.two hr
      have ex:=hid (er.out.mod hmr fP fP)
      have ey:=hid (et.out.mod hmr aW)
      clear er et
      clear hmr
      have ez:=hid (eq.out.goM hm hr aU)
      clear eq hm hr Z act E qel qrd eu
      refine QChain.go fun Z act E=>?_
      refine qc_buildS (e:=49) (cs:=cs9) (zc:=[.int .i64 0,.int .i64 0,.int .i64 0,.int .i64 0,.int .u8 0,.int .u8 0,.int .u8 0,.int .u8 0,.int .u8 0,.int .u8 0,.int .u8 0,.int .u8 0,.int .u8 0,.int .u8 0,.int .u8 0,.int .u8 0,.int .u8 0,.int .u8 0,.int .u8 0,.int .u8 0,.int .u8 0,.int .u8 0,.int .u8 0,.int .u8 0,.int .u8 0,.int .u8 0,.int .u8 0,.int .u8 0,.int .u8 0,.int .u8 0,.int .u8 0,.int .u8 0,.int .u8 0,.int .u8 0,.int .u8 0,.int .u8 0,.int .i64 0,.int .i64 0]) (sz:=38) rfl (Ab rfl) rfl Tryz.underlying57 aD rfl aF aF (chv (v:=.agg cs9.toArray) (E.d 4)) (VtR.len s6.out) ?_
      intro pc qrow hm
      have pd:=qrow.lt
      have pf:=hm.size
      refine ⟨hm.mono (fun _ _ h=>h.elim),(fun _=>rfl),?_⟩
      intro kj hr
      have pg:=hr.size
      have s7:=hid (qrow.mod hr aJ)
      have hmr:=Mod.after hm hr
      have fc:=hid (ex.out.mod hmr aE aE)
      have fe:=hid (ey.out.mod hmr aJ)
      have ff:=hid (ew.out.mod hmr aO)
      have s8:=hid (s6.out.mod hmr aE)
      clear ex ey ew s6
      clear hmr
      have fg:=hid (ez.out.go hm hr)
      clear ez hm hr Z act E qrow
      refine QChain.go fun Z act E=>?_
      refine qc_appS (A:=VtR) (e:=49) rfl (Ab rfl) rfl (.agg #[.int .i64 0,.int .i64 0,.int .i64 0,.int .i64 0,.int .u8 0,.int .u8 0,.int .u8 0,.int .u8 0,.int .u8 0,.int .u8 0,.int .u8 0,.int .u8 0,.int .u8 0,.int .u8 0,.int .u8 0,.int .u8 0,.int .u8 0,.int .u8 0,.int .u8 0,.int .u8 0,.int .u8 0,.int .u8 0,.int .u8 0,.int .u8 0,.int .u8 0,.int .u8 0,.int .u8 0,.int .u8 0,.int .u8 0,.int .u8 0,.int .u8 0,.int .u8 0,.int .u8 0,.int .u8 0,.int .u8 0,.int .u8 0,.int .i64 0,.int .i64 0]) 80 Tryz.underlying57 info_Vt (by rfl) (of_decide_eq_true aD) (E.d 2) (chv (v:=.slice (some ⟨s5.heap.size,0,none⟩) 1 1) (E.d 5)) (fc.out) (AI (R:=(fun k=>(New r9 s0 k)∨(k=s5.heap.size))) s7.out (s8.out.widen bB) bV) aE (by rw [HKA9.o];simp only [C5,C4];omega) (by rw [HKA9.o];simp only [C5,C4];rw [A7];omega) ?_
      intro ao19 cap19 kl qacc9 hm
      have ph:=hm.size
      refine ⟨hm.mono bM,(fun _=>rfl),?_⟩
      intro pi hr
      have pj:=hr.size
      have fh:=hid ((qacc9.widen (R':=(fun k=>(New d8 wl9 k)∨(New kj kl k))) (E':=(fun k=>(New d8 wl9 k)∨(New r9 s0 k)∨(k=s5.heap.size))) (fun _ h=>h) aZ).mod hr aE aE)
      have hmr:=hm.two hr
      have fi:=hid (fe.out.mod hmr aJ)
      have fj:=hid (ff.out.mod hmr aO)
      have fk:=hid (s8.out.mod hmr aE)
      have fm:=hid (s7.out.mod hmr aJ)
      clear fe ff s8 s7
      clear hmr
      have fo:=hid (fg.out.goM hm hr aU)
      clear fg hm hr Z act E qacc9 fc
      refine QChain.go fun Z act E=>?_
      refine Ah rfl (Ab rfl) rfl fi.out (off:=294) (vs:=[Value.slice ao19 (acc9.length+1) cap19]) aD one1 (by rw [C3,Bb,HLD.o _ _];show 294+1≤295;decide) (E.d 8) (ec (chv (v:=.slice ao19 (acc9.length+1) cap19) (E.d 6))) ?_
      intro pn qc0 hm
      have qqm:=qc0.eqv (b:=((Mg.segs ({ x with dc:=(Dc.mk (gI s).1 (gI (gI s).2).1 yb (acc9 ++ [y9])) }:Mg) c5 c10 c11 c15 (Dc.cells (Dc.mk (gI s).1 (gI (gI s).2).1 yb (acc9 ++ [y9])) (Value.slice aob0 yb.ps.length capb0) (Value.slice aob1 yb.os.length capb1) (Value.slice aob2 yb.ts.length capb2) (Value.slice ao19 (acc9.length+1) cap19))).flatten:List Value).toArray) ((lay_sub (HLD.o _ _) 18 rfl (o:=287) (k:=7) (n:=1) rfl rfl rfl (by show 7+1≤8;decide)).trans rfl)
      clear qc0
      have po:=hm.size
      refine ⟨hm.mono bM,(fun _=>rfl),?_⟩
      intro pp hr
      have pq:=hr.size
      have km:=hid (qqm.mod hr aJ)
      have hmr:=hm.two hr
      have kn:=hid (fh.out.mod hmr aE aE)
      have ko:=hid (fj.out.mod hmr aO)
      have kp:=hid (fk.out.mod hmr aE)
      have kq:=hid (fm.out.mod hmr aJ)
      clear fh fj fk fm
      clear hmr
      have m9:=hid (fo.out.goM hm hr aU)
      clear fo hm hr Z act E qqm fi
      refine QChain.nil fun vs hl hzz hrows hne=>?_
      obtain ⟨Z,hYZ,hZb,hV⟩:=hzz
      have f3:=fvi hV hl 3
      have f4:=fvc hV hl 4
      have f5:=fvc hV hl 5
      have f6:=fvc hV hl 6
      rw [show vs=[gw vs 0,gw vs 1,gw vs 2,gw vs 3,gw vs 4,gw vs 5,gw vs 6,gw vs 7,gw vs 8,gw vs 9] from (Bv hl).trans rfl]
      have ha0:=HA0.o
      subst ha0
      clear HA0 hV hYZ hZb hsz0 hrows hne c3 c4
      simp only [Ax,Act.put,sIB,sCZ,sCS,List.set_nil,f3,f4,f5,f6]
      clear hl f3 f4 f5 f6
      clear kp
      clear kq
      go_upto_region 38 with (fail)
      refine Aa 178 [148,149,7] [0,1,2] (fun a0 HA0=>?_)
      have g5:=ev HA0 7 rfl
      refine QSeq.pure rfl _ (fun E=>Al rfl (E.y 2 g5)) ?_
      refine QSeq.pure rfl (.int .i64 (((k9:Nat):Int)+1)) (fun E=>Am rfl (E.d 0 0) rfl (Ag _ _ _ _ _ _) (B2 _ _ B6) (congrArg (Value.int .i64) (IntWalk.i64_in _ aM))) ?_
      refine qas rfl 1 0 ?_
      refine qe ?_
      clear HA0 g5 a0
      go_wp2
      go_roundw
      case rel=>exact ⟨k9+1,acc9 ++ [y9],st2_9,_,by go_num,by omega,by rw [C0,HKA9.o];rfl,HST2_9.o,HRU9.o.step hlt9 bD HP2_9.o HY9.o,by omega,(kn.out.widen eD cA),km.out,ko.out,(HKP9_0.o.mod m9.out (by intro h2;rcases h2 with h2|h2|h2<;>first|omega|(have hb:=HBR.o _ h2;omega)|exact HNB2.o h2)),(HKP9_1.o.mod m9.out cX),(HKP9_2.o.mod m9.out cX),(HKP9_3.o.mod m9.out cX),(HML9.o.trans m9.out bI)⟩
      case measure=>simp [intOf]<;>omega
    ·skip
     obtain ⟨bA9,hbA9⟩:∃ b:Bool,b=decide (((k9:Nat):Int) < ((n9:Nat):Int)):=⟨_,rfl⟩
     go_upto_region 37 with (fail)
     refine Aa 178 [138,139,140,141,142,143,144,145,146,147] [0,1,2,3,4,5,6,7,8,9] (fun a0 HA0=>?_)
     have c3:=ev HA0 4 rfl
     have m8:=ev HA0 6 rfl
     have g5:=ev HA0 7 rfl
     refine qmo rfl g5 ?_
     refine qmo rfl m8 ?_
     refine QSeq.pure rfl (.bool bA9) (fun E=>Am rfl (E.d 0 1) (E.d 1 0) (Ag _ _ _ _ _ _) (Ay _ _ _ B6) (congrArg Value.bool hbA9.symm)) ?_
     refine qmv rfl 2 0 ?_
     refine AA (b:=bA9) rfl (.pointer (some ⟨r,0,none⟩)) (fun E=>((Ac rfl rfl (E.sz 141 aF) (E.d 3 0)).trans (Ak _))) (fun E hb=>Al rfl (E.v c3)) ?_
     intro pt hw
     have fp:=hid hw
     clear hw
     refine AA (b:=bA9) rfl (.pointer (some ⟨r,0,none⟩)) (fun E=>((Ac rfl rfl (E.sz 141 aF) (E.d 3 1)).trans (Ak _))) (fun E hb=>ex_nil rfl ((E.q 4 0 fp.out).1 hb)) ?_
     intro pu hw
     have fq:=hid hw
     clear hw
     refine AA (b:=bA9) rfl (.pointer (some ⟨r,1,none⟩)) (fun E=>((Ac rfl rfl (E.sz 141 aF) (E.d 3 2)).trans (Ak _))) (fun E hb=>Ae rfl D6 rfl aD ((E.q 5 0 fq.out).1 hb)) ?_
     intro pv hw
     have ft:=hid hw
     clear hw
     refine AA (b:=bA9) rfl (.bool st9.isNone) (fun E=>((Ac rfl rfl (E.sz 141 aF) (E.d 3 3)).trans (Ak _))) (fun E hb=>Af rfl E0 rfl ((E.q 6 0 ft.out).1 hb) (AJ HRL9.o)) ?_
     intro pw hw
     have fv:=hid hw
     clear hw
     refine AA (b:=bA9) rfl (.bool (!st9.isNone)) (fun E=>((Ac rfl rfl (E.sz 141 aF) (E.d 3 4)).trans (Ak _))) (fun E hb=>Bm rfl ((E.q 7 0 fv.out).1 hb)) ?_
     intro qf hw
     have fw:=hid hw
     clear hw
     refine QSeq.pure rfl (.bool (bA9 && (!st9.isNone))) (fun E=>A6 rfl (E.d 3 5) rfl rfl (Be fun hb=>(E.q 8 0 fw.out).1 hb)) ?_
     clear fp fq ft fv fw
     refine qe ?_
     clear HA0 c3 m8 g5 a0
     rw [go_false hgo9 hbA9]
     have HF9:=hid (HRU9.o.fin hgo9 hk)
     clear hbA9 hgo9
     have HDN:=hid (show DcR.rd (New c7 wl9) wl9 (Dc.cells (Dc.mk (gI s).1 (gI (gI s).2).1 yb acc9) (Value.slice aob0 yb.ps.length capb0) (Value.slice aob1 yb.os.length capb1) (Value.slice aob2 yb.ts.length capb2) (Value.slice aol9 acc9.length capl9)) (Dc.mk (gI s).1 (gI (gI s).2).1 yb acc9) from ⟨_,_,_,_,rfl,⟨A9 _,A9 _,HKB.o⟩,HKP9_1.o.widen cJ,HKP9_2.o.widen cJ,HKP9_3.o.widen cJ,HAL9.o.rd.widen cE⟩)
     have he:Az x s=(({ x with dc:=(Dc.mk (gI s).1 (gI (gI s).2).1 (gBa (gI (gI s).2).2).1 (Av gVt (gBa (gI (gI s).2).2).2).1) }:Mg),(Av gVt (gBa (gI (gI s).2).2).2).2):=by unfold Az;rw [KK.o];rfl
     rw [HP2.o,HGL9.o] at he
     have HE:=hid (show (Az x s).2=st9∧(st9≠none→(Az x s).1=({ x with dc:=(Dc.mk (gI s).1 (gI (gI s).2).1 yb acc9) }:Mg)) from ⟨by rw [he];exact HF9.o.1,fun h=>by rw [HYB.o (fun e=>h (by rw [← HF9.o.1,← HGL9.o,e];exact (gList_suf gVt_suf).no)),he,← HF9.o.2 h]⟩)
     clear he
     have hrz:MgR.rd (New c7 wl9) wl9 ((Mg.segs ({ x with dc:=(Dc.mk (gI s).1 (gI (gI s).2).1 yb acc9) }:Mg) c5 c10 c11 c15 (Dc.cells (Dc.mk (gI s).1 (gI (gI s).2).1 yb acc9) (Value.slice aob0 yb.ps.length capb0) (Value.slice aob1 yb.os.length capb1) (Value.slice aob2 yb.ts.length capb2) (Value.slice aol9 acc9.length capl9))).flatten) ({ x with dc:=(Dc.mk (gI s).1 (gI (gI s).2).1 yb acc9) }:Mg):=⟨_,_,_,_,_,rfl,{ HOK.o with },(H5.o.mod HML9.o (fun _ h _=>h.elim)).widen (fun _ h=>h.elim),(H10.o.mod HML9.o (fun _ h _=>h.elim)).widen (fun _ h=>h.elim),(H11.o.mod HML9.o (fun _ h _=>h.elim)).widen (fun _ h=>h.elim),(H15.o.mod HML9.o (fun _ h _=>h.elim)).widen (fun _ h=>h.elim),HDN.o.widen cJ⟩
     have HRZ:=B5 hrz
     clear hrz
     go_wp2_with fail
     go_meet
     case rel=>exact ⟨_,_,_,HE.o,HBXL9.o,HRZ.o,HRL9.o,HKP9_0.o,dW,HML9.o⟩
  have K14:=B5 h14
  clear h14
  go_upto_region 33 with (fail)
  refine tst 178 B6 (Bk K14.o) rfl (qs ?_)
  have HZO:=hid (MgR.one (mg0_rd (k:=0) (f:=0) (t:=0) A4 A4 A4 (fun _=>False) w))
  go_upto_region 4 with (fail)
  refine Aa 178 [21,179,3] [0,1,2] (fun a0 HA0=>?_)
  have d7:=ev HA0 2 rfl
  refine QSeq.pure rfl (.agg ((mg0C 0 0 0):List Value).toArray) (fun E=>ex_build0 rfl (r:=((mg0C 0 0 0):List Value).toArray) aD) ?_
  refine QSeq.go fun act E=>?_
  refine Ah rfl (Ab rfl) rfl ((HB2.o.mod c8.out aJ).mod d5.out aJ) (off:=0) (vs:=(mg0C 0 0 0)) aD HZO.o eE (E.v d7) (ec (E.d 0 0)) ?_
  intro kr qc0 hm
  have qB2:=qc0.eqv (b:=((mg0C 0 0 0):List Value).toArray) (Ap _ _ rfl)
  clear qc0
  have kt:=hid qB2
  have qh:=hm.size
  have ku:=hid (show Mod (fun k=>(k=w.heap.size)) c9 kr from hm)
  clear hm
  clear act E qB2 HB2
  refine QSeq.pure rfl (.bool false) (fun E=>Aw rfl rfl) ?_
  refine qe ?_
  clear HA0 d7 a0
  have HEN:=hid (show um=none from HUM.o.trans (unpack_kd (show okKd (gMg (some bs)).1.kd=false by rw [HG.o,gBody_kd];unfold okKd;rw [decide_eq_false_iff_not];have k1:=K1.o;have k2:=K2.o;have k3:=K3.o;have k4:=K4.o;have k5:=K5.o;have k6:=K6.o;have k7:=K7.o;have k8:=K8.o;have k9:=K9.o;have k10:=K10.o;have k11:=K11.o;have k12:=K12.o;have k13:=K13.o;have k14:=K14.o;omega)))
  go_wp2
  refine bodyPost_ret (Bq rfl _ _ w.heap.size ((mg0C 0 0 0)) rfl (fun k u hu=>by rw [kt.out.cell];simpa using hu) B7 rfl aD) rfl ⟨(mg0C 0 0 0),by rw [HUB.o,HEN.o];rfl,by rw [HUY.o,HEN.o];exact mg0_rd A4 A4 A4 _ _,((HMR.o.trans ku.out cT)).mono (fun k h1 h2=>absurd (HNR.o k h2) aM)⟩
 case rest=>
  obtain ⟨wq,rfl⟩:∃ x,x=wc:=⟨_,rfl⟩
  obtain ⟨y,st,cz,he,hb,hrz,hrd,hb2,hkd,hm⟩:=hcut
  have HE:=B5 he
  have HQZ:=B5 hb
  have HRM:=B5 hrz
  have HSZ:=hid (MgR.len hrz)
  have HON:=hid (MgR.one hrz)
  have HRD2:=B5 hrd
  have HB22:=B5 hb2
  have HKD:=B5 hkd
  have HMM:=B5 hm
  have HZO:=hid (MgR.one (mg0_rd (k:=0) (f:=0) (t:=0) A4 A4 A4 (fun _=>False) w))
  obtain ⟨ao9,cap9,hq9⟩:=RrR.b07 hrd
  have HQ9:=hid (show CellsAt R wq (r) 0 [Value.slice ao9 (st.getD []).length cap9] from ⟨RrR.in_ hrd,fun z u hu=>by cases z with|zero=>(cases hu;exact hq9)|succ z=>cases hu⟩)
  clear he hb hrz hrd hb2 hkd hm hq9
  by_cases hn:st=none
  ·have HN:=B5 hn
   clear hn
   go_upto_region 40 with (fail)
   refine Aa 178 [159,160,161,162,163,164,165,166,167,168,169,170,171,172,173,174,175] [0,1,2,3,4,5,6,7,8,9,10,11,12,13,14,15,16] (fun a0 HA0=>?_)
   have c3:=ev HA0 4 rfl
   refine qmo rfl c3 ?_
   refine QSeq.pure rfl (.pointer (some ⟨r,0,none⟩)) (fun E=>ex_nil rfl (E.d 0 0)) ?_
   refine QSeq.pure rfl (.pointer (some ⟨r,1,none⟩)) (fun E=>Ae rfl D6 rfl aD (E.d 1 0)) ?_
   refine QSeq.pure rfl (.bool true) (fun E=>Af rfl E0 rfl (E.d 2 0) ((AJ HRD2.o).trans (by rw [HN.o]))) ?_
   refine qmv rfl 3 0 ?_
   refine AG rfl (fun E=>((Ac rfl rfl (E.sz 163 aF) (E.d 4 0)).trans rfl)) ?_
   refine AG rfl (fun E=>((Ac rfl rfl (E.sz 163 aF) (E.d 4 1)).trans rfl)) ?_
   refine AG rfl (fun E=>((Ac rfl rfl (E.sz 163 aF) (E.d 4 2)).trans rfl)) ?_
   refine AG rfl (fun E=>((Ac rfl rfl (E.sz 163 aF) (E.d 4 3)).trans rfl)) ?_
   refine AG rfl (fun E=>((Ac rfl rfl (E.sz 163 aF) (E.d 4 4)).trans rfl)) ?_
   refine AG rfl (fun E=>((Ac rfl rfl (E.sz 163 aF) (E.d 4 5)).trans rfl)) ?_
   refine QSeq.pure rfl (.bool true) (fun E=>Bg rfl (E.d 4 6) rfl (E.d 10 0)) ?_
   refine qmv rfl 11 0 ?_
   refine AG rfl (fun E=>((Ac rfl rfl (E.sz 171 aF) (E.d 12 0)).trans rfl)) ?_
   refine AG rfl (fun E=>((Ac rfl rfl (E.sz 171 aF) (E.d 12 1)).trans rfl)) ?_
   refine AG rfl (fun E=>((Ac rfl rfl (E.sz 171 aF) (E.d 12 2)).trans rfl)) ?_
   refine QSeq.pure rfl (.bool true) (fun E=>Bg rfl (E.d 12 3) rfl (E.d 15 0)) ?_
   refine qe ?_
   clear HA0 c3 a0
   go_upto_region 41 with (fail)
   refine Aa 178 [176,179,3] [0,1,2] (fun a0 HA0=>?_)
   have d7:=ev HA0 2 rfl
   refine QSeq.pure rfl (.agg ((mg0C 0 0 0):List Value).toArray) (fun E=>ex_build0 rfl (r:=((mg0C 0 0 0):List Value).toArray) aD) ?_
   refine QSeq.go fun act E=>?_
   refine Ah rfl (Ab rfl) rfl HB22.o (off:=0) (vs:=(mg0C 0 0 0)) aD HZO.o eE (E.v d7) (ec (E.d 0 0)) ?_
   intro n5 qc0 hm
   have qB2:=qc0.eqv (b:=((mg0C 0 0 0):List Value).toArray) (Ap _ _ rfl)
   clear qc0
   have kv:=hid qB2
   have fx:=hm.size
   have kw:=hid (show Mod (fun k=>(k=w.heap.size)) wq n5 from hm)
   clear hm
   clear act E qB2 HB22
   refine QSeq.pure rfl (.bool false) (fun E=>Aw rfl rfl) ?_
   refine qe ?_
   clear HA0 d7 a0
   have HEN:=hid (show um=none from HUM.o.trans (unpack_no1 (by rw [HG.o,HE.o.1,HN.o];exact fun h=>by cases h)))
   go_wp2
   refine bodyPost_ret (Bq rfl _ _ w.heap.size ((mg0C 0 0 0)) rfl (fun k u hu=>by rw [kv.out.cell];simpa using hu) B7 rfl aD) rfl ⟨(mg0C 0 0 0),by rw [HUB.o,HEN.o];rfl,by rw [HUY.o,HEN.o];exact mg0_rd A4 A4 A4 _ _,((HMM.o.trans kw.out cT)).mono (fun k h1 h2=>absurd (HNR.o k h2) aM)⟩
  have HN:=B5 hn
  clear hn
  by_cases hl:0 < (st.getD []).length
  ·skip
   go_upto_region 40 with (fail)
   refine Aa 178 [159,160,161,162,163,164,165,166,167,168,169,170,171,172,173,174,175] [0,1,2,3,4,5,6,7,8,9,10,11,12,13,14,15,16] (fun a0 HA0=>?_)
   have c3:=ev HA0 4 rfl
   refine qmo rfl c3 ?_
   refine QSeq.pure rfl (.pointer (some ⟨r,0,none⟩)) (fun E=>ex_nil rfl (E.d 0 0)) ?_
   refine QSeq.pure rfl (.pointer (some ⟨r,1,none⟩)) (fun E=>Ae rfl D6 rfl aD (E.d 1 0)) ?_
   refine QSeq.pure rfl (.bool false) (fun E=>Af rfl E0 rfl (E.d 2 0) ((AJ HRD2.o).trans eO)) ?_
   refine qmv rfl 3 0 ?_
   refine AC rfl (.pointer (some ⟨r,0,none⟩)) (fun E=>((Ac rfl rfl (E.sz 163 aF) (E.d 4 0)).trans rfl)) (fun E=>Al rfl (E.v c3)) ?_
   refine AC rfl (.pointer (some ⟨r,0,none⟩)) (fun E=>((Ac rfl rfl (E.sz 163 aF) (E.d 4 1)).trans rfl)) (fun E=>ex_nil rfl (E.d 5 0)) ?_
   refine AC rfl (.pointer (some ⟨r,0,none⟩)) (fun E=>((Ac rfl rfl (E.sz 163 aF) (E.d 4 2)).trans rfl)) (fun E=>Ae rfl D6 rfl aD (E.d 6 0)) ?_
   refine AC rfl (.slice ao9 ((st.getD []).length) cap9) (fun E=>((Ac rfl rfl (E.sz 163 aF) (E.d 4 3)).trans rfl)) (fun E=>Af rfl D1 rfl (E.d 7 0) (HQ9.o.2 0 _ rfl)) ?_
   refine AC rfl (.int .i64 ((st.getD []).length)) (fun E=>((Ac rfl rfl (E.sz 163 aF) (E.d 4 4)).trans rfl)) (fun E=>Bc rfl (E.d 8 0) D1) ?_
   refine AC rfl (.bool true) (fun E=>((Ac rfl rfl (E.sz 163 aF) (E.d 4 5)).trans rfl)) (fun E=>Am rfl (E.d 9 0) rfl (Ag _ _ _ _ _ _) (run_gtr_i _ _ _ B6) (congrArg Value.bool (decide_eq_true (show (0:Int) < (((st.getD []).length:Nat):Int) by omega)))) ?_
   refine QSeq.pure rfl (.bool true) (fun E=>Bg rfl (E.d 4 6) rfl (E.d 10 0)) ?_
   refine qmv rfl 11 0 ?_
   refine AG rfl (fun E=>((Ac rfl rfl (E.sz 171 aF) (E.d 12 0)).trans rfl)) ?_
   refine AG rfl (fun E=>((Ac rfl rfl (E.sz 171 aF) (E.d 12 1)).trans rfl)) ?_
   refine AG rfl (fun E=>((Ac rfl rfl (E.sz 171 aF) (E.d 12 2)).trans rfl)) ?_
   refine QSeq.pure rfl (.bool true) (fun E=>Bg rfl (E.d 12 3) rfl (E.d 15 0)) ?_
   refine qe ?_
   clear HA0 c3 a0
   go_upto_region 41 with (fail)
   refine Aa 178 [176,179,3] [0,1,2] (fun a0 HA0=>?_)
   have d7:=ev HA0 2 rfl
   refine QSeq.pure rfl (.agg ((mg0C 0 0 0):List Value).toArray) (fun E=>ex_build0 rfl (r:=((mg0C 0 0 0):List Value).toArray) aD) ?_
   refine QSeq.go fun act E=>?_
   refine Ah rfl (Ab rfl) rfl HB22.o (off:=0) (vs:=(mg0C 0 0 0)) aD HZO.o eE (E.v d7) (ec (E.d 0 0)) ?_
   intro n5 qc0 hm
   have qB2:=qc0.eqv (b:=((mg0C 0 0 0):List Value).toArray) (Ap _ _ rfl)
   clear qc0
   have kx:=hid qB2
   have fx:=hm.size
   have ky:=hid (show Mod (fun k=>(k=w.heap.size)) wq n5 from hm)
   clear hm
   clear act E qB2 HB22
   refine QSeq.pure rfl (.bool false) (fun E=>Aw rfl rfl) ?_
   refine qe ?_
   clear HA0 d7 a0
   have HEN:=hid (show um=none from HUM.o.trans (unpack_no1 (by rw [HG.o,HE.o.1];intro h;rw [h] at hl;exact absurd hl bD)))
   go_wp2
   refine bodyPost_ret (Bq rfl _ _ w.heap.size ((mg0C 0 0 0)) rfl (fun k u hu=>by rw [kx.out.cell];simpa using hu) B7 rfl aD) rfl ⟨(mg0C 0 0 0),by rw [HUB.o,HEN.o];rfl,by rw [HUY.o,HEN.o];exact mg0_rd A4 A4 A4 _ _,((HMM.o.trans ky.out cT)).mono (fun k h1 h2=>absurd (HNR.o k h2) aM)⟩
  have hl0:(st.getD []).length=0:=by omega
  have HS9:=hid (show st=some [] by cases st with|none=>exact absurd rfl HN.o|some l=>exact congrArg some (List.eq_nil_of_length_eq_zero hl0))
  have HGA:=hid (show packB (gMg (some bs)).1=bs∧MgOk (gMg (some bs)).1 from gMg_all HBB.o (by rw [HG.o,HE.o.1,HS9.o]))
  have HYY:=hid (show (gMg (some bs)).1=y by rw [HG.o];exact HE.o.2 HN.o)
  have HKY:=hid (show okKd (gMg (some bs)).1.kd=true by rw [HG.o,gBody_kd];exact HKD.o)
  by_cases hn:65536 < bs.length
  ·skip
   go_upto_region 40 with (fail)
   refine Aa 178 [159,160,161,162,163,164,165,166,167,168,169,170,171,172,173,174,175] [0,1,2,3,4,5,6,7,8,9,10,11,12,13,14,15,16] (fun a0 HA0=>?_)
   have d9:=ev HA0 0 rfl
   have c3:=ev HA0 4 rfl
   refine qmo rfl c3 ?_
   refine QSeq.pure rfl (.pointer (some ⟨r,0,none⟩)) (fun E=>ex_nil rfl (E.d 0 0)) ?_
   refine QSeq.pure rfl (.pointer (some ⟨r,1,none⟩)) (fun E=>Ae rfl D6 rfl aD (E.d 1 0)) ?_
   refine QSeq.pure rfl (.bool false) (fun E=>Af rfl E0 rfl (E.d 2 0) ((AJ HRD2.o).trans eO)) ?_
   refine qmv rfl 3 0 ?_
   refine AC rfl (.pointer (some ⟨r,0,none⟩)) (fun E=>((Ac rfl rfl (E.sz 163 aF) (E.d 4 0)).trans rfl)) (fun E=>Al rfl (E.v c3)) ?_
   refine AC rfl (.pointer (some ⟨r,0,none⟩)) (fun E=>((Ac rfl rfl (E.sz 163 aF) (E.d 4 1)).trans rfl)) (fun E=>ex_nil rfl (E.d 5 0)) ?_
   refine AC rfl (.pointer (some ⟨r,0,none⟩)) (fun E=>((Ac rfl rfl (E.sz 163 aF) (E.d 4 2)).trans rfl)) (fun E=>Ae rfl D6 rfl aD (E.d 6 0)) ?_
   refine AC rfl (.slice ao9 ((st.getD []).length) cap9) (fun E=>((Ac rfl rfl (E.sz 163 aF) (E.d 4 3)).trans rfl)) (fun E=>Af rfl D1 rfl (E.d 7 0) (HQ9.o.2 0 _ rfl)) ?_
   refine AC rfl (.int .i64 ((st.getD []).length)) (fun E=>((Ac rfl rfl (E.sz 163 aF) (E.d 4 4)).trans rfl)) (fun E=>Bc rfl (E.d 8 0) D1) ?_
   refine AC rfl (.bool false) (fun E=>((Ac rfl rfl (E.sz 163 aF) (E.d 4 5)).trans rfl)) (fun E=>Am rfl (E.d 9 0) rfl (Ag _ _ _ _ _ _) (run_gtr_i _ _ _ B6) (congrArg Value.bool (decide_eq_false (show ¬ (0:Int) < (((st.getD []).length:Nat):Int) by omega)))) ?_
   refine QSeq.pure rfl (.bool false) (fun E=>Bg rfl (E.d 4 6) rfl (E.d 10 0)) ?_
   refine qmv rfl 11 0 ?_
   refine AC rfl (.slice ao bs.length cap) (fun E=>((Ac rfl rfl (E.sz 171 aF) (E.d 12 0)).trans rfl)) (fun E=>Al rfl (E.v d9)) ?_
   refine AC rfl (.int .i64 bs.length) (fun E=>((Ac rfl rfl (E.sz 171 aF) (E.d 12 1)).trans rfl)) (fun E=>Bc rfl (E.d 13 0) D1) ?_
   refine AC rfl (.bool true) (fun E=>((Ac rfl rfl (E.sz 171 aF) (E.d 12 2)).trans rfl)) (fun E=>Am rfl (E.d 14 0) rfl (Ag _ _ _ _ _ _) (run_gtr_i _ _ _ B6) (congrArg Value.bool (decide_eq_true aM))) ?_
   refine QSeq.pure rfl (.bool true) (fun E=>Bg rfl (E.d 12 3) rfl (E.d 15 0)) ?_
   refine qe ?_
   clear HA0 d9 c3 a0
   go_upto_region 41 with (fail)
   refine Aa 178 [176,179,3] [0,1,2] (fun a0 HA0=>?_)
   have d7:=ev HA0 2 rfl
   refine QSeq.pure rfl (.agg ((mg0C 0 0 0):List Value).toArray) (fun E=>ex_build0 rfl (r:=((mg0C 0 0 0):List Value).toArray) aD) ?_
   refine QSeq.go fun act E=>?_
   refine Ah rfl (Ab rfl) rfl HB22.o (off:=0) (vs:=(mg0C 0 0 0)) aD HZO.o eE (E.v d7) (ec (E.d 0 0)) ?_
   intro n5 qc0 hm
   have qB2:=qc0.eqv (b:=((mg0C 0 0 0):List Value).toArray) (Ap _ _ rfl)
   clear qc0
   have kz:=hid qB2
   have fx:=hm.size
   have lc:=hid (show Mod (fun k=>(k=w.heap.size)) wq n5 from hm)
   clear hm
   clear act E qB2 HB22
   refine QSeq.pure rfl (.bool false) (fun E=>Aw rfl rfl) ?_
   refine qe ?_
   clear HA0 d7 a0
   have HEN:=hid (show um=none from HUM.o.trans (unpack_no2 (by unfold packs;rw [HGA.o.1,HKY.o,Bool.true_and,decide_eq_false_iff_not];omega)))
   go_wp2
   refine bodyPost_ret (Bq rfl _ _ w.heap.size ((mg0C 0 0 0)) rfl (fun k u hu=>by rw [kz.out.cell];simpa using hu) B7 rfl aD) rfl ⟨(mg0C 0 0 0),by rw [HUB.o,HEN.o];rfl,by rw [HUY.o,HEN.o];exact mg0_rd A4 A4 A4 _ _,((HMM.o.trans lc.out cT)).mono (fun k h1 h2=>absurd (HNR.o k h2) aM)⟩
  go_upto_region 40 with (fail)
  refine Aa 178 [159,160,161,162,163,164,165,166,167,168,169,170,171,172,173,174,175] [0,1,2,3,4,5,6,7,8,9,10,11,12,13,14,15,16] (fun a0 HA0=>?_)
  have d9:=ev HA0 0 rfl
  have c3:=ev HA0 4 rfl
  refine qmo rfl c3 ?_
  refine QSeq.pure rfl (.pointer (some ⟨r,0,none⟩)) (fun E=>ex_nil rfl (E.d 0 0)) ?_
  refine QSeq.pure rfl (.pointer (some ⟨r,1,none⟩)) (fun E=>Ae rfl D6 rfl aD (E.d 1 0)) ?_
  refine QSeq.pure rfl (.bool false) (fun E=>Af rfl E0 rfl (E.d 2 0) ((AJ HRD2.o).trans eO)) ?_
  refine qmv rfl 3 0 ?_
  refine AC rfl (.pointer (some ⟨r,0,none⟩)) (fun E=>((Ac rfl rfl (E.sz 163 aF) (E.d 4 0)).trans rfl)) (fun E=>Al rfl (E.v c3)) ?_
  refine AC rfl (.pointer (some ⟨r,0,none⟩)) (fun E=>((Ac rfl rfl (E.sz 163 aF) (E.d 4 1)).trans rfl)) (fun E=>ex_nil rfl (E.d 5 0)) ?_
  refine AC rfl (.pointer (some ⟨r,0,none⟩)) (fun E=>((Ac rfl rfl (E.sz 163 aF) (E.d 4 2)).trans rfl)) (fun E=>Ae rfl D6 rfl aD (E.d 6 0)) ?_
  refine AC rfl (.slice ao9 ((st.getD []).length) cap9) (fun E=>((Ac rfl rfl (E.sz 163 aF) (E.d 4 3)).trans rfl)) (fun E=>Af rfl D1 rfl (E.d 7 0) (HQ9.o.2 0 _ rfl)) ?_
  refine AC rfl (.int .i64 ((st.getD []).length)) (fun E=>((Ac rfl rfl (E.sz 163 aF) (E.d 4 4)).trans rfl)) (fun E=>Bc rfl (E.d 8 0) D1) ?_
  refine AC rfl (.bool false) (fun E=>((Ac rfl rfl (E.sz 163 aF) (E.d 4 5)).trans rfl)) (fun E=>Am rfl (E.d 9 0) rfl (Ag _ _ _ _ _ _) (run_gtr_i _ _ _ B6) (congrArg Value.bool (decide_eq_false (show ¬ (0:Int) < (((st.getD []).length:Nat):Int) by omega)))) ?_
  refine QSeq.pure rfl (.bool false) (fun E=>Bg rfl (E.d 4 6) rfl (E.d 10 0)) ?_
  refine qmv rfl 11 0 ?_
  refine AC rfl (.slice ao bs.length cap) (fun E=>((Ac rfl rfl (E.sz 171 aF) (E.d 12 0)).trans rfl)) (fun E=>Al rfl (E.v d9)) ?_
  refine AC rfl (.int .i64 bs.length) (fun E=>((Ac rfl rfl (E.sz 171 aF) (E.d 12 1)).trans rfl)) (fun E=>Bc rfl (E.d 13 0) D1) ?_
  refine AC rfl (.bool false) (fun E=>((Ac rfl rfl (E.sz 171 aF) (E.d 12 2)).trans rfl)) (fun E=>Am rfl (E.d 14 0) rfl (Ag _ _ _ _ _ _) (run_gtr_i _ _ _ B6) (congrArg Value.bool (decide_eq_false aM))) ?_
  refine QSeq.pure rfl (.bool false) (fun E=>Bg rfl (E.d 12 3) rfl (E.d 15 0)) ?_
  refine qe ?_
  clear HA0 d9 c3 a0
  go_upto_region 42 with (fail)
  refine Aa 178 [177,179,3] [0,1,2] (fun a0 HA0=>?_)
  have d7:=ev HA0 2 rfl
  have c4:=ev HA0 5 rfl
  refine QSeq.pure rfl _ (fun E=>Aj rfl B7 rfl (off:=0) (cs:=cz) bX (E.v c4) (Cs.whole HQZ.o)) ?_
  refine QSeq.go fun act E=>?_
  refine Ah rfl (Ab rfl) rfl HB22.o (off:=0) (vs:=cz) bX HON.o dQ (E.v d7) (ec (E.d 0 0)) ?_
  intro ld qc0 hm
  have qB2:=qc0.eqv (b:=(cz:List Value).toArray) (Ap _ _ gD)
  clear qc0
  have le:=hid qB2
  have qj:=hm.size
  have fy:=hid (show Mod (fun k=>(k=w.heap.size)) wq ld from hm)
  clear hm
  clear act E qB2 HB22
  refine QSeq.pure rfl (.bool true) (fun E=>Aw rfl rfl) ?_
  refine qe ?_
  clear HA0 d7 c4 a0
  have HEY:=hid (show um=some y from HUM.o.trans (by rw [unpack_yes (by rw [HG.o,HE.o.1,HS9.o]) (by unfold packs;rw [HGA.o.1,HKY.o,Bool.true_and,decide_eq_true_eq];omega),HYY.o]))
  go_wp2
  refine bodyPost_ret (Bq rfl _ _ w.heap.size (cz) rfl (fun k u hu=>by rw [le.out.cell];simpa using hu) B7 rfl bX) rfl ⟨cz,by rw [HUB.o,HEY.o];rfl,by rw [HUY.o,HEY.o];exact (HRM.o.mod fy.out aE).widen bF,((HMM.o.trans fy.out cT)).mono (fun k h1 h2=>absurd (HNR.o k h2) aM)⟩
theorem cp_zBa:cpBa zBa:=⟨⟨Nat.zero_le _,fun y hy=>by cases hy⟩,⟨Nat.zero_le _,fun y hy=>by cases hy⟩,⟨Nat.zero_le _,fun y hy=>by cases hy⟩⟩
theorem cp_zMg0 (k f t:Int):cpMg (mg0 k f t):=⟨Nat.zero_le _,⟨Nat.zero_le _,fun y hy=>by cases hy⟩,Nat.zero_le _,cp_zBa,cp_zBa,Nat.zero_le _⟩
theorem cp_ceOk {x:Ce} (h:CeOk x):cpCe x:=by have:=h.2.1;unfold cpCe;omega
theorem cp_pmOk {x:Pm} (h:PmOk x):cpPm x:=⟨by have:=h.2.2.2.1.1;omega,fun y hy=>cp_ceOk (h.2.2.2.1.2 y hy)⟩
theorem cp_opOk {x:Op} (h:OpOk x):cpOp x:=by have:=h.2.1;unfold cpOp;omega
theorem cp_baOk {x:Ba} (h:BaOk x):cpBa x:=⟨⟨by have:=h.2.2.1.1;omega,fun y hy=>cp_pmOk (h.2.2.1.2 y hy)⟩,⟨by have:=h.2.2.2.1.1;omega,fun y hy=>cp_opOk (h.2.2.2.1.2 y hy)⟩,⟨by have:=h.2.2.2.2.1;omega,fun y hy=>by have:=((h.2.2.2.2.2 y hy).2.1);unfold cpTb;omega⟩⟩
theorem ite_imp {c:Prop} [Decidable c] {A B:Prop} {a b:Mg} {P:Mg→Prop} (h1:A→P a) (h2:B→P b):(if c then A else B)→P (if c then a else b):=by
 by_cases h:c
 ·rw [if_pos h,if_pos h];exact h1
 ·rw [if_neg h,if_neg h];exact h2
theorem cp_body {x:Mg}:Bu x→cpMg (B4 x):=by
 have z:=cp_zMg0 x.kd x.fr x.to
 obtain ⟨z1,z2,z3,z4,z5,z6⟩:=z
 unfold Bu B4
 refine ite_imp (fun _=>⟨z1,z2,z3,z4,z5,z6⟩) <| ite_imp (fun _=>⟨z1,z2,z3,z4,z5,z6⟩) <| ite_imp (fun h=>⟨cp_ceOk h,z2,z3,z4,z5,z6⟩) <| ite_imp (fun _=>⟨z1,z2,z3,z4,z5,z6⟩) <| ite_imp (fun _=>⟨z1,z2,z3,z4,z5,z6⟩) <| ite_imp (fun h=>⟨z1,cp_pmOk h,z3,z4,z5,z6⟩) <| ite_imp (fun h=>⟨z1,z2,z3,cp_baOk h.2.2.2.2.1,z5,z6⟩) <| ite_imp (fun _=>⟨z1,z2,z3,z4,z5,z6⟩) <| ite_imp (fun _=>⟨z1,z2,z3,z4,z5,z6⟩) <| ite_imp (fun h=>⟨z1,z2,cp_opOk h,z4,z5,z6⟩) <| ite_imp (fun _=>⟨z1,z2,z3,z4,z5,z6⟩) <| ite_imp (fun _=>⟨z1,z2,z3,z4,z5,z6⟩) <| ite_imp (fun _=>⟨z1,z2,z3,z4,z5,z6⟩) <| ite_imp (fun h=>⟨z1,z2,z3,z4,cp_baOk h.2.2.1,by have:=h.2.2.2.1;show x.dc.l.length≤1000;omega⟩) (fun _=>cp_zMg0 0 0 0)
theorem packs_kd {x:Mg} (h:packs x=true):okKd x.kd=true:=by unfold packs at h;rw [Bool.and_eq_true] at h;exact h.1
/-- what was unpacked -/
theorem unp_some {bs:List Int} {x:Mg} (hb:Bytes bs) (h:unpackB bs=some x):packB x=bs∧MgOk x∧packs x=true∧B4 x=x∧cpMg x:=by
 have h2:(gMg (some bs)).2=some []∧packs (gMg (some bs)).1=true:=by
  by_cases hc:(gMg (some bs)).2=some []∧packs (gMg (some bs)).1=true
  ·exact hc
  ·unfold unpackB at h;rw [if_neg hc] at h;cases h
 have h3:(gMg (some bs)).1=x:=by unfold unpackB at h;rw [if_pos h2] at h;exact Option.some.inj h
 obtain ⟨h4,h5⟩:=gMg_all hb h2.1
 rw [h3] at h4 h5 h2
 have h6:=gMg_ed (r:=[]) h5 (packs_kd h2.2)
 rw [List.append_nil,h4] at h6
 have h7:B4 x=x:=(congrArg Prod.fst h6).symm.trans h3
 exact ⟨h4,h5,h2.2,h7,h7▸cp_body h5.2.2.2⟩
theorem unp_none {bs:List Int} {s:RSt} {x:Mg} (h:gMg (some bs)=(x,s)) (hs:s≠some []):unpackB bs=none:=unpack_no1 (by rw [h];exact hs)
theorem unp_more {bs:List Int} {x:Mg} {z:Int} (hb:Bytes bs) (h:unpackB bs=some x):unpackB (bs ++ [z])=none:=by
 obtain ⟨h4,h5,h6,-,-⟩:=unp_some hb h
 have h7:=gMg_ed (r:=[z]) h5 (packs_kd h6)
 rw [h4] at h7
 exact unp_none h7 bD
theorem unp_less {l:List Int} {x:Mg} {z:Int} (hb:Bytes (l ++ [z])) (h:unpackB (l ++ [z])=some x):unpackB l=none:=by
 cases hu:unpackB l with
 | none=>rfl
 | some y=>
  obtain ⟨h4,h5,h6,-,-⟩:=unp_some (fun q hq=>hb q (List.mem_append_left _ hq)) hu
  have h7:=gMg_ed (r:=[z]) h5 (packs_kd h6)
  rw [h4] at h7
  rw [unp_none h7 bD] at h
  cases h
theorem unp_take {bs:List Int} {x:Mg} {i:Nat} (hb:Bytes bs) (h:unpackB bs=some x) (hi:bs.length=i+1):unpackB (bs.take i)=none:=by
 have e:bs=bs.take i ++ [bs[i]]:=by
  conv=>lhs;rw [← List.take_length (l:=bs),hi]
  exact List.take_succ_eq_append_getElem aM
 rw [e] at hb h
 exact unp_less hb h
structure DS where
 b:List Int
 sy:Nat
 fu:Nat
 lit:Bool
 dead:Bool
section
variable {R R' S:Nat→Prop} {N M:Nat} {w w':World} {p:Nat} {s s':DS} {v:Value}
end
section
variable {R R':Nat→Prop} {N M p:Nat} {s:DS} {w:World}
end
section
variable {R R':Nat→Prop} {N M p:Nat} {s:DS} {w:World}
end
section
variable {R R':Nat→Prop} {N M p:Nat} {s:DS} {w:World}
end
section
variable {R R':Nat→Prop} {N M p:Nat} {s:DS} {w:World}
end
def encR (b:List Int):List Int:=encN b.length ++ b
def rowsE (rs:List (List Int)):List Int:=rs.flatMap encR
@[simp] theorem rowsE_nil:rowsE []=[]:=rfl
/-- nothing whole begins here -/
def Stuck (l:List Int):Prop:=l=[]∨(rRow 65536 (some l)).2=none
def Fit (rs:List (List Int)):Prop:=∀ b ∈ rs,b.length≤65536
def Parse (bs:List Int) (rs:List (List Int)):Prop:=Fit rs∧∃ rest,bs=rowsE rs ++ rest∧Stuck rest
theorem Fit.nil:Fit []:=fun b h=>by cases h
theorem Parse.whole {rs:List (List Int)} (h:Fit rs):Parse (rowsE rs) rs:=⟨h,[],by simp,.inl rfl⟩
theorem Parse.pre {bs:List Int} {rs:List (List Int)} (h:Parse bs rs):rowsE rs=bs.take (rowsE rs).length∧(rowsE rs).length≤bs.length:=by
 obtain ⟨_,rest,e,_⟩:=h
 subst e
 exact ⟨by rw [List.take_append_of_le_length (B9 _),List.take_length],by simp⟩
/-! ### what is read was written so -/
theorem RdR_keepW {R:Nat→Prop} {N:Nat} {w w':World} {v:Value} {bs:List Int} (h:RdR R N w v bs) (hk:∀ p u,R p.block→w.cell? p=some u→w'.cell? p=some u):RdR R N w' v bs:=
 ⟨⟨h.1.1,h.1.2.keepc fun h0 g hg p u hp hc=>hk p u (hp▸h.2.1 h0 g hg) hc⟩,h.2⟩
theorem RdR_tightW {R:Nat→Prop} {N:Nat} {w:World} {v:Value} {bs:List Int} (h:RdR R N w v bs):RdR (fun k=>R k∧k < w.heap.size) N w v bs:=
 ⟨h.1,fun h0 g hg=>⟨h.2.1 h0 g hg,h.1.2.lt aF h0 hg⟩,h.2.2⟩
/-- a row of bytes -/
def RwR:Rep (List Int) where
 sz:=1
 pos:=by decide
 rd R w cs b:=∃ v,cs=[v]∧RdR R 100000 w v b
 len h:=by obtain ⟨v,rfl,_⟩:=h;rfl
 one h:=by
  obtain ⟨v,rfl,h0⟩:=h
  obtain ⟨_,_,e⟩:=h0.shape
  subst e
  intro u hu
  simp only [D9,D4,or_false] at hu
  subst hu;rfl
 keep h hk:=by obtain ⟨v,rfl,h0⟩:=h;exact ⟨v,rfl,RdR_keepW h0 hk⟩
 wid h hs:=by obtain ⟨v,rfl,h0⟩:=h;exact ⟨v,rfl,h0.widen hs (B9 _)⟩
 tight h:=by obtain ⟨v,rfl,h0⟩:=h;exact ⟨v,rfl,RdR_tightW h0⟩
theorem RwR.mk {R:Nat→Prop} {N:Nat} {w:World} {v:Value} {b:List Int} (h:RdR R N w v b) (hN:b.length≤100000):RwR.rd R w [v] b:=⟨v,rfl,h.1,h.2.1,hN⟩
/-- its first things, as a slice that may be appended to; with all that is behind them cut off -/
theorem OwS.upto {α:Type} {A:Rep α} {e:TypeId} {R E:Nat→Prop} {w:World} {ao:Option Addr} {n cap:Nat} {l:List α} (h:OwS A e R E w (.slice ao n cap) l) (k c:Nat) (hk:k≤l.length) (hc:c=cap∨c=k):OwS A e R E w (.slice ao k c) (l.take k):=by
 obtain ⟨css,h1,h2,h3,h4⟩:=h
 have hcl:∀ cs ∈ css,cs.length=A.sz:=css_len h1 h2 (fun cs a h=>A.len h)
 have el:(l.take k).length=k:=by simp;omega
 have ef:(css.take k).flatten=css.flatten.take (k * A.sz):=by
  have h5:css.flatten=(css.take k).flatten ++ (css.drop k).flatten:=by rw [← List.flatten_append,List.take_append_drop]
  have h6:(css.take k).flatten.length=k * A.sz:=by rw [flat_len (fun x hx=>hcl x (List.mem_of_mem_take hx))];congr 1;simp;omega
  rw [h5,← h6,List.take_left]
 have hb:∀ g,(Value.slice ao k c).ownBlock=some g→(Value.slice ao n cap).ownBlock=some g:=fun g hg=>by cases ao<;>exact hg
 have hb2:∀ g,(Value.slice ao n cap).ownBlock≠some g→(Value.slice ao k c).ownBlock≠some g:=fun g hg he=>hg (hb g he)
 refine ⟨css.take k,by simp;omega,fun i cs a hi ha=>?_,?_,fun g hg=>h4 g (hb g hg)⟩
 ·rw [List.getElem?_take] at hi ha
  split at hi
  ·rename_i hik
   rw [if_pos hik] at ha
   exact A.wid (h2 i cs a hi ha) (fun q hq=>⟨hq.1,hb2 q hq.2⟩)
  ·cases hi
 ·rw [el,ef]
  obtain ⟨hl,hE,⟨hv,hn⟩|⟨g,cap',cur,hv,hg,q1,q2,q3,q4,q5⟩⟩:=h3
  ·simp only [Value.slice.injEq] at hv
   obtain ⟨rfl,rfl,rfl⟩:=hv
   obtain rfl:k=0:=by omega
   obtain rfl:c=0:=by omega
   exact ⟨by simp,(fun u hu=>by simp at hu),.inl ⟨rfl,rfl⟩⟩
  ·simp only [Value.slice.injEq] at hv
   obtain ⟨rfl,rfl,rfl⟩:=hv
   have hkm:k * A.sz≤l.length * A.sz:=Nat.mul_le_mul_right _ hk
   have hcm:c * A.sz≤cap * A.sz:=Nat.mul_le_mul_right _ aM
   refine ⟨by rw [List.length_take];omega,fun u hu=>hE u (List.mem_of_mem_take hu),.inr ⟨g,c,cur,rfl,hg,by omega,by omega,by omega,?_,q5⟩⟩
   rw [← q4,List.take_take,Nat.min_eq_left hkm]
theorem OwS.lt {α:Type} {A:Rep α} {e:TypeId} {R E:Nat→Prop} {w:World} {v:Value} {l:List α} (h:OwS A e R E w v l) {g:Nat} (hg:v.ownBlock=some g):g < w.heap.size:=by
 obtain ⟨_,_,_,h3,_⟩:=h
 exact Own.lt h3 hg
section
variable {R R' S:Nat→Prop} {w w':World} {x p:Nat} {rs:List (List Int)}
end
section
variable {R R':Nat→Prop} {N M p:Nat} {b:List Int} {sy fu:Nat} {lit dead:Bool} {w:World}
end
section
variable {R:Nat→Prop} {r:Nat} {w:World} {l b rest:List Int}
end
section
variable {R R':Nat→Prop} {N p:Nat} {s:DS} {w:World}
end
theorem own_lit {w:World} {g:Nat} {bs:List Int} (hc:Cs w g (bs.map bv).toArray 5) (hb:Bytes bs) (hl:bs.length≤maxLen):OwnB w (.slice (some ⟨g,0,none⟩) bs.length bs.length) bs:=by
 refine ⟨by simp,?_,.inr ⟨g,bs.length,_,rfl,hc,B9 _,hl,by simp,by rw [Nat.mul_one];exact List.take_of_length_le bD,?_⟩⟩
 ·intro u hu
  obtain ⟨y,hy,rfl⟩:=List.mem_map.1 hu
  exact ⟨y,rfl,hb y hy⟩
 ·intro u hu
  obtain ⟨y,hy,rfl⟩:=List.mem_map.1 (by simpa using hu)
  exact ⟨y,rfl,hb y hy⟩
theorem own_litR {w w':World} {C:Array Value} {bs:List Int} {n N:Nat} (hc:Cs w' w.heap.size C 5) (hC:C=(bs.map bv).toArray) (hb:Bytes bs) (hn:n=bs.length) (hN:n≤1000000∧n≤N) (hm:Mod (fun _=>False) w w'):OwR (New w w') N w' (.slice (some ⟨w.heap.size,0,none⟩) n n) bs:=by
 subst hC hn
 exact ⟨own_lit hc hb eB,(fun g hg=>by
  obtain rfl:w.heap.size=g:=by simpa [Value.ownBlock] using hg
  exact ⟨B9 _,hc.lt⟩),hN.2⟩
section
variable {ops:Array Oper} {i:Nat} {o:Oper} {a:Act} {w:World}
theorem qc_bytes {KQ:Value→World→Prop} {ts T8:TypeId} {n:Nat} {parts:Array (Nat × Operand)} (ho:ops[i]? = some o) (hw:Region.wanted o (yielded ops a.tmps)=true) (hop:o.op=.buildSlice ts n parts) (hu:Tryz.prog.underlying ts=some (.slice T8)) (hie:(Tryz.prog.info? T8).map (fun i=>(i.size,i.zero))=some (1,some (.int .u8 0))) (hn:n≠0∧n≤1000) {C:Array Value}
 (hf:Instr.fill (fun i=>some (i * 1,1)) ((Array.range (n * 1)).map (#[Value.int .u8 0][· % 1]!)) (parts.map fun (i,x)=>(i,a.eval x)).toList=some C)
 (h:∀ w',Cs w' w.heap.size C T8→Mod (fun _=>False) w w'→KQ (.slice (some ⟨w.heap.size,0,none⟩) n n) w') {Q:Exit→Act→World→Prop}:wpOp Tryz.prog ops Q i (fun a' w'=>∃ v,a'=a.put o.dst v∧KQ v w') a w:=
 Br ho hw (ex_lit hop hu hie hn hf) (h _ (Cs.new _ _ _) ((Mod.refl _ _).alloc _))
end
theorem callsU {F:FuncId} {args:Array Value} {w:World} {bs:List Int} {um:Option Mg} {b:Bool} {y:Mg} (h:unpackB bs=um) (hb:um.isSome=b) (hy:um.getD zMg=y)
 (hc:Calls Tryz.prog F args w fun e w'=>∃ cs,e=.returned (.tuple #[.agg cs.toArray,.bool (unpackB bs).isSome])∧MgR.rd (New w w') w' cs ((unpackB bs).getD zMg)∧Mod (fun _=>False) w w') :
 Calls Tryz.prog F args w fun e w'=>∃ cs,e=.returned (.tuple #[.agg cs.toArray,.bool b])∧MgR.rd (New w w') w' cs y∧Mod (fun _=>False) w w':=by
 subst h hb hy
 exact hc
theorem MgR.kd0 {R:Nat→Prop} {w:World} {cs:List Value} {x:Mg} (h:MgR.rd R w cs x):cs[0]? = some (.int .i64 x.kd):=by
 obtain ⟨c5,c10,c11,c15,c18,rfl,-⟩:=h
 rfl
theorem callsPQ {P:Program} {F:FuncId} {args:Array Value} {w:World} {b c:Bool} {l m:List Int} (h:c=b) (hl:m=l) (hc:Calls P F args w fun e w'=>∃ v,e=.returned (.tuple #[v,.bool b])∧OwR (New w w') 900000 w' v l∧Mod (fun _=>False) w w'):Calls P F args w fun e w'=>∃ v,e=.returned (.tuple #[v,.bool c])∧OwR (New w w') 900000 w' v m∧Mod (fun _=>False) w w':=by
 subst h hl
 exact hc
set_option maxHeartbeats 8000000 in
theorem LBack_any (R2:Nat→Prop) (a:Mg) (ca:List Value) (w:World) (ha:MgR.rd R2 w ca a) (hB2:∀ k,R2 k→k < w.heap.size) :
 Calls Tryz.prog 5 #[.agg ca.toArray] w fun e w'=>e=.returned (.bool true)∧Mod (fun _=>False) w w':=by
 have HA:=B5 ha
 have HCA:=hid (show ca.length=295 from MgR.len ha)
 have HBT:=B5 hB2
 clear ha hB2
 go_enter Tryz.func5,Tryz.ntmps5
 go_upto_region 1 with (fail)
 obtain ⟨w1,hw1⟩:∃ zz,zz=(w.alloc (.cells (ca:List Value).toArray 61)):=⟨_,rfl⟩
 change Code.wp _ _ _ _ (w.alloc (.cells (ca:List Value).toArray 61))
 rw [← hw1]
 have HB1:=hid (show Cs w1 (w.heap.size) (ca:List Value).toArray 61 by rw [hw1];exact Cs.new _ _ _)
 have hm:Mod (fun _=>False) w w1:=by rw [hw1];exact (Mod.refl _ _).alloc _
 have HM0:=hid (show Mod (fun _=>False) w w1 from hm.mono (fun _ _ h=>h.elim))
 have hs1:w1.heap.size=w.heap.size+1:=by rw [hw1];simp
 have m9:=hid (HA.o.mod hm (fun _ _ h=>h))
 clear HA
 clear hw1 hm
 obtain ⟨m,hm0⟩:∃ z,z=smallM a:=⟨_,rfl⟩
 have HS0:=B5 hm0
 clear hm0
 go_upto_region 1 with (fail)
 refine Aa 103 [15,16,105] [0,1,2] (fun a0 HA0=>?_)
 have c4:=ev HA0 1 rfl
 refine QSeq.pure rfl _ (fun E=>Aj rfl B7 rfl (off:=0) (cs:=ca) (by rw [HCA.o];kernel_rfl) (E.v c4) (Cs.whole HB1.o)) ?_
 refine QSeq.call rfl rfl Tryz.func7 (HS0.o.symm▸Small_c R2 a _ _ m9.out aR) (fun E=>A0 (E.d 0 0)) ?_
 rintro e n5 ⟨cp,rfl,qa,hm⟩
 have HNm:=hid (show cp.length=295 from MgR.len qa)
 have HWm:=hid (MgR.one qa)
 refine ⟨_,rfl,?_⟩
 have n6:=hid (qa.widen (R':=(fun k=>(R2 k)∨(New w1 n5 k))) (fun _ h=>h))
 have av:=hm.size
 have j5:=hid (show Mod (fun _=>False) w1 n5 from hm)
 clear hm
 clear qa m9
 refine QSeq.go fun act E=>?_
 refine Ah rfl (Ab rfl) rfl (HB1.o.mod j5.out (fun h=>h)) (off:=0) (vs:=cp) (by rw [HNm.o];kernel_rfl) HWm.o (by rw [C3,HNm.o,HCA.o];decide) (E.v c4) (ec (E.d 1 0)) ?_
 intro n7 qc0 hm
 have qB1:=qc0.eqv (b:=(cp:List Value).toArray) (Ap _ _ (by rw [C3,HNm.o,HCA.o]))
 clear qc0
 have d5:=hid qB1
 have aw:=hm.size
 have n8:=hid hm
 have g7:=hid (AB (S':=(fun k=>(k=w.heap.size))) j5.out hm (fun _ h=>h.elim) aQ)
 clear hm j5
 clear act E qB1 HB1
 have g8:=hid (n6.out.mod n8.out aB)
 clear n6 n8
 refine qe ?_
 clear HA0 c4 a0
 have HLE:=hid (show (packB m).length≤30000 by have h:=g8.out;rw [HS0.o] at h ⊢; exact small_len (k:=(smallM a).kd) h)
 have HK0:=hid (MgR.kd0 g8.out)
 by_cases hk:okKd m.kd=true
 ·have HK:=B5 hk
  clear hk
  have HPM:=hid (packs_of_len HK.o HLE.o)
  obtain ⟨bb,hbb⟩:∃ z,z=packB m:=⟨_,rfl⟩
  have HBB:=B5 hbb
  clear hbb
  go_upto_region 2 with (fail)
  refine Aa 103 [18,19,17,20,21,3,4] [0,1,2,3,4,5,6] (fun a0 HA0=>?_)
  have c4:=ev HA0 1 rfl
  refine QSeq.pure rfl _ (fun E=>Aj rfl B7 rfl (off:=0) (cs:=cp) (by rw [HNm.o];kernel_rfl) (E.v c4) (Cs.whole d5.out)) ?_
  refine QSeq.call rfl rfl Tryz.func16 (callsPQ HPM.o.symm (show bb=(if packs m=true then packB m else []) by rw [if_pos HPM.o];exact HBB.o) (Pack_Q _ _ m _ g8.out (by intro k h1;rcases h1 with h1|h1<;>first|omega|(have hb:=HBT.o k h1;omega)) (C1 HLE.o aF))) (fun E=>A0 (E.d 0 0)) ?_
  rintro e c8 ⟨vb,rfl,qb,hm⟩
  obtain ⟨aob,capb,rfl⟩:=qb.shape
  refine ⟨_,rfl,?_⟩
  have c7:=hid qb
  have u7:=hm.size
  have o4:=hid (show Mod (fun _=>False) n7 c8 from hm)
  clear hm
  clear qb
  refine qmv rfl 1 0 ?_
  refine QSeq.pure rfl (.slice aob (bb.length) capb) (fun E=>Bf rfl (E.d 2 0) rfl) ?_
  refine QSeq.pure rfl (.bool true) (fun E=>Bf rfl (E.d 2 1) rfl) ?_
  refine qas rfl 3 1 ?_
  refine qas rfl 4 1 ?_
  refine qe ?_
  clear HA0 c4 a0
  have HBY:=hid (show Bytes bb from c7.out.1.bytes)
  obtain ⟨um,hum⟩:∃ z,z=unpackB bb:=⟨_,rfl⟩
  have HUM:=hid hum.symm
  clear hum
  go_upto_region 3 with (fail)
  refine Aa 103 [22,23] [0,1] (fun a0 HA0=>?_)
  have d6:=ev HA0 4 rfl
  refine qmo rfl d6 ?_
  refine QSeq.pure rfl (.bool false) (fun E=>Bm rfl (E.d 0 0)) ?_
  refine qe ?_
  clear HA0 d6 a0
  cases um with
  | none=>
   go_upto_region 5 with (fail)
   refine Aa 103 [36,37,35,38,39,5,109,6] [0,1,2,3,4,5,6,7] (fun a0 HA0=>?_)
   have c3:=ev HA0 3 rfl
   refine qmo rfl c3 ?_
   refine QSeq.call rfl rfl Tryz.func11 (callsU HUM.o rfl rfl (Unpack_Q _ _ bb _ c7.out.rd bF)) (fun E=>A0 (E.d 0 0)) ?_
   rintro e g9 ⟨cu,rfl,qu,hm⟩
   have HNu:=hid (show cu.length=295 from MgR.len qu)
   have HWu:=hid (MgR.one qu)
   refine ⟨_,rfl,?_⟩
   have o5:=hid qu
   have u9:=hm.size
   have o6:=hid (show Mod (fun _=>False) c8 g9 from hm)
   clear hm
   clear qu
   refine qmv rfl 1 0 ?_
   refine QSeq.pure rfl (.agg cu.toArray) (fun E=>Bf rfl (E.d 2 0) rfl) ?_
   refine QSeq.pure rfl (.bool false) (fun E=>Bf rfl (E.d 2 1) rfl) ?_
   refine QSeq.go fun act E=>?_
   refine B3 rfl (Ab rfl) rfl (z:=(mg0C 0 0 0)) aD ?_
   intro v5 qq5 hm
   have v6:=qq5.lt
   have o7:=hid qq5
   have v7:=hm.size
   have d7:=hid hm
   have o8:=hid (o6.out.goE hm)
   clear hm o6
   clear act E qq5
   refine QSeq.go fun act E=>?_
   have hlz:(cu).length=List.length ((mg0C 0 0 0):List Value):=HNu.o
   refine Ah rfl (Ab rfl) rfl o7.out (off:=0) (vs:=cu) cO HWu.o bK (E.d 5 0) (ec (E.d 3 2)) ?_
   intro j6 qc0 hm
   have qq5:=qc0.eqv (b:=(cu:List Value).toArray) (Ap (((mg0C 0 0 0):List Value).toArray) _ dO)
   clear qc0 hlz
   have v8:=hid qq5
   have x4:=hm.size
   have d8:=hid hm
   have o9:=hid (AB (S':=(fun _=>False)) o8.out hm (fun _ h=>h) cG)
   clear hm o8
   clear act E qq5 o7
   refine qas rfl 4 2 ?_
   have x5:=hid ((o5.out.mod d7.out (fun _ _ h=>h)).mod d8.out aE)
   clear o5 d7 d8
   refine qe ?_
   clear HA0 c3 a0
   clear x5
   clear v8
   go_upto_region 6 with (fail)
   refine Aa 103 [40,41] [0,1] (fun a0 HA0=>?_)
   have d9:=ev HA0 6 rfl
   refine qmo rfl d9 ?_
   refine QSeq.pure rfl (.bool true) (fun E=>Bm rfl (E.d 0 0)) ?_
   refine qe ?_
   clear HA0 d9 a0
   go_upto_region 7 with (fail)
   refine Aa 103 [43,44,42,45,46,7,109,8] [0,1,2,3,4,5,6,7] (fun a0 HA0=>?_)
   have c3:=ev HA0 3 rfl
   refine qmo rfl c3 ?_
   refine QSeq.call rfl rfl Tryz.func12 (callsU HUM.o rfl rfl (RefUnpack_Q _ _ bb _ (c7.out.mod o9.out (fun _ _ h=>h)).rd bF)) (fun E=>A0 (E.d 0 0)) ?_
   rintro e x6 ⟨cv,rfl,qv,hm⟩
   have HNv:=hid (show cv.length=295 from MgR.len qv)
   have HWv:=hid (MgR.one qv)
   refine ⟨_,rfl,?_⟩
   have p4:=hid qv
   have ax:=hm.size
   have p5:=hid (show Mod (fun _=>False) j6 x6 from hm)
   clear hm
   clear qv
   refine qmv rfl 1 0 ?_
   refine QSeq.pure rfl (.agg cv.toArray) (fun E=>Bf rfl (E.d 2 0) rfl) ?_
   refine QSeq.pure rfl (.bool false) (fun E=>Bf rfl (E.d 2 1) rfl) ?_
   refine QSeq.go fun act E=>?_
   refine B3 rfl (Ab rfl) rfl (z:=(mg0C 0 0 0)) aD ?_
   intro ay qq7 hm
   have az:=qq7.lt
   have p6:=hid qq7
   have bc:=hm.size
   have p7:=hid hm
   have p8:=hid (p5.out.goE hm)
   clear hm p5
   clear act E qq7
   refine QSeq.go fun act E=>?_
   have hlz:(cv).length=List.length ((mg0C 0 0 0):List Value):=HNv.o
   refine Ah rfl (Ab rfl) rfl p6.out (off:=0) (vs:=cv) cO HWv.o bK (E.d 5 0) (ec (E.d 3 2)) ?_
   intro x7 qc0 hm
   have qq7:=qc0.eqv (b:=(cv:List Value).toArray) (Ap (((mg0C 0 0 0):List Value).toArray) _ dO)
   clear qc0 hlz
   have x8:=hid qq7
   have bf:=hm.size
   have p9:=hid hm
   have x9:=hid (AB (S':=(fun _=>False)) p8.out hm (fun _ h=>h) cG)
   clear hm p8
   clear act E qq7 p6
   refine qas rfl 4 2 ?_
   have y0:=hid ((p4.out.mod p7.out (fun _ _ h=>h)).mod p9.out aE)
   clear p4 p7 p9
   refine qe ?_
   clear HA0 c3 a0
   clear y0
   clear x8
   go_upto_region 8 with (fail)
   refine Aa 103 [47,48,49,50,51,2] [0,1,2,3,4,5] (fun a0 HA0=>?_)
   have q6:=ev HA0 8 rfl
   refine qmo rfl q6 ?_
   refine QSeq.pure rfl (.bool true) (fun E=>Bm rfl (E.d 0 0)) ?_
   refine qmv rfl 1 0 ?_
   refine QSeq.go fun act E=>?_
   refine Aq (args:=#[]) rfl ((Ac rfl rfl (E.sz 49 aF) (E.d 2 0)).trans rfl) rfl Tryz.func15 args0 (wakes06 _) ?_
   rintro e y5 ⟨rfl,hm⟩
   refine ⟨_,rfl,?_⟩
   have bg:=hm.size
   have y6:=hid (show Mod (fun _=>False) x7 y5 from hm)
   clear hm
   clear act E
   refine QSeq.pure rfl (.bool true) (fun E=>Bg rfl (E.d 2 1) (E.d 3 0) rfl) ?_
   refine qas rfl 4 0 ?_
   refine qe ?_
   clear HA0 q6 a0
   go_wp2
   go_ret
   exact ⟨rfl,(((((HM0.o.trans g7.out aE).trans o4.out (fun _ _ h=>h.elim)).trans o9.out (fun _ _ h=>h.elim)).trans x9.out (fun _ _ h=>h.elim)).trans y6.out (fun _ _ h=>h.elim))⟩
  | some x=>
   have HX:=hid (unp_some HBY.o HUM.o)
   obtain ⟨i,hi⟩:∃ i,bb.length=i+1:=⟨bb.length - 1,by have h:=HX.o.1;have h2:=packB_pos (packs_kd HX.o.2.2.1);rw [h] at h2;omega⟩
   have hbl:bb.length≤30000:=by rw [HBB.o];exact HLE.o
   go_upto_region 5 with (fail)
   refine Aa 103 [36,37,35,38,39,5,109,6] [0,1,2,3,4,5,6,7] (fun a0 HA0=>?_)
   have c3:=ev HA0 3 rfl
   refine qmo rfl c3 ?_
   refine QSeq.call rfl rfl Tryz.func11 (callsU HUM.o rfl rfl (Unpack_Q _ _ bb _ c7.out.rd bF)) (fun E=>A0 (E.d 0 0)) ?_
   rintro e g9 ⟨cu,rfl,qu,hm⟩
   have HNu:=hid (show cu.length=295 from MgR.len qu)
   have HWu:=hid (MgR.one qu)
   refine ⟨_,rfl,?_⟩
   have q7:=hid qu
   have u9:=hm.size
   have q8:=hid (show Mod (fun _=>False) c8 g9 from hm)
   clear hm
   clear qu
   refine qmv rfl 1 0 ?_
   refine QSeq.pure rfl (.agg cu.toArray) (fun E=>Bf rfl (E.d 2 0) rfl) ?_
   refine QSeq.pure rfl (.bool true) (fun E=>Bf rfl (E.d 2 1) rfl) ?_
   refine QSeq.go fun act E=>?_
   refine B3 rfl (Ab rfl) rfl (z:=(mg0C 0 0 0)) aD ?_
   intro v5 qq5 hm
   have v6:=qq5.lt
   have q9:=hid qq5
   have v7:=hm.size
   have d7:=hid hm
   have r3:=hid (q8.out.goE hm)
   clear hm q8
   clear act E qq5
   refine QSeq.go fun act E=>?_
   have hlz:(cu).length=List.length ((mg0C 0 0 0):List Value):=HNu.o
   refine Ah rfl (Ab rfl) rfl q9.out (off:=0) (vs:=cu) cO HWu.o bK (E.d 5 0) (ec (E.d 3 2)) ?_
   intro j6 qc0 hm
   have qq5:=qc0.eqv (b:=(cu:List Value).toArray) (Ap (((mg0C 0 0 0):List Value).toArray) _ dO)
   clear qc0 hlz
   have i7:=hid qq5
   have x4:=hm.size
   have d8:=hid hm
   have g5:=hid (AB (S':=(fun _=>False)) r3.out hm (fun _ h=>h) cG)
   clear hm r3
   clear act E qq5 q9
   refine qas rfl 4 2 ?_
   have i8:=hid ((q7.out.mod d7.out (fun _ _ h=>h)).mod d8.out aE)
   clear q7 d7 d8
   refine qe ?_
   clear HA0 c3 a0
   go_upto_region 6 with (fail)
   refine Aa 103 [40,41] [0,1] (fun a0 HA0=>?_)
   have d9:=ev HA0 6 rfl
   refine qmo rfl d9 ?_
   refine QSeq.pure rfl (.bool false) (fun E=>Bm rfl (E.d 0 0)) ?_
   refine qe ?_
   clear HA0 d9 a0
   go_upto_region 9 with (fail)
   refine Aa 103 [53,54,52,55,56,9,10] [0,1,2,3,4,5,6] (fun a0 HA0=>?_)
   have c9:=ev HA0 5 rfl
   refine QSeq.pure rfl _ (fun E=>Aj rfl B7 rfl (off:=0) (cs:=cu) (by rw [HNu.o];kernel_rfl) (E.v c9) (Cs.whole i7.out)) ?_
   refine QSeq.call rfl rfl Tryz.func16 (callsPQ HX.o.2.2.1.symm (show bb=(if packs x=true then packB x else []) by rw [if_pos HX.o.2.2.1,HX.o.1]) (Pack_Q _ _ x _ i8.out bF (by rw [HX.o.1];omega))) (fun E=>A0 (E.d 0 0)) ?_
   rintro e y7 ⟨vc,rfl,qc,hm⟩
   obtain ⟨aoc,capc,rfl⟩:=qc.shape
   refine ⟨_,rfl,?_⟩
   have r4:=hid qc
   have bh:=hm.size
   have c6:=hid (show Mod (fun _=>False) j6 y7 from hm)
   clear hm
   clear qc
   refine qmv rfl 1 0 ?_
   refine QSeq.pure rfl (.slice aoc (bb.length) capc) (fun E=>Bf rfl (E.d 2 0) rfl) ?_
   refine QSeq.pure rfl (.bool true) (fun E=>Bf rfl (E.d 2 1) rfl) ?_
   refine qas rfl 3 1 ?_
   refine qas rfl 4 1 ?_
   refine qe ?_
   clear HA0 c9 a0
   go_upto_region 10 with (fail)
   generalize ha0:Act.mk _ _=a0
   have c3:a0.eval (.tmp 3)=.slice aob (bb.length) capb:=by rw [← ha0];rfl
   have c9:a0.eval (.tmp 5)=.pointer (some ⟨g9.heap.size,0,none⟩):=by rw [← ha0];rfl
   have r5:a0.eval (.tmp 9)=.slice aoc (bb.length) capc:=by rw [← ha0];rfl
   have r6:a0.eval (.tmp 10)=.bool true:=by rw [← ha0];rfl
   have hsz0:a0.tmps.size=103:=by rw [← ha0];rfl
   have HA0:=hid ha0
   clear ha0
   refine wp_region_Q0 103 hsz0 [57,58,59,60,61,62,63,64,65,66,67,68,69,70,71,72,73,74,75,76] [qi (.slice aob (bb.length) capb),qi (.int .i64 (bb.length)),qi (.bool false),qi (.bool false),qi (.bool true),qi (.bool false),qi (.bool false),qi (.bool false),qi (.slice aob (bb.length) capb),qi (.slice aoc (bb.length) capc),qi (.bool true),qi (.bool false),qi (.bool false),qi (.bool false),qi (.agg cu.toArray),qv 1,qi (.agg cu.toArray),qi (.bool true),qi (.bool false),qi (.bool false)] ⟨Ad,Ad,Ad,Ad,Ad,Ad,Ad,Ad,Ad,Ad,Ad,Ad,Ad,Ad,Ad,Ar,Ad,Ad,Ad,Ad,trivial⟩ [10,15,17] ⟨?_,?_,?_,?_,?_,?_,?_,?_,?_,?_,?_,?_,?_,?_,?_,?_,?_,?_,?_,?_,trivial⟩ ?_
   ·exact stq (fun E=>Al rfl (E.v c3))
   ·exact stq (fun E=>Bc rfl (E.d 0) D1)
   ·exact stq (fun E=>Am rfl (E.d 1) rfl (Ag _ _ _ _ _ _) (Bn _ _ _ B6) (congrArg Value.bool (Bk aM)))
   ·exact stq (fun E=>Al rfl (E.d 2))
   ·refine A5 rfl rfl rfl fun _ _ _ _ _ _ _ hout hsz hd _ _=>?_
    have h3:=hd ⟨3,.guard⟩ bD rfl _ rfl
    refine Bo rfl ((Ac rfl rfl (hsz 60 aF) h3).trans rfl) (Al rfl ((hout 10 aF).trans r6)) QE.refl ?_
    rfl
   ·refine A5 rfl rfl rfl fun _ _ _ _ _ _ _ _ hsz hd _ _=>?_
    have h3:=hd ⟨3,.guard⟩ bD rfl _ rfl
    have h4:=hd ⟨4,.data⟩ bD rfl _ rfl
    refine Bo rfl ((Ac rfl rfl (hsz 60 aF) h3).trans rfl) (Bm rfl h4) QE.refl ?_
    rfl
   ·exact stq (fun E=>Bg rfl (E.d 3) rfl (E.d 5))
   ·exact stq (fun E=>Al rfl (E.d 6))
   ·refine A5 rfl rfl rfl fun _ _ _ _ _ _ _ hout hsz hd _ _=>?_
    have h7:=hd ⟨7,.guard⟩ bD rfl _ rfl
    refine Bo rfl ((Ac rfl rfl (hsz 64 aF) h7).trans rfl) (Al rfl ((hout 3 aF).trans c3)) QE.refl ?_
    rfl
   ·refine A5 rfl rfl rfl fun _ _ _ _ _ _ _ hout hsz hd _ _=>?_
    have h7:=hd ⟨7,.guard⟩ bD rfl _ rfl
    refine Bo rfl ((Ac rfl rfl (hsz 64 aF) h7).trans rfl) (Al rfl ((hout 9 aF).trans r5)) QE.refl ?_
    rfl
   ·exact Ai rfl
   ·refine A5 rfl rfl rfl fun _ _ _ _ _ _ _ _ hsz hd _ _=>?_
    have h7:=hd ⟨7,.guard⟩ bD rfl _ rfl
    have h10:=hd ⟨10,.data⟩ bD rfl _ rfl
    refine Bo rfl ((Ac rfl rfl (hsz 64 aF) h7).trans rfl) (Bm rfl h10) QE.refl ?_
    rfl
   ·exact stq (fun E=>Bg rfl (E.d 7) rfl (E.d 11))
   ·exact stq (fun E=>Al rfl (E.d 12))
   ·refine A5 rfl rfl rfl fun _ _ _ _ _ hm _ hout hsz hd _ _=>?_
    have h13:=hd ⟨13,.guard⟩ bD rfl _ rfl
    refine Bo rfl ((Ac rfl rfl (hsz 70 aF) h13).trans rfl) (Aj rfl B7 rfl (off:=0) (cs:=cu) (by rw [HNu.o];kernel_rfl) ((hout 5 aF).trans c9) (Cs.whole ((i7.out.mod c6.out (fun h=>h)).mod hm.old aJ))) QE.refl ?_
    rfl
   ·exact Ai rfl
   ·refine A5 rfl rfl rfl fun _ _ _ _ _ hm _ hout hsz hd _ _=>?_
    have h13:=hd ⟨13,.guard⟩ bD rfl _ rfl
    refine Bo rfl ((Ac rfl rfl (hsz 70 aF) h13).trans rfl) (Aj rfl B7 rfl (off:=0) (cs:=cu) (by rw [HNu.o];kernel_rfl) ((hout 5 aF).trans c9) (Cs.whole ((i7.out.mod c6.out (fun h=>h)).mod hm.old aJ))) QE.refl ?_
    rfl
   ·exact Ai rfl
   ·refine A5 rfl rfl rfl fun _ _ _ _ _ _ _ _ hsz hd _ _=>?_
    have h13:=hd ⟨13,.guard⟩ bD rfl _ rfl
    have h17:=hd ⟨17,.data⟩ bD rfl _ rfl
    refine Bo rfl ((Ac rfl rfl (hsz 70 aF) h13).trans rfl) (Bm rfl h17) QE.refl ?_
    rfl
   ·exact stq (fun E=>Bg rfl (E.d 13) rfl (E.d 18))
   intro bi hr
   have bj:=hr.size
   have i9:=hid (hr.new (S:=(fun _=>False)))
   clear hr
   refine QChain.go fun Z act E=>?_
   refine Aq (args:=#[.slice aob (bb.length) capb,.slice aoc (bb.length) capc]) rfl ((Ac rfl rfl (E.sz 64 aF) (E.e 7 .chain)).trans rfl) rfl Tryz.func17 (An (E.d 8) (E.d 9)) (callsB (eqb_rfl bb) (Same_B (((c7.out.mod g5.out (fun _ _ h=>h)).mod c6.out (fun _ _ h=>h)).mod i9.out (fun _ _ h=>h)).rd (r4.out.mod i9.out (fun _ _ h=>h)).rd)) ?_
   rintro e bk ⟨rfl,hm⟩
   have bl:=hm.size
   refine ⟨_,rfl,hm.mono (fun _ _ h=>h.elim),(fun _=>rfl),?_⟩
   intro y8 hr
   have bm:=hr.size
   have j7:=hid (i9.out.go hm hr)
   clear i9 hm hr Z act E
   refine QChain.go fun Z act E=>?_
   refine Aq (args:=#[.agg cu.toArray]) rfl ((Ac rfl rfl (E.sz 70 aF) (E.e 13 .chain)).trans rfl) rfl Tryz.func18 (A0 (E.d 14)) (HX.o.2.2.2.1▸Only_Q _ x _ _ ((i8.out.mod c6.out (fun _ _ h=>h)).mod j7.out (fun _ _ h=>h)) bF HX.o.2.2.2.2) ?_
   rintro e z0 ⟨c1,rfl,qo1,hm⟩
   have bn:=hm.size
   refine ⟨_,rfl,hm.mono (fun _ _ h=>h.elim),(fun _=>rfl),?_⟩
   intro bp hr
   have bq:=hr.size
   have j8:=hid ((qo1.widen (R':=(fun k=>(New y8 z0 k))) (fun _ h=>h)).mod hr aE)
   have j9:=hid (j7.out.go hm hr)
   clear j7 hm hr Z act E qo1
   refine QChain.go fun Z act E=>?_
   refine Aq (args:=#[.agg c1.toArray,.agg cu.toArray]) rfl ((Ac rfl rfl (E.sz 70 aF) (E.e 13 .guard)).trans rfl) rfl Tryz.func13 (An (chv (v:=.agg c1.toArray) (E.d 15)) (E.d 16)) (callsB (eqb_rfl x) (Eq_Mg _ _ _ _ x x _ j8.out ((i8.out.mod c6.out (fun _ _ h=>h)).mod j9.out (fun _ _ h=>h)) bF bF)) ?_
   rintro e br ⟨rfl,hm⟩
   have bt:=hm.size
   refine ⟨_,rfl,hm.mono (fun _ _ h=>h.elim),(fun _=>rfl),?_⟩
   intro z7 hr
   have bu:=hr.size
   have hmr:=Mod.after hm hr
   have z9:=hid (j8.out.mod hmr aE)
   clear j8
   clear hmr
   have j0:=hid (j9.out.go hm hr)
   clear j9 hm hr Z act E
   refine QChain.nil fun vs hl hzz hrows hne=>?_
   obtain ⟨Z,hYZ,hZb,hV⟩:=hzz
   have f0:=fvi hV hl 0
   have f1:=fvi hV hl 1
   have f3:=fvi hV hl 3
   have f4:=fvi hV hl 4
   have f7:=fvi hV hl 7
   have f8:=fvi hV hl 8
   have f9:=fvi hV hl 9
   have f10:=fvi hV hl 10
   have f13:=fvi hV hl 13
   have f15:=fvc hV hl 15
   have f17:=fvi hV hl 17
   have f19:=fvi hV hl 19
   rw [show vs=[gw vs 0,gw vs 1,gw vs 2,gw vs 3,gw vs 4,gw vs 5,gw vs 6,gw vs 7,gw vs 8,gw vs 9,gw vs 10,gw vs 11,gw vs 12,gw vs 13,gw vs 14,gw vs 15,gw vs 16,gw vs 17,gw vs 18,gw vs 19] from (Bv hl).trans rfl]
   have ha0:=HA0.o
   subst ha0
   clear HA0 hV hYZ hZb hsz0 hrows hne c3 c9 r5 r6
   simp only [Ax,Act.put,sIB,sCZ,sCS,f0,f1,f3,f4,f7,f8,f9,f10,f13,f15,f17,f19]
   clear hl f0 f1 f3 f4 f7 f8 f9 f10 f13 f15 f17 f19
   clear r4
   clear z9
   clear i8
   clear i7
   have hcap:bb.length≤capb:=((((c7.out.mod g5.out (fun _ _ h=>h)).mod c6.out (fun _ _ h=>h)).mod j0.out (fun _ _ h=>h))).1.rd.len.2.1
   go_upto_region 12 with (fail)
   refine Aa 103 [78,79,80,81,82,83,77,84,85,11,113,12] [0,1,2,3,4,5,6,7,8,9,10,11] (fun a0 HA0=>?_)
   have c3:=ev HA0 3 rfl
   refine qmo rfl c3 ?_
   refine qmo rfl c3 ?_
   refine QSeq.pure rfl (.int .i64 (bb.length)) (fun E=>Bc rfl (E.d 1 0) D1) ?_
   refine QSeq.pure rfl (.int .i64 ((i:Nat):Int)) (fun E=>Am rfl (E.d 2 0) rfl (Ag _ _ _ _ _ _) (run_sub_i _ _ B6) (congrArg (Value.int .i64) ((congrArg IntKind.i64.wrap (show ((bb.length:Nat):Int) - 1=((i:Nat):Int) by omega)).trans (IntWalk.i64_in _ aM)))) ?_
   refine QSeq.pure rfl (.slice aob i capb) (fun E=>ex_sliceTo (i:=i) (s:=1) rfl D1 aD (E.d 0 3) (E.d 3 0) aM) ?_
   refine QSeq.call rfl rfl Tryz.func11 (callsU (unp_take HBY.o HUM.o hi) rfl rfl (Unpack_Q _ _ (bb.take i) _ ((((c7.out.mod g5.out (fun _ _ h=>h)).mod c6.out (fun _ _ h=>h)).mod j0.out (fun _ _ h=>h)).rd.upto i aM) bF)) (fun E=>A0 (E.d 4 0)) ?_
   rintro e aa ⟨cv,rfl,qv,hm⟩
   have HNv:=hid (show cv.length=295 from MgR.len qv)
   have HWv:=hid (MgR.one qv)
   refine ⟨_,rfl,?_⟩
   have r7:=hid qv
   have bw:=hm.size
   have r8:=hid (show Mod (fun _=>False) z7 aa from hm)
   clear hm
   clear qv
   refine qmv rfl 5 0 ?_
   refine QSeq.pure rfl (.agg cv.toArray) (fun E=>Bf rfl (E.d 6 0) rfl) ?_
   refine QSeq.pure rfl (.bool false) (fun E=>Bf rfl (E.d 6 1) rfl) ?_
   refine QSeq.go fun act E=>?_
   refine B3 rfl (Ab rfl) rfl (z:=(mg0C 0 0 0)) aD ?_
   intro bx qq11 hm
   have bz:=qq11.lt
   have r9:=hid qq11
   have cd:=hm.size
   have s0:=hid hm
   have s5:=hid (r8.out.goE hm)
   clear hm r8
   clear act E qq11
   refine QSeq.go fun act E=>?_
   have hlz:(cv).length=List.length ((mg0C 0 0 0):List Value):=HNv.o
   refine Ah rfl (Ab rfl) rfl r9.out (off:=0) (vs:=cv) cO HWv.o bK (E.d 9 0) (ec (E.d 7 2)) ?_
   intro s6 qc0 hm
   have qq11:=qc0.eqv (b:=(cv:List Value).toArray) (Ap (((mg0C 0 0 0):List Value).toArray) _ dO)
   clear qc0 hlz
   have ab:=hid qq11
   have cf:=hm.size
   have s7:=hid hm
   have s8:=hid (AB (S':=(fun _=>False)) s5.out hm (fun _ h=>h) cG)
   clear hm s5
   clear act E qq11 r9
   refine qas rfl 8 2 ?_
   have ac:=hid ((r7.out.mod s0.out (fun _ _ h=>h)).mod s7.out aE)
   clear r7 s0 s7
   refine qe ?_
   clear HA0 c3 a0
   clear ac
   clear ab
   go_upto_region 13 with (fail)
   refine Aa 103 [87,88,89,90,91,86,92,93,13,112,14] [0,1,2,3,4,5,6,7,8,9,10] (fun a0 HA0=>?_)
   have c3:=ev HA0 3 rfl
   refine qmo rfl c3 ?_
   refine QSeq.call rfl rfl Tryz.func20 (Copy_R (N:=900000) ((((c7.out.mod g5.out (fun _ _ h=>h)).mod c6.out (fun _ _ h=>h)).mod j0.out (fun _ _ h=>h)).mod s8.out (fun _ _ h=>h)).rd aF) (fun E=>A0 (E.d 0 0)) ?_
   rintro e t0 ⟨vd,rfl,qd,hm⟩
   obtain ⟨aod,capd,rfl⟩:=qd.shape
   refine ⟨_,rfl,?_⟩
   have t1:=hid qd
   have cg:=hm.size
   have t2:=hid (show Mod (fun _=>False) s6 t0 from hm)
   clear hm
   clear qd
   refine QSeq.go fun act E=>?_
   refine qc_bytes rfl (Ab rfl) rfl D1 aD aF (C:=#[.int .u8 0]) (by simp only [C7,C9,D0,Act.eval];kernel_rfl) ?_
   intro ae qr0 hm
   have qbz:=own_litR (bs:=[0]) (n:=1) (N:=900000) qr0 rfl (by unfold Bytes;decide) rfl aF hm
   clear qr0
   have l7:=hid qbz
   have ch:=hm.size
   have t4:=hid hm
   have t8:=hid (t2.out.goE hm)
   clear hm t2
   clear act E qbz
   refine QSeq.go fun act E=>?_
   refine qc_appR rfl (Ab rfl) rfl (E.d 1 1) (E.d 2 0) (t1.out.mod t4.out (fun _ _ h=>h)) l7.out.rd (by simp only [C0,C5,C4];omega) ?_
   intro ao20 cap20 af qd hm
   have l8:=hid (qd.widen (R':=(fun k=>(New s6 t0 k)∨(New ae af k))) (fun _ h=>h) (B9 _))
   have ci:=hm.size
   have t9:=hid hm
   have u0:=hid (AB (S':=(fun _=>False)) t8.out hm (fun _ h=>h) cG)
   clear hm t8
   clear act E qd t1
   refine QSeq.call rfl rfl Tryz.func11 (callsU (unp_more HBY.o HUM.o) rfl rfl (Unpack_Q _ _ (bb ++ [0]) _ l8.out.rd bF)) (fun E=>A0 (E.d 3 0)) ?_
   rintro e cj ⟨cw,rfl,qz,hm⟩
   have HNz:=hid (show cw.length=295 from MgR.len qz)
   have HWz:=hid (MgR.one qz)
   refine ⟨_,rfl,?_⟩
   have u1:=hid qz
   have ck:=hm.size
   have m7:=hid hm
   have u2:=hid (u0.out.goE hm)
   clear hm u0
   clear qz
   refine qmv rfl 4 0 ?_
   refine QSeq.pure rfl (.agg cw.toArray) (fun E=>Bf rfl (E.d 5 0) rfl) ?_
   refine QSeq.pure rfl (.bool false) (fun E=>Bf rfl (E.d 5 1) rfl) ?_
   refine QSeq.go fun act E=>?_
   refine B3 rfl (Ab rfl) rfl (z:=(mg0C 0 0 0)) aD ?_
   intro co qq13 hm
   have cq:=qq13.lt
   have u3:=hid qq13
   have cr:=hm.size
   have j3:=hid hm
   have u4:=hid (u2.out.goE hm)
   clear hm u2
   clear act E qq13
   refine QSeq.go fun act E=>?_
   have hlz:(cw).length=List.length ((mg0C 0 0 0):List Value):=HNz.o
   refine Ah rfl (Ab rfl) rfl u3.out (off:=0) (vs:=cw) cO HWz.o bK (E.d 8 0) (ec (E.d 6 2)) ?_
   intro ag qc0 hm
   have qq13:=qc0.eqv (b:=(cw:List Value).toArray) (Ap (((mg0C 0 0 0):List Value).toArray) _ dO)
   clear qc0 hlz
   have ah:=hid qq13
   have ct:=hm.size
   have j4:=hid hm
   have ai:=hid (AB (S':=(fun _=>False)) u4.out hm (fun _ h=>h) cG)
   clear hm u4
   clear act E qq13 u3
   refine qas rfl 7 2 ?_
   have cx:=hid (((l8.out.mod m7.out (fun _ _ h=>h)).mod j3.out (fun _ _ h=>h)).mod j4.out aE)
   have da:=hid ((((l7.out.mod t9.out aE).mod m7.out (fun _ _ h=>h)).mod j3.out (fun _ _ h=>h)).mod j4.out aE)
   have aj:=hid ((u1.out.mod j3.out (fun _ _ h=>h)).mod j4.out aE)
   clear l8 l7 u1 t4 t9 m7 j3 j4
   refine qe ?_
   clear HA0 c3 a0
   clear aj
   clear ah
   go_upto_region 14 with (fail)
   refine Aa 103 [94,95,96,97,98,99,100,101,102,2] [0,1,2,3,4,5,6,7,8,9] (fun a0 HA0=>?_)
   have u5:=ev HA0 12 rfl
   have u6:=ev HA0 14 rfl
   refine qmo rfl u5 ?_
   refine QSeq.pure rfl (.bool true) (fun E=>Bm rfl (E.d 0 0)) ?_
   refine qmv rfl 1 0 ?_
   refine AC rfl (.bool false) (fun E=>((Ac rfl rfl (E.sz 96 aF) (E.d 2 0)).trans rfl)) (fun E=>Al rfl (E.v u6)) ?_
   refine AC rfl (.bool true) (fun E=>((Ac rfl rfl (E.sz 96 aF) (E.d 2 1)).trans rfl)) (fun E=>Bm rfl (E.d 3 0)) ?_
   refine QSeq.pure rfl (.bool true) (fun E=>Bg rfl (E.d 2 2) (E.d 4 0) rfl) ?_
   refine qmv rfl 5 0 ?_
   refine QSeq.go fun act E=>?_
   refine Aq (args:=#[]) rfl ((Ac rfl rfl (E.sz 100 aF) (E.d 6 0)).trans rfl) rfl Tryz.func15 args0 (wakes06 _) ?_
   rintro e am ⟨rfl,hm⟩
   refine ⟨_,rfl,?_⟩
   have db:=hm.size
   have ap:=hid (show Mod (fun _=>False) ag am from hm)
   clear hm
   clear act E
   refine QSeq.pure rfl (.bool true) (fun E=>Bg rfl (E.d 6 1) (E.d 7 0) rfl) ?_
   refine qas rfl 8 0 ?_
   refine qe ?_
   clear HA0 u5 u6 a0
   go_wp2
   go_ret
   exact ⟨rfl,((((((((HM0.o.trans g7.out aE).trans o4.out (fun _ _ h=>h.elim)).trans g5.out (fun _ _ h=>h.elim)).trans c6.out (fun _ _ h=>h.elim)).trans j0.out (fun _ _ h=>h.elim)).trans s8.out (fun _ _ h=>h.elim)).trans ai.out (fun _ _ h=>h.elim)).trans ap.out (fun _ _ h=>h.elim))⟩
 have HK:=hid (Bool.eq_false_iff.2 hk)
 clear hk
 go_upto_region 2 with (fail)
 refine Aa 103 [18,19,17,20,21,3,4] [0,1,2,3,4,5,6] (fun a0 HA0=>?_)
 have c4:=ev HA0 1 rfl
 refine QSeq.pure rfl _ (fun E=>Aj rfl B7 rfl (off:=0) (cs:=cp) (by rw [HNm.o];kernel_rfl) (E.v c4) (Cs.whole d5.out)) ?_
 refine QSeq.call rfl rfl Tryz.func16 (callsPQ (show false=packs m by unfold packs;rw [HK.o];rfl) (show ([]:List Int)=(if packs m=true then packB m else []) by rw [if_neg (by unfold packs;rw [HK.o];simp)]) (Pack_Q _ _ m _ g8.out (by intro k h1;rcases h1 with h1|h1<;>first|omega|(have hb:=HBT.o k h1;omega)) (C1 HLE.o aF))) (fun E=>A0 (E.d 0 0)) ?_
 rintro e c8 ⟨vb,rfl,qb,hm⟩
 obtain ⟨aob,capb,rfl⟩:=qb.shape
 refine ⟨_,rfl,?_⟩
 have dd:=hid qb
 have u7:=hm.size
 have g6:=hid (show Mod (fun _=>False) n7 c8 from hm)
 clear hm
 clear qb
 refine qmv rfl 1 0 ?_
 refine QSeq.pure rfl (.slice aob (([]:List Int).length) capb) (fun E=>Bf rfl (E.d 2 0) rfl) ?_
 refine QSeq.pure rfl (.bool false) (fun E=>Bf rfl (E.d 2 1) rfl) ?_
 refine qas rfl 3 1 ?_
 refine qas rfl 4 1 ?_
 refine qe ?_
 clear HA0 c4 a0
 go_upto_region 3 with (fail)
 refine Aa 103 [22,23] [0,1] (fun a0 HA0=>?_)
 have d6:=ev HA0 4 rfl
 refine qmo rfl d6 ?_
 refine QSeq.pure rfl (.bool true) (fun E=>Bm rfl (E.d 0 0)) ?_
 refine qe ?_
 clear HA0 d6 a0
 have hk2:m.kd < 1∨14 < m.kd:=by have h:=HK.o;unfold okKd at h;rw [decide_eq_false_iff_not] at h;omega
 by_cases h1:m.kd < 1
 ·skip
  go_upto_region 4 with (fail)
  refine Aa 103 [24,25,26,27,28,29,30,31,32,33,34,2] [0,1,2,3,4,5,6,7,8,9,10,11] (fun a0 HA0=>?_)
  have c4:=ev HA0 1 rfl
  refine qfd rfl 0 B7 c4 ?_
  refine QSeq.pure rfl _ (fun E=>Af rfl B6 rfl (E.d 0 0) (AD (d5.out.mod g6.out (fun h=>h)) HK0.o)) ?_
  refine QSeq.pure rfl (.bool true) (fun E=>Am rfl (E.d 1 0) rfl (Ag _ _ _ _ _ _) (Ay _ _ _ B6) (congrArg Value.bool (decide_eq_true aM))) ?_
  refine qmv rfl 2 0 ?_
  refine AG rfl (fun E=>((Ac rfl rfl (E.sz 27 aF) (E.d 3 0)).trans rfl)) ?_
  refine AG rfl (fun E=>((Ac rfl rfl (E.sz 27 aF) (E.d 3 1)).trans rfl)) ?_
  refine AG rfl (fun E=>((Ac rfl rfl (E.sz 27 aF) (E.d 3 2)).trans rfl)) ?_
  refine QSeq.pure rfl (.bool true) (fun E=>Bg rfl (E.d 3 3) rfl (E.d 6 0)) ?_
  refine qmv rfl 7 0 ?_
  refine QSeq.go fun act E=>?_
  refine Aq (args:=#[]) rfl ((Ac rfl rfl (E.sz 32 aF) (E.d 8 0)).trans rfl) rfl Tryz.func15 args0 (wakes06 _) ?_
  rintro e m8 ⟨rfl,hm⟩
  refine ⟨_,rfl,?_⟩
  have aq:=hm.size
  have ar:=hid (show Mod (fun _=>False) c8 m8 from hm)
  clear hm
  clear act E
  refine QSeq.pure rfl (.bool true) (fun E=>Bg rfl (E.d 8 1) (E.d 9 0) rfl) ?_
  refine qas rfl 10 0 ?_
  refine qe ?_
  clear HA0 c4 a0
  go_wp2
  go_ret
  exact ⟨rfl,(((HM0.o.trans g7.out aE).trans g6.out (fun _ _ h=>h.elim)).trans ar.out (fun _ _ h=>h.elim))⟩
 go_upto_region 4 with (fail)
 refine Aa 103 [24,25,26,27,28,29,30,31,32,33,34,2] [0,1,2,3,4,5,6,7,8,9,10,11] (fun a0 HA0=>?_)
 have c4:=ev HA0 1 rfl
 refine qfd rfl 0 B7 c4 ?_
 refine QSeq.pure rfl _ (fun E=>Af rfl B6 rfl (E.d 0 0) (AD (d5.out.mod g6.out (fun h=>h)) HK0.o)) ?_
 refine QSeq.pure rfl (.bool false) (fun E=>Am rfl (E.d 1 0) rfl (Ag _ _ _ _ _ _) (Ay _ _ _ B6) (congrArg Value.bool (decide_eq_false aM))) ?_
 refine qmv rfl 2 0 ?_
 refine AC rfl (.pointer (some ⟨w.heap.size,0,none⟩)) (fun E=>((Ac rfl rfl (E.sz 27 aF) (E.d 3 0)).trans rfl)) (fun E=>Ae rfl B7 rfl aD (E.v c4)) ?_
 refine AC rfl (.int .i64 m.kd) (fun E=>((Ac rfl rfl (E.sz 27 aF) (E.d 3 1)).trans rfl)) (fun E=>Af rfl B6 rfl (E.d 4 0) (AD (d5.out.mod g6.out (fun h=>h)) HK0.o)) ?_
 refine AC rfl (.bool true) (fun E=>((Ac rfl rfl (E.sz 27 aF) (E.d 3 2)).trans rfl)) (fun E=>Am rfl (E.d 5 0) rfl (Ag _ _ _ _ _ _) (run_gtr_i _ _ _ B6) (congrArg Value.bool (decide_eq_true aM))) ?_
 refine QSeq.pure rfl (.bool true) (fun E=>Bg rfl (E.d 3 3) rfl (E.d 6 0)) ?_
 refine qmv rfl 7 0 ?_
 refine QSeq.go fun act E=>?_
 refine Aq (args:=#[]) rfl ((Ac rfl rfl (E.sz 32 aF) (E.d 8 0)).trans rfl) rfl Tryz.func15 args0 (wakes06 _) ?_
 rintro e m8 ⟨rfl,hm⟩
 refine ⟨_,rfl,?_⟩
 have aq:=hm.size
 have au:=hid (show Mod (fun _=>False) c8 m8 from hm)
 clear hm
 clear act E
 refine QSeq.pure rfl (.bool true) (fun E=>Bg rfl (E.d 8 1) (E.d 9 0) rfl) ?_
 refine qas rfl 10 0 ?_
 refine qe ?_
 clear HA0 c4 a0
 go_wp2
 go_ret
 exact ⟨rfl,(((HM0.o.trans g7.out aE).trans g6.out (fun _ _ h=>h.elim)).trans au.out (fun _ _ h=>h.elim))⟩
open Go Go.RowKit Go.Gv Go.ChangeShapes Go.WideShapes Go.ChangeAt Go.Deep
section
variable {H:Type} {enc:TypeId × Value→H} {W:World}
theorem trod_pair {t:TypeId} {fs:Array Field} {fuel:Nat} {cs:List Value} {x:DataW H × List MemPlace} (ht:Tryz.prog.underlying t=some (.struct fs)) (hs:fs.size=2) (h0:(fs[0]?).map (fun f=>(f.offset,f.type))=some (0,3)) (h1:(fs[1]?).map (fun f=>(f.offset,f.type))=some (1,3)) (hc:Tryz.prog.cellsOf t=2)
 (h:DataW.trod enc Tryz.prog W 0 (fun _=>true) true fuel t cs=some x):∃ a b:Int,cs=[.int .i64 a,.int .i64 b]∧I64 a∧I64 b:=by
 obtain ⟨xs,n,_,-,hl,hn,hf⟩:=DataW.trod_struct ht h
 rw [hc] at hl
 have hxs:xs.length=2:=hn.trans hs
 obtain ⟨q0,e0,hq0⟩:∃ f,fs[0]? = some f∧(f.offset,f.type)=(0,3):=by
  cases hh:fs[0]? with
  | none=>rw [hh] at h0;cases h0
  | some f=>rw [hh] at h0;exact ⟨f,rfl,Option.some.inj h0⟩
 obtain ⟨q1,e1,hq1⟩:∃ f,fs[1]? = some f∧(f.offset,f.type)=(1,3):=by
  cases hh:fs[1]? with
  | none=>rw [hh] at h1;cases h1
  | some f=>rw [hh] at h1;exact ⟨f,rfl,Option.some.inj h1⟩
 have f0:=hf 0 _ e0
 have f1:=hf 1 _ e1
 rw [show q0.offset=0 from congrArg Prod.fst hq0,show q0.type=3 from congrArg Prod.snd hq0] at f0
 rw [show q1.offset=1 from congrArg Prod.fst hq1,show q1.type=3 from congrArg Prod.snd hq1] at f1
 rw [List.getElem?_eq_getElem aM,show Tryz.prog.cellsOf 3=1 from by kernel_rfl] at f0 f1
 match cs,hl with
 | [c0,c1],_=>
  simp only [List.drop_zero,List.drop_succ_cons,List.take_succ_cons,List.take_zero] at f0 f1
  obtain ⟨p0,e0,_,w0⟩:=DataW.trod_int B6 f0
  obtain ⟨p1,e1,_,w1⟩:=DataW.trod_int B6 f1
  simp at e0 e1
  subst e0 e1
  exact ⟨p0,p1,rfl,bounds_i64 w0,bounds_i64 w1⟩
theorem cm_cells {fuel:Nat} {cs:List Value} {x:DataW H × List MemPlace} (h:DataW.trod enc Tryz.prog W 0 (fun _=>true) true fuel 29 cs=some x):∃ c:Cm,cs=c.cells∧c.OK:=by
 obtain ⟨xs,n,_,-,hl,hn,hf⟩:=DataW.trod_struct Tryz.underlying29 h
 rw [show Tryz.prog.cellsOf 29=37 from by kernel_rfl] at hl
 have hxs:xs.length=4:=hn
 have f0:DataW.trod enc Tryz.prog W 0 (fun _=>true) true n 23 ((cs.drop 0).take (Tryz.prog.cellsOf 23))=xs[0]?:=hf 0 _ rfl
 have f1:DataW.trod enc Tryz.prog W 0 (fun _=>true) true n 25 ((cs.drop 2).take (Tryz.prog.cellsOf 25))=xs[1]?:=hf 1 _ rfl
 have f2:DataW.trod enc Tryz.prog W 0 (fun _=>true) true n 3 ((cs.drop 34).take (Tryz.prog.cellsOf 3))=xs[2]?:=hf 2 _ rfl
 have f3:DataW.trod enc Tryz.prog W 0 (fun _=>true) true n 27 ((cs.drop 35).take (Tryz.prog.cellsOf 27))=xs[3]?:=hf 3 _ rfl
 rw [List.getElem?_eq_getElem aM] at f0 f1 f2 f3
 obtain ⟨a,b,e0,h1,h2⟩:=trod_pair Tryz.underlying23 rfl rfl rfl aD f0
 obtain ⟨hs,e1,hb,hl32⟩:=trod_arr D5 Tryz.underlying5 aD aD f1
 obtain ⟨sa,sb,e3,h3,h4⟩:=trod_pair Tryz.underlying27 rfl rfl rfl aD f3
 rw [show Tryz.prog.cellsOf 23=2 from by kernel_rfl] at e0
 rw [show Tryz.prog.cellsOf 25=32 from by kernel_rfl] at e1
 rw [show Tryz.prog.cellsOf 3=1 from by kernel_rfl] at f2
 rw [show Tryz.prog.cellsOf 27=2 from by kernel_rfl] at e3
 obtain ⟨q,e2,_,w2⟩:=DataW.trod_int B6 f2
 refine ⟨⟨a,b,hs,q,sa,sb⟩,?_,⟨h1,h2,bounds_i64 w2,h3,h4⟩,hl32,hb⟩
 have d1:cs=cs.take 2 ++ cs.drop 2:=(List.take_append_drop 2 cs).symm
 have d2:cs.drop 2=(cs.drop 2).take 32 ++ cs.drop 34:=by conv=>lhs;rw [← List.take_append_drop 32 (cs.drop 2)];rw [List.drop_drop]
 have d3:cs.drop 34=(cs.drop 34).take 1 ++ cs.drop 35:=by conv=>lhs;rw [← List.take_append_drop 1 (cs.drop 34)];rw [List.drop_drop]
 have d4:cs.drop 35=(cs.drop 35).take 2:=(List.take_of_length_le (by rw [List.length_drop];omega)).symm
 rw [List.drop_zero] at e0
 rw [d1,d2,d3,d4,e0,e1,e2,e3]
 rfl
end
def segs (cs:List Value):Nat→List Nat→List (List Value)
 | _,[]=>[]
 | off,n :: ns=>(cs.drop off).take n :: segs cs (off+n) ns
theorem segs_all (cs:List Value):∀ (ns:List Nat) (off:Nat),cs.length=off+ns.sum→cs.drop off=(segs cs off ns).flatten
 | [],off,h=>by simp at h;simp [segs,List.drop_of_length_le (show cs.length≤off by omega)]
 | n :: ns,off,h=>by
  have ih:=segs_all cs ns (off+n) (by simp at h;omega)
  simp only [segs,List.flatten_cons]
  rw [← ih,← List.drop_drop,List.take_append_drop]
theorem seg_one {cs:List Value} {off:Nat} (h:off < cs.length):∃ v,(cs.drop off).take 1=[v]:=⟨cs[off],by rw [List.drop_eq_getElem_cons h];rfl⟩
/-- whatever reads as a T reads as one of A -/
def Reads {α:Type} (A:Rep α) (T:TypeId):Prop:=∀ (H:Type) (enc:TypeId × Value→H) (W:World) (fuel:Nat) (cs:List Value) (x:DataW H × List MemPlace),DataW.trod enc Tryz.prog W 0 (fun _=>true) true fuel T cs=some x→∃ a,A.rd (fun k=>k < W.heap.size) W cs a
theorem all_list {α:Type} {P:List Value→α→Prop}:∀ (css:List (List Value)),(∀ cs ∈ css,∃ a,P cs a)→∃ l:List α,l.length=css.length∧∀ (i:Nat) cs a,css[i]? = some cs→l[i]? = some a→P cs a
 | [],_=>⟨[],rfl,fun i cs a h=>by simp at h⟩
 | c :: r,h=>by
  obtain ⟨a,ha⟩:=h c bD
  obtain ⟨l,h1,h2⟩:=all_list r fun cs hcs=>h cs (by simp [hcs])
  refine ⟨a :: l,by simp [h1],fun i cs b hi hb=>?_⟩
  cases i with
  | zero=>simp at hi hb;subst hi hb;exact ha
  | succ i=>simp at hi hb;exact h2 i cs b hi hb
theorem trod_slice {α:Type} {A:Rep α} {t e:TypeId} {H:Type} {enc:TypeId × Value→H} {W:World} {fuel:Nat} {v:Value} {x:DataW H × List MemPlace} (hr:Reads A e) (ht:Tryz.prog.underlying t=some (.slice e)) (hce:Tryz.prog.cellsOf e=A.sz)
 (h:DataW.trod enc Tryz.prog W 0 (fun _=>true) true fuel t [v]=some x):∃ l:List α,RdS A (fun k=>k < W.heap.size) W v l:=by
 haveI:Inhabited {cs:List Value // cs.length=A.sz}:=⟨⟨List.replicate A.sz undef,by simp⟩⟩
 have hsh:∃ ao n cap,v=.slice ao n cap∧n≤cap∧cap≤maxLen∧(ao=none→cap=0):=by
  rcases open_slice ht h with ⟨hcs,_⟩|⟨a,len,cap,m,n,D,Pl,hcs,_,hl,hm,hmm,_,hel⟩
  ·simp at hcs;subst hcs;exact ⟨none,0,0,rfl,B9 _,Nat.zero_le _,fun _=>rfl⟩
  ·simp at hcs;subst hcs;simp only [if_true] at hmm;subst hmm;exact ⟨some a,len,_,rfl,hl,hm,fun h=>by cases h⟩
 obtain ⟨raws,h1,h2⟩:=trod_list (fun a:{cs:List Value // cs.length=A.sz}=>a.1) (fun a=>∃ y,A.rd (fun k=>k < W.heap.size) W a.1 y) ht hce A.pos (fun a=>a.2)
  (fun fuel cs x hx=>by obtain ⟨a,ha⟩:=hr H enc W fuel cs x hx;exact ⟨⟨cs,A.len ha⟩,rfl,a,ha⟩) h
 obtain ⟨l,hl,hP⟩:=all_list (P:=fun cs a=>A.rd (fun k=>k < W.heap.size) W cs a) (raws.map (·.1)) (fun cs hcs=>by obtain ⟨a,ha,rfl⟩:=List.mem_map.1 hcs;exact h2 a ha)
 have hl':l.length=raws.length:=by simpa using hl
 refine ⟨l,raws.map (·.1),by simp [hl'],hP,?_,?_⟩
 ·have hcl:∀ cs ∈ raws.map (·.1),cs.length=A.sz:=fun cs hcs=>by obtain ⟨a,_,rfl⟩:=List.mem_map.1 hcs;exact a.2
  have hfl:=flat_len hcl
  rcases h1 with ⟨rfl,ao,cap,rfl⟩|⟨g,o,cap,hg,rfl,h0,hc,hm,hcell⟩
  ·obtain ⟨ao',n',cap',e',g1,g2,g3⟩:=hsh
   cases e'
   obtain rfl:l=[]:=List.eq_nil_of_length_eq_zero (by simpa using hl')
   exact Rd.zero _ _ _ _ g2 g3
  ·rw [hl']
   refine Rd.mk hc hm (by rw [hfl];simp) fun j u hu=>?_
   have hj:=(List.getElem?_eq_some_iff.1 hu).1
   rw [hfl] at hj
   simp only [List.length_map] at hj
   have hq:j / A.sz < raws.length:=Nat.div_lt_of_lt_mul (by rw [Nat.mul_comm];exact hj)
   have hmod:=Nat.mod_lt j A.pos
   have hdm:=Nat.div_add_mod j A.sz
   have hgt:=flat_get hcl (j / A.sz) raws[j / A.sz].1 (by simp [List.getElem?_eq_getElem hq]) (j % A.sz) (raws[j / A.sz].1[j % A.sz]'(by rw [raws[j / A.sz].2];exact hmod)) (List.getElem?_eq_getElem _)
   rw [show j / A.sz * A.sz+j % A.sz=j by rw [Nat.mul_comm];exact hdm] at hgt
   rw [hgt] at hu
   have:=hcell (j / A.sz) hq (j % A.sz) u (by rw [List.getElem?_eq_getElem (by rw [raws[j / A.sz].2];exact hmod)];exact hu)
   rw [show o+j / A.sz * A.sz+j % A.sz=o+j by rw [Nat.add_assoc,Nat.mul_comm,hdm]] at this
   exact this
 ·intro h0 g hg
  rcases h1 with ⟨rfl,ao,cap,rfl⟩|⟨g',o,cap,hg',rfl,_⟩
  ·simp at hl';rw [hl'] at h0;simp at h0
  ·simp [Value.ownBlock] at hg;subst hg;exact hg'
theorem reads_arg {α:Type} {A:Rep α} {T:TypeId} (hr:Reads A T) {fs:Array Field} (hu:Tryz.prog.underlying T=some (.struct fs)) {H:Type} {enc:TypeId × Value→H} {W:World} {base:Nat} {v:Value} {d:DataW H} {p:List MemPlace} (hv':Value.okWide Tryz.prog W .any base T v)
 (h:DataW.Trod enc Tryz.prog W 0 (fun _=>true) true T v d p):∃ cs a,v=.agg cs.toArray∧A.rd (fun k=>k < W.heap.size) W cs a:=by
 obtain ⟨fuel,hf⟩:=h
 simp only [Value.okWide,hu] at hv'
 obtain ⟨cs,rfl,-,-⟩:=hv'
 obtain ⟨a,ha⟩:=hr _ _ _ _ _ _ hf
 exact ⟨_,a,(by congr 1),ha⟩
theorem reads_cm:Reads CmR 29:=fun H enc W fuel cs x h=>by obtain ⟨c,e,hok⟩:=cm_cells h;exact ⟨c,e,hok⟩
open Go.Proofs renaming Tryz.underlying32→va' in
open Go.Gv renaming n'32→vb' in
theorem reads_st:Reads StR 32:=
 fm18'
open Go.Proofs renaming Tryz.underlying37→va' in
open Go.Gv renaming n'37→vb' in
theorem reads_ak:Reads StR 37:=
 fm18'
theorem reads_vt:Reads VtR 49:=by
 intro H enc W fuel cs x h
 obtain ⟨xs,n,_,-,hl,hn,hf⟩:=DataW.trod_struct Tryz.underlying49 h
 rw [show Tryz.prog.cellsOf 49=38 from by kernel_rfl] at hl
 have hxs:xs.length=6:=hn
 have f0:DataW.trod enc Tryz.prog W 0 (fun _=>true) true n 3 ((cs.drop 0).take (Tryz.prog.cellsOf 3))=xs[0]?:=hf 0 _ rfl
 rw [List.getElem?_eq_getElem aM,show Tryz.prog.cellsOf 3=1 from by kernel_rfl] at f0
 have f1:DataW.trod enc Tryz.prog W 0 (fun _=>true) true n 3 ((cs.drop 1).take (Tryz.prog.cellsOf 3))=xs[1]?:=hf 1 _ rfl
 rw [List.getElem?_eq_getElem aM,show Tryz.prog.cellsOf 3=1 from by kernel_rfl] at f1
 have f2:DataW.trod enc Tryz.prog W 0 (fun _=>true) true n 3 ((cs.drop 2).take (Tryz.prog.cellsOf 3))=xs[2]?:=hf 2 _ rfl
 rw [List.getElem?_eq_getElem aM,show Tryz.prog.cellsOf 3=1 from by kernel_rfl] at f2
 have f3:DataW.trod enc Tryz.prog W 0 (fun _=>true) true n 3 ((cs.drop 3).take (Tryz.prog.cellsOf 3))=xs[3]?:=hf 3 _ rfl
 rw [List.getElem?_eq_getElem aM,show Tryz.prog.cellsOf 3=1 from by kernel_rfl] at f3
 have f4:DataW.trod enc Tryz.prog W 0 (fun _=>true) true n 25 ((cs.drop 4).take (Tryz.prog.cellsOf 25))=xs[4]?:=hf 4 _ rfl
 rw [List.getElem?_eq_getElem aM,show Tryz.prog.cellsOf 25=32 from by kernel_rfl] at f4
 have f5:DataW.trod enc Tryz.prog W 0 (fun _=>true) true n 27 ((cs.drop 36).take (Tryz.prog.cellsOf 27))=xs[5]?:=hf 5 _ rfl
 rw [List.getElem?_eq_getElem aM,show Tryz.prog.cellsOf 27=2 from by kernel_rfl] at f5
 obtain ⟨kd,e0,_,w0⟩:=DataW.trod_int B6 f0
 obtain ⟨ep,e1,_,w1⟩:=DataW.trod_int B6 f1
 obtain ⟨rn,e2,_,w2⟩:=DataW.trod_int B6 f2
 obtain ⟨rp,e3,_,w3⟩:=DataW.trod_int B6 f3
 obtain ⟨hh,e4,w4,w4'⟩:=trod_arr D5 Tryz.underlying5 aD aD f4
 obtain ⟨sb,mr,e5,w5,w5'⟩:=trod_pair Tryz.underlying27 rfl rfl rfl aD f5
 have hcs:=segs_all cs [1,1,1,1,32,2] 0 dA
 simp only [List.drop_zero,segs,List.flatten_cons,List.flatten_nil,List.append_nil,Nat.zero_add,Nat.reduceAdd,e0,e1,e2,e3,e4,e5] at hcs
 (try rw [List.drop_zero] at e0)
 (try simp only [e0] at hcs)
 exact ⟨⟨kd,ep,rn,rp,hh,sb,mr⟩,by rw [hcs];rfl,⟨bounds_i64 w0,bounds_i64 w1,bounds_i64 w2,bounds_i64 w3,⟨w4',w4⟩,w5,w5'⟩⟩
theorem reads_dn:Reads DnR 56:=by
 intro H enc W fuel cs x h
 obtain ⟨xs,n,_,-,hl,hn,hf⟩:=DataW.trod_struct Tryz.underlying56 h
 rw [show Tryz.prog.cellsOf 56=4 from by kernel_rfl] at hl
 have hxs:xs.length=3:=hn
 have f0:DataW.trod enc Tryz.prog W 0 (fun _=>true) true n 3 ((cs.drop 0).take (Tryz.prog.cellsOf 3))=xs[0]?:=hf 0 _ rfl
 rw [List.getElem?_eq_getElem aM,show Tryz.prog.cellsOf 3=1 from by kernel_rfl] at f0
 have f1:DataW.trod enc Tryz.prog W 0 (fun _=>true) true n 3 ((cs.drop 1).take (Tryz.prog.cellsOf 3))=xs[1]?:=hf 1 _ rfl
 rw [List.getElem?_eq_getElem aM,show Tryz.prog.cellsOf 3=1 from by kernel_rfl] at f1
 have f2:DataW.trod enc Tryz.prog W 0 (fun _=>true) true n 27 ((cs.drop 2).take (Tryz.prog.cellsOf 27))=xs[2]?:=hf 2 _ rfl
 rw [List.getElem?_eq_getElem aM,show Tryz.prog.cellsOf 27=2 from by kernel_rfl] at f2
 obtain ⟨rp,e0,_,w0⟩:=DataW.trod_int B6 f0
 obtain ⟨ix,e1,_,w1⟩:=DataW.trod_int B6 f1
 obtain ⟨sb,mr,e2,w2,w2'⟩:=trod_pair Tryz.underlying27 rfl rfl rfl aD f2
 have hcs:=segs_all cs [1,1,2] 0 dA
 simp only [List.drop_zero,segs,List.flatten_cons,List.flatten_nil,List.append_nil,Nat.zero_add,Nat.reduceAdd,e0,e1,e2] at hcs
 (try rw [List.drop_zero] at e0)
 (try simp only [e0] at hcs)
 exact ⟨⟨rp,ix,sb,mr⟩,by rw [hcs];rfl,⟨bounds_i64 w0,bounds_i64 w1,w2,w2'⟩⟩
theorem reads_ce:Reads CeR 35:=by
 intro H enc W fuel cs x h
 obtain ⟨xs,n,_,-,hl,hn,hf⟩:=DataW.trod_struct Tryz.underlying35 h
 rw [show Tryz.prog.cellsOf 35=38 from by kernel_rfl] at hl
 have hxs:xs.length=2:=hn
 have f0:DataW.trod enc Tryz.prog W 0 (fun _=>true) true n 29 ((cs.drop 0).take (Tryz.prog.cellsOf 29))=xs[0]?:=hf 0 _ rfl
 rw [List.getElem?_eq_getElem aM,show Tryz.prog.cellsOf 29=37 from by kernel_rfl] at f0
 have f1:DataW.trod enc Tryz.prog W 0 (fun _=>true) true n 33 ((cs.drop 37).take (Tryz.prog.cellsOf 33))=xs[1]?:=hf 1 _ rfl
 rw [List.getElem?_eq_getElem aM,show Tryz.prog.cellsOf 33=1 from by kernel_rfl] at f1
 obtain ⟨c,e0,w0⟩:=reads_cm _ _ _ _ _ _ f0
 obtain ⟨v,e1⟩:=seg_one (cs:=cs) (off:=37) aM
 rw [e1] at f1
 obtain ⟨l,w1⟩:=trod_slice reads_st Tryz.underlying33 aD f1
 have hcs:=segs_all cs [37,1] 0 dA
 simp only [List.drop_zero,segs,List.flatten_cons,List.flatten_nil,List.append_nil,Nat.zero_add,Nat.reduceAdd,e0,e1] at hcs
 (try rw [List.drop_zero] at e0)
 (try simp only [e0] at hcs)
 exact ⟨⟨c,l⟩,v,hcs,w0,w1⟩
theorem reads_pm:Reads PmR 40:=by
 intro H enc W fuel cs x h
 obtain ⟨xs,n,_,-,hl,hn,hf⟩:=DataW.trod_struct Tryz.underlying40 h
 rw [show Tryz.prog.cellsOf 40=6 from by kernel_rfl] at hl
 have hxs:xs.length=5:=hn
 have f0:DataW.trod enc Tryz.prog W 0 (fun _=>true) true n 3 ((cs.drop 0).take (Tryz.prog.cellsOf 3))=xs[0]?:=hf 0 _ rfl
 rw [List.getElem?_eq_getElem aM,show Tryz.prog.cellsOf 3=1 from by kernel_rfl] at f0
 have f1:DataW.trod enc Tryz.prog W 0 (fun _=>true) true n 3 ((cs.drop 1).take (Tryz.prog.cellsOf 3))=xs[1]?:=hf 1 _ rfl
 rw [List.getElem?_eq_getElem aM,show Tryz.prog.cellsOf 3=1 from by kernel_rfl] at f1
 have f2:DataW.trod enc Tryz.prog W 0 (fun _=>true) true n 30 ((cs.drop 2).take (Tryz.prog.cellsOf 30))=xs[2]?:=hf 2 _ rfl
 rw [List.getElem?_eq_getElem aM,show Tryz.prog.cellsOf 30=1 from by kernel_rfl] at f2
 have f3:DataW.trod enc Tryz.prog W 0 (fun _=>true) true n 38 ((cs.drop 3).take (Tryz.prog.cellsOf 38))=xs[3]?:=hf 3 _ rfl
 rw [List.getElem?_eq_getElem aM,show Tryz.prog.cellsOf 38=1 from by kernel_rfl] at f3
 have f4:DataW.trod enc Tryz.prog W 0 (fun _=>true) true n 27 ((cs.drop 4).take (Tryz.prog.cellsOf 27))=xs[4]?:=hf 4 _ rfl
 rw [List.getElem?_eq_getElem aM,show Tryz.prog.cellsOf 27=2 from by kernel_rfl] at f4
 obtain ⟨rp,e0,_,w0⟩:=DataW.trod_int B6 f0
 obtain ⟨ep,e1,_,w1⟩:=DataW.trod_int B6 f1
 obtain ⟨fl',e2,_,w2⟩:=DataW.trod_int D8 f2
 obtain ⟨fl,rfl,w2'⟩:=u64_nat w2
 obtain ⟨v,e3⟩:=seg_one (cs:=cs) (off:=3) aM
 rw [e3] at f3
 obtain ⟨l,w3⟩:=trod_slice reads_ce Tryz.underlying38 aD f3
 obtain ⟨sb,mr,e4,w4,w4'⟩:=trod_pair Tryz.underlying27 rfl rfl rfl aD f4
 have hcs:=segs_all cs [1,1,1,1,2] 0 dA
 simp only [List.drop_zero,segs,List.flatten_cons,List.flatten_nil,List.append_nil,Nat.zero_add,Nat.reduceAdd,e0,e1,e2,e3,e4] at hcs
 (try rw [List.drop_zero] at e0)
 (try simp only [e0] at hcs)
 exact ⟨⟨rp,ep,fl,l,sb,mr⟩,v,hcs,⟨bounds_i64 w0,bounds_i64 w1,w2',w4,w4'⟩,w3⟩
theorem reads_op:Reads OpR 54:=by
 intro H enc W fuel cs x h
 obtain ⟨xs,n,_,-,hl,hn,hf⟩:=DataW.trod_struct Tryz.underlying54 h
 rw [show Tryz.prog.cellsOf 54=34 from by kernel_rfl] at hl
 have hxs:xs.length=3:=hn
 have f0:DataW.trod enc Tryz.prog W 0 (fun _=>true) true n 3 ((cs.drop 0).take (Tryz.prog.cellsOf 3))=xs[0]?:=hf 0 _ rfl
 rw [List.getElem?_eq_getElem aM,show Tryz.prog.cellsOf 3=1 from by kernel_rfl] at f0
 have f1:DataW.trod enc Tryz.prog W 0 (fun _=>true) true n 52 ((cs.drop 1).take (Tryz.prog.cellsOf 52))=xs[1]?:=hf 1 _ rfl
 rw [List.getElem?_eq_getElem aM,show Tryz.prog.cellsOf 52=1 from by kernel_rfl] at f1
 have f2:DataW.trod enc Tryz.prog W 0 (fun _=>true) true n 25 ((cs.drop 2).take (Tryz.prog.cellsOf 25))=xs[2]?:=hf 2 _ rfl
 rw [List.getElem?_eq_getElem aM,show Tryz.prog.cellsOf 25=32 from by kernel_rfl] at f2
 obtain ⟨ix,e0,_,w0⟩:=DataW.trod_int B6 f0
 obtain ⟨v,e1⟩:=seg_one (cs:=cs) (off:=1) aM
 rw [e1] at f1
 obtain ⟨pl,w1⟩:=trod_bytes f1
 obtain ⟨hh,e2,w2,w2'⟩:=trod_arr D5 Tryz.underlying5 aD aD f2
 have hcs:=segs_all cs [1,1,32] 0 dA
 simp only [List.drop_zero,segs,List.flatten_cons,List.flatten_nil,List.append_nil,Nat.zero_add,Nat.reduceAdd,e0,e1,e2] at hcs
 (try rw [List.drop_zero] at e0)
 (try simp only [e0] at hcs)
 exact ⟨⟨ix,pl,hh⟩,v,hcs,⟨bounds_i64 w0,w2',w2⟩,w1⟩
theorem reads_tb:Reads TbR 127:=by
 intro H enc W fuel cs x h
 obtain ⟨xs,n,_,-,hl,hn,hf⟩:=DataW.trod_struct D2 h
 rw [show Tryz.prog.cellsOf 127=2 from by kernel_rfl] at hl
 have hxs:xs.length=2:=hn
 have f0:DataW.trod enc Tryz.prog W 0 (fun _=>true) true n 3 ((cs.drop 0).take (Tryz.prog.cellsOf 3))=xs[0]?:=hf 0 _ rfl
 rw [List.getElem?_eq_getElem aM,show Tryz.prog.cellsOf 3=1 from by kernel_rfl] at f0
 have f1:DataW.trod enc Tryz.prog W 0 (fun _=>true) true n 125 ((cs.drop 1).take (Tryz.prog.cellsOf 125))=xs[1]?:=hf 1 _ rfl
 rw [List.getElem?_eq_getElem aM,show Tryz.prog.cellsOf 125=1 from by kernel_rfl] at f1
 obtain ⟨ix,e0,_,w0⟩:=DataW.trod_int B6 f0
 obtain ⟨v,e1⟩:=seg_one (cs:=cs) (off:=1) aM
 rw [e1] at f1
 obtain ⟨l,w1⟩:=trod_slice reads_dn Tryz.underlying125 aD f1
 have hcs:=segs_all cs [1,1] 0 dA
 simp only [List.drop_zero,segs,List.flatten_cons,List.flatten_nil,List.append_nil,Nat.zero_add,Nat.reduceAdd,e0,e1] at hcs
 (try rw [List.drop_zero] at e0)
 (try simp only [e0] at hcs)
 exact ⟨⟨ix,l⟩,v,hcs,bounds_i64 w0,w1⟩
theorem reads_ba:Reads BaR 45:=by
 intro H enc W fuel cs x h
 obtain ⟨xs,n,_,-,hl,hn,hf⟩:=DataW.trod_struct C2 h
 rw [show Tryz.prog.cellsOf 45=5 from by kernel_rfl] at hl
 have hxs:xs.length=5:=hn
 have f0:DataW.trod enc Tryz.prog W 0 (fun _=>true) true n 3 ((cs.drop 0).take (Tryz.prog.cellsOf 3))=xs[0]?:=hf 0 _ rfl
 rw [List.getElem?_eq_getElem aM,show Tryz.prog.cellsOf 3=1 from by kernel_rfl] at f0
 have f1:DataW.trod enc Tryz.prog W 0 (fun _=>true) true n 30 ((cs.drop 1).take (Tryz.prog.cellsOf 30))=xs[1]?:=hf 1 _ rfl
 rw [List.getElem?_eq_getElem aM,show Tryz.prog.cellsOf 30=1 from by kernel_rfl] at f1
 have f2:DataW.trod enc Tryz.prog W 0 (fun _=>true) true n 41 ((cs.drop 2).take (Tryz.prog.cellsOf 41))=xs[2]?:=hf 2 _ rfl
 rw [List.getElem?_eq_getElem aM,show Tryz.prog.cellsOf 41=1 from by kernel_rfl] at f2
 have f3:DataW.trod enc Tryz.prog W 0 (fun _=>true) true n 42 ((cs.drop 3).take (Tryz.prog.cellsOf 42))=xs[3]?:=hf 3 _ rfl
 rw [List.getElem?_eq_getElem aM,show Tryz.prog.cellsOf 42=1 from by kernel_rfl] at f3
 have f4:DataW.trod enc Tryz.prog W 0 (fun _=>true) true n 43 ((cs.drop 4).take (Tryz.prog.cellsOf 43))=xs[4]?:=hf 4 _ rfl
 rw [List.getElem?_eq_getElem aM,show Tryz.prog.cellsOf 43=1 from by kernel_rfl] at f4
 obtain ⟨ep,e0,_,w0⟩:=DataW.trod_int B6 f0
 obtain ⟨tm',e1,_,w1⟩:=DataW.trod_int D8 f1
 obtain ⟨tm,rfl,w1'⟩:=u64_nat w1
 obtain ⟨vp,e2⟩:=seg_one (cs:=cs) (off:=2) aM
 rw [e2] at f2
 obtain ⟨ps,w2⟩:=trod_slice reads_pm Tryz.underlying41 aD f2
 obtain ⟨vo,e3⟩:=seg_one (cs:=cs) (off:=3) aM
 rw [e3] at f3
 obtain ⟨os,w3⟩:=trod_slice reads_op Tryz.underlying42 aD f3
 obtain ⟨vt,e4⟩:=seg_one (cs:=cs) (off:=4) aM
 rw [e4] at f4
 obtain ⟨ts,w4⟩:=trod_slice reads_tb C8 aD f4
 have hcs:=segs_all cs [1,1,1,1,1] 0 dA
 simp only [List.drop_zero,segs,List.flatten_cons,List.flatten_nil,List.append_nil,Nat.zero_add,Nat.reduceAdd,e0,e1,e2,e3,e4] at hcs
 (try rw [List.drop_zero] at e0)
 (try simp only [e0] at hcs)
 exact ⟨⟨ep,tm,ps,os,ts⟩,vp,vo,vt,hcs,⟨bounds_i64 w0,w1'⟩,w2,w3,w4⟩
theorem reads_pr:Reads PrR 47:=by
 intro H enc W fuel cs x h
 obtain ⟨xs,n,_,-,hl,hn,hf⟩:=DataW.trod_struct C6 h
 rw [show Tryz.prog.cellsOf 47=11 from by kernel_rfl] at hl
 have hxs:xs.length=6:=hn
 have f0:DataW.trod enc Tryz.prog W 0 (fun _=>true) true n 3 ((cs.drop 0).take (Tryz.prog.cellsOf 3))=xs[0]?:=hf 0 _ rfl
 rw [List.getElem?_eq_getElem aM,show Tryz.prog.cellsOf 3=1 from by kernel_rfl] at f0
 have f1:DataW.trod enc Tryz.prog W 0 (fun _=>true) true n 3 ((cs.drop 1).take (Tryz.prog.cellsOf 3))=xs[1]?:=hf 1 _ rfl
 rw [List.getElem?_eq_getElem aM,show Tryz.prog.cellsOf 3=1 from by kernel_rfl] at f1
 have f2:DataW.trod enc Tryz.prog W 0 (fun _=>true) true n 3 ((cs.drop 2).take (Tryz.prog.cellsOf 3))=xs[2]?:=hf 2 _ rfl
 rw [List.getElem?_eq_getElem aM,show Tryz.prog.cellsOf 3=1 from by kernel_rfl] at f2
 have f3:DataW.trod enc Tryz.prog W 0 (fun _=>true) true n 3 ((cs.drop 3).take (Tryz.prog.cellsOf 3))=xs[3]?:=hf 3 _ rfl
 rw [List.getElem?_eq_getElem aM,show Tryz.prog.cellsOf 3=1 from by kernel_rfl] at f3
 have f4:DataW.trod enc Tryz.prog W 0 (fun _=>true) true n 45 ((cs.drop 4).take (Tryz.prog.cellsOf 45))=xs[4]?:=hf 4 _ rfl
 rw [List.getElem?_eq_getElem aM,show Tryz.prog.cellsOf 45=5 from by kernel_rfl] at f4
 have f5:DataW.trod enc Tryz.prog W 0 (fun _=>true) true n 27 ((cs.drop 9).take (Tryz.prog.cellsOf 27))=xs[5]?:=hf 5 _ rfl
 rw [List.getElem?_eq_getElem aM,show Tryz.prog.cellsOf 27=2 from by kernel_rfl] at f5
 obtain ⟨ep,e0,_,w0⟩:=DataW.trod_int B6 f0
 obtain ⟨rn,e1,_,w1⟩:=DataW.trod_int B6 f1
 obtain ⟨vl,e2,_,w2⟩:=DataW.trod_int B6 f2
 obtain ⟨rp,e3,_,w3⟩:=DataW.trod_int B6 f3
 obtain ⟨ba,w4⟩:=reads_ba _ _ _ _ _ _ f4
 obtain ⟨vp,vo,vt,e4,w4,w4'⟩:=w4
 obtain ⟨sb,mr,e5,w5,w5'⟩:=trod_pair Tryz.underlying27 rfl rfl rfl aD f5
 have hcs:=segs_all cs [1,1,1,1,5,2] 0 dA
 simp only [List.drop_zero,segs,List.flatten_cons,List.flatten_nil,List.append_nil,Nat.zero_add,Nat.reduceAdd,e0,e1,e2,e3,e4,e5] at hcs
 (try rw [List.drop_zero] at e0)
 (try simp only [e0] at hcs)
 exact ⟨⟨ep,rn,vl,rp,ba,sb,mr⟩,vp,vo,vt,hcs,⟨bounds_i64 w0,bounds_i64 w1,bounds_i64 w2,bounds_i64 w3,w4,w5,w5'⟩,w4'⟩
theorem reads_dc:Reads DcR 59:=by
 intro H enc W fuel cs x h
 obtain ⟨xs,n,_,-,hl,hn,hf⟩:=DataW.trod_struct D3 h
 rw [show Tryz.prog.cellsOf 59=8 from by kernel_rfl] at hl
 have hxs:xs.length=4:=hn
 have f0:DataW.trod enc Tryz.prog W 0 (fun _=>true) true n 3 ((cs.drop 0).take (Tryz.prog.cellsOf 3))=xs[0]?:=hf 0 _ rfl
 rw [List.getElem?_eq_getElem aM,show Tryz.prog.cellsOf 3=1 from by kernel_rfl] at f0
 have f1:DataW.trod enc Tryz.prog W 0 (fun _=>true) true n 3 ((cs.drop 1).take (Tryz.prog.cellsOf 3))=xs[1]?:=hf 1 _ rfl
 rw [List.getElem?_eq_getElem aM,show Tryz.prog.cellsOf 3=1 from by kernel_rfl] at f1
 have f2:DataW.trod enc Tryz.prog W 0 (fun _=>true) true n 45 ((cs.drop 2).take (Tryz.prog.cellsOf 45))=xs[2]?:=hf 2 _ rfl
 rw [List.getElem?_eq_getElem aM,show Tryz.prog.cellsOf 45=5 from by kernel_rfl] at f2
 have f3:DataW.trod enc Tryz.prog W 0 (fun _=>true) true n 57 ((cs.drop 7).take (Tryz.prog.cellsOf 57))=xs[3]?:=hf 3 _ rfl
 rw [List.getElem?_eq_getElem aM,show Tryz.prog.cellsOf 57=1 from by kernel_rfl] at f3
 obtain ⟨ep,e0,_,w0⟩:=DataW.trod_int B6 f0
 obtain ⟨rn,e1,_,w1⟩:=DataW.trod_int B6 f1
 obtain ⟨ba,w2⟩:=reads_ba _ _ _ _ _ _ f2
 obtain ⟨vp,vo,vt,e2,w2,w2'⟩:=w2
 obtain ⟨vl,e3⟩:=seg_one (cs:=cs) (off:=7) aM
 rw [e3] at f3
 obtain ⟨l,w3⟩:=trod_slice reads_vt Tryz.underlying57 aD f3
 have hcs:=segs_all cs [1,1,5,1] 0 dA
 simp only [List.drop_zero,segs,List.flatten_cons,List.flatten_nil,List.append_nil,Nat.zero_add,Nat.reduceAdd,e0,e1,e2,e3] at hcs
 (try rw [List.drop_zero] at e0)
 (try simp only [e0] at hcs)
 exact ⟨⟨ep,rn,ba,l⟩,vp,vo,vt,vl,hcs,⟨bounds_i64 w0,bounds_i64 w1,w2⟩,w2'.1,w2'.2.1,w2'.2.2,w3⟩
theorem reads_en:Reads EnR 51:=by
 intro H enc W fuel cs x h
 obtain ⟨xs,n,_,-,hl,hn,hf⟩:=DataW.trod_struct Tryz.underlying51 h
 rw [show Tryz.prog.cellsOf 51=35 from by kernel_rfl] at hl
 have hxs:xs.length=3:=hn
 have f0:DataW.trod enc Tryz.prog W 0 (fun _=>true) true n 23 ((cs.drop 0).take (Tryz.prog.cellsOf 23))=xs[0]?:=hf 0 _ rfl
 rw [List.getElem?_eq_getElem aM,show Tryz.prog.cellsOf 23=2 from by kernel_rfl] at f0
 have f1:DataW.trod enc Tryz.prog W 0 (fun _=>true) true n 25 ((cs.drop 2).take (Tryz.prog.cellsOf 25))=xs[1]?:=hf 1 _ rfl
 rw [List.getElem?_eq_getElem aM,show Tryz.prog.cellsOf 25=32 from by kernel_rfl] at f1
 have f2:DataW.trod enc Tryz.prog W 0 (fun _=>true) true n 30 ((cs.drop 34).take (Tryz.prog.cellsOf 30))=xs[2]?:=hf 2 _ rfl
 rw [List.getElem?_eq_getElem aM,show Tryz.prog.cellsOf 30=1 from by kernel_rfl] at f2
 obtain ⟨cl,sq,e0,w0,w0'⟩:=trod_pair Tryz.underlying23 rfl rfl rfl aD f0
 obtain ⟨hh,e1,w1,w1'⟩:=trod_arr D5 Tryz.underlying5 aD aD f1
 obtain ⟨tm',e2,_,w2⟩:=DataW.trod_int D8 f2
 obtain ⟨tm,rfl,w2'⟩:=u64_nat w2
 have hcs:=segs_all cs [2,32,1] 0 dA
 simp only [List.drop_zero,segs,List.flatten_cons,List.flatten_nil,List.append_nil,Nat.zero_add,Nat.reduceAdd,e0,e1,e2] at hcs
 (try rw [List.drop_zero] at e0)
 (try simp only [e0] at hcs)
 exact ⟨⟨cl,sq,hh,tm⟩,(by first|exact hcs|(rw [hcs];rfl)),⟨w0,w0',⟨w1',w1⟩,w2'⟩⟩
theorem trod_str1 {H:Type} {enc:TypeId × Value→H} {W:World} {n:Nat} {cs:List Value} {x:DataW H × List MemPlace} (h:DataW.trod enc Tryz.prog W 0 (fun _=>true) true n 9 cs=some x):∃ s:ByteArray,cs=[.string s]:=by
 obtain ⟨s,hc,_,_⟩:=DataW.trod_string Tryz.underlying9 h
 exact ⟨s,hc⟩
theorem reads_mg:Reads MgR 61:=by
 intro H enc W fuel cs x h
 obtain ⟨xs,n,_,-,hl,hn,hf⟩:=DataW.trod_struct B7 h
 rw [show Tryz.prog.cellsOf 61=295 from by kernel_rfl] at hl
 have hxs:xs.length=19:=hn
 have f0:DataW.trod enc Tryz.prog W 0 (fun _=>true) true n 3 ((cs.drop 0).take (Tryz.prog.cellsOf 3))=xs[0]?:=hf 0 _ rfl
 rw [List.getElem?_eq_getElem aM,show Tryz.prog.cellsOf 3=1 from by kernel_rfl] at f0
 have f1:DataW.trod enc Tryz.prog W 0 (fun _=>true) true n 3 ((cs.drop 1).take (Tryz.prog.cellsOf 3))=xs[1]?:=hf 1 _ rfl
 rw [List.getElem?_eq_getElem aM,show Tryz.prog.cellsOf 3=1 from by kernel_rfl] at f1
 have f2:DataW.trod enc Tryz.prog W 0 (fun _=>true) true n 3 ((cs.drop 2).take (Tryz.prog.cellsOf 3))=xs[2]?:=hf 2 _ rfl
 rw [List.getElem?_eq_getElem aM,show Tryz.prog.cellsOf 3=1 from by kernel_rfl] at f2
 have f3:DataW.trod enc Tryz.prog W 0 (fun _=>true) true n 29 ((cs.drop 3).take (Tryz.prog.cellsOf 29))=xs[3]?:=hf 3 _ rfl
 rw [List.getElem?_eq_getElem aM,show Tryz.prog.cellsOf 29=37 from by kernel_rfl] at f3
 have f4:DataW.trod enc Tryz.prog W 0 (fun _=>true) true n 32 ((cs.drop 40).take (Tryz.prog.cellsOf 32))=xs[4]?:=hf 4 _ rfl
 rw [List.getElem?_eq_getElem aM,show Tryz.prog.cellsOf 32=38 from by kernel_rfl] at f4
 have f5:DataW.trod enc Tryz.prog W 0 (fun _=>true) true n 35 ((cs.drop 78).take (Tryz.prog.cellsOf 35))=xs[5]?:=hf 5 _ rfl
 rw [List.getElem?_eq_getElem aM,show Tryz.prog.cellsOf 35=38 from by kernel_rfl] at f5
 have f6:DataW.trod enc Tryz.prog W 0 (fun _=>true) true n 37 ((cs.drop 116).take (Tryz.prog.cellsOf 37))=xs[6]?:=hf 6 _ rfl
 rw [List.getElem?_eq_getElem aM,show Tryz.prog.cellsOf 37=38 from by kernel_rfl] at f6
 have f7:DataW.trod enc Tryz.prog W 0 (fun _=>true) true n 3 ((cs.drop 154).take (Tryz.prog.cellsOf 3))=xs[7]?:=hf 7 _ rfl
 rw [List.getElem?_eq_getElem aM,show Tryz.prog.cellsOf 3=1 from by kernel_rfl] at f7
 have f8:DataW.trod enc Tryz.prog W 0 (fun _=>true) true n 3 ((cs.drop 155).take (Tryz.prog.cellsOf 3))=xs[8]?:=hf 8 _ rfl
 rw [List.getElem?_eq_getElem aM,show Tryz.prog.cellsOf 3=1 from by kernel_rfl] at f8
 have f9:DataW.trod enc Tryz.prog W 0 (fun _=>true) true n 30 ((cs.drop 156).take (Tryz.prog.cellsOf 30))=xs[9]?:=hf 9 _ rfl
 rw [List.getElem?_eq_getElem aM,show Tryz.prog.cellsOf 30=1 from by kernel_rfl] at f9
 have f10:DataW.trod enc Tryz.prog W 0 (fun _=>true) true n 40 ((cs.drop 157).take (Tryz.prog.cellsOf 40))=xs[10]?:=hf 10 _ rfl
 rw [List.getElem?_eq_getElem aM,show Tryz.prog.cellsOf 40=6 from by kernel_rfl] at f10
 have f11:DataW.trod enc Tryz.prog W 0 (fun _=>true) true n 47 ((cs.drop 163).take (Tryz.prog.cellsOf 47))=xs[11]?:=hf 11 _ rfl
 rw [List.getElem?_eq_getElem aM,show Tryz.prog.cellsOf 47=11 from by kernel_rfl] at f11
 have f12:DataW.trod enc Tryz.prog W 0 (fun _=>true) true n 49 ((cs.drop 174).take (Tryz.prog.cellsOf 49))=xs[12]?:=hf 12 _ rfl
 rw [List.getElem?_eq_getElem aM,show Tryz.prog.cellsOf 49=38 from by kernel_rfl] at f12
 have f13:DataW.trod enc Tryz.prog W 0 (fun _=>true) true n 3 ((cs.drop 212).take (Tryz.prog.cellsOf 3))=xs[13]?:=hf 13 _ rfl
 rw [List.getElem?_eq_getElem aM,show Tryz.prog.cellsOf 3=1 from by kernel_rfl] at f13
 have f14:DataW.trod enc Tryz.prog W 0 (fun _=>true) true n 51 ((cs.drop 213).take (Tryz.prog.cellsOf 51))=xs[14]?:=hf 14 _ rfl
 rw [List.getElem?_eq_getElem aM,show Tryz.prog.cellsOf 51=35 from by kernel_rfl] at f14
 have f15:DataW.trod enc Tryz.prog W 0 (fun _=>true) true n 54 ((cs.drop 248).take (Tryz.prog.cellsOf 54))=xs[15]?:=hf 15 _ rfl
 rw [List.getElem?_eq_getElem aM,show Tryz.prog.cellsOf 54=34 from by kernel_rfl] at f15
 have f16:DataW.trod enc Tryz.prog W 0 (fun _=>true) true n 56 ((cs.drop 282).take (Tryz.prog.cellsOf 56))=xs[16]?:=hf 16 _ rfl
 rw [List.getElem?_eq_getElem aM,show Tryz.prog.cellsOf 56=4 from by kernel_rfl] at f16
 have f17:DataW.trod enc Tryz.prog W 0 (fun _=>true) true n 9 ((cs.drop 286).take (Tryz.prog.cellsOf 9))=xs[17]?:=hf 17 _ rfl
 rw [List.getElem?_eq_getElem aM,show Tryz.prog.cellsOf 9=1 from by kernel_rfl] at f17
 have f18:DataW.trod enc Tryz.prog W 0 (fun _=>true) true n 59 ((cs.drop 287).take (Tryz.prog.cellsOf 59))=xs[18]?:=hf 18 _ rfl
 rw [List.getElem?_eq_getElem aM,show Tryz.prog.cellsOf 59=8 from by kernel_rfl] at f18
 obtain ⟨kd,e0,_,w0⟩:=DataW.trod_int B6 f0
 obtain ⟨fr,e1,_,w1⟩:=DataW.trod_int B6 f1
 obtain ⟨to_,e2,_,w2⟩:=DataW.trod_int B6 f2
 obtain ⟨cm,e3,w3⟩:=reads_cm _ _ _ _ _ _ f3
 obtain ⟨st,e4,w4⟩:=reads_st _ _ _ _ _ _ f4
 obtain ⟨ce,w5⟩:=reads_ce _ _ _ _ _ _ f5
 obtain ⟨ak,e6,w6⟩:=reads_ak _ _ _ _ _ _ f6
 obtain ⟨ep,e7,_,w7⟩:=DataW.trod_int B6 f7
 obtain ⟨rn,e8,_,w8⟩:=DataW.trod_int B6 f8
 obtain ⟨tm',e9,_,w9⟩:=DataW.trod_int D8 f9
 obtain ⟨tm,rfl,w9'⟩:=u64_nat w9
 obtain ⟨pm,w10⟩:=reads_pm _ _ _ _ _ _ f10
 obtain ⟨pr,w11⟩:=reads_pr _ _ _ _ _ _ f11
 obtain ⟨vt,e12,w12⟩:=reads_vt _ _ _ _ _ _ f12
 obtain ⟨ix,e13,_,w13⟩:=DataW.trod_int B6 f13
 obtain ⟨en,e14,w14⟩:=reads_en _ _ _ _ _ _ f14
 obtain ⟨op,w15⟩:=reads_op _ _ _ _ _ _ f15
 obtain ⟨dn,e16,w16⟩:=reads_dn _ _ _ _ _ _ f16
 obtain ⟨rp,e17⟩:=trod_str1 f17
 obtain ⟨dc,w18⟩:=reads_dc _ _ _ _ _ _ f18
 have hcs:=segs_all cs [1,1,1,37,38,38,38,1,1,1,6,11,38,1,35,34,4,1,8] 0 dA
 simp only [List.drop_zero,segs,Nat.zero_add,Nat.reduceAdd,e1,e2,e3,e4,e6,e7,e8,e9,e12,e13,e14,e16,e17] at hcs
 (try rw [List.drop_zero] at e0)
 (try simp only [e0] at hcs)
 exact ⟨⟨kd,fr,to_,cm,st,ce,ak,ep,rn,tm,pm,pr,vt,ix,en,op,dn,rp,dc⟩,(cs.drop 78).take 38,(cs.drop 157).take 6,(cs.drop 163).take 11,(cs.drop 248).take 34,(cs.drop 287).take 8,hcs,⟨bounds_i64 w0,bounds_i64 w1,bounds_i64 w2,w3,w4,w6,bounds_i64 w7,bounds_i64 w8,w9',w12,bounds_i64 w13,w14,w16⟩,w5,w10,w11,w15,w18⟩
end Go.Proofs.YtnaoeginonpicaaGreat
namespace Go.Proofs.YtnaoeginonpicaaGreat.msgBack
open Go Go.RowKit Go.Gv Go.ChangeShapes Go.WideShapes Go.ChangeAt
open Go.ChangeMaps (open_string shut_string)
theorem own:ownKnob Tryz.prog.godebug=none:=by kernel_rfl
theorem laidOut:laidOutB Tryz.prog=true:=by kernel_rfl
theorem lifted (os:Os) (started:os.Started) (H:Type) (enc:TypeId × Value→H) :
 ReturnsInHanded {} Tryz.checked os 5 .any (Rows.msgBackSpec.pre6 enc Tryz.prog Tryz.f5 Rows.msgBackRow.domain false) (Rows.msgBackSpec.post enc Tryz.prog Tryz.f5 false true false false):=by
 refine returnsInHanded_of_change (C:=Tryz.checked) own started aD Tryz.func5
  (ChangeSpec.witness6 (enc:=enc) (C:=Tryz.checked) false ⟨#[],#[.agg #[.int .i64 0,.int .i64 0,.int .i64 0,.int .i64 0,.int .i64 0,.int .u8 0,.int .u8 0,.int .u8 0,.int .u8 0,.int .u8 0,.int .u8 0,.int .u8 0,.int .u8 0,.int .u8 0,.int .u8 0,.int .u8 0,.int .u8 0,.int .u8 0,.int .u8 0,.int .u8 0,.int .u8 0,.int .u8 0,.int .u8 0,.int .u8 0,.int .u8 0,.int .u8 0,.int .u8 0,.int .u8 0,.int .u8 0,.int .u8 0,.int .u8 0,.int .u8 0,.int .u8 0,.int .u8 0,.int .u8 0,.int .u8 0,.int .u8 0,.int .i64 0,.int .i64 0,.int .i64 0,.int .i64 0,.int .i64 0,.int .i64 0,.int .u8 0,.int .u8 0,.int .u8 0,.int .u8 0,.int .u8 0,.int .u8 0,.int .u8 0,.int .u8 0,.int .u8 0,.int .u8 0,.int .u8 0,.int .u8 0,.int .u8 0,.int .u8 0,.int .u8 0,.int .u8 0,.int .u8 0,.int .u8 0,.int .u8 0,.int .u8 0,.int .u8 0,.int .u8 0,.int .u8 0,.int .u8 0,.int .u8 0,.int .u8 0,.int .u8 0,.int .u8 0,.int .u8 0,.int .u8 0,.int .u8 0,.int .u8 0,.int .u64 0,.int .i64 0,.int .i64 0,.int .i64 0,.int .i64 0,.int .u8 0,.int .u8 0,.int .u8 0,.int .u8 0,.int .u8 0,.int .u8 0,.int .u8 0,.int .u8 0,.int .u8 0,.int .u8 0,.int .u8 0,.int .u8 0,.int .u8 0,.int .u8 0,.int .u8 0,.int .u8 0,.int .u8 0,.int .u8 0,.int .u8 0,.int .u8 0,.int .u8 0,.int .u8 0,.int .u8 0,.int .u8 0,.int .u8 0,.int .u8 0,.int .u8 0,.int .u8 0,.int .u8 0,.int .u8 0,.int .u8 0,.int .u8 0,.int .i64 0,.int .i64 0,.int .i64 0,.slice none 0 0,.int .i64 0,.int .i64 0,.int .i64 0,.int .u8 0,.int .u8 0,.int .u8 0,.int .u8 0,.int .u8 0,.int .u8 0,.int .u8 0,.int .u8 0,.int .u8 0,.int .u8 0,.int .u8 0,.int .u8 0,.int .u8 0,.int .u8 0,.int .u8 0,.int .u8 0,.int .u8 0,.int .u8 0,.int .u8 0,.int .u8 0,.int .u8 0,.int .u8 0,.int .u8 0,.int .u8 0,.int .u8 0,.int .u8 0,.int .u8 0,.int .u8 0,.int .u8 0,.int .u8 0,.int .u8 0,.int .u8 0,.int .u64 0,.int .i64 0,.int .i64 0,.int .i64 0,.int .i64 0,.int .u64 0,.int .i64 0,.int .i64 0,.int .u64 0,.slice none 0 0,.int .i64 0,.int .i64 0,.int .i64 0,.int .i64 0,.int .i64 0,.int .i64 0,.int .i64 0,.int .u64 0,.slice none 0 0,.slice none 0 0,.slice none 0 0,.int .i64 0,.int .i64 0,.int .i64 0,.int .i64 0,.int .i64 0,.int .i64 0,.int .u8 0,.int .u8 0,.int .u8 0,.int .u8 0,.int .u8 0,.int .u8 0,.int .u8 0,.int .u8 0,.int .u8 0,.int .u8 0,.int .u8 0,.int .u8 0,.int .u8 0,.int .u8 0,.int .u8 0,.int .u8 0,.int .u8 0,.int .u8 0,.int .u8 0,.int .u8 0,.int .u8 0,.int .u8 0,.int .u8 0,.int .u8 0,.int .u8 0,.int .u8 0,.int .u8 0,.int .u8 0,.int .u8 0,.int .u8 0,.int .u8 0,.int .u8 0,.int .i64 0,.int .i64 0,.int .i64 0,.int .i64 0,.int .i64 0,.int .u8 0,.int .u8 0,.int .u8 0,.int .u8 0,.int .u8 0,.int .u8 0,.int .u8 0,.int .u8 0,.int .u8 0,.int .u8 0,.int .u8 0,.int .u8 0,.int .u8 0,.int .u8 0,.int .u8 0,.int .u8 0,.int .u8 0,.int .u8 0,.int .u8 0,.int .u8 0,.int .u8 0,.int .u8 0,.int .u8 0,.int .u8 0,.int .u8 0,.int .u8 0,.int .u8 0,.int .u8 0,.int .u8 0,.int .u8 0,.int .u8 0,.int .u8 0,.int .u64 0,.int .i64 0,.slice none 0 0,.int .u8 0,.int .u8 0,.int .u8 0,.int .u8 0,.int .u8 0,.int .u8 0,.int .u8 0,.int .u8 0,.int .u8 0,.int .u8 0,.int .u8 0,.int .u8 0,.int .u8 0,.int .u8 0,.int .u8 0,.int .u8 0,.int .u8 0,.int .u8 0,.int .u8 0,.int .u8 0,.int .u8 0,.int .u8 0,.int .u8 0,.int .u8 0,.int .u8 0,.int .u8 0,.int .u8 0,.int .u8 0,.int .u8 0,.int .u8 0,.int .u8 0,.int .u8 0,.int .i64 0,.int .i64 0,.int .i64 0,.int .i64 0,.string ByteArray.empty,.int .i64 0,.int .i64 0,.int .i64 0,.int .u64 0,.slice none 0 0,.slice none 0 0,.slice none 0 0,.slice none 0 0]],[]⟩ 8 aD aD aD aD) ?_
 intro W base args ds gs before hval0 hW hcnd _
 have hval:∀ (j:Nat) t v,Tryz.f5.params[j]? = some t→args[j]? = some v→Value.okWide Tryz.prog W .any base t v:=hval0
 have hW':=hW
 obtain ⟨p,q,hA0,hV,rfl,hfz,hnd⟩:=hW
 have hA:DataW.TrodAll enc Tryz.prog W 0 (fun _=>true) true Tryz.f5.params.toList args.toList ds p:=hA0
 rw [Tryz.params5] at hA hval
 obtain ⟨v0,vs0,d0,ds0,p0,q0,hargs,rfl,rfl,h0,r0⟩:=trodAll_cons hA
 obtain ⟨rfl,rfl,rfl⟩:=trodAll_nil r0
 obtain rfl:args=#[v0]:=by cases args;simp_all
 obtain ⟨rfl,rfl⟩:=trodVars_none hV
 have k0:=h0
 have lt0:∀ x ∈ p0,x.block < W.heap.size:=by obtain ⟨m,hm⟩:=k0;exact DataW.trod_lt m _ _ _ hm
 obtain ⟨cs0,x0,e0,n0⟩:=reads_arg reads_mg B7 (hval 0 61 v0 rfl rfl) h0
 subst e0
 clear hA0 hval0
 refine (LBack_any (fun k=>k < W.heap.size) x0 cs0 W n0 (fun _ h=>h)).mono fun e W' ⟨he,hmod⟩=>?_
 subst he
 have bel:Below W.heap.size W W':=hmod.below (B9 _) (fun _ _=>id)
 exact ⟨_,rfl,_,_,_,[],_,[],hW',trodAll_mk1 (shut_bool E0 _),(trodAll_cons_mk (Below.trod laidOut aD (of_decide_eq_true aD) k0 bel lt0) trodAll_mk0),rfl,bel.frame _,fun h=>by cases h⟩
theorem over:Rows.msgBackRow.holds Tryz.pinned (OpenSpec.ofChange Rows.msgBackSpec):=
 OpenClaim.holds_of_wide 5 Tryz.f5 rfl rfl rfl rfl rfl rfl rfl ⟨rfl,rfl,rfl,rfl,rfl⟩ rfl rfl rfl rfl rfl aD Tryz.func5 aD
  (of_decide_eq_true aD) (by unfold Func.isWrapper;first|(rw [if_pos (by decide +kernel)];kernel_rfl)|(rw [if_neg (by decide +kernel)];exact ⟨rfl,rfl⟩))
  (fun os started H enc _=>lifted os started H enc)
theorem proved:Rows.MsgBackSaid:=over
end Go.Proofs.YtnaoeginonpicaaGreat.msgBack
