/- Texts that are built one behind the other: XRu. No condition. -/
import Derived.Test.YtnaoeginonpicaaGreatMvF7
import Derived.Deep.CutBlock
set_option maxRecDepth 100000
set_option linter.unusedVariables false
open Go renaming Lib.hid→B8
open Go.Proofs renaming Tryz.underlying3→B9,Tryz.underlying61→C1,Tryz.underlying45→C7,Tryz.underlying43→D0,Tryz.underlying52→D2,Tryz.underlying47→D4,Tryz.underlying124→D7,Tryz.underlying25→D8,Tryz.underlying59→D9,Tryz.underlying30→E0,Tryz.func22→E3,Tryz.underlying127→E4,Tryz.underlying100→E5,Tryz.func67→E6,Tryz.underlying29→E7,Tryz.underlying4→E8,Tryz.func21→E9
open Nat renaming le_refl→C0,le_trans→C4
open List renaming append_assoc→C2,length_append→C3,map_cons→C5,map_nil→C6,map_toArray→C8,not_mem_nil→C9,mem_cons→D1,size_toArray→D3,length_nil→D5,length_cons→D6
open List renaming setIfInBounds_toArray → sIB, set_cons_zero → sCZ, set_cons_succ → sCS
namespace Go.Proofs.YtnaoeginonpicaaGreat
open Go Go.RowKit Go.Gv
theorem RrR.box7 {T:TypeId} {R:Nat→Prop} {N g:Nat} {w:World} {v:Value} {bs:List Int} (hc:Cs w g #[v,.bool false] T) (h:RdR R N w v bs) (hg:R g) (hne:0 < bs.length→∀ k,v.ownBlock=some k→k≠g):RrR T R w g (some bs):=
 ⟨v,⟨hc,h.1,fun h0 k hk e=>hne h0 k hk e⟩,hg,fun h0 k hk=>h.2.1 h0 k hk⟩
theorem RrR.b07 {T:TypeId} {R:Nat→Prop} {w:World} {r:Nat} {s:RSt} (h:RrR T R w r s):∃ ao cap,w.cell? ⟨r,0,none⟩=some (.slice ao (s.getD []).length cap):=by
 obtain ⟨v,h1,-⟩:=h
 obtain ⟨ao,cap,rfl,-⟩:=h1.2.1.shape
 exact ⟨ao,cap,(h1.1.cell 0).trans rfl⟩
theorem ite_kd {c:Prop} [Decidable c] {a b:Mg × RSt} {k:Int} (ha:a.1.kd=k) (hb:b.1.kd=k):(if c then a else b).1.kd=k:=by
 by_cases h:c<;>simp [h,ha,hb]
/-- what was read: its state, and where that is none no more is known -/
theorem gb_eq {x y:Mg} {s st:RSt} (h:Az x s=(y,st)):(Az x s).2=st∧(st≠none→(Az x s).1=y):=by rw [h];exact ⟨rfl,fun _=>rfl⟩
theorem unpack_kd {bs:List Int} (h:okKd (gMg (some bs)).1.kd=false):unpackB bs=none:=unpack_no2 (by unfold packs;rw [h];rfl)
theorem gBody_kd (x:Mg) (s:RSt):(Az x s).1.kd=x.kd:=by
 unfold Az
 repeat' (first|rfl|(refine ite_kd ?_ ?_))
theorem RrR.in_ {T:TypeId} {R:Nat→Prop} {w:World} {r:Nat} {s:RSt} (h:RrR T R w r s):R r:=by
 obtain ⟨v,-,h1,-⟩:=h
 exact h1
set_option maxHeartbeats 16000000 in
theorem RefUnpack_Q:∀ (R2:Nat→Prop) (v:Value) (bs:List Int) (w:World),RdR R2 900000 w v bs→(∀ k,R2 k→k < w.heap.size)→
 Calls Tryz.prog 12 #[v] w fun e w'=>∃ cs,e=.returned (.tuple #[.agg cs.toArray,.bool (unpackB bs).isSome])∧MgR.rd (New w w') w' cs ((unpackB bs).getD zMg)∧Mod (fun _=>False) w w':=by
 intro R2 v bs w hx hB2
 obtain ⟨ao,cap,rfl⟩:=hx.shape
 obtain ⟨um,hum⟩:∃ z,z=unpackB bs:=⟨_,rfl⟩
 rw [← hum]
 obtain ⟨ub,hub⟩:∃ z,z=um.isSome:=⟨_,rfl⟩
 rw [← hub]
 obtain ⟨uy,huy⟩:∃ z,z=um.getD zMg:=⟨_,rfl⟩
 rw [← huy]
 have HUM:=B8 hum
 have HUB:=B8 hub
 have HUY:=B8 huy
 have HX:=B8 hx
 have HBT:=B8 hB2
 have HL:=hid (show bs.length≤900000 from hx.2.2)
 have HBB:=hid (show Bytes bs from hx.1.1)
 have HNB:=hid (show OwR (fun k=>False) 900000 w (.slice none 0 0) [] from ⟨Own.nil _ _ _ _,(fun g h=>by cases h),Nat.zero_le _⟩)
 clear hum hub huy hx hB2
 go_enter Tryz.func12,Tryz.ntmps12
 go_upto_region 1 with (fail)
 obtain ⟨w1,hw1⟩:∃ zz,zz=(w.alloc (.cells ((mg0C 0 0 0):List Value).toArray 61)):=⟨_,rfl⟩
 change Code.wp _ _ _ _ (w.alloc (.cells ((mg0C 0 0 0):List Value).toArray 61))
 rw [← hw1]
 have HB2:=hid (show Cs w1 (w.heap.size) ((mg0C 0 0 0):List Value).toArray 61 by rw [hw1];exact Cs.new _ _ _)
 have hm:Mod (fun _=>False) w w1:=by rw [hw1];exact (Mod.refl _ _).alloc _
 have HM0:=hid (show Mod (fun _=>False) w w1 from hm.mono iB)
 have hs1:w1.heap.size=w.heap.size+1:=by rw [hw1];simp
 have gc:=hid (HX.o.mod hm iA)
 clear HX
 have t9:=hid (HNB.o.mod hm iA)
 clear HNB
 clear hw1 hm
 go_upto_region 1 with (fail)
 refine Ab 178 [8,9,10,11,4] [0,1,2,3,4] (fun a0 HA0=>?_)
 have d9:=ev HA0 0 rfl
 refine qmo rfl d9 ?_
 refine QSeq.go fun act E=>?_
 refine qc_appR rfl (Aa rfl) rfl rfl (E.d 0 0) t9.out gc.out (by have:=HL.o;simpa using this) ?_
 intro ao1 cap1 d6 qnb hm
 have u0:=hid (qnb.widen (R':=(fun k=>(False)∨(New w1 d6 k))) (fun _ h=>h) (C0 _))
 have li:=hm.size
 have u1:=hid (show Mod (fun k=>(False)) w1 d6 from hm)
 clear hm
 clear act E qnb t9
 refine QSeq.go fun act E=>?_
 refine Bu rfl (Aa rfl) (v:=.agg #[Value.slice ao1 (([]:List Int).length+bs.length) cap1,.bool false]) (Bo rfl (z:=[.slice none 0 0,.bool false]) (places:=[(0,1),(1,1)]) aE (parts:=[(0,.slice ao1 (([]:List Int).length+bs.length) cap1)]) (by simp only [C8,C5,C6,show act.eval (.tmp 9)=.slice ao1 (([]:List Int).length+bs.length) cap1 from (E.d 1 0)];try rfl) (r:=[Value.slice ao1 (([]:List Int).length+bs.length) cap1,.bool false]) (by exact Bn (ns:=[1,1]) rfl [(0,.slice ao1 (([]:List Int).length+bs.length) cap1)] [[.slice none 0 0],[.bool false]] rfl ⟨rfl,trivial⟩)) ?_
 clear act E
 refine QSeq.go fun act E=>?_
 refine qc_box rfl (Aa rfl) rfl (vs:=[Value.slice ao1 (([]:List Int).length+bs.length) cap1,.bool false]) (by rw [show act.eval (.tmp 10)=_ from (E.d 2 0)];rfl) ?_
 intro c7 qbx hm
 have lj:=qbx.lt
 have u2:=hid qbx
 have lk:=hm.size
 have u3:=hid hm
 have c8:=hid (u1.out.goE hm)
 clear hm u1
 clear act E qbx
 have hnb:=(u0.out.mod u3.out iA)
 rw [List.nil_append] at hnb
 have HRD0:=hid (RrR.box7 (R:=(fun k=>(New w1 d6 k)∨(k=d6.heap.size))) u2.out (hnb.rd.widen gK (C0 _)) (Or.inr rfl) (by intro h0 k hk e;have hb:=hnb.2.1 k hk;(try simp only [false_or] at hb);omega))
 clear hnb u2 u0
 refine qas rfl 3 0 ?_
 clear u3
 refine qe ?_
 clear HA0 d9 a0
 have HO0:=hid (MgR.one (mg0_rd (A8 (some bs)) (A8 (gI (some bs)).2) (A8 (gI (gI (some bs)).2).2) (fun _=>False) w))
 go_upto_region 2 with (fail)
 refine Ab 178 [12,13,14,15,16,17,18,5,186] [0,1,2,3,4,5,6,7,8] (fun a0 HA0=>?_)
 have c3:=ev HA0 4 rfl
 refine qmo rfl c3 ?_
 refine QSeq.call rfl rfl Tryz.func46 (dI_Q HRD0.o) (fun E=>Ar (E.d 0 0) rfl) ?_
 rintro e gd ⟨rfl,qrd,hm⟩
 refine ⟨_,rfl,?_⟩
 have u4:=hid qrd
 have ll:=hm.size
 have u5:=hid (show Mod (fun k=>(New w1 d6 k)∨(k=d6.heap.size)) c7 gd from hm)
 clear hm
 clear qrd HRD0
 refine qmo rfl c3 ?_
 refine QSeq.call rfl rfl Tryz.func46 (dI_Q u4.out) (fun E=>Ar (E.d 2 0) rfl) ?_
 rintro e lm ⟨rfl,qrd,hm⟩
 refine ⟨_,rfl,?_⟩
 have Hx9:=hid qrd
 have lp:=hm.size
 have ge:=hid hm
 have u6:=hid (AA (S':=(fun k=>(New w1 d6 k)∨(k=d6.heap.size))) u5.out hm (fun _ h=>h) (by intro k h0 h2;rcases h2 with h2|h2;exact Or.inl h2;exact Or.inr (h2)))
 clear hm u5
 clear qrd u4
 refine qmo rfl c3 ?_
 refine QSeq.call rfl rfl Tryz.func46 (dI_Q Hx9.o) (fun E=>Ar (E.d 4 0) rfl) ?_
 rintro e c6 ⟨rfl,qrd,hm⟩
 refine ⟨_,rfl,?_⟩
 have u7:=hid qrd
 have lq:=hm.size
 have gf:=hid hm
 have u9:=hid (AA (S':=(fun k=>(New w1 d6 k)∨(k=d6.heap.size))) u6.out hm (fun _ h=>h) (by intro k h0 h2;rcases h2 with h2|h2;exact Or.inl h2;exact Or.inr (h2)))
 clear hm u6
 clear qrd Hx9
 refine QSeq.go fun act E=>?_
 refine Bu rfl (Aa rfl) (v:=.agg ((mg0C (gI (some bs)).1 (gI (gI (some bs)).2).1 (gI (gI (gI (some bs)).2).2).1):List Value).toArray) (Bo rfl (z:=(mg0C 0 0 0)) (places:=[(0,1),(1,1),(2,1),(3,37),(40,38),(78,38),(116,38),(154,1),(155,1),(156,1),(157,6),(163,11),(174,38),(212,1),(213,35),(248,34),(282,4),(286,1),(287,8)]) aE (parts:=[(0,.int .i64 (gI (some bs)).1),(1,.int .i64 (gI (gI (some bs)).2).1),(2,.int .i64 (gI (gI (gI (some bs)).2).2).1)]) (by simp only [C8,C5,C6,show act.eval (.tmp 13)=.int .i64 (gI (some bs)).1 from (E.d 1 4),show act.eval (.tmp 15)=.int .i64 (gI (gI (some bs)).2).1 from (E.d 3 2),show act.eval (.tmp 17)=.int .i64 (gI (gI (gI (some bs)).2).2).1 from (E.d 5 0)];try rfl) (r:=(mg0C (gI (some bs)).1 (gI (gI (some bs)).2).1 (gI (gI (gI (some bs)).2).2).1)) dG) ?_
 clear act E
 refine QSeq.go fun act E=>?_
 refine qc_alloc rfl (Aa rfl) rfl (z:=(mg0C 0 0 0)) aE ?_
 intro lr qqm hm
 have ls:=qqm.lt
 have v5:=hid qqm
 have lu:=hm.size
 have v6:=hid hm
 have v7:=hid (u9.out.goE hm)
 clear hm u9
 clear act E qqm
 refine QSeq.go fun act E=>?_
 have hlz:((mg0C (gI (some bs)).1 (gI (gI (some bs)).2).1 (gI (gI (gI (some bs)).2).2).1)).length=List.length ((mg0C 0 0 0):List Value):=rfl
 refine Am rfl (Aa rfl) rfl v5.out (off:=0) (vs:=(mg0C (gI (some bs)).1 (gI (gI (some bs)).2).1 (gI (gI (gI (some bs)).2).2).1)) dI HO0.o bS (E.d 7 0) (ec (E.d 6 1)) ?_
 intro c9 qc0 hm
 have qqm:=qc0.eqv (b:=((mg0C (gI (some bs)).1 (gI (gI (some bs)).2).1 (gI (gI (gI (some bs)).2).2).1):List Value).toArray) (Aw (((mg0C 0 0 0):List Value).toArray) _ eK)
 clear qc0 hlz
 have v8:=hid qqm
 have lv:=hm.size
 have x4:=hid hm
 have d5:=hid (AA (S':=(fun k=>(New w1 d6 k)∨(k=d6.heap.size))) v7.out hm (fun _ h=>h) cQ)
 clear hm v7
 clear act E qqm v5
 have x5:=hid ((u7.out.mod v6.out iA).mod x4.out aD)
 clear u7 ge gf v6 x4
 refine qe ?_
 clear HA0 c3 a0
 obtain ⟨s,hs⟩:∃ z,z=(gI (gI (gI (some bs)).2).2).2:=⟨_,rfl⟩
 obtain ⟨x,hx⟩:∃ z:Mg,z=(mg0 (gI (some bs)).1 (gI (gI (some bs)).2).1 (gI (gI (gI (some bs)).2).2).1):=⟨_,rfl⟩
 obtain ⟨R,hR⟩:∃ R:Nat→Prop,R=(fun k=>(New w1 d6 k)∨(k=d6.heap.size)):=⟨_,rfl⟩
 have hrd:=x5.out
 rw [← hs,← hR] at hrd
 obtain ⟨r,hr⟩:∃ z,z=d6.heap.size:=⟨_,rfl⟩
 rw [← hr] at hrd
 rw [← hr]
 have HG:=hid (show gMg (some bs)=Az x s by rw [hx,hs];rfl)
 have HBR:=hid (show ∀ k,R k→k < c7.heap.size by rw [hR];intro k h1;(try simp only [false_or] at h1);omega)
 have HNR:=hid (show ∀ k,R k→w1.heap.size≤k by rw [hR];intro k h1;(try simp only [false_or] at h1);omega)
 have HNB2:=hid (show ¬ R w.heap.size from fun h=>by have:=HNR.o _ h;omega)
 have hq:MgR.rd (fun _=>False) w (mg0C (gI (some bs)).1 (gI (gI (some bs)).2).1 (gI (gI (gI (some bs)).2).2).1) x:=by rw [hx];exact mg0_rd (A8 _) (A8 _) (A8 _) _ _
 obtain ⟨c5,c10,c11,c15,c18,hcs,hok,h5,h10,h11,h15,h18⟩:=hq
 have hb:=v8.out
 rw [hcs] at hb
 have HQM:=B8 hb
 have HRD:=B8 hrd
 have HOK:=B8 hok
 have HLN:=hid (Mg.lns hok h5 h10 h11 h15 h18)
 have HLE:=hid (show (s.getD []).length≤900000 by rw [hs];exact (C4 (gI_suf.len _) (C4 (gI_suf.len _) (C4 (gI_suf.len _) HL.o))))
 have HBY:=hid hrd.bytes
 have HC5:=hid (CeR.len h5)
 have HC10:=hid (PmR.len h10)
 have HC11:=hid (PrR.len h11)
 have HC15:=hid (OpR.len h15)
 have HC18:=hid (DcR.len h18)
 have H5:=B8 h5
 have H10:=B8 h10
 have H11:=B8 h11
 have H15:=B8 h15
 have H18:=B8 h18
 have hm9:=((HM0.o.trans c8.out aD).trans d5.out aD)
 have HMR:=hid (show Mod R w c9 from hm9.mono iB)
 clear hrd hcs hb hok h5 h10 h11 h15 h18 hx hs hR hm9 x5 v8 HM0
 go_upto_region 3 with (fail)
 refine Ab 178 [19,20] [0,1] (fun a0 HA0=>?_)
 have c4:=ev HA0 5 rfl
 refine qfd rfl 0 C1 c4 ?_
 refine QSeq.pure rfl (.int .i64 x.kd) (fun E=>Af rfl B9 rfl (E.d 0 0) (AD HQM.o HLN.o 0 rfl (o:=0) (k:=0) rfl rfl rfl)) ?_
 refine qe ?_
 clear HA0 c4 a0
 go_upto_block 0 with (fail)
 go_cut [6,7] from 21 (fun t6 t7 w'=>∃ (y:Mg) (st:RSt) (cz:List Value),((Az x s).2=st∧(st≠none→(Az x s).1=y))∧Cs w' (c6.heap.size) cz.toArray 61∧MgR.rd (New c7 w') w' cz y∧RrR 100 R w' (r) st∧Cs w' (w.heap.size) (mg0C 0 0 0).toArray 61∧okKd x.kd=true∧Mod R w w')
 case first=>
  by_cases h1:x.kd=1
  ·have KK:=B8 h1
   clear h1
   go_upto_region 5 with (fail)
   refine tst 178 B9 (Bj KK.o) rfl (qs ?_)
   have HE:=hid (show Az x s=(({ x with cm:=(gCm s).1 }:Mg),(gCm s).2) by unfold Az;rw [KK.o];rfl)
   go_upto_region 6 with (fail)
   refine Ab 178 [24,25,26,181] [0,1,2,3] (fun a0 HA0=>?_)
   have c3:=ev HA0 4 rfl
   have c4:=ev HA0 5 rfl
   refine qmo rfl c3 ?_
   refine QSeq.call rfl rfl Tryz.func47 (dCm_Q _ _ _ _ HRD.o aK) (fun E=>Ap (E.d 0 0)) ?_
   rintro e gg ⟨rfl,qrd,hm⟩
   refine ⟨_,rfl,?_⟩
   have x6:=hid qrd
   have lw:=hm.size
   have n7:=hid (show Mod (fun k=>(R k)) c9 gg from hm)
   clear hm
   clear qrd HRD
   refine qfd rfl 3 C1 c4 ?_
   refine QSeq.go fun act E=>?_
   refine Am rfl (Aa rfl) rfl (HQM.o.mod n7.out aX) (off:=3) (vs:=((gCm s).1.cells)) (by rw [Cm.len (gCm_OK HBY.o).2.1];kernel_rfl) (Cm_one _) gO (E.d 2 0) (ec (E.d 1 1)) ?_
   intro x7 qc0 hm
   have qqm:=qc0.eqv (b:=((Mg.segs ({ x with cm:=(gCm s).1 }:Mg) c5 c10 c11 c15 c18).flatten:List Value).toArray) ((Bh HLN.o 3 (by rw [Cm.len (gCm_OK HBY.o).2.1];rfl) rfl).trans rfl)
   clear qc0
   have gh:=hid qqm
   have lx:=hm.size
   have x8:=hid hm
   have g6:=hid (AA (S':=(fun k=>(R k)∨(k=c6.heap.size))) n7.out hm iD aR)
   clear hm n7
   clear act E qqm HQM
   have gi:=hid (x6.out.mod x8.out (sB HBR))
   clear x6 x8
   refine qe ?_
   clear HA0 c3 c4 a0
   have hrz:MgR.rd (New c7 x7) x7 ((Mg.segs ({ x with cm:=(gCm s).1 }:Mg) c5 c10 c11 c15 c18).flatten) ({ x with cm:=(gCm s).1 }:Mg):=⟨_,_,_,_,_,rfl,{ HOK.o with cm:=gCm_OK HBY.o },(H5.o.mod (HMR.o.trans g6.out aC) (fun _ h _=>h.elim)).widen iC,(H10.o.mod (HMR.o.trans g6.out aC) (fun _ h _=>h.elim)).widen iC,(H11.o.mod (HMR.o.trans g6.out aC) (fun _ h _=>h.elim)).widen iC,(H15.o.mod (HMR.o.trans g6.out aC) (fun _ h _=>h.elim)).widen iC,(H18.o.mod (HMR.o.trans g6.out aC) (fun _ h _=>h.elim)).widen iC⟩
   have HRZ:=B8 hrz
   clear hrz
   go_wp2_with fail
   go_meet
   case rel=>exact ⟨_,_,_,gb_eq HE.o,gh.out,HRZ.o,gi.out,(((HB2.o.mod c8.out aG).mod d5.out aG).mod g6.out aV),dY,(HMR.o.trans g6.out aC)⟩
  have K1:=B8 h1
  clear h1
  go_upto_region 5 with (fail)
  refine tst 178 B9 (Bk K1.o) rfl (qs ?_)
  by_cases h2:x.kd=2
  ·have KK:=B8 h2
   clear h2
   go_upto_region 7 with (fail)
   refine tst 178 B9 (Bj KK.o) rfl (qs ?_)
   have HE:=hid (show Az x s=(({ x with st:=(gSt s).1 }:Mg),(gSt s).2) by unfold Az;rw [KK.o];rfl)
   go_upto_region 8 with (fail)
   refine Ab 178 [29,30,31,181] [0,1,2,3] (fun a0 HA0=>?_)
   have c3:=ev HA0 4 rfl
   have c4:=ev HA0 5 rfl
   refine qmo rfl c3 ?_
   refine QSeq.call rfl rfl Tryz.func48 (dSt_Q _ _ _ _ HRD.o aK) (fun E=>Ap (E.d 0 0)) ?_
   rintro e gj ⟨rfl,qrd,hm⟩
   refine ⟨_,rfl,?_⟩
   have x9:=hid qrd
   have ly:=hm.size
   have n8:=hid (show Mod (fun k=>(R k)) c9 gj from hm)
   clear hm
   clear qrd HRD
   refine qfd rfl 40 C1 c4 ?_
   refine QSeq.go fun act E=>?_
   refine Am rfl (Aa rfl) rfl (HQM.o.mod n8.out aX) (off:=40) (vs:=((gSt s).1.cells)) gA (St.one _) gV (E.d 2 0) (ec (E.d 1 1)) ?_
   intro y0 qc0 hm
   have qqm:=qc0.eqv (b:=((Mg.segs ({ x with st:=(gSt s).1 }:Mg) c5 c10 c11 c15 c18).flatten:List Value).toArray) ((Bh HLN.o 4 gL rfl).trans rfl)
   clear qc0
   have gk:=hid qqm
   have lz:=hm.size
   have y5:=hid hm
   have g7:=hid (AA (S':=(fun k=>(R k)∨(k=c6.heap.size))) n8.out hm iD aR)
   clear hm n8
   clear act E qqm HQM
   have gm:=hid (x9.out.mod y5.out (sB HBR))
   clear x9 y5
   refine qe ?_
   clear HA0 c3 c4 a0
   have hrz:MgR.rd (New c7 y0) y0 ((Mg.segs ({ x with st:=(gSt s).1 }:Mg) c5 c10 c11 c15 c18).flatten) ({ x with st:=(gSt s).1 }:Mg):=⟨_,_,_,_,_,rfl,{ HOK.o with st:=gSt_OK HBY.o },(H5.o.mod (HMR.o.trans g7.out aC) (fun _ h _=>h.elim)).widen iC,(H10.o.mod (HMR.o.trans g7.out aC) (fun _ h _=>h.elim)).widen iC,(H11.o.mod (HMR.o.trans g7.out aC) (fun _ h _=>h.elim)).widen iC,(H15.o.mod (HMR.o.trans g7.out aC) (fun _ h _=>h.elim)).widen iC,(H18.o.mod (HMR.o.trans g7.out aC) (fun _ h _=>h.elim)).widen iC⟩
   have HRZ:=B8 hrz
   clear hrz
   go_wp2_with fail
   go_meet
   case rel=>exact ⟨_,_,_,gb_eq HE.o,gk.out,HRZ.o,gm.out,(((HB2.o.mod c8.out aG).mod d5.out aG).mod g7.out aV),dY,(HMR.o.trans g7.out aC)⟩
  have K2:=B8 h2
  clear h2
  go_upto_region 7 with (fail)
  refine tst 178 B9 (Bk K2.o) rfl (qs ?_)
  by_cases h3:x.kd=3
  ·have KK:=B8 h3
   clear h3
   go_upto_region 9 with (fail)
   refine tst 178 B9 (Bj KK.o) rfl (qs ?_)
   obtain ⟨st2,hp2⟩:∃ z,z=(gCe s).2:=⟨_,rfl⟩
   have HP2:=hid hp2.symm
   clear hp2
   go_upto_region 10 with (fail)
   refine Ab 178 [34,35,36,181] [0,1,2,3] (fun a0 HA0=>?_)
   have c3:=ev HA0 4 rfl
   have c4:=ev HA0 5 rfl
   refine qmo rfl c3 ?_
   refine QSeq.call rfl rfl Tryz.func49 (dCe_U.to HP2.o HRD.o aK HLE.o) (fun E=>Ap (E.d 0 0)) ?_
   rintro e gn ⟨cn,yn,rfl,qnw,qrd,hyn,hm⟩
   have HYN:=B8 hyn
   have HCN:=hid (CeR.len qnw)
   have HCO:=hid (CeR.one qnw)
   clear hyn
   refine ⟨_,rfl,?_⟩
   have y6:=hid qnw
   have y7:=hid qrd
   have mc:=hm.size
   have o5:=hid (show Mod (fun k=>(R k)) c9 gn from hm)
   clear hm
   clear qnw qrd HRD
   refine qfd rfl 78 C1 c4 ?_
   refine QSeq.go fun act E=>?_
   refine Am rfl (Aa rfl) rfl (HQM.o.mod o5.out aX) (off:=78) (vs:=cn) fI HCO.o (by rw [D3,Bb,HLN.o];show 78+_≤295;rw [HCN.o];decide) (E.d 2 0) (ec (E.d 1 1)) ?_
   intro y8 qc0 hm
   have qqm:=qc0.eqv (b:=((Mg.segs ({ x with ce:=yn }:Mg) cn c10 c11 c15 c18).flatten:List Value).toArray) ((Bh HLN.o 5 gE rfl).trans rfl)
   clear qc0
   have gq:=hid qqm
   have md:=hm.size
   have o6:=hid hm
   have j6:=hid (AA (S':=(fun k=>(R k)∨(k=c6.heap.size))) o5.out hm iD aR)
   clear hm o5
   clear act E qqm HQM
   have gr:=hid (y7.out.mod o6.out (sB HBR))
   have gu:=hid (y6.out.mod o6.out aD)
   clear y7 y6 o6
   refine qe ?_
   clear HA0 c3 c4 a0
   have HE:=hid (show (Az x s).2=st2∧(st2≠none→(Az x s).1=({ x with ce:=yn }:Mg)) from ⟨(by unfold Az;rw [KK.o];exact HP2.o),fun h=>by rw [HYN.o h];unfold Az;rw [KK.o];rfl⟩)
   have hrz:MgR.rd (New c7 y8) y8 ((Mg.segs ({ x with ce:=yn }:Mg) cn c10 c11 c15 c18).flatten) ({ x with ce:=yn }:Mg):=⟨_,_,_,_,_,rfl,{ HOK.o with },gu.out.widen cV,(H10.o.mod (HMR.o.trans j6.out aC) (fun _ h _=>h.elim)).widen iC,(H11.o.mod (HMR.o.trans j6.out aC) (fun _ h _=>h.elim)).widen iC,(H15.o.mod (HMR.o.trans j6.out aC) (fun _ h _=>h.elim)).widen iC,(H18.o.mod (HMR.o.trans j6.out aC) (fun _ h _=>h.elim)).widen iC⟩
   have HRZ:=B8 hrz
   clear hrz
   go_wp2_with fail
   go_meet
   case rel=>exact ⟨_,_,_,HE.o,gq.out,HRZ.o,gr.out,(((HB2.o.mod c8.out aG).mod d5.out aG).mod j6.out aV),dY,(HMR.o.trans j6.out aC)⟩
  have K3:=B8 h3
  clear h3
  go_upto_region 9 with (fail)
  refine tst 178 B9 (Bk K3.o) rfl (qs ?_)
  by_cases h4:x.kd=4
  ·have KK:=B8 h4
   clear h4
   go_upto_region 11 with (fail)
   refine tst 178 B9 (Bj KK.o) rfl (qs ?_)
   have HE:=hid (show Az x s=(({ x with ak:=(gSt s).1 }:Mg),(gSt s).2) by unfold Az;rw [KK.o];rfl)
   go_upto_region 12 with (fail)
   refine Ab 178 [39,40,41,42,43,44,45,46,47,48,49,50,190] [0,1,2,3,4,5,6,7,8,9,10,11,12] (fun a0 HA0=>?_)
   have c3:=ev HA0 4 rfl
   have c4:=ev HA0 5 rfl
   refine qmo rfl c3 ?_
   refine QSeq.call rfl rfl Tryz.func46 (dI_Q HRD.o) (fun E=>Ar (E.d 0 0) rfl) ?_
   rintro e gv ⟨rfl,qrd,hm⟩
   refine ⟨_,rfl,?_⟩
   have z0:=hid qrd
   have me:=hm.size
   have z3:=hid (show Mod (fun k=>(R k)) c9 gv from hm)
   clear hm
   clear qrd HRD
   refine qmo rfl c3 ?_
   refine QSeq.call rfl rfl Tryz.func50 (dName_Q _ _ _ _ z0.out aK) (fun E=>Ap (E.d 2 0)) ?_
   rintro e mf ⟨rfl,qrd,hm⟩
   refine ⟨_,rfl,?_⟩
   have z4:=hid qrd
   have mg:=hm.size
   have gx:=hid hm
   have z5:=hid (AA (S':=(fun k=>(R k))) z3.out hm (fun _ h=>h) aQ)
   clear hm z3
   clear qrd z0
   refine qmo rfl c3 ?_
   refine QSeq.call rfl rfl Tryz.func51 (RefRHash_R z4.out) (fun E=>Ap (E.d 4 0)) ?_
   rintro e mh ⟨rfl,qrd,hm⟩
   refine ⟨_,rfl,?_⟩
   have z6:=hid qrd
   have mi:=hm.size
   have gy:=hid hm
   have z7:=hid (AA (S':=(fun k=>(R k))) z5.out hm (fun _ h=>h) aQ)
   clear hm z5
   clear qrd z4
   refine qmo rfl c3 ?_
   refine QSeq.call rfl rfl Tryz.func52 (RefRNum_R z6.out) (fun E=>Ap (E.d 6 0)) ?_
   rintro e mj ⟨rfl,qrd,hm⟩
   refine ⟨_,rfl,?_⟩
   have z9:=hid qrd
   have ml:=hm.size
   have gz:=hid hm
   have aa:=hid (AA (S':=(fun k=>(R k))) z7.out hm (fun _ h=>h) aQ)
   clear hm z7
   clear qrd z6
   refine qmo rfl c3 ?_
   refine QSeq.call rfl rfl Tryz.func53 (dSig_Q _ _ _ _ z9.out aK) (fun E=>Ap (E.d 8 0)) ?_
   rintro e mm ⟨rfl,qrd,hm⟩
   refine ⟨_,rfl,?_⟩
   have ac:=hid qrd
   have mn:=hm.size
   have ia:=hid hm
   have o7:=hid (AA (S':=(fun k=>(R k))) aa.out hm (fun _ h=>h) aQ)
   clear hm aa
   clear qrd z9
   refine QSeq.go fun act E=>?_
   refine Bu rfl (Aa rfl) (v:=.agg ((gSt s).1.cells:List Value).toArray) (Bo rfl (z:=zq3) (places:=[(0,1),(1,2),(3,32),(35,1),(36,2)]) aE (parts:=[(0,.int .i64 (gI s).1),(1,.agg #[.int .i64 (gSig (gI s).2).1.1,.int .i64 (gSig (gI s).2).1.2]),(2,hv (A6 (gSig (gI s).2).2).1),(3,.int .u64 ((rNum (A6 (gSig (gI s).2).2).2).1:Nat)),(4,.agg #[.int .i64 (gSig (rNum (A6 (gSig (gI s).2).2).2).2).1.1,.int .i64 (gSig (rNum (A6 (gSig (gI s).2).2).2).2).1.2])]) (by simp only [C8,C5,C6,show act.eval (.tmp 40)=.int .i64 (gI s).1 from (E.d 1 8),show act.eval (.tmp 42)=.agg #[.int .i64 (gSig (gI s).2).1.1,.int .i64 (gSig (gI s).2).1.2] from (E.d 3 6),show act.eval (.tmp 44)=hv (A6 (gSig (gI s).2).2).1 from (E.d 5 4),show act.eval (.tmp 46)=.int .u64 ((rNum (A6 (gSig (gI s).2).2).2).1:Nat) from (E.d 7 2),show act.eval (.tmp 48)=.agg #[.int .i64 (gSig (rNum (A6 (gSig (gI s).2).2).2).2).1.1,.int .i64 (gSig (rNum (A6 (gSig (gI s).2).2).2).2).1.2] from (E.d 9 0)];try rfl) (r:=(gSt s).1.cells) bC) ?_
   clear act E
   refine qfd rfl 116 C1 c4 ?_
   refine QSeq.go fun act E=>?_
   refine Am rfl (Aa rfl) rfl (HQM.o.mod o7.out aX) (off:=116) (vs:=((gSt s).1.cells)) gA (St.one _) gT (E.d 11 0) (ec (E.d 10 1)) ?_
   intro ae qc0 hm
   have qqm:=qc0.eqv (b:=((Mg.segs ({ x with ak:=(gSt s).1 }:Mg) c5 c10 c11 c15 c18).flatten:List Value).toArray) ((Bh HLN.o 6 gL rfl).trans rfl)
   clear qc0
   have ib:=hid qqm
   have mo:=hm.size
   have af:=hid hm
   have g8:=hid (AA (S':=(fun k=>(R k)∨(k=c6.heap.size))) o7.out hm iD aR)
   clear hm o7
   clear act E qqm HQM
   have ic:=hid (ac.out.mod af.out (sB HBR))
   clear ac gx gy gz ia af
   refine qe ?_
   clear HA0 c3 c4 a0
   have hrz:MgR.rd (New c7 ae) ae ((Mg.segs ({ x with ak:=(gSt s).1 }:Mg) c5 c10 c11 c15 c18).flatten) ({ x with ak:=(gSt s).1 }:Mg):=⟨_,_,_,_,_,rfl,{ HOK.o with ak:=gSt_OK HBY.o },(H5.o.mod (HMR.o.trans g8.out aC) (fun _ h _=>h.elim)).widen iC,(H10.o.mod (HMR.o.trans g8.out aC) (fun _ h _=>h.elim)).widen iC,(H11.o.mod (HMR.o.trans g8.out aC) (fun _ h _=>h.elim)).widen iC,(H15.o.mod (HMR.o.trans g8.out aC) (fun _ h _=>h.elim)).widen iC,(H18.o.mod (HMR.o.trans g8.out aC) (fun _ h _=>h.elim)).widen iC⟩
   have HRZ:=B8 hrz
   clear hrz
   go_wp2_with fail
   go_meet
   case rel=>exact ⟨_,_,_,gb_eq HE.o,ib.out,HRZ.o,ic.out,(((HB2.o.mod c8.out aG).mod d5.out aG).mod g8.out aV),dY,(HMR.o.trans g8.out aC)⟩
  have K4:=B8 h4
  clear h4
  go_upto_region 11 with (fail)
  refine tst 178 B9 (Bk K4.o) rfl (qs ?_)
  by_cases h5:x.kd=5
  ·have KK:=B8 h5
   clear h5
   go_upto_region 13 with (fail)
   refine tst 178 B9 (Bj KK.o) rfl (qs ?_)
   have HE:=hid (show Az x s=(({ x with ep:=(gI s).1,rn:=(gI (gI s).2).1,tm:=(rNum (gI (gI s).2).2).1 }:Mg),(rNum (gI (gI s).2).2).2) by unfold Az;rw [KK.o];rfl)
   go_upto_region 14 with (fail)
   refine Ab 178 [53,54,55,56,57,58,59,185,60,187,61,189] [0,1,2,3,4,5,6,7,8,9,10,11] (fun a0 HA0=>?_)
   have c3:=ev HA0 4 rfl
   have c4:=ev HA0 5 rfl
   refine qmo rfl c3 ?_
   refine QSeq.call rfl rfl Tryz.func46 (dI_Q HRD.o) (fun E=>Ar (E.d 0 0) rfl) ?_
   rintro e ig ⟨rfl,qrd,hm⟩
   refine ⟨_,rfl,?_⟩
   have ag:=hid qrd
   have mp:=hm.size
   have ah:=hid (show Mod (fun k=>(R k)) c9 ig from hm)
   clear hm
   clear qrd HRD
   refine qmo rfl c3 ?_
   refine QSeq.call rfl rfl Tryz.func46 (dI_Q ag.out) (fun E=>Ar (E.d 2 0) rfl) ?_
   rintro e mq ⟨rfl,qrd,hm⟩
   refine ⟨_,rfl,?_⟩
   have aj:=hid qrd
   have ms:=hm.size
   have ii:=hid hm
   have am:=hid (AA (S':=(fun k=>(R k))) ah.out hm (fun _ h=>h) aQ)
   clear hm ah
   clear qrd ag
   refine qmo rfl c3 ?_
   refine QSeq.call rfl rfl Tryz.func52 (RefRNum_R aj.out) (fun E=>Ap (E.d 4 0)) ?_
   rintro e mt ⟨rfl,qrd,hm⟩
   refine ⟨_,rfl,?_⟩
   have ap:=hid qrd
   have mu:=hm.size
   have ij:=hid hm
   have o8:=hid (AA (S':=(fun k=>(R k))) am.out hm (fun _ h=>h) aQ)
   clear hm am
   clear qrd aj
   refine qfd rfl 154 C1 c4 ?_
   refine QSeq.go fun act E=>?_
   refine Am rfl (Aa rfl) rfl (HQM.o.mod o8.out aX) (off:=154) (vs:=[Value.int .i64 (gI s).1]) aE one1 (by rw [D3,Bb,HLN.o];show 154+1≤295;decide) (E.d 6 0) (ec (E.d 1 5)) ?_
   intro mv qc0 hm
   have qqm:=qc0.eqv (b:=((Mg.segs ({ x with ep:=(gI s).1 }:Mg) c5 c10 c11 c15 c18).flatten:List Value).toArray) ((Bh HLN.o 7 (rfl) rfl).trans rfl)
   clear qc0
   have aq:=hid qqm
   have mw:=hm.size
   have ar:=hid hm
   have au:=hid (AA (S':=(fun k=>(R k)∨(k=c6.heap.size))) o8.out hm iD aR)
   clear hm o8
   clear act E qqm HQM
   refine qfd rfl 155 C1 c4 ?_
   refine QSeq.go fun act E=>?_
   refine Am rfl (Aa rfl) rfl aq.out (off:=155) (vs:=[Value.int .i64 (gI (gI s).2).1]) aE one1 fB (E.d 8 0) (ec (E.d 3 5)) ?_
   intro mx qc0 hm
   have qqm:=qc0.eqv (b:=((Mg.segs ({ x with ep:=(gI s).1,rn:=(gI (gI s).2).1 }:Mg) c5 c10 c11 c15 c18).flatten:List Value).toArray) ((Bh (show (Mg.segs ({ x with ep:=(gI s).1 }:Mg) c5 c10 c11 c15 c18).map List.length=mgN from HLN.o) 8 (rfl) rfl).trans rfl)
   clear qc0
   have av:=hid qqm
   have my:=hm.size
   have aw:=hid hm
   have ax:=hid (AA (S':=(fun k=>(R k)∨(k=c6.heap.size))) au.out hm (fun _ h=>h) aR)
   clear hm au
   clear act E qqm aq
   refine qfd rfl 156 C1 c4 ?_
   refine QSeq.go fun act E=>?_
   refine Am rfl (Aa rfl) rfl av.out (off:=156) (vs:=[Value.int .u64 ((rNum (gI (gI s).2).2).1:Nat)]) aE one1 eQ (E.d 10 0) (ec (E.d 5 5)) ?_
   intro ay qc0 hm
   have qqm:=qc0.eqv (b:=((Mg.segs ({ x with ep:=(gI s).1,rn:=(gI (gI s).2).1,tm:=(rNum (gI (gI s).2).2).1 }:Mg) c5 c10 c11 c15 c18).flatten:List Value).toArray) ((Bh (show (Mg.segs ({ x with ep:=(gI s).1,rn:=(gI (gI s).2).1 }:Mg) c5 c10 c11 c15 c18).map List.length=mgN from HLN.o) 9 (rfl) rfl).trans rfl)
   clear qc0
   have ik:=hid qqm
   have mz:=hm.size
   have az:=hid hm
   have g9:=hid (AA (S':=(fun k=>(R k)∨(k=c6.heap.size))) ax.out hm (fun _ h=>h) aR)
   clear hm ax
   clear act E qqm av
   have il:=hid (((ap.out.mod ar.out (sB HBR)).mod aw.out (sB HBR)).mod az.out (sB HBR))
   clear ap ii ij ar aw az
   refine qe ?_
   clear HA0 c3 c4 a0
   have hrz:MgR.rd (New c7 ay) ay ((Mg.segs ({ x with ep:=(gI s).1,rn:=(gI (gI s).2).1,tm:=(rNum (gI (gI s).2).2).1 }:Mg) c5 c10 c11 c15 c18).flatten) ({ x with ep:=(gI s).1,rn:=(gI (gI s).2).1,tm:=(rNum (gI (gI s).2).2).1 }:Mg):=⟨_,_,_,_,_,rfl,{ HOK.o with ep:=A8 _,rn:=A8 _,tm:=rNum_lt (gI_suf.bytes (gI_suf.bytes HBY.o)) },(H5.o.mod (HMR.o.trans g9.out aC) (fun _ h _=>h.elim)).widen iC,(H10.o.mod (HMR.o.trans g9.out aC) (fun _ h _=>h.elim)).widen iC,(H11.o.mod (HMR.o.trans g9.out aC) (fun _ h _=>h.elim)).widen iC,(H15.o.mod (HMR.o.trans g9.out aC) (fun _ h _=>h.elim)).widen iC,(H18.o.mod (HMR.o.trans g9.out aC) (fun _ h _=>h.elim)).widen iC⟩
   have HRZ:=B8 hrz
   clear hrz
   go_wp2_with fail
   go_meet
   case rel=>exact ⟨_,_,_,gb_eq HE.o,ik.out,HRZ.o,il.out,(((HB2.o.mod c8.out aG).mod d5.out aG).mod g9.out aV),dY,(HMR.o.trans g9.out aC)⟩
  have K5:=B8 h5
  clear h5
  go_upto_region 13 with (fail)
  refine tst 178 B9 (Bk K5.o) rfl (qs ?_)
  by_cases h6:x.kd=6
  ·have KK:=B8 h6
   clear h6
   go_upto_region 15 with (fail)
   refine tst 178 B9 (Bj KK.o) rfl (qs ?_)
   obtain ⟨st2,hp2⟩:∃ z,z=(gPm s).2:=⟨_,rfl⟩
   have HP2:=hid hp2.symm
   clear hp2
   go_upto_region 16 with (fail)
   refine Ab 178 [64,65,66,181] [0,1,2,3] (fun a0 HA0=>?_)
   have c3:=ev HA0 4 rfl
   have c4:=ev HA0 5 rfl
   refine qmo rfl c3 ?_
   refine QSeq.call rfl rfl Tryz.func54 (dPm_U.to HP2.o HRD.o aK HLE.o) (fun E=>Ap (E.d 0 0)) ?_
   rintro e im ⟨cn,yn,rfl,qnw,qrd,hyn,hm⟩
   have HYN:=B8 hyn
   have HCN:=hid (PmR.len qnw)
   have HCO:=hid (PmR.one qnw)
   clear hyn
   refine ⟨_,rfl,?_⟩
   have bb:=hid qnw
   have bc:=hid qrd
   have nd:=hm.size
   have o9:=hid (show Mod (fun k=>(R k)) c9 im from hm)
   clear hm
   clear qnw qrd HRD
   refine qfd rfl 157 C1 c4 ?_
   refine QSeq.go fun act E=>?_
   refine Am rfl (Aa rfl) rfl (HQM.o.mod o9.out aX) (off:=157) (vs:=cn) fI HCO.o (by rw [D3,Bb,HLN.o];show 157+_≤295;rw [HCN.o];decide) (E.d 2 0) (ec (E.d 1 1)) ?_
   intro bf qc0 hm
   have qqm:=qc0.eqv (b:=((Mg.segs ({ x with pm:=yn }:Mg) c5 cn c11 c15 c18).flatten:List Value).toArray) ((Bh HLN.o 10 gE rfl).trans rfl)
   clear qc0
   have io:=hid qqm
   have nf:=hm.size
   have p5:=hid hm
   have j7:=hid (AA (S':=(fun k=>(R k)∨(k=c6.heap.size))) o9.out hm iD aR)
   clear hm o9
   clear act E qqm HQM
   have ip:=hid (bc.out.mod p5.out (sB HBR))
   have iq:=hid (bb.out.mod p5.out aD)
   clear bc bb p5
   refine qe ?_
   clear HA0 c3 c4 a0
   have HE:=hid (show (Az x s).2=st2∧(st2≠none→(Az x s).1=({ x with pm:=yn }:Mg)) from ⟨(by unfold Az;rw [KK.o];exact HP2.o),fun h=>by rw [HYN.o h];unfold Az;rw [KK.o];rfl⟩)
   have hrz:MgR.rd (New c7 bf) bf ((Mg.segs ({ x with pm:=yn }:Mg) c5 cn c11 c15 c18).flatten) ({ x with pm:=yn }:Mg):=⟨_,_,_,_,_,rfl,{ HOK.o with },(H5.o.mod (HMR.o.trans j7.out aC) (fun _ h _=>h.elim)).widen iC,iq.out.widen cV,(H11.o.mod (HMR.o.trans j7.out aC) (fun _ h _=>h.elim)).widen iC,(H15.o.mod (HMR.o.trans j7.out aC) (fun _ h _=>h.elim)).widen iC,(H18.o.mod (HMR.o.trans j7.out aC) (fun _ h _=>h.elim)).widen iC⟩
   have HRZ:=B8 hrz
   clear hrz
   go_wp2_with fail
   go_meet
   case rel=>exact ⟨_,_,_,HE.o,io.out,HRZ.o,ip.out,(((HB2.o.mod c8.out aG).mod d5.out aG).mod j7.out aV),dY,(HMR.o.trans j7.out aC)⟩
  have K6:=B8 h6
  clear h6
  go_upto_region 15 with (fail)
  refine tst 178 B9 (Bk K6.o) rfl (qs ?_)
  by_cases h7:x.kd=7
  ·have KK:=B8 h7
   clear h7
   go_upto_region 17 with (fail)
   refine tst 178 B9 (Bj KK.o) rfl (qs ?_)
   obtain ⟨st2,hp2⟩:∃ z,z=(gBa (gI (gI (gI (gI s).2).2).2).2).2:=⟨_,rfl⟩
   have HP2:=hid hp2.symm
   clear hp2
   go_upto_region 18 with (fail)
   refine Ab 178 [69,70,71,72,73,74,75,76,77,78,79,80,81,82,83,193] [0,1,2,3,4,5,6,7,8,9,10,11,12,13,14,15] (fun a0 HA0=>?_)
   have c3:=ev HA0 4 rfl
   have c4:=ev HA0 5 rfl
   refine qmo rfl c3 ?_
   refine QSeq.call rfl rfl Tryz.func46 (dI_Q HRD.o) (fun E=>Ar (E.d 0 0) rfl) ?_
   rintro e ir ⟨rfl,qrd,hm⟩
   refine ⟨_,rfl,?_⟩
   have bg:=hid qrd
   have ng:=hm.size
   have bh:=hid (show Mod (fun k=>(R k)) c9 ir from hm)
   clear hm
   clear qrd HRD
   refine qmo rfl c3 ?_
   refine QSeq.call rfl rfl Tryz.func46 (dI_Q bg.out) (fun E=>Ar (E.d 2 0) rfl) ?_
   rintro e nh ⟨rfl,qrd,hm⟩
   refine ⟨_,rfl,?_⟩
   have bj:=hid qrd
   have ni:=hm.size
   have iu:=hid hm
   have bk:=hid (AA (S':=(fun k=>(R k))) bh.out hm (fun _ h=>h) aQ)
   clear hm bh
   clear qrd bg
   refine qmo rfl c3 ?_
   refine QSeq.call rfl rfl Tryz.func46 (dI_Q bj.out) (fun E=>Ar (E.d 4 0) rfl) ?_
   rintro e nj ⟨rfl,qrd,hm⟩
   refine ⟨_,rfl,?_⟩
   have bl:=hid qrd
   have nk:=hm.size
   have iv:=hid hm
   have bm:=hid (AA (S':=(fun k=>(R k))) bk.out hm (fun _ h=>h) aQ)
   clear hm bk
   clear qrd bj
   refine QSeq.pure rfl (.int .i64 ((gI (gI (gI s).2).2).1 - 1)) (fun E=>Aq rfl (E.d 5 0) rfl (Ai _ _ _ _ _ _) (run_sub_i _ _ B9) (congrArg (Value.int .i64) (IntWalk.i64_in _ (gI_less _)))) ?_
   refine qmo rfl c3 ?_
   refine QSeq.call rfl rfl Tryz.func46 (dI_Q bl.out) (fun E=>Ar (E.d 7 0) rfl) ?_
   rintro e iw ⟨rfl,qrd,hm⟩
   refine ⟨_,rfl,?_⟩
   have bn:=hid qrd
   have nl:=hm.size
   have iy:=hid hm
   have bp:=hid (AA (S':=(fun k=>(R k))) bm.out hm (fun _ h=>h) aQ)
   clear hm bm
   clear qrd bl
   refine qmo rfl c3 ?_
   refine QSeq.call rfl rfl Tryz.func55 (dBa_U.to HP2.o bn.out aK (C4 (gI_suf.len _) (C4 (gI_suf.len _) (C4 (gI_suf.len _) (C4 (gI_suf.len _) HLE.o))))) (fun E=>Ap (E.d 9 0)) ?_
   rintro e iz ⟨cb,yb,rfl,qba,qrd,hyb,hm⟩
   have HYB:=B8 hyb
   obtain ⟨v1,v2,v3,rfl,hokb,qba,qbo,qbt⟩:=qba
   obtain ⟨aob0,capb0,rfl⟩:=qba.shape
   obtain ⟨aob1,capb1,rfl⟩:=qbo.shape
   obtain ⟨aob2,capb2,rfl⟩:=qbt.shape
   have HKB:=B8 hokb
   clear hokb hyb
   refine ⟨_,rfl,?_⟩
   have bq:=hid qba
   have br:=hid qrd
   have bt:=hid qbo
   have bu:=hid qbt
   have nn:=hm.size
   have ja:=hid hm
   have bw:=hid (AA (S':=(fun k=>(R k))) bp.out hm (fun _ h=>h) aQ)
   clear hm bp
   clear qba qrd qbo qbt bn
   refine qmo rfl c3 ?_
   refine QSeq.call rfl rfl Tryz.func53 (dSig_Q _ _ _ _ br.out aK) (fun E=>Ap (E.d 11 0)) ?_
   rintro e np ⟨rfl,qrd,hm⟩
   refine ⟨_,rfl,?_⟩
   have bx:=hid qrd
   have nq:=hm.size
   have n6:=hid hm
   have p6:=hid (AA (S':=(fun k=>(R k))) bw.out hm (fun _ h=>h) aQ)
   clear hm bw
   clear qrd br
   refine QSeq.go fun act E=>?_
   refine Bu rfl (Aa rfl) (v:=.agg ((Pr.cells (Pr.mk (gI s).1 (gI (gI s).2).1 ((gI (gI (gI s).2).2).1 - 1) (gI (gI (gI (gI s).2).2).2).1 yb (gSig st2).1.1 (gSig st2).1.2) (Value.slice aob0 yb.ps.length capb0) (Value.slice aob1 yb.os.length capb1) (Value.slice aob2 yb.ts.length capb2)):List Value).toArray) (Bo rfl (z:=zq10) (places:=[(0,1),(1,1),(2,1),(3,1),(4,5),(9,2)]) aE (parts:=[(0,.int .i64 (gI s).1),(1,.int .i64 (gI (gI s).2).1),(2,.int .i64 ((gI (gI (gI s).2).2).1 - 1)),(3,.int .i64 (gI (gI (gI (gI s).2).2).2).1),(4,.agg #[.int .i64 yb.ep,.int .u64 (yb.tm:Nat),Value.slice aob0 yb.ps.length capb0,Value.slice aob1 yb.os.length capb1,Value.slice aob2 yb.ts.length capb2]),(5,.agg #[.int .i64 (gSig st2).1.1,.int .i64 (gSig st2).1.2])]) (by simp only [C8,C5,C6,show act.eval (.tmp 70)=.int .i64 (gI s).1 from (E.d 1 11),show act.eval (.tmp 72)=.int .i64 (gI (gI s).2).1 from (E.d 3 9),show act.eval (.tmp 75)=.int .i64 ((gI (gI (gI s).2).2).1 - 1) from (E.d 6 6),show act.eval (.tmp 77)=.int .i64 (gI (gI (gI (gI s).2).2).2).1 from (E.d 8 4),show act.eval (.tmp 79)=.agg #[.int .i64 yb.ep,.int .u64 (yb.tm:Nat),Value.slice aob0 yb.ps.length capb0,Value.slice aob1 yb.os.length capb1,Value.slice aob2 yb.ts.length capb2] from (E.d 10 2),show act.eval (.tmp 81)=.agg #[.int .i64 (gSig st2).1.1,.int .i64 (gSig st2).1.2] from (E.d 12 0)];try rfl) (r:=(Pr.cells (Pr.mk (gI s).1 (gI (gI s).2).1 ((gI (gI (gI s).2).2).1 - 1) (gI (gI (gI (gI s).2).2).2).1 yb (gSig st2).1.1 (gSig st2).1.2) (Value.slice aob0 yb.ps.length capb0) (Value.slice aob1 yb.os.length capb1) (Value.slice aob2 yb.ts.length capb2))) (by exact Bn (ns:=[1,1,1,1,5,2]) rfl [(0,.int .i64 (gI s).1),(1,.int .i64 (gI (gI s).2).1),(2,.int .i64 ((gI (gI (gI s).2).2).1 - 1)),(3,.int .i64 (gI (gI (gI (gI s).2).2).2).1),(4,.agg #[.int .i64 yb.ep,.int .u64 (yb.tm:Nat),Value.slice aob0 yb.ps.length capb0,Value.slice aob1 yb.os.length capb1,Value.slice aob2 yb.ts.length capb2]),(5,.agg #[.int .i64 (gSig st2).1.1,.int .i64 (gSig st2).1.2])] [[.int .i64 0],[.int .i64 0],[.int .i64 0],[.int .i64 0],zq8,[.int .i64 0,.int .i64 0]] rfl ⟨rfl,rfl,rfl,rfl,rfl,rfl,trivial⟩)) ?_
   clear act E
   refine qfd rfl 163 C1 c4 ?_
   refine QSeq.go fun act E=>?_
   refine Am rfl (Aa rfl) rfl (HQM.o.mod p6.out aX) (off:=163) (vs:=(Pr.cells (Pr.mk (gI s).1 (gI (gI s).2).1 ((gI (gI (gI s).2).2).1 - 1) (gI (gI (gI (gI s).2).2).2).1 yb (gSig st2).1.1 (gSig st2).1.2) (Value.slice aob0 yb.ps.length capb0) (Value.slice aob1 yb.os.length capb1) (Value.slice aob2 yb.ts.length capb2))) aE eX (by rw [D3,Bb,HLN.o];show 163+11≤295;decide) (E.d 14 0) (ec (E.d 13 1)) ?_
   intro p7 qc0 hm
   have qqm:=qc0.eqv (b:=((Mg.segs ({ x with pr:=(Pr.mk (gI s).1 (gI (gI s).2).1 ((gI (gI (gI s).2).2).1 - 1) (gI (gI (gI (gI s).2).2).2).1 yb (gSig st2).1.1 (gSig st2).1.2) }:Mg) c5 c10 (Pr.cells (Pr.mk (gI s).1 (gI (gI s).2).1 ((gI (gI (gI s).2).2).1 - 1) (gI (gI (gI (gI s).2).2).2).1 yb (gSig st2).1.1 (gSig st2).1.2) (Value.slice aob0 yb.ps.length capb0) (Value.slice aob1 yb.os.length capb1) (Value.slice aob2 yb.ts.length capb2)) c15 c18).flatten:List Value).toArray) ((Bh HLN.o 11 (rfl) rfl).trans rfl)
   clear qc0
   have jb:=hid qqm
   have nr:=hm.size
   have l8:=hid hm
   have j8:=hid (AA (S':=(fun k=>(R k)∨(k=c6.heap.size))) p6.out hm iD aR)
   clear hm p6
   clear act E qqm HQM
   have jc:=hid (bx.out.mod l8.out (sB HBR))
   have jd:=hid ((bq.out.mod n6.out aT).mod l8.out aD)
   have je:=hid ((bt.out.mod n6.out aT).mod l8.out aD)
   have jf:=hid ((bu.out.mod n6.out aT).mod l8.out aD)
   clear bx bq bt bu iu iv iy ja n6 l8
   refine qe ?_
   clear HA0 c3 c4 a0
   have HPN:=hid (show PrR.rd (fun k=>(New iw iz k)) p7 (Pr.cells (Pr.mk (gI s).1 (gI (gI s).2).1 ((gI (gI (gI s).2).2).1 - 1) (gI (gI (gI (gI s).2).2).2).1 yb (gSig st2).1.1 (gSig st2).1.2) (Value.slice aob0 yb.ps.length capb0) (Value.slice aob1 yb.os.length capb1) (Value.slice aob2 yb.ts.length capb2)) (Pr.mk (gI s).1 (gI (gI s).2).1 ((gI (gI (gI s).2).2).1 - 1) (gI (gI (gI (gI s).2).2).2).1 yb (gSig st2).1.1 (gSig st2).1.2) from ⟨_,_,_,rfl,⟨A8 _,A8 _,gI_less _,A8 _,HKB.o,A8 _,A8 _⟩,jd.out.widen gJ,je.out.widen gJ,jf.out.widen gJ⟩)
   have he:Az x s=(({ x with pr:=(Pr.mk (gI s).1 (gI (gI s).2).1 ((gI (gI (gI s).2).2).1 - 1) (gI (gI (gI (gI s).2).2).2).1 (gBa (gI (gI (gI (gI s).2).2).2).2).1 (gSig (gBa (gI (gI (gI (gI s).2).2).2).2).2).1.1 (gSig (gBa (gI (gI (gI (gI s).2).2).2).2).2).1.2) }:Mg),(gSig (gBa (gI (gI (gI (gI s).2).2).2).2).2).2):=by unfold Az;rw [KK.o];rfl
   rw [HP2.o] at he
   have HE:=hid (show (Az x s).2=(gSig st2).2∧((gSig st2).2≠none→(Az x s).1=({ x with pr:=(Pr.mk (gI s).1 (gI (gI s).2).1 ((gI (gI (gI s).2).2).1 - 1) (gI (gI (gI (gI s).2).2).2).1 yb (gSig st2).1.1 (gSig st2).1.2) }:Mg)) from ⟨by rw [he],fun h=>by rw [HYB.o (fun e=>h (by rw [e];exact gSig_suf.no)),he]⟩)
   clear he
   have hrz:MgR.rd (New c7 p7) p7 ((Mg.segs ({ x with pr:=(Pr.mk (gI s).1 (gI (gI s).2).1 ((gI (gI (gI s).2).2).1 - 1) (gI (gI (gI (gI s).2).2).2).1 yb (gSig st2).1.1 (gSig st2).1.2) }:Mg) c5 c10 (Pr.cells (Pr.mk (gI s).1 (gI (gI s).2).1 ((gI (gI (gI s).2).2).1 - 1) (gI (gI (gI (gI s).2).2).2).1 yb (gSig st2).1.1 (gSig st2).1.2) (Value.slice aob0 yb.ps.length capb0) (Value.slice aob1 yb.os.length capb1) (Value.slice aob2 yb.ts.length capb2)) c15 c18).flatten) ({ x with pr:=(Pr.mk (gI s).1 (gI (gI s).2).1 ((gI (gI (gI s).2).2).1 - 1) (gI (gI (gI (gI s).2).2).2).1 yb (gSig st2).1.1 (gSig st2).1.2) }:Mg):=⟨_,_,_,_,_,rfl,{ HOK.o with },(H5.o.mod (HMR.o.trans j8.out aC) (fun _ h _=>h.elim)).widen iC,(H10.o.mod (HMR.o.trans j8.out aC) (fun _ h _=>h.elim)).widen iC,HPN.o.widen cV,(H15.o.mod (HMR.o.trans j8.out aC) (fun _ h _=>h.elim)).widen iC,(H18.o.mod (HMR.o.trans j8.out aC) (fun _ h _=>h.elim)).widen iC⟩
   have HRZ:=B8 hrz
   clear hrz
   go_wp2_with fail
   go_meet
   case rel=>exact ⟨_,_,_,HE.o,jb.out,HRZ.o,jc.out,(((HB2.o.mod c8.out aG).mod d5.out aG).mod j8.out aV),dY,(HMR.o.trans j8.out aC)⟩
  have K7:=B8 h7
  clear h7
  go_upto_region 17 with (fail)
  refine tst 178 B9 (Bk K7.o) rfl (qs ?_)
  by_cases h8:x.kd=8
  ·have KK:=B8 h8
   clear h8
   go_upto_region 19 with (fail)
   refine tst 178 B9 (Bj KK.o) rfl (qs ?_)
   have HE:=hid (show Az x s=(({ x with vt:=(gVt s).1 }:Mg),(gVt s).2) by unfold Az;rw [KK.o];rfl)
   go_upto_region 20 with (fail)
   refine Ab 178 [86,87,88,181] [0,1,2,3] (fun a0 HA0=>?_)
   have c3:=ev HA0 4 rfl
   have c4:=ev HA0 5 rfl
   refine qmo rfl c3 ?_
   refine QSeq.call rfl rfl Tryz.func56 (dVt_Q _ _ _ _ HRD.o aK) (fun E=>Ap (E.d 0 0)) ?_
   rintro e jg ⟨rfl,qrd,hm⟩
   refine ⟨_,rfl,?_⟩
   have bz:=hid qrd
   have nt:=hm.size
   have p8:=hid (show Mod (fun k=>(R k)) c9 jg from hm)
   clear hm
   clear qrd HRD
   refine qfd rfl 174 C1 c4 ?_
   refine QSeq.go fun act E=>?_
   refine Am rfl (Aa rfl) rfl (HQM.o.mod p8.out aX) (off:=174) (vs:=((gVt s).1.cells)) (by rw [Vt.len (gVt_OK HBY.o)];kernel_rfl) (Vt.one _) gS (E.d 2 0) (ec (E.d 1 1)) ?_
   intro cd qc0 hm
   have qqm:=qc0.eqv (b:=((Mg.segs ({ x with vt:=(gVt s).1 }:Mg) c5 c10 c11 c15 c18).flatten:List Value).toArray) ((Bh HLN.o 12 (by rw [Vt.len (gVt_OK HBY.o)];rfl) rfl).trans rfl)
   clear qc0
   have jh:=hid qqm
   have nu:=hm.size
   have cf:=hid hm
   have i7:=hid (AA (S':=(fun k=>(R k)∨(k=c6.heap.size))) p8.out hm iD aR)
   clear hm p8
   clear act E qqm HQM
   have ji:=hid (bz.out.mod cf.out (sB HBR))
   clear bz cf
   refine qe ?_
   clear HA0 c3 c4 a0
   have hrz:MgR.rd (New c7 cd) cd ((Mg.segs ({ x with vt:=(gVt s).1 }:Mg) c5 c10 c11 c15 c18).flatten) ({ x with vt:=(gVt s).1 }:Mg):=⟨_,_,_,_,_,rfl,{ HOK.o with vt:=gVt_OK HBY.o },(H5.o.mod (HMR.o.trans i7.out aC) (fun _ h _=>h.elim)).widen iC,(H10.o.mod (HMR.o.trans i7.out aC) (fun _ h _=>h.elim)).widen iC,(H11.o.mod (HMR.o.trans i7.out aC) (fun _ h _=>h.elim)).widen iC,(H15.o.mod (HMR.o.trans i7.out aC) (fun _ h _=>h.elim)).widen iC,(H18.o.mod (HMR.o.trans i7.out aC) (fun _ h _=>h.elim)).widen iC⟩
   have HRZ:=B8 hrz
   clear hrz
   go_wp2_with fail
   go_meet
   case rel=>exact ⟨_,_,_,gb_eq HE.o,jh.out,HRZ.o,ji.out,(((HB2.o.mod c8.out aG).mod d5.out aG).mod i7.out aV),dY,(HMR.o.trans i7.out aC)⟩
  have K8:=B8 h8
  clear h8
  go_upto_region 19 with (fail)
  refine tst 178 B9 (Bk K8.o) rfl (qs ?_)
  by_cases h9:x.kd=9
  ·have KK:=B8 h9
   clear h9
   go_upto_region 21 with (fail)
   refine tst 178 B9 (Bj KK.o) rfl (qs ?_)
   have HE:=hid (show Az x s=(({ x with ix:=(gI s).1,en:=(gEn (gI s).2).1 }:Mg),(gEn (gI s).2).2) by unfold Az;rw [KK.o];rfl)
   go_upto_region 22 with (fail)
   refine Ab 178 [91,92,93,181] [0,1,2,3] (fun a0 HA0=>?_)
   have c3:=ev HA0 4 rfl
   have c4:=ev HA0 5 rfl
   refine qmo rfl c3 ?_
   refine QSeq.call rfl rfl Tryz.func46 (dI_Q HRD.o) (fun E=>Ar (E.d 0 0) rfl) ?_
   rintro e jj ⟨rfl,qrd,hm⟩
   refine ⟨_,rfl,?_⟩
   have cg:=hid qrd
   have nv:=hm.size
   have p9:=hid (show Mod (fun k=>(R k)) c9 jj from hm)
   clear hm
   clear qrd HRD
   refine qfd rfl 212 C1 c4 ?_
   refine QSeq.go fun act E=>?_
   refine Am rfl (Aa rfl) rfl (HQM.o.mod p9.out aX) (off:=212) (vs:=[Value.int .i64 (gI s).1]) aE one1 cP (E.d 2 0) (ec (E.d 1 1)) ?_
   intro jk qc0 hm
   have qqm:=qc0.eqv (b:=((Mg.segs ({ x with ix:=(gI s).1 }:Mg) c5 c10 c11 c15 c18).flatten:List Value).toArray) ((Bh HLN.o 13 (rfl) rfl).trans rfl)
   clear qc0
   have ch:=hid qqm
   have nw:=hm.size
   have cj:=hid hm
   have i8:=hid (AA (S':=(fun k=>(R k)∨(k=c6.heap.size))) p9.out hm iD aR)
   clear hm p9
   clear act E qqm HQM
   have ck:=hid (cg.out.mod cj.out (sB HBR))
   clear cg cj
   refine qe ?_
   clear HA0 c3 c4 a0
   go_upto_region 23 with (fail)
   refine Ab 178 [94,95,96,97,98,99,100,101,186] [0,1,2,3,4,5,6,7,8] (fun a0 HA0=>?_)
   have c3:=ev HA0 4 rfl
   have c4:=ev HA0 5 rfl
   refine qmo rfl c3 ?_
   refine QSeq.call rfl rfl Tryz.func50 (dName_Q _ _ _ _ ck.out aK) (fun E=>Ap (E.d 0 0)) ?_
   rintro e jl ⟨rfl,qrd,hm⟩
   refine ⟨_,rfl,?_⟩
   have co:=hid qrd
   have nx:=hm.size
   have cq:=hid (show Mod (fun k=>(R k)) jk jl from hm)
   clear hm
   clear qrd ck
   refine qmo rfl c3 ?_
   refine QSeq.call rfl rfl Tryz.func51 (RefRHash_R co.out) (fun E=>Ap (E.d 2 0)) ?_
   rintro e ny ⟨rfl,qrd,hm⟩
   refine ⟨_,rfl,?_⟩
   have cr:=hid qrd
   have nz:=hm.size
   have jm:=hid hm
   have ct:=hid (AA (S':=(fun k=>(R k))) cq.out hm (fun _ h=>h) aQ)
   clear hm cq
   clear qrd co
   refine qmo rfl c3 ?_
   refine QSeq.call rfl rfl Tryz.func52 (RefRNum_R cr.out) (fun E=>Ap (E.d 4 0)) ?_
   rintro e oc ⟨rfl,qrd,hm⟩
   refine ⟨_,rfl,?_⟩
   have cw:=hid qrd
   have od:=hm.size
   have jn:=hid hm
   have q6:=hid (AA (S':=(fun k=>(R k))) ct.out hm (fun _ h=>h) aQ)
   clear hm ct
   clear qrd cr
   refine QSeq.go fun act E=>?_
   refine Bu rfl (Aa rfl) (v:=.agg ((gEn (gI s).2).1.cells:List Value).toArray) (Bo rfl (z:=zq7) (places:=[(0,2),(2,32),(34,1)]) aE (parts:=[(0,.agg #[.int .i64 (gSig (gI s).2).1.1,.int .i64 (gSig (gI s).2).1.2]),(1,hv (A6 (gSig (gI s).2).2).1),(2,.int .u64 ((rNum (A6 (gSig (gI s).2).2).2).1:Nat))]) (by simp only [C8,C5,C6,show act.eval (.tmp 95)=.agg #[.int .i64 (gSig (gI s).2).1.1,.int .i64 (gSig (gI s).2).1.2] from (E.d 1 4),show act.eval (.tmp 97)=hv (A6 (gSig (gI s).2).2).1 from (E.d 3 2),show act.eval (.tmp 99)=.int .u64 ((rNum (A6 (gSig (gI s).2).2).2).1:Nat) from (E.d 5 0)];try rfl) (r:=(gEn (gI s).2).1.cells) (by exact Bn (ns:=[2,32,1]) rfl [(0,.agg #[.int .i64 (gSig (gI s).2).1.1,.int .i64 (gSig (gI s).2).1.2]),(1,hv (A6 (gSig (gI s).2).2).1),(2,.int .u64 ((rNum (A6 (gSig (gI s).2).2).2).1:Nat))] [[.int .i64 0,.int .i64 0],zq5,[.int .u64 0]] rfl ⟨rfl,(szv dB),rfl,trivial⟩)) ?_
   clear act E
   refine qfd rfl 213 C1 c4 ?_
   refine QSeq.go fun act E=>?_
   refine Am rfl (Aa rfl) rfl (ch.out.mod q6.out aX) (off:=213) (vs:=((gEn (gI s).2).1.cells)) (by rw [En.len (gEn_OK (gI_suf.bytes HBY.o))];kernel_rfl) (En.one _) eG (E.d 7 0) (ec (E.d 6 1)) ?_
   intro cx qc0 hm
   have qqm:=qc0.eqv (b:=((Mg.segs ({ x with ix:=(gI s).1,en:=(gEn (gI s).2).1 }:Mg) c5 c10 c11 c15 c18).flatten:List Value).toArray) ((Bh (show (Mg.segs ({ x with ix:=(gI s).1 }:Mg) c5 c10 c11 c15 c18).map List.length=mgN from HLN.o) 14 (by rw [En.len (gEn_OK (gI_suf.bytes HBY.o))];rfl) rfl).trans rfl)
   clear qc0
   have jo:=hid qqm
   have og:=hm.size
   have cy:=hid hm
   have i9:=hid (AA (S':=(fun k=>(R k)∨(k=c6.heap.size))) q6.out hm iD aR)
   clear hm q6
   clear act E qqm ch
   have jp:=hid (cw.out.mod cy.out (sB HBR))
   clear cw jm jn cy
   refine qe ?_
   clear HA0 c3 c4 a0
   have hrz:MgR.rd (New c7 cx) cx ((Mg.segs ({ x with ix:=(gI s).1,en:=(gEn (gI s).2).1 }:Mg) c5 c10 c11 c15 c18).flatten) ({ x with ix:=(gI s).1,en:=(gEn (gI s).2).1 }:Mg):=⟨_,_,_,_,_,rfl,{ HOK.o with ix:=A8 _,en:=gEn_OK (gI_suf.bytes HBY.o) },(H5.o.mod ((HMR.o.trans i8.out aC).trans i9.out aC) (fun _ h _=>h.elim)).widen iC,(H10.o.mod ((HMR.o.trans i8.out aC).trans i9.out aC) (fun _ h _=>h.elim)).widen iC,(H11.o.mod ((HMR.o.trans i8.out aC).trans i9.out aC) (fun _ h _=>h.elim)).widen iC,(H15.o.mod ((HMR.o.trans i8.out aC).trans i9.out aC) (fun _ h _=>h.elim)).widen iC,(H18.o.mod ((HMR.o.trans i8.out aC).trans i9.out aC) (fun _ h _=>h.elim)).widen iC⟩
   have HRZ:=B8 hrz
   clear hrz
   go_wp2_with fail
   go_meet
   case rel=>exact ⟨_,_,_,gb_eq HE.o,jo.out,HRZ.o,jp.out,((((HB2.o.mod c8.out aG).mod d5.out aG).mod i8.out aV).mod i9.out aV),dY,((HMR.o.trans i8.out aC).trans i9.out aC)⟩
  have K9:=B8 h9
  clear h9
  go_upto_region 21 with (fail)
  refine tst 178 B9 (Bk K9.o) rfl (qs ?_)
  by_cases h10:x.kd=10
  ·have KK:=B8 h10
   clear h10
   go_upto_region 24 with (fail)
   refine tst 178 B9 (Bj KK.o) rfl (qs ?_)
   obtain ⟨st2,hp2⟩:∃ z,z=(gOp s).2:=⟨_,rfl⟩
   have HP2:=hid hp2.symm
   clear hp2
   go_upto_region 25 with (fail)
   refine Ab 178 [104,105,106,181] [0,1,2,3] (fun a0 HA0=>?_)
   have c3:=ev HA0 4 rfl
   have c4:=ev HA0 5 rfl
   refine qmo rfl c3 ?_
   refine QSeq.call rfl rfl Tryz.func57 (dOp_G.toU.to HP2.o HRD.o aK HLE.o) (fun E=>Ap (E.d 0 0)) ?_
   rintro e jq ⟨cn,yn,rfl,qnw,qrd,hyn,hm⟩
   have HYN:=B8 hyn
   have HCN:=hid (OpR.len qnw)
   have HCO:=hid (OpR.one qnw)
   clear hyn
   refine ⟨_,rfl,?_⟩
   have da:=hid qnw
   have db:=hid qrd
   have oh:=hm.size
   have q7:=hid (show Mod (fun k=>(R k)) c9 jq from hm)
   clear hm
   clear qnw qrd HRD
   refine qfd rfl 248 C1 c4 ?_
   refine QSeq.go fun act E=>?_
   refine Am rfl (Aa rfl) rfl (HQM.o.mod q7.out aX) (off:=248) (vs:=cn) fI HCO.o (by rw [D3,Bb,HLN.o];show 248+_≤295;rw [HCN.o];decide) (E.d 2 0) (ec (E.d 1 1)) ?_
   intro dd qc0 hm
   have qqm:=qc0.eqv (b:=((Mg.segs ({ x with op:=yn }:Mg) c5 c10 c11 cn c18).flatten:List Value).toArray) ((Bh HLN.o 15 gE rfl).trans rfl)
   clear qc0
   have jr:=hid qqm
   have oi:=hm.size
   have q8:=hid hm
   have j9:=hid (AA (S':=(fun k=>(R k)∨(k=c6.heap.size))) q7.out hm iD aR)
   clear hm q7
   clear act E qqm HQM
   have js:=hid (db.out.mod q8.out (sB HBR))
   have jt:=hid (da.out.mod q8.out aD)
   clear db da q8
   refine qe ?_
   clear HA0 c3 c4 a0
   have HE:=hid (show (Az x s).2=st2∧(st2≠none→(Az x s).1=({ x with op:=yn }:Mg)) from ⟨(by unfold Az;rw [KK.o];exact HP2.o),fun h=>by rw [HYN.o h];unfold Az;rw [KK.o];rfl⟩)
   have hrz:MgR.rd (New c7 dd) dd ((Mg.segs ({ x with op:=yn }:Mg) c5 c10 c11 cn c18).flatten) ({ x with op:=yn }:Mg):=⟨_,_,_,_,_,rfl,{ HOK.o with },(H5.o.mod (HMR.o.trans j9.out aC) (fun _ h _=>h.elim)).widen iC,(H10.o.mod (HMR.o.trans j9.out aC) (fun _ h _=>h.elim)).widen iC,(H11.o.mod (HMR.o.trans j9.out aC) (fun _ h _=>h.elim)).widen iC,jt.out.widen cV,(H18.o.mod (HMR.o.trans j9.out aC) (fun _ h _=>h.elim)).widen iC⟩
   have HRZ:=B8 hrz
   clear hrz
   go_wp2_with fail
   go_meet
   case rel=>exact ⟨_,_,_,HE.o,jr.out,HRZ.o,js.out,(((HB2.o.mod c8.out aG).mod d5.out aG).mod j9.out aV),dY,(HMR.o.trans j9.out aC)⟩
  have K10:=B8 h10
  clear h10
  go_upto_region 24 with (fail)
  refine tst 178 B9 (Bk K10.o) rfl (qs ?_)
  by_cases h11:x.kd=11
  ·have KK:=B8 h11
   clear h11
   go_upto_region 26 with (fail)
   refine tst 178 B9 (Bj KK.o) rfl (qs ?_)
   have HE:=hid (show Az x s=(({ x with ix:=(gI s).1 }:Mg),(gI s).2) by unfold Az;rw [KK.o];rfl)
   go_upto_region 27 with (fail)
   refine Ab 178 [109,110,111,181] [0,1,2,3] (fun a0 HA0=>?_)
   have c3:=ev HA0 4 rfl
   have c4:=ev HA0 5 rfl
   refine qmo rfl c3 ?_
   refine QSeq.call rfl rfl Tryz.func46 (dI_Q HRD.o) (fun E=>Ar (E.d 0 0) rfl) ?_
   rintro e ju ⟨rfl,qrd,hm⟩
   refine ⟨_,rfl,?_⟩
   have df:=hid qrd
   have oj:=hm.size
   have q9:=hid (show Mod (fun k=>(R k)) c9 ju from hm)
   clear hm
   clear qrd HRD
   refine qfd rfl 212 C1 c4 ?_
   refine QSeq.go fun act E=>?_
   refine Am rfl (Aa rfl) rfl (HQM.o.mod q9.out aX) (off:=212) (vs:=[Value.int .i64 (gI s).1]) aE one1 cP (E.d 2 0) (ec (E.d 1 1)) ?_
   intro dg qc0 hm
   have qqm:=qc0.eqv (b:=((Mg.segs ({ x with ix:=(gI s).1 }:Mg) c5 c10 c11 c15 c18).flatten:List Value).toArray) ((Bh HLN.o 13 (rfl) rfl).trans rfl)
   clear qc0
   have jv:=hid qqm
   have ol:=hm.size
   have dh:=hid hm
   have j0:=hid (AA (S':=(fun k=>(R k)∨(k=c6.heap.size))) q9.out hm iD aR)
   clear hm q9
   clear act E qqm HQM
   have jw:=hid (df.out.mod dh.out (sB HBR))
   clear df dh
   refine qe ?_
   clear HA0 c3 c4 a0
   have hrz:MgR.rd (New c7 dg) dg ((Mg.segs ({ x with ix:=(gI s).1 }:Mg) c5 c10 c11 c15 c18).flatten) ({ x with ix:=(gI s).1 }:Mg):=⟨_,_,_,_,_,rfl,{ HOK.o with ix:=A8 _ },(H5.o.mod (HMR.o.trans j0.out aC) (fun _ h _=>h.elim)).widen iC,(H10.o.mod (HMR.o.trans j0.out aC) (fun _ h _=>h.elim)).widen iC,(H11.o.mod (HMR.o.trans j0.out aC) (fun _ h _=>h.elim)).widen iC,(H15.o.mod (HMR.o.trans j0.out aC) (fun _ h _=>h.elim)).widen iC,(H18.o.mod (HMR.o.trans j0.out aC) (fun _ h _=>h.elim)).widen iC⟩
   have HRZ:=B8 hrz
   clear hrz
   go_wp2_with fail
   go_meet
   case rel=>exact ⟨_,_,_,gb_eq HE.o,jv.out,HRZ.o,jw.out,(((HB2.o.mod c8.out aG).mod d5.out aG).mod j0.out aV),dY,(HMR.o.trans j0.out aC)⟩
  have K11:=B8 h11
  clear h11
  go_upto_region 26 with (fail)
  refine tst 178 B9 (Bk K11.o) rfl (qs ?_)
  by_cases h12:x.kd=12
  ·have KK:=B8 h12
   clear h12
   go_upto_region 28 with (fail)
   refine tst 178 B9 (Bj KK.o) rfl (qs ?_)
   have HE:=hid (show Az x s=(({ x with dn:=(gDn s).1 }:Mg),(gDn s).2) by unfold Az;rw [KK.o];rfl)
   go_upto_region 29 with (fail)
   refine Ab 178 [114,115,116,181] [0,1,2,3] (fun a0 HA0=>?_)
   have c3:=ev HA0 4 rfl
   have c4:=ev HA0 5 rfl
   refine qmo rfl c3 ?_
   refine QSeq.call rfl rfl Tryz.func58 (dDn_Q _ _ _ _ HRD.o aK) (fun E=>Ap (E.d 0 0)) ?_
   rintro e jx ⟨rfl,qrd,hm⟩
   refine ⟨_,rfl,?_⟩
   have di:=hid qrd
   have om:=hm.size
   have r5:=hid (show Mod (fun k=>(R k)) c9 jx from hm)
   clear hm
   clear qrd HRD
   refine qfd rfl 282 C1 c4 ?_
   refine QSeq.go fun act E=>?_
   refine Am rfl (Aa rfl) rfl (HQM.o.mod r5.out aX) (off:=282) (vs:=((gDn s).1.cells)) aE (Dn.one _) (by rw [D3,Bb,HLN.o];show 282+4≤295;decide) (E.d 2 0) (ec (E.d 1 1)) ?_
   intro dj qc0 hm
   have qqm:=qc0.eqv (b:=((Mg.segs ({ x with dn:=(gDn s).1 }:Mg) c5 c10 c11 c15 c18).flatten:List Value).toArray) ((Bh HLN.o 16 rfl rfl).trans rfl)
   clear qc0
   have jy:=hid qqm
   have oo:=hm.size
   have dk:=hid hm
   have j3:=hid (AA (S':=(fun k=>(R k)∨(k=c6.heap.size))) r5.out hm iD aR)
   clear hm r5
   clear act E qqm HQM
   have jz:=hid (di.out.mod dk.out (sB HBR))
   clear di dk
   refine qe ?_
   clear HA0 c3 c4 a0
   have hrz:MgR.rd (New c7 dj) dj ((Mg.segs ({ x with dn:=(gDn s).1 }:Mg) c5 c10 c11 c15 c18).flatten) ({ x with dn:=(gDn s).1 }:Mg):=⟨_,_,_,_,_,rfl,{ HOK.o with dn:=gDn_OK HBY.o },(H5.o.mod (HMR.o.trans j3.out aC) (fun _ h _=>h.elim)).widen iC,(H10.o.mod (HMR.o.trans j3.out aC) (fun _ h _=>h.elim)).widen iC,(H11.o.mod (HMR.o.trans j3.out aC) (fun _ h _=>h.elim)).widen iC,(H15.o.mod (HMR.o.trans j3.out aC) (fun _ h _=>h.elim)).widen iC,(H18.o.mod (HMR.o.trans j3.out aC) (fun _ h _=>h.elim)).widen iC⟩
   have HRZ:=B8 hrz
   clear hrz
   go_wp2_with fail
   go_meet
   case rel=>exact ⟨_,_,_,gb_eq HE.o,jy.out,HRZ.o,jz.out,(((HB2.o.mod c8.out aG).mod d5.out aG).mod j3.out aV),dY,(HMR.o.trans j3.out aC)⟩
  have K12:=B8 h12
  clear h12
  go_upto_region 28 with (fail)
  refine tst 178 B9 (Bk K12.o) rfl (qs ?_)
  by_cases h13:x.kd=13
  ·have KK:=B8 h13
   clear h13
   go_upto_region 30 with (fail)
   refine tst 178 B9 (Bj KK.o) rfl (qs ?_)
   have HE:=hid (show Az x s=(({ x with ix:=(gI s).1,rp:=strOfNums (rRow 256 (gI s).2).1 }:Mg),(rRow 256 (gI s).2).2) by unfold Az;rw [KK.o];rfl)
   go_upto_region 31 with (fail)
   refine Ab 178 [119,120,121,181] [0,1,2,3] (fun a0 HA0=>?_)
   have c3:=ev HA0 4 rfl
   have c4:=ev HA0 5 rfl
   refine qmo rfl c3 ?_
   refine QSeq.call rfl rfl Tryz.func46 (dI_Q HRD.o) (fun E=>Ar (E.d 0 0) rfl) ?_
   rintro e ka ⟨rfl,qrd,hm⟩
   refine ⟨_,rfl,?_⟩
   have dl:=hid qrd
   have oq:=hm.size
   have r6:=hid (show Mod (fun k=>(R k)) c9 ka from hm)
   clear hm
   clear qrd HRD
   refine qfd rfl 212 C1 c4 ?_
   refine QSeq.go fun act E=>?_
   refine Am rfl (Aa rfl) rfl (HQM.o.mod r6.out aX) (off:=212) (vs:=[Value.int .i64 (gI s).1]) aE one1 cP (E.d 2 0) (ec (E.d 1 1)) ?_
   intro kb qc0 hm
   have qqm:=qc0.eqv (b:=((Mg.segs ({ x with ix:=(gI s).1 }:Mg) c5 c10 c11 c15 c18).flatten:List Value).toArray) ((Bh HLN.o 13 (rfl) rfl).trans rfl)
   clear qc0
   have dm:=hid qqm
   have ot:=hm.size
   have dp:=hid hm
   have j4:=hid (AA (S':=(fun k=>(R k)∨(k=c6.heap.size))) r6.out hm iD aR)
   clear hm r6
   clear act E qqm HQM
   have dq:=hid (dl.out.mod dp.out (sB HBR))
   clear dl dp
   refine qe ?_
   clear HA0 c3 c4 a0
   go_upto_region 32 with (fail)
   refine Ab 178 [122,123,124,125,182] [0,1,2,3,4] (fun a0 HA0=>?_)
   have c3:=ev HA0 4 rfl
   have c4:=ev HA0 5 rfl
   refine qmo rfl c3 ?_
   refine QSeq.call rfl rfl Tryz.func59 (dRow_Q dq.out (C4 (gI_suf.len _) HLE.o)) (fun E=>Ar (E.d 0 0) rfl) ?_
   rintro e ke ⟨vr,rfl,qrow,qrd,hm⟩
   obtain ⟨aor,capr,rfl⟩:=qrow.shape
   refine ⟨_,rfl,?_⟩
   have r7:=hid qrow
   have dr:=hid qrd
   have ou:=hm.size
   have r8:=hid (show Mod (fun k=>(R k)) kb ke from hm)
   clear hm
   clear qrow qrd dq
   refine QSeq.pure rfl (.string (strOfNums (rRow 256 (gI s).2).1)) (fun E=>ex_conv rfl rfl (by rw [(E.d 1 0)];exact bytes_string (r7.out).1)) ?_
   refine qfd rfl 286 C1 c4 ?_
   refine QSeq.go fun act E=>?_
   refine Am rfl (Aa rfl) rfl (dm.out.mod r8.out aX) (off:=286) (vs:=[Value.string (strOfNums (rRow 256 (gI s).2).1)]) aE one1 fA (E.d 3 0) (ec (E.d 2 1)) ?_
   intro dt qc0 hm
   have qqm:=qc0.eqv (b:=((Mg.segs ({ x with ix:=(gI s).1,rp:=strOfNums (rRow 256 (gI s).2).1 }:Mg) c5 c10 c11 c15 c18).flatten:List Value).toArray) ((Bh (show (Mg.segs ({ x with ix:=(gI s).1 }:Mg) c5 c10 c11 c15 c18).map List.length=mgN from HLN.o) 17 (rfl) rfl).trans rfl)
   clear qc0
   have kf:=hid qqm
   have ov:=hm.size
   have r9:=hid hm
   have j5:=hid (AA (S':=(fun k=>(R k)∨(k=c6.heap.size))) r8.out hm iD aR)
   clear hm r8
   clear act E qqm dm
   have kg:=hid (dr.out.mod r9.out (sB HBR))
   have ow:=hid (r7.out.mod r9.out aD)
   clear dr r7 r9
   refine qe ?_
   clear HA0 c3 c4 a0
   have hrz:MgR.rd (New c7 dt) dt ((Mg.segs ({ x with ix:=(gI s).1,rp:=strOfNums (rRow 256 (gI s).2).1 }:Mg) c5 c10 c11 c15 c18).flatten) ({ x with ix:=(gI s).1,rp:=strOfNums (rRow 256 (gI s).2).1 }:Mg):=⟨_,_,_,_,_,rfl,{ HOK.o with ix:=A8 _ },(H5.o.mod ((HMR.o.trans j4.out aC).trans j5.out aC) (fun _ h _=>h.elim)).widen iC,(H10.o.mod ((HMR.o.trans j4.out aC).trans j5.out aC) (fun _ h _=>h.elim)).widen iC,(H11.o.mod ((HMR.o.trans j4.out aC).trans j5.out aC) (fun _ h _=>h.elim)).widen iC,(H15.o.mod ((HMR.o.trans j4.out aC).trans j5.out aC) (fun _ h _=>h.elim)).widen iC,(H18.o.mod ((HMR.o.trans j4.out aC).trans j5.out aC) (fun _ h _=>h.elim)).widen iC⟩
   have HRZ:=B8 hrz
   clear hrz
   go_wp2_with fail
   go_meet
   case rel=>exact ⟨_,_,_,gb_eq HE.o,kf.out,HRZ.o,kg.out,((((HB2.o.mod c8.out aG).mod d5.out aG).mod j4.out aV).mod j5.out aV),dY,((HMR.o.trans j4.out aC).trans j5.out aC)⟩
  have K13:=B8 h13
  clear h13
  go_upto_region 30 with (fail)
  refine tst 178 B9 (Bk K13.o) rfl (qs ?_)
  by_cases h14:x.kd=14
  ·have KK:=B8 h14
   clear h14
   go_upto_region 33 with (fail)
   refine tst 178 B9 (Bj KK.o) rfl (qs ?_)
   obtain ⟨st2,hp2⟩:∃ z,z=(gBa (gI (gI s).2).2).2:=⟨_,rfl⟩
   have HP2:=hid hp2.symm
   clear hp2
   go_upto_region 34 with (fail)
   refine Ab 178 [128,129,130,131,132,133,134,135,186] [0,1,2,3,4,5,6,7,8] (fun a0 HA0=>?_)
   have c3:=ev HA0 4 rfl
   have c4:=ev HA0 5 rfl
   refine qmo rfl c3 ?_
   refine QSeq.call rfl rfl Tryz.func46 (dI_Q HRD.o) (fun E=>Ar (E.d 0 0) rfl) ?_
   rintro e kh ⟨rfl,qrd,hm⟩
   refine ⟨_,rfl,?_⟩
   have du:=hid qrd
   have ox:=hm.size
   have dv:=hid (show Mod (fun k=>(R k)) c9 kh from hm)
   clear hm
   clear qrd HRD
   refine qmo rfl c3 ?_
   refine QSeq.call rfl rfl Tryz.func46 (dI_Q du.out) (fun E=>Ar (E.d 2 0) rfl) ?_
   rintro e s0 ⟨rfl,qrd,hm⟩
   refine ⟨_,rfl,?_⟩
   have dw:=hid qrd
   have oy:=hm.size
   have ki:=hid hm
   have dx:=hid (AA (S':=(fun k=>(R k))) dv.out hm (fun _ h=>h) aQ)
   clear hm dv
   clear qrd du
   refine qmo rfl c3 ?_
   refine QSeq.call rfl rfl Tryz.func55 (dBa_U.to HP2.o dw.out aK (C4 (gI_suf.len _) (C4 (gI_suf.len _) HLE.o))) (fun E=>Ap (E.d 4 0)) ?_
   rintro e s5 ⟨cb,yb,rfl,qba,qrd,hyb,hm⟩
   have HYB:=B8 hyb
   obtain ⟨v1,v2,v3,rfl,hokb,qba,qbo,qbt⟩:=qba
   obtain ⟨aob0,capb0,rfl⟩:=qba.shape
   obtain ⟨aob1,capb1,rfl⟩:=qbo.shape
   obtain ⟨aob2,capb2,rfl⟩:=qbt.shape
   have HKB:=B8 hokb
   clear hokb hyb
   refine ⟨_,rfl,?_⟩
   have dy:=hid qba
   have dz:=hid qrd
   have eb:=hid qbo
   have ed:=hid qbt
   have oz:=hm.size
   have kj:=hid hm
   have s6:=hid (AA (S':=(fun k=>(R k))) dx.out hm (fun _ h=>h) aQ)
   clear hm dx
   clear qba qrd qbo qbt dw
   refine QSeq.go fun act E=>?_
   refine Bu rfl (Aa rfl) (v:=.agg ((Dc.cells (Dc.mk (gI s).1 (gI (gI s).2).1 yb []) (Value.slice aob0 yb.ps.length capb0) (Value.slice aob1 yb.os.length capb1) (Value.slice aob2 yb.ts.length capb2) (Value.slice none 0 0)):List Value).toArray) (Bo rfl (z:=zq11) (places:=[(0,1),(1,1),(2,5),(7,1)]) aE (parts:=[(0,.int .i64 (gI s).1),(1,.int .i64 (gI (gI s).2).1),(2,.agg #[.int .i64 yb.ep,.int .u64 (yb.tm:Nat),Value.slice aob0 yb.ps.length capb0,Value.slice aob1 yb.os.length capb1,Value.slice aob2 yb.ts.length capb2])]) (by simp only [C8,C5,C6,show act.eval (.tmp 129)=.int .i64 (gI s).1 from (E.d 1 4),show act.eval (.tmp 131)=.int .i64 (gI (gI s).2).1 from (E.d 3 2),show act.eval (.tmp 133)=.agg #[.int .i64 yb.ep,.int .u64 (yb.tm:Nat),Value.slice aob0 yb.ps.length capb0,Value.slice aob1 yb.os.length capb1,Value.slice aob2 yb.ts.length capb2] from (E.d 5 0)];try rfl) (r:=(Dc.cells (Dc.mk (gI s).1 (gI (gI s).2).1 yb []) (Value.slice aob0 yb.ps.length capb0) (Value.slice aob1 yb.os.length capb1) (Value.slice aob2 yb.ts.length capb2) (Value.slice none 0 0))) (by exact Bn (ns:=[1,1,5,1]) rfl [(0,.int .i64 (gI s).1),(1,.int .i64 (gI (gI s).2).1),(2,.agg #[.int .i64 yb.ep,.int .u64 (yb.tm:Nat),Value.slice aob0 yb.ps.length capb0,Value.slice aob1 yb.os.length capb1,Value.slice aob2 yb.ts.length capb2])] [[.int .i64 0],[.int .i64 0],zq8,[.slice none 0 0]] rfl ⟨rfl,rfl,rfl,trivial⟩)) ?_
   clear act E
   refine qfd rfl 287 C1 c4 ?_
   refine QSeq.go fun act E=>?_
   refine Am rfl (Aa rfl) rfl (HQM.o.mod s6.out aX) (off:=287) (vs:=(Dc.cells (Dc.mk (gI s).1 (gI (gI s).2).1 yb []) (Value.slice aob0 yb.ps.length capb0) (Value.slice aob1 yb.os.length capb1) (Value.slice aob2 yb.ts.length capb2) (Value.slice none 0 0))) aE fL (by rw [D3,Bb,HLN.o];show 287+8≤295;decide) (E.d 7 0) (ec (E.d 6 1)) ?_
   intro km qc0 hm
   have qqm:=qc0.eqv (b:=((Mg.segs ({ x with dc:=(Dc.mk (gI s).1 (gI (gI s).2).1 yb []) }:Mg) c5 c10 c11 c15 (Dc.cells (Dc.mk (gI s).1 (gI (gI s).2).1 yb []) (Value.slice aob0 yb.ps.length capb0) (Value.slice aob1 yb.os.length capb1) (Value.slice aob2 yb.ts.length capb2) (Value.slice none 0 0))).flatten:List Value).toArray) ((Bh HLN.o 18 (rfl) rfl).trans rfl)
   clear qc0
   have ee:=hid qqm
   have pa:=hm.size
   have m7:=hid hm
   have eg:=hid (AA (S':=(fun k=>(R k)∨(k=c6.heap.size))) s6.out hm iD aR)
   clear hm s6
   clear act E qqm HQM
   have eh:=hid (dz.out.mod m7.out (sB HBR))
   have ei:=hid (dy.out.mod m7.out aD)
   have ej:=hid (eb.out.mod m7.out aD)
   have eo:=hid (ed.out.mod m7.out aD)
   clear dz dy eb ed ki kj m7
   refine qe ?_
   clear HA0 c3 c4 a0
   have HLD:=hid (show ∀ (a:List Vt) (v:Value),(Mg.segs ({ x with dc:=(Dc.mk (gI s).1 (gI (gI s).2).1 yb a) }:Mg) c5 c10 c11 c15 (Dc.cells (Dc.mk (gI s).1 (gI (gI s).2).1 yb a) (Value.slice aob0 yb.ps.length capb0) (Value.slice aob1 yb.os.length capb1) (Value.slice aob2 yb.ts.length capb2) (v))).map List.length=mgN from fun a v=>AF (x:=({ x with dc:=(Dc.mk (gI s).1 (gI (gI s).2).1 yb a) }:Mg)) { HOK.o with } HC5.o HC10.o HC11.o HC15.o rfl)
   have HLB:=hid (show (st2.getD []).length≤900000 by rw [← HP2.o];exact C4 (gBa_suf.len _) (C4 (gI_suf.len _) (C4 (gI_suf.len _) HLE.o)))
   go_upto_region 35 with (fail)
   refine Ab 178 [136,137,6] [0,1,2] (fun a0 HA0=>?_)
   have c3:=ev HA0 4 rfl
   refine qmo rfl c3 ?_
   refine QSeq.call rfl rfl Tryz.func46 (RefRInt_R eh.out aM) (fun E=>Ar (E.d 0 0) rfl) ?_
   rintro e d8 ⟨rfl,qrd,hm⟩
   refine ⟨_,rfl,?_⟩
   have eq:=hid qrd
   have pb:=hm.size
   have l7:=hid (show Mod (fun k=>(R k)) km d8 from hm)
   clear hm
   clear qrd eh
   refine qas rfl 1 0 ?_
   refine qe ?_
   clear HA0 c3 a0
   obtain ⟨n9,hn⟩:∃ n,n=(rInt 100 st2).1:=⟨_,rfl⟩
   obtain ⟨s9,hs1⟩:∃ z,z=(rInt 100 st2).2:=⟨_,rfl⟩
   have hn100_9:n9≤100:=by have:=rInt_le 100 st2;omega
   have HLS9:=hid (show (s9.getD []).length≤900000 by rw [hs1];exact C4 ((rInt_suf 100).len _) HLB.o)
   have HGL9:=hid (show Av gVt st2=B0 gVt n9 [] s9 by rw [hn,hs1];rfl)
   rw [← hn]
   have hq:=eq.out
   rw [← hs1] at hq
   have HR9:=B8 hq
   clear hq hn hs1 eq
   go_upto_region 36 with (fail)
   refine Ab 178 [7] [0] (fun a0 HA0=>?_)
   refine QSeq.pure rfl (.int .i64 0) (fun E=>An rfl rfl) ?_
   refine qe ?_
   clear HA0 a0
   go_wp2
   go_loopw [7] (fun ti wr=>∃ (k:Nat) (acc:List Vt) (st:RSt) (v:Value),ti=.int .i64 (k:Int)∧k≤n9∧acc.length=k∧(st.getD []).length≤900000∧Ru gVt n9 s9 k acc st∧d8.heap.size≤wr.heap.size∧OwS VtR 49 (fun b=>d8.heap.size≤b∧b < wr.heap.size) (fun b=>d8.heap.size≤b∧b < wr.heap.size) wr v acc∧Cs wr (c6.heap.size) ((Mg.segs ({ x with dc:=(Dc.mk (gI s).1 (gI (gI s).2).1 yb acc) }:Mg) c5 c10 c11 c15 (Dc.cells (Dc.mk (gI s).1 (gI (gI s).2).1 yb acc) (Value.slice aob0 yb.ps.length capb0) (Value.slice aob1 yb.os.length capb1) (Value.slice aob2 yb.ts.length capb2) (v))).flatten:List Value).toArray 61∧RrR 100 R wr r st∧Cs wr (w.heap.size) (mg0C 0 0 0).toArray 61∧RdS PmR (fun k=>(New s0 s5 k)) wr (.slice aob0 yb.ps.length capb0) yb.ps∧RdS OpR (fun k=>(New s0 s5 k)) wr (.slice aob1 yb.os.length capb1) yb.os∧RdS TbR (fun k=>(New s0 s5 k)) wr (.slice aob2 yb.ts.length capb2) yb.ts∧Mod R w wr) (fun ti _=>n9 - (intOf ti).toNat)
   case atStart=>exact ⟨0,[],s9,.slice none 0 0,rfl,Nat.zero_le _,rfl,HLS9.o,Ru.start gVt_suf _ _,C0 _,OwS.nil _ _ _ _ _,(ee.out.mod l7.out aX),HR9.o,((((HB2.o.mod c8.out aG).mod d5.out aG).mod eg.out aV).mod l7.out aX),(ei.out.mod l7.out aT),(ej.out.mod l7.out aT),(eo.out.mod l7.out aT),((HMR.o.trans eg.out aC).trans l7.out iA)⟩
   case round=>
    obtain ⟨k9,acc9,st9,v9,rfl,hk,hka,hst,hru,hz,ha,hbx,hr,hk_0,hk_1,hk_2,hk_3,hm⟩:=hrel
    obtain ⟨wl9,rfl⟩:∃ x,x=wr:=⟨_,rfl⟩
    obtain ⟨aol9,capl9,rfl⟩:=ha.shape
    have HAL9:=B8 ha
    have HBXL9:=B8 hbx
    have HRL9:=B8 hr
    have HML9:=B8 hm
    have HST9:=B8 hst
    have HRU9:=B8 hru
    have HKA9:=B8 hka
    have HKP9_0:=B8 hk_0
    have HKP9_1:=B8 hk_1
    have HKP9_2:=B8 hk_2
    have HKP9_3:=B8 hk_3
    clear ha hbx hr hm hst hru hka hk_0 hk_1 hk_2 hk_3 HB2 HR9 ee HMR ei ej eo
    by_cases hgo9:k9 < n9∧st9≠none
    ·obtain ⟨hlt9,hsn9⟩:=hgo9
     cases st9 with
     | none=>exact absurd rfl hsn9
     | some l9=>
      go_upto_region 37 with (fail)
      refine Ab 178 [138,139,140,141,142,143,144,145,146,147] [0,1,2,3,4,5,6,7,8,9] (fun a0 HA0=>?_)
      have c3:=ev HA0 4 rfl
      have m8:=ev HA0 6 rfl
      have g5:=ev HA0 7 rfl
      refine qmo rfl g5 ?_
      refine qmo rfl m8 ?_
      refine QSeq.pure rfl (.bool true) (fun E=>Aq rfl (E.d 0 1) (E.d 1 0) (Ai _ _ _ _ _ _) (A1 _ _ _ B9) (congrArg Value.bool (decide_eq_true aL))) ?_
      refine qmv rfl 2 0 ?_
      refine AB rfl (.pointer (some ⟨r,0,none⟩)) (fun E=>((Ag rfl rfl (E.sz 141 aM) (E.d 3 0)).trans rfl)) (fun E=>Al rfl (E.v c3)) ?_
      refine AB rfl (.pointer (some ⟨r,0,none⟩)) (fun E=>((Ag rfl rfl (E.sz 141 aM) (E.d 3 1)).trans rfl)) (fun E=>ex_nil rfl (E.d 4 0)) ?_
      refine AB rfl (.pointer (some ⟨r,1,none⟩)) (fun E=>((Ag rfl rfl (E.sz 141 aM) (E.d 3 2)).trans rfl)) (fun E=>Ae rfl E5 rfl aE (E.d 5 0)) ?_
      refine AB rfl (.bool false) (fun E=>((Ag rfl rfl (E.sz 141 aM) (E.d 3 3)).trans rfl)) (fun E=>Af rfl E8 rfl (E.d 6 0) (AJ HRL9.o)) ?_
      refine AB rfl (.bool true) (fun E=>((Ag rfl rfl (E.sz 141 aM) (E.d 3 4)).trans rfl)) (fun E=>B1 rfl (E.d 7 0)) ?_
      refine QSeq.pure rfl (.bool true) (fun E=>Bp rfl (E.d 3 5) (E.d 8 0) rfl) ?_
      refine qe ?_
      clear HA0 c3 m8 g5 a0
      obtain ⟨st2_9,hp2⟩:∃ z,z=(gVt (some l9)).2:=⟨_,rfl⟩
      have HP2_9:=hid hp2.symm
      clear hp2
      have HST2_9:=hid (show (st2_9.getD []).length≤900000 by rw [← HP2_9.o];exact C4 (gVt_suf.len _) HST9.o)
      go_upto_region 39 with (fail)
      generalize ha0:Act.mk _ _=a0
      have c3:a0.eval (.tmp 4)=.pointer (some ⟨r,0,none⟩):=by rw [← ha0];rfl
      have c4:a0.eval (.tmp 5)=.pointer (some ⟨c6.heap.size,0,none⟩):=by rw [← ha0];rfl
      have hsz0:a0.tmps.size=178:=by rw [← ha0];rfl
      have HA0:=hid ha0
      clear ha0
      refine Bc 178 hsz0 [150,151,152,153,154,155,156,157,158,187] (fun k=>(R k)∨(New d8 wl9 k)∨(k=c6.heap.size)) (fun k j=>(k=0∧((R j)))∨(k=2∧((New d8 wl9 j)))∨(k=3∧((j=c6.heap.size)))) bK [qi (.pointer (some ⟨c6.heap.size,287,none⟩)),qi (.pointer (some ⟨c6.heap.size,294,none⟩)),qi (.slice aol9 acc9.length capl9),qi (.pointer (some ⟨r,0,none⟩)),qv 0,qv 1,qv 2,qi (.pointer (some ⟨c6.heap.size,287,none⟩)),qi (.pointer (some ⟨c6.heap.size,294,none⟩)),qv 3] ⟨Ac,Ac,Ac,Ac,Ah,Ah,Ah,Ac,Ac,Ah,trivial⟩ [4,5,6,9] ⟨?_,?_,?_,?_,?_,?_,?_,?_,?_,?_,trivial⟩ ?_
      ·exact stq (fun E=>Ae rfl C1 rfl aE (E.v c4))
      ·exact stq (fun E=>Ae rfl D9 rfl aE (E.d 0))
      ·refine Ay rfl rfl rfl fun _ _ _ _ _ _ hm0 _ _ hd hub _=>?_
       have h1:=hd ⟨1,.data⟩ bA rfl _ rfl
       refine Bl rfl (Aa rfl) (Af rfl Tryz.underlying57 rfl h1 (AD (HBXL9.o.mod hm0 (by intro h2;have hu:=hub 3 9 rfl aE;rcases h2 with ⟨h0,kk,hk,h2⟩|h2<;>first|omega|(rcases h2 with ⟨hkk,h2⟩|⟨hkk,h2⟩|⟨hkk,h2⟩<;>first|omega|(have hb:=HBR.o _ h2;omega)|exact HNB2.o h2))) (HLD.o _ _) 18 rfl (o:=287) (k:=7) rfl rfl rfl)) QE.refl ?_
       rfl
      ·exact stq (fun E=>Al rfl (E.v c3))
      ·exact Ad rfl
      ·exact Ad rfl
      ·exact Ad rfl
      ·exact stq (fun E=>Ae rfl C1 rfl aE (E.v c4))
      ·exact stq (fun E=>Ae rfl D9 rfl aE (E.d 7))
      ·exact Ad rfl
      intro s7 hr
      have pc:=hr.size
      have er:=hid (hr.new (S:=(fun k=>(R k)∨(New d8 wl9 k)∨(k=c6.heap.size))))
      have et:=hid (HAL9.o.mod hr aD aD)
      clear HAL9
      have eu:=hid (HBXL9.o.mod hr aG)
      clear HBXL9
      have ew:=hid (HRL9.o.mod hr aO)
      clear HRL9
      clear hr
      refine QChain.go fun Z act E=>?_
      refine Aj (args:=#[.pointer (some ⟨r,0,none⟩)]) rfl (Aa rfl) rfl Tryz.func56 (Ap (E.d 3)) (dVt_G.toU.to HP2_9.o ew.out aK HST9.o) ?_
      rintro e s8 ⟨cs9,y9,rfl,qel,qrd,hy9,hm⟩
      have HY9:=B8 hy9
      clear hy9
      have pd:=hm.size
      refine ⟨_,rfl,hm.mono aW,(fun _=>rfl),?_⟩
      intro t0 hr
      have pf:=hr.size
      have t1:=hid ((qel.widen (R':=(fun k=>(New s7 s8 k))) (fun _ h=>h)).mod hr aD)
      have ex:=hid (qrd.mod hr aO)
      have hmr:=hm.two hr
      have ey:=hid (et.out.mod hmr fR fR)
      have ez:=hid (eu.out.mod hmr aV)
      clear et eu
      clear hmr
      have fc:=hid (er.out.goM hm hr aS)
      clear er hm hr Z act E qel qrd ew
      refine QChain.go fun Z act E=>?_
      refine qc_buildS (e:=49) (cs:=cs9) (zc:=zq4) (sz:=38) rfl (Aa rfl) rfl Tryz.underlying57 aE rfl aM aM (chv (v:=.agg cs9.toArray) (E.d 4)) (VtR.len t1.out) ?_
      intro pg qrow hm
      have ph:=qrow.lt
      have pi:=hm.size
      refine ⟨hm.mono iB,(fun _=>rfl),?_⟩
      intro kn hr
      have pj:=hr.size
      have t2:=hid (qrow.mod hr aG)
      have hmr:=Mod.after hm hr
      have fe:=hid (ey.out.mod hmr aD aD)
      have ff:=hid (ez.out.mod hmr aG)
      have fg:=hid (ex.out.mod hmr aO)
      have t8:=hid (t1.out.mod hmr aD)
      clear ey ez ex t1
      clear hmr
      have fh:=hid (fc.out.go hm hr)
      clear fc hm hr Z act E qrow
      refine QChain.go fun Z act E=>?_
      refine qc_appS (A:=VtR) (e:=49) rfl (Aa rfl) rfl (.agg zq4.toArray) 80 Tryz.underlying57 info_Vt (by rfl) (of_decide_eq_true aE) (E.d 2) (chv (v:=.slice (some ⟨t0.heap.size,0,none⟩) 1 1) (E.d 5)) (fe.out) (AI (R:=(fun k=>(New s7 s8 k)∨(k=t0.heap.size))) t2.out (t8.out.widen bF) bV) aD (by rw [HKA9.o];simp only [D6,D5];omega) (by rw [HKA9.o];simp only [D6,D5];rw [Ax];omega) ?_
      intro ao19 cap19 ko qacc9 hm
      have pn:=hm.size
      refine ⟨hm.mono cG,(fun _=>rfl),?_⟩
      intro po hr
      have pp:=hr.size
      have fi:=hid ((qacc9.widen (R':=(fun k=>(New d8 wl9 k)∨(New kn ko k))) (E':=(fun k=>(New d8 wl9 k)∨(New s7 s8 k)∨(k=t0.heap.size))) (fun _ h=>h) bD).mod hr aD aD)
      have hmr:=hm.two hr
      have fj:=hid (ff.out.mod hmr aG)
      have fk:=hid (fg.out.mod hmr aO)
      have fm:=hid (t8.out.mod hmr aD)
      have fo:=hid (t2.out.mod hmr aG)
      clear ff fg t8 t2
      clear hmr
      have fp:=hid (fh.out.goM hm hr aS)
      clear fh hm hr Z act E qacc9 fe
      refine QChain.go fun Z act E=>?_
      refine Am rfl (Aa rfl) rfl fj.out (off:=294) (vs:=[Value.slice ao19 (acc9.length+1) cap19]) aE one1 (by rw [D3,Bb,HLD.o _ _];show 294+1≤295;decide) (E.d 8) (ec (chv (v:=.slice ao19 (acc9.length+1) cap19) (E.d 6))) ?_
      intro pq qc0 hm
      have qqm:=qc0.eqv (b:=((Mg.segs ({ x with dc:=(Dc.mk (gI s).1 (gI (gI s).2).1 yb (acc9 ++ [y9])) }:Mg) c5 c10 c11 c15 (Dc.cells (Dc.mk (gI s).1 (gI (gI s).2).1 yb (acc9 ++ [y9])) (Value.slice aob0 yb.ps.length capb0) (Value.slice aob1 yb.os.length capb1) (Value.slice aob2 yb.ts.length capb2) (Value.slice ao19 (acc9.length+1) cap19))).flatten:List Value).toArray) ((lay_sub (HLD.o _ _) 18 rfl (o:=287) (k:=7) (n:=1) rfl rfl rfl (by show 7+1≤8;decide)).trans rfl)
      clear qc0
      have pt:=hm.size
      refine ⟨hm.mono cG,(fun _=>rfl),?_⟩
      intro pu hr
      have pv:=hr.size
      have kp:=hid (qqm.mod hr aG)
      have hmr:=hm.two hr
      have kq:=hid (fi.out.mod hmr aD aD)
      have kr:=hid (fk.out.mod hmr aO)
      have kt:=hid (fm.out.mod hmr aD)
      have ku:=hid (fo.out.mod hmr aG)
      clear fi fk fm fo
      clear hmr
      have m9:=hid (fp.out.goM hm hr aS)
      clear fp hm hr Z act E qqm fj
      refine QChain.nil fun vs hl hzz hrows hne=>?_
      obtain ⟨Z,hYZ,hZb,hV⟩:=hzz
      have f3:=fvi hV hl 3
      have f4:=fvc hV hl 4
      have f5:=fvc hV hl 5
      have f6:=fvc hV hl 6
      rw [show vs=[gw vs 0,gw vs 1,gw vs 2,gw vs 3,gw vs 4,gw vs 5,gw vs 6,gw vs 7,gw vs 8,gw vs 9] from (Bi hl).trans rfl]
      have ha0:=HA0.o
      subst ha0
      clear HA0 hV hYZ hZb hsz0 hrows hne c3 c4
      simp only [Au,Act.put,sIB,sCZ,sCS,List.set_nil,f3,f4,f5,f6]
      clear hl f3 f4 f5 f6
      clear kt
      clear ku
      go_upto_region 38 with (fail)
      refine Ab 178 [148,149,7] [0,1,2] (fun a0 HA0=>?_)
      have g5:=ev HA0 7 rfl
      refine QSeq.pure rfl _ (fun E=>Al rfl (E.y 2 g5)) ?_
      refine QSeq.pure rfl (.int .i64 (((k9:Nat):Int)+1)) (fun E=>Aq rfl (E.d 0 0) rfl (Ai _ _ _ _ _ _) (Bz _ _ B9) (congrArg (Value.int .i64) (IntWalk.i64_in _ aL))) ?_
      refine qas rfl 1 0 ?_
      refine qe ?_
      clear HA0 g5 a0
      go_wp2
      go_roundw
      case rel=>exact ⟨k9+1,acc9 ++ [y9],st2_9,_,by go_num,by omega,by rw [C3,HKA9.o];rfl,HST2_9.o,HRU9.o.step hlt9 bA HP2_9.o HY9.o,by omega,(kq.out.widen cS bZ),kp.out,kr.out,(HKP9_0.o.mod m9.out (by intro h2;rcases h2 with h2|h2|h2<;>first|omega|(have hb:=HBR.o _ h2;omega)|exact HNB2.o h2)),(HKP9_1.o.mod m9.out dC),(HKP9_2.o.mod m9.out dC),(HKP9_3.o.mod m9.out dC),(HML9.o.trans m9.out bJ)⟩
      case measure=>simp [intOf]<;>omega
    ·skip
     obtain ⟨bA9,hbA9⟩:∃ b:Bool,b=decide (((k9:Nat):Int) < ((n9:Nat):Int)):=⟨_,rfl⟩
     go_upto_region 37 with (fail)
     refine Ab 178 [138,139,140,141,142,143,144,145,146,147] [0,1,2,3,4,5,6,7,8,9] (fun a0 HA0=>?_)
     have c3:=ev HA0 4 rfl
     have m8:=ev HA0 6 rfl
     have g5:=ev HA0 7 rfl
     refine qmo rfl g5 ?_
     refine qmo rfl m8 ?_
     refine QSeq.pure rfl (.bool bA9) (fun E=>Aq rfl (E.d 0 1) (E.d 1 0) (Ai _ _ _ _ _ _) (A1 _ _ _ B9) (congrArg Value.bool hbA9.symm)) ?_
     refine qmv rfl 2 0 ?_
     refine qmy rfl 3 0 (.pointer (some ⟨r,0,none⟩)) (fun E hb=>Al rfl (E.v c3)) ?_
     intro pw hw
     have fq:=hid hw
     clear hw
     refine qmy rfl 3 1 (.pointer (some ⟨r,0,none⟩)) (fun E hb=>ex_nil rfl ((E.q 4 0 fq.out).1 hb)) ?_
     intro qd hw
     have ft:=hid hw
     clear hw
     refine qmy rfl 3 2 (.pointer (some ⟨r,1,none⟩)) (fun E hb=>Ae rfl E5 rfl aE ((E.q 5 0 ft.out).1 hb)) ?_
     intro qf hw
     have fv:=hid hw
     clear hw
     refine qmy rfl 3 3 (.bool st9.isNone) (fun E hb=>Af rfl E8 rfl ((E.q 6 0 fv.out).1 hb) (AJ HRL9.o)) ?_
     intro qg hw
     have fw:=hid hw
     clear hw
     refine qmy rfl 3 4 (.bool (!st9.isNone)) (fun E hb=>B1 rfl ((E.q 7 0 fw.out).1 hb)) ?_
     intro qh hw
     have fx:=hid hw
     clear hw
     refine QSeq.pure rfl (.bool (bA9 && (!st9.isNone))) (fun E=>A5 rfl (E.d 3 5) rfl rfl (Be fun hb=>(E.q 8 0 fx.out).1 hb)) ?_
     clear fq ft fv fw fx
     refine qe ?_
     clear HA0 c3 m8 g5 a0
     rw [go_false hgo9 hbA9]
     have HF9:=hid (HRU9.o.fin hgo9 hk)
     clear hbA9 hgo9
     have HDN:=hid (show DcR.rd (New c7 wl9) wl9 (Dc.cells (Dc.mk (gI s).1 (gI (gI s).2).1 yb acc9) (Value.slice aob0 yb.ps.length capb0) (Value.slice aob1 yb.os.length capb1) (Value.slice aob2 yb.ts.length capb2) (Value.slice aol9 acc9.length capl9)) (Dc.mk (gI s).1 (gI (gI s).2).1 yb acc9) from ⟨_,_,_,_,rfl,⟨A8 _,A8 _,HKB.o⟩,HKP9_1.o.widen cV,HKP9_2.o.widen cV,HKP9_3.o.widen cV,HAL9.o.rd.widen cX⟩)
     have he:Az x s=(({ x with dc:=(Dc.mk (gI s).1 (gI (gI s).2).1 (gBa (gI (gI s).2).2).1 (Av gVt (gBa (gI (gI s).2).2).2).1) }:Mg),(Av gVt (gBa (gI (gI s).2).2).2).2):=by unfold Az;rw [KK.o];rfl
     rw [HP2.o,HGL9.o] at he
     have HE:=hid (show (Az x s).2=st9∧(st9≠none→(Az x s).1=({ x with dc:=(Dc.mk (gI s).1 (gI (gI s).2).1 yb acc9) }:Mg)) from ⟨by rw [he];exact HF9.o.1,fun h=>by rw [HYB.o (fun e=>h (by rw [← HF9.o.1,← HGL9.o,e];exact (gList_suf gVt_suf).no)),he,← HF9.o.2 h]⟩)
     clear he
     have hrz:MgR.rd (New c7 wl9) wl9 ((Mg.segs ({ x with dc:=(Dc.mk (gI s).1 (gI (gI s).2).1 yb acc9) }:Mg) c5 c10 c11 c15 (Dc.cells (Dc.mk (gI s).1 (gI (gI s).2).1 yb acc9) (Value.slice aob0 yb.ps.length capb0) (Value.slice aob1 yb.os.length capb1) (Value.slice aob2 yb.ts.length capb2) (Value.slice aol9 acc9.length capl9))).flatten) ({ x with dc:=(Dc.mk (gI s).1 (gI (gI s).2).1 yb acc9) }:Mg):=⟨_,_,_,_,_,rfl,{ HOK.o with },(H5.o.mod HML9.o (fun _ h _=>h.elim)).widen iC,(H10.o.mod HML9.o (fun _ h _=>h.elim)).widen iC,(H11.o.mod HML9.o (fun _ h _=>h.elim)).widen iC,(H15.o.mod HML9.o (fun _ h _=>h.elim)).widen iC,HDN.o.widen cV⟩
     have HRZ:=B8 hrz
     clear hrz
     go_wp2_with fail
     go_meet
     case rel=>exact ⟨_,_,_,HE.o,HBXL9.o,HRZ.o,HRL9.o,HKP9_0.o,dY,HML9.o⟩
  have K14:=B8 h14
  clear h14
  go_upto_region 33 with (fail)
  refine tst 178 B9 (Bk K14.o) rfl (qs ?_)
  have HZO:=hid (MgR.one (mg0_rd (k:=0) (f:=0) (t:=0) A9 A9 A9 (fun _=>False) w))
  go_upto_region 4 with (fail)
  refine Ab 178 [21,179,3] [0,1,2] (fun a0 HA0=>?_)
  have d7:=ev HA0 2 rfl
  refine QSeq.pure rfl (.agg ((mg0C 0 0 0):List Value).toArray) (fun E=>ex_build0 rfl (r:=((mg0C 0 0 0):List Value).toArray) aE) ?_
  refine QSeq.go fun act E=>?_
  refine Am rfl (Aa rfl) rfl ((HB2.o.mod c8.out aG).mod d5.out aG) (off:=0) (vs:=(mg0C 0 0 0)) aE HZO.o eT (E.v d7) (ec (E.d 0 0)) ?_
  intro kv qc0 hm
  have qB2:=qc0.eqv (b:=((mg0C 0 0 0):List Value).toArray) (Aw _ _ rfl)
  clear qc0
  have kw:=hid qB2
  have qj:=hm.size
  have kx:=hid (show Mod (fun k=>(k=w.heap.size)) c9 kv from hm)
  clear hm
  clear act E qB2 HB2
  refine QSeq.pure rfl (.bool false) (fun E=>An rfl rfl) ?_
  refine qe ?_
  clear HA0 d7 a0
  have HEN:=hid (show um=none from HUM.o.trans (unpack_kd (show okKd (gMg (some bs)).1.kd=false by rw [HG.o,gBody_kd];unfold okKd;rw [decide_eq_false_iff_not];have k1:=K1.o;have k2:=K2.o;have k3:=K3.o;have k4:=K4.o;have k5:=K5.o;have k6:=K6.o;have k7:=K7.o;have k8:=K8.o;have k9:=K9.o;have k10:=K10.o;have k11:=K11.o;have k12:=K12.o;have k13:=K13.o;have k14:=K14.o;omega)))
  go_wp2
  refine bodyPost_ret (Bt rfl _ _ w.heap.size ((mg0C 0 0 0)) rfl (fun k u hu=>by rw [kw.out.cell];simpa using hu) C1 rfl aE) rfl ⟨(mg0C 0 0 0),by rw [HUB.o,HEN.o];rfl,by rw [HUY.o,HEN.o];exact mg0_rd A9 A9 A9 _ _,((HMR.o.trans kx.out cW)).mono (fun k h1 h2=>absurd (HNR.o k h2) aL)⟩
 case rest=>
  obtain ⟨wq,rfl⟩:∃ x,x=wc:=⟨_,rfl⟩
  obtain ⟨y,st,cz,he,hb,hrz,hrd,hb2,hkd,hm⟩:=hcut
  have HE:=B8 he
  have HQZ:=B8 hb
  have HRM:=B8 hrz
  have HSZ:=hid (MgR.len hrz)
  have HON:=hid (MgR.one hrz)
  have HRD2:=B8 hrd
  have HB22:=B8 hb2
  have HKD:=B8 hkd
  have HMM:=B8 hm
  have HZO:=hid (MgR.one (mg0_rd (k:=0) (f:=0) (t:=0) A9 A9 A9 (fun _=>False) w))
  obtain ⟨ao9,cap9,hq9⟩:=RrR.b07 hrd
  have HQ9:=hid (show CellsAt R wq (r) 0 [Value.slice ao9 (st.getD []).length cap9] from ⟨RrR.in_ hrd,fun z u hu=>by cases z with|zero=>(cases hu;exact hq9)|succ z=>cases hu⟩)
  clear he hb hrz hrd hb2 hkd hm hq9
  by_cases hn:st=none
  ·have HN:=B8 hn
   clear hn
   go_upto_region 40 with (fail)
   refine Ab 178 [159,160,161,162,163,164,165,166,167,168,169,170,171,172,173,174,175] [0,1,2,3,4,5,6,7,8,9,10,11,12,13,14,15,16] (fun a0 HA0=>?_)
   have c3:=ev HA0 4 rfl
   refine qmo rfl c3 ?_
   refine QSeq.pure rfl (.pointer (some ⟨r,0,none⟩)) (fun E=>ex_nil rfl (E.d 0 0)) ?_
   refine QSeq.pure rfl (.pointer (some ⟨r,1,none⟩)) (fun E=>Ae rfl E5 rfl aE (E.d 1 0)) ?_
   refine QSeq.pure rfl (.bool true) (fun E=>Af rfl E8 rfl (E.d 2 0) ((AJ HRD2.o).trans (by rw [HN.o]))) ?_
   refine qmv rfl 3 0 ?_
   refine AE rfl (fun E=>((Ag rfl rfl (E.sz 163 aM) (E.d 4 0)).trans rfl)) ?_
   refine AE rfl (fun E=>((Ag rfl rfl (E.sz 163 aM) (E.d 4 1)).trans rfl)) ?_
   refine AE rfl (fun E=>((Ag rfl rfl (E.sz 163 aM) (E.d 4 2)).trans rfl)) ?_
   refine AE rfl (fun E=>((Ag rfl rfl (E.sz 163 aM) (E.d 4 3)).trans rfl)) ?_
   refine AE rfl (fun E=>((Ag rfl rfl (E.sz 163 aM) (E.d 4 4)).trans rfl)) ?_
   refine AE rfl (fun E=>((Ag rfl rfl (E.sz 163 aM) (E.d 4 5)).trans rfl)) ?_
   refine QSeq.pure rfl (.bool true) (fun E=>Bp rfl (E.d 4 6) rfl (E.d 10 0)) ?_
   refine qmv rfl 11 0 ?_
   refine AE rfl (fun E=>((Ag rfl rfl (E.sz 171 aM) (E.d 12 0)).trans rfl)) ?_
   refine AE rfl (fun E=>((Ag rfl rfl (E.sz 171 aM) (E.d 12 1)).trans rfl)) ?_
   refine AE rfl (fun E=>((Ag rfl rfl (E.sz 171 aM) (E.d 12 2)).trans rfl)) ?_
   refine QSeq.pure rfl (.bool true) (fun E=>Bp rfl (E.d 12 3) rfl (E.d 15 0)) ?_
   refine qe ?_
   clear HA0 c3 a0
   go_upto_region 41 with (fail)
   refine Ab 178 [176,179,3] [0,1,2] (fun a0 HA0=>?_)
   have d7:=ev HA0 2 rfl
   refine QSeq.pure rfl (.agg ((mg0C 0 0 0):List Value).toArray) (fun E=>ex_build0 rfl (r:=((mg0C 0 0 0):List Value).toArray) aE) ?_
   refine QSeq.go fun act E=>?_
   refine Am rfl (Aa rfl) rfl HB22.o (off:=0) (vs:=(mg0C 0 0 0)) aE HZO.o eT (E.v d7) (ec (E.d 0 0)) ?_
   intro n5 qc0 hm
   have qB2:=qc0.eqv (b:=((mg0C 0 0 0):List Value).toArray) (Aw _ _ rfl)
   clear qc0
   have ky:=hid qB2
   have fy:=hm.size
   have kz:=hid (show Mod (fun k=>(k=w.heap.size)) wq n5 from hm)
   clear hm
   clear act E qB2 HB22
   refine QSeq.pure rfl (.bool false) (fun E=>An rfl rfl) ?_
   refine qe ?_
   clear HA0 d7 a0
   have HEN:=hid (show um=none from HUM.o.trans (unpack_no1 (by rw [HG.o,HE.o.1,HN.o];exact fun h=>by cases h)))
   go_wp2
   refine bodyPost_ret (Bt rfl _ _ w.heap.size ((mg0C 0 0 0)) rfl (fun k u hu=>by rw [ky.out.cell];simpa using hu) C1 rfl aE) rfl ⟨(mg0C 0 0 0),by rw [HUB.o,HEN.o];rfl,by rw [HUY.o,HEN.o];exact mg0_rd A9 A9 A9 _ _,((HMM.o.trans kz.out cW)).mono (fun k h1 h2=>absurd (HNR.o k h2) aL)⟩
  have HN:=B8 hn
  clear hn
  by_cases hl:0 < (st.getD []).length
  ·skip
   go_upto_region 40 with (fail)
   refine Ab 178 [159,160,161,162,163,164,165,166,167,168,169,170,171,172,173,174,175] [0,1,2,3,4,5,6,7,8,9,10,11,12,13,14,15,16] (fun a0 HA0=>?_)
   have c3:=ev HA0 4 rfl
   refine qmo rfl c3 ?_
   refine QSeq.pure rfl (.pointer (some ⟨r,0,none⟩)) (fun E=>ex_nil rfl (E.d 0 0)) ?_
   refine QSeq.pure rfl (.pointer (some ⟨r,1,none⟩)) (fun E=>Ae rfl E5 rfl aE (E.d 1 0)) ?_
   refine QSeq.pure rfl (.bool false) (fun E=>Af rfl E8 rfl (E.d 2 0) ((AJ HRD2.o).trans eP)) ?_
   refine qmv rfl 3 0 ?_
   refine AB rfl (.pointer (some ⟨r,0,none⟩)) (fun E=>((Ag rfl rfl (E.sz 163 aM) (E.d 4 0)).trans rfl)) (fun E=>Al rfl (E.v c3)) ?_
   refine AB rfl (.pointer (some ⟨r,0,none⟩)) (fun E=>((Ag rfl rfl (E.sz 163 aM) (E.d 4 1)).trans rfl)) (fun E=>ex_nil rfl (E.d 5 0)) ?_
   refine AB rfl (.pointer (some ⟨r,0,none⟩)) (fun E=>((Ag rfl rfl (E.sz 163 aM) (E.d 4 2)).trans rfl)) (fun E=>Ae rfl E5 rfl aE (E.d 6 0)) ?_
   refine AB rfl (.slice ao9 ((st.getD []).length) cap9) (fun E=>((Ag rfl rfl (E.sz 163 aM) (E.d 4 3)).trans rfl)) (fun E=>Af rfl D2 rfl (E.d 7 0) (HQ9.o.2 0 _ rfl)) ?_
   refine AB rfl (.int .i64 ((st.getD []).length)) (fun E=>((Ag rfl rfl (E.sz 163 aM) (E.d 4 4)).trans rfl)) (fun E=>A2 rfl (E.d 8 0) D2) ?_
   refine AB rfl (.bool true) (fun E=>((Ag rfl rfl (E.sz 163 aM) (E.d 4 5)).trans rfl)) (fun E=>Aq rfl (E.d 9 0) rfl (Ai _ _ _ _ _ _) (Bx _ _ _ B9) (congrArg Value.bool (decide_eq_true (show (0:Int) < (((st.getD []).length:Nat):Int) by omega)))) ?_
   refine QSeq.pure rfl (.bool true) (fun E=>Bp rfl (E.d 4 6) rfl (E.d 10 0)) ?_
   refine qmv rfl 11 0 ?_
   refine AE rfl (fun E=>((Ag rfl rfl (E.sz 171 aM) (E.d 12 0)).trans rfl)) ?_
   refine AE rfl (fun E=>((Ag rfl rfl (E.sz 171 aM) (E.d 12 1)).trans rfl)) ?_
   refine AE rfl (fun E=>((Ag rfl rfl (E.sz 171 aM) (E.d 12 2)).trans rfl)) ?_
   refine QSeq.pure rfl (.bool true) (fun E=>Bp rfl (E.d 12 3) rfl (E.d 15 0)) ?_
   refine qe ?_
   clear HA0 c3 a0
   go_upto_region 41 with (fail)
   refine Ab 178 [176,179,3] [0,1,2] (fun a0 HA0=>?_)
   have d7:=ev HA0 2 rfl
   refine QSeq.pure rfl (.agg ((mg0C 0 0 0):List Value).toArray) (fun E=>ex_build0 rfl (r:=((mg0C 0 0 0):List Value).toArray) aE) ?_
   refine QSeq.go fun act E=>?_
   refine Am rfl (Aa rfl) rfl HB22.o (off:=0) (vs:=(mg0C 0 0 0)) aE HZO.o eT (E.v d7) (ec (E.d 0 0)) ?_
   intro n5 qc0 hm
   have qB2:=qc0.eqv (b:=((mg0C 0 0 0):List Value).toArray) (Aw _ _ rfl)
   clear qc0
   have lc:=hid qB2
   have fy:=hm.size
   have ld:=hid (show Mod (fun k=>(k=w.heap.size)) wq n5 from hm)
   clear hm
   clear act E qB2 HB22
   refine QSeq.pure rfl (.bool false) (fun E=>An rfl rfl) ?_
   refine qe ?_
   clear HA0 d7 a0
   have HEN:=hid (show um=none from HUM.o.trans (unpack_no1 (by rw [HG.o,HE.o.1];intro h;rw [h] at hl;exact absurd hl bA)))
   go_wp2
   refine bodyPost_ret (Bt rfl _ _ w.heap.size ((mg0C 0 0 0)) rfl (fun k u hu=>by rw [lc.out.cell];simpa using hu) C1 rfl aE) rfl ⟨(mg0C 0 0 0),by rw [HUB.o,HEN.o];rfl,by rw [HUY.o,HEN.o];exact mg0_rd A9 A9 A9 _ _,((HMM.o.trans ld.out cW)).mono (fun k h1 h2=>absurd (HNR.o k h2) aL)⟩
  have hl0:(st.getD []).length=0:=by omega
  have HS9:=hid (show st=some [] by cases st with|none=>exact absurd rfl HN.o|some l=>exact congrArg some (List.eq_nil_of_length_eq_zero hl0))
  have HGA:=hid (show Bg (gMg (some bs)).1=bs∧MgOk (gMg (some bs)).1 from gMg_all HBB.o (by rw [HG.o,HE.o.1,HS9.o]))
  have HYY:=hid (show (gMg (some bs)).1=y by rw [HG.o];exact HE.o.2 HN.o)
  have HKY:=hid (show okKd (gMg (some bs)).1.kd=true by rw [HG.o,gBody_kd];exact HKD.o)
  by_cases hn:65536 < bs.length
  ·skip
   go_upto_region 40 with (fail)
   refine Ab 178 [159,160,161,162,163,164,165,166,167,168,169,170,171,172,173,174,175] [0,1,2,3,4,5,6,7,8,9,10,11,12,13,14,15,16] (fun a0 HA0=>?_)
   have d9:=ev HA0 0 rfl
   have c3:=ev HA0 4 rfl
   refine qmo rfl c3 ?_
   refine QSeq.pure rfl (.pointer (some ⟨r,0,none⟩)) (fun E=>ex_nil rfl (E.d 0 0)) ?_
   refine QSeq.pure rfl (.pointer (some ⟨r,1,none⟩)) (fun E=>Ae rfl E5 rfl aE (E.d 1 0)) ?_
   refine QSeq.pure rfl (.bool false) (fun E=>Af rfl E8 rfl (E.d 2 0) ((AJ HRD2.o).trans eP)) ?_
   refine qmv rfl 3 0 ?_
   refine AB rfl (.pointer (some ⟨r,0,none⟩)) (fun E=>((Ag rfl rfl (E.sz 163 aM) (E.d 4 0)).trans rfl)) (fun E=>Al rfl (E.v c3)) ?_
   refine AB rfl (.pointer (some ⟨r,0,none⟩)) (fun E=>((Ag rfl rfl (E.sz 163 aM) (E.d 4 1)).trans rfl)) (fun E=>ex_nil rfl (E.d 5 0)) ?_
   refine AB rfl (.pointer (some ⟨r,0,none⟩)) (fun E=>((Ag rfl rfl (E.sz 163 aM) (E.d 4 2)).trans rfl)) (fun E=>Ae rfl E5 rfl aE (E.d 6 0)) ?_
   refine AB rfl (.slice ao9 ((st.getD []).length) cap9) (fun E=>((Ag rfl rfl (E.sz 163 aM) (E.d 4 3)).trans rfl)) (fun E=>Af rfl D2 rfl (E.d 7 0) (HQ9.o.2 0 _ rfl)) ?_
   refine AB rfl (.int .i64 ((st.getD []).length)) (fun E=>((Ag rfl rfl (E.sz 163 aM) (E.d 4 4)).trans rfl)) (fun E=>A2 rfl (E.d 8 0) D2) ?_
   refine AB rfl (.bool false) (fun E=>((Ag rfl rfl (E.sz 163 aM) (E.d 4 5)).trans rfl)) (fun E=>Aq rfl (E.d 9 0) rfl (Ai _ _ _ _ _ _) (Bx _ _ _ B9) (congrArg Value.bool (decide_eq_false (show ¬ (0:Int) < (((st.getD []).length:Nat):Int) by omega)))) ?_
   refine QSeq.pure rfl (.bool false) (fun E=>Bp rfl (E.d 4 6) rfl (E.d 10 0)) ?_
   refine qmv rfl 11 0 ?_
   refine AB rfl (.slice ao bs.length cap) (fun E=>((Ag rfl rfl (E.sz 171 aM) (E.d 12 0)).trans rfl)) (fun E=>Al rfl (E.v d9)) ?_
   refine AB rfl (.int .i64 bs.length) (fun E=>((Ag rfl rfl (E.sz 171 aM) (E.d 12 1)).trans rfl)) (fun E=>A2 rfl (E.d 13 0) D2) ?_
   refine AB rfl (.bool true) (fun E=>((Ag rfl rfl (E.sz 171 aM) (E.d 12 2)).trans rfl)) (fun E=>Aq rfl (E.d 14 0) rfl (Ai _ _ _ _ _ _) (Bx _ _ _ B9) (congrArg Value.bool (decide_eq_true aL))) ?_
   refine QSeq.pure rfl (.bool true) (fun E=>Bp rfl (E.d 12 3) rfl (E.d 15 0)) ?_
   refine qe ?_
   clear HA0 d9 c3 a0
   go_upto_region 41 with (fail)
   refine Ab 178 [176,179,3] [0,1,2] (fun a0 HA0=>?_)
   have d7:=ev HA0 2 rfl
   refine QSeq.pure rfl (.agg ((mg0C 0 0 0):List Value).toArray) (fun E=>ex_build0 rfl (r:=((mg0C 0 0 0):List Value).toArray) aE) ?_
   refine QSeq.go fun act E=>?_
   refine Am rfl (Aa rfl) rfl HB22.o (off:=0) (vs:=(mg0C 0 0 0)) aE HZO.o eT (E.v d7) (ec (E.d 0 0)) ?_
   intro n5 qc0 hm
   have qB2:=qc0.eqv (b:=((mg0C 0 0 0):List Value).toArray) (Aw _ _ rfl)
   clear qc0
   have le:=hid qB2
   have fy:=hm.size
   have lf:=hid (show Mod (fun k=>(k=w.heap.size)) wq n5 from hm)
   clear hm
   clear act E qB2 HB22
   refine QSeq.pure rfl (.bool false) (fun E=>An rfl rfl) ?_
   refine qe ?_
   clear HA0 d7 a0
   have HEN:=hid (show um=none from HUM.o.trans (unpack_no2 (by unfold packs;rw [HGA.o.1,HKY.o,Bool.true_and,decide_eq_false_iff_not];omega)))
   go_wp2
   refine bodyPost_ret (Bt rfl _ _ w.heap.size ((mg0C 0 0 0)) rfl (fun k u hu=>by rw [le.out.cell];simpa using hu) C1 rfl aE) rfl ⟨(mg0C 0 0 0),by rw [HUB.o,HEN.o];rfl,by rw [HUY.o,HEN.o];exact mg0_rd A9 A9 A9 _ _,((HMM.o.trans lf.out cW)).mono (fun k h1 h2=>absurd (HNR.o k h2) aL)⟩
  go_upto_region 40 with (fail)
  refine Ab 178 [159,160,161,162,163,164,165,166,167,168,169,170,171,172,173,174,175] [0,1,2,3,4,5,6,7,8,9,10,11,12,13,14,15,16] (fun a0 HA0=>?_)
  have d9:=ev HA0 0 rfl
  have c3:=ev HA0 4 rfl
  refine qmo rfl c3 ?_
  refine QSeq.pure rfl (.pointer (some ⟨r,0,none⟩)) (fun E=>ex_nil rfl (E.d 0 0)) ?_
  refine QSeq.pure rfl (.pointer (some ⟨r,1,none⟩)) (fun E=>Ae rfl E5 rfl aE (E.d 1 0)) ?_
  refine QSeq.pure rfl (.bool false) (fun E=>Af rfl E8 rfl (E.d 2 0) ((AJ HRD2.o).trans eP)) ?_
  refine qmv rfl 3 0 ?_
  refine AB rfl (.pointer (some ⟨r,0,none⟩)) (fun E=>((Ag rfl rfl (E.sz 163 aM) (E.d 4 0)).trans rfl)) (fun E=>Al rfl (E.v c3)) ?_
  refine AB rfl (.pointer (some ⟨r,0,none⟩)) (fun E=>((Ag rfl rfl (E.sz 163 aM) (E.d 4 1)).trans rfl)) (fun E=>ex_nil rfl (E.d 5 0)) ?_
  refine AB rfl (.pointer (some ⟨r,0,none⟩)) (fun E=>((Ag rfl rfl (E.sz 163 aM) (E.d 4 2)).trans rfl)) (fun E=>Ae rfl E5 rfl aE (E.d 6 0)) ?_
  refine AB rfl (.slice ao9 ((st.getD []).length) cap9) (fun E=>((Ag rfl rfl (E.sz 163 aM) (E.d 4 3)).trans rfl)) (fun E=>Af rfl D2 rfl (E.d 7 0) (HQ9.o.2 0 _ rfl)) ?_
  refine AB rfl (.int .i64 ((st.getD []).length)) (fun E=>((Ag rfl rfl (E.sz 163 aM) (E.d 4 4)).trans rfl)) (fun E=>A2 rfl (E.d 8 0) D2) ?_
  refine AB rfl (.bool false) (fun E=>((Ag rfl rfl (E.sz 163 aM) (E.d 4 5)).trans rfl)) (fun E=>Aq rfl (E.d 9 0) rfl (Ai _ _ _ _ _ _) (Bx _ _ _ B9) (congrArg Value.bool (decide_eq_false (show ¬ (0:Int) < (((st.getD []).length:Nat):Int) by omega)))) ?_
  refine QSeq.pure rfl (.bool false) (fun E=>Bp rfl (E.d 4 6) rfl (E.d 10 0)) ?_
  refine qmv rfl 11 0 ?_
  refine AB rfl (.slice ao bs.length cap) (fun E=>((Ag rfl rfl (E.sz 171 aM) (E.d 12 0)).trans rfl)) (fun E=>Al rfl (E.v d9)) ?_
  refine AB rfl (.int .i64 bs.length) (fun E=>((Ag rfl rfl (E.sz 171 aM) (E.d 12 1)).trans rfl)) (fun E=>A2 rfl (E.d 13 0) D2) ?_
  refine AB rfl (.bool false) (fun E=>((Ag rfl rfl (E.sz 171 aM) (E.d 12 2)).trans rfl)) (fun E=>Aq rfl (E.d 14 0) rfl (Ai _ _ _ _ _ _) (Bx _ _ _ B9) (congrArg Value.bool (decide_eq_false aL))) ?_
  refine QSeq.pure rfl (.bool false) (fun E=>Bp rfl (E.d 12 3) rfl (E.d 15 0)) ?_
  refine qe ?_
  clear HA0 d9 c3 a0
  go_upto_region 42 with (fail)
  refine Ab 178 [177,179,3] [0,1,2] (fun a0 HA0=>?_)
  have d7:=ev HA0 2 rfl
  have c4:=ev HA0 5 rfl
  refine QSeq.pure rfl _ (fun E=>Ak rfl C1 rfl (off:=0) (cs:=cz) cD (E.v c4) (Cs.whole HQZ.o)) ?_
  refine QSeq.go fun act E=>?_
  refine Am rfl (Aa rfl) rfl HB22.o (off:=0) (vs:=cz) cD HON.o eC (E.v d7) (ec (E.d 0 0)) ?_
  intro lg qc0 hm
  have qB2:=qc0.eqv (b:=(cz:List Value).toArray) (Aw _ _ hJ)
  clear qc0
  have lh:=hid qB2
  have qk:=hm.size
  have fz:=hid (show Mod (fun k=>(k=w.heap.size)) wq lg from hm)
  clear hm
  clear act E qB2 HB22
  refine QSeq.pure rfl (.bool true) (fun E=>An rfl rfl) ?_
  refine qe ?_
  clear HA0 d7 c4 a0
  have HEY:=hid (show um=some y from HUM.o.trans (by rw [unpack_yes (by rw [HG.o,HE.o.1,HS9.o]) (by unfold packs;rw [HGA.o.1,HKY.o,Bool.true_and,decide_eq_true_eq];omega),HYY.o]))
  go_wp2
  refine bodyPost_ret (Bt rfl _ _ w.heap.size (cz) rfl (fun k u hu=>by rw [lh.out.cell];simpa using hu) C1 rfl cD) rfl ⟨cz,by rw [HUB.o,HEY.o];rfl,by rw [HUY.o,HEY.o];exact (HRM.o.mod fz.out aD).widen bB,((HMM.o.trans fz.out cW)).mono (fun k h1 h2=>absurd (HNR.o k h2) aL)⟩
end Go.Proofs.YtnaoeginonpicaaGreat
