/- MsgUnpacks: for every five readings the law returns true. No condition. -/
import Derived.Test.YtnaoeginonpicaaGreatMvF8
import Derived.Deep.CutBlock
import Derived.Deep.RegionHeld3
import Derived.IntWalk
import Derived.Deep.Cut
import Derived.ProofKit
import Derived.OpenShut
import Derived.ChangeOld
set_option maxRecDepth 100000
set_option linter.unusedVariables false
open Go renaming Lib.hid→B8
open Go.Proofs renaming Tryz.underlying3→B9,Tryz.underlying61→C1,Tryz.underlying45→C7,Tryz.underlying43→D0,Tryz.underlying52→D2,Tryz.underlying47→D4,Tryz.underlying124→D7,Tryz.underlying25→D8,Tryz.underlying59→D9,Tryz.underlying30→E0,Tryz.func22→E3,Tryz.underlying127→E4,Tryz.underlying100→E5,Tryz.func67→E6,Tryz.underlying29→E7,Tryz.underlying4→E8,Tryz.func21→E9
open Nat renaming le_refl→C0,le_trans→C4
open List renaming append_assoc→C2,length_append→C3,map_cons→C5,map_nil→C6,map_toArray→C8,not_mem_nil→C9,mem_cons→D1,size_toArray→D3,length_nil→D5,length_cons→D6
open List renaming setIfInBounds_toArray → sIB, set_cons_zero → sCZ, set_cons_succ → sCS
namespace Go.Proofs.YtnaoeginonpicaaGreat
open Go Go.RowKit Go.Gv
theorem st_bare (x:St):stB x=bareT x ++ sigB x.sb x.mr:=by simp only [stB,bareT,C2]
theorem vt_bare (x:Vt):vtB x=bareV x ++ sigB x.sb x.mr:=by simp only [vtB,bareV,C2]
theorem St_sg {x:St} (h:x.OK):(x.cells.drop 36).take 2=[.int .i64 x.sb,.int .i64 x.mr]:=by
 have:=h.h.1
 simp [St.cells,List.drop_append,this]
 rw [List.drop_eq_nil_of_le (by simp [this])]
 rfl
theorem Vt_sg {x:Vt} (h:x.OK):(x.cells.drop 36).take 2=[.int .i64 x.sb,.int .i64 x.mr]:=by
 have:=h.h.1
 simp [Vt.cells,List.drop_append,this]
theorem En_hs {x:En}:(x.cells.drop 2).take (x.h.map bv).length=x.h.map bv:=by simp [En.cells]
theorem En_tm {x:En} (h:x.OK):x.cells[34]? = some (.int .u64 (x.tm:Nat)):=by
 have:=h.h.1
 simp [En.cells,List.getElem?_append,this]
theorem I64_wrap5 (n:Int):I64 (IntKind.i64.wrap n):=by
 have:=bounds_i64 (wf_wrap .i64 n)
 unfold I64
 omega
theorem rdS_one {α:Type} {A:Rep α} {R:Nat→Prop} {w:World} {v:Value} {l:List α} (h:RdS A R w v l):v.oneCell'=true:=by
 obtain ⟨_,_,rfl⟩:=h.shape
 rfl
theorem one3 {a b c:Value} (ha:a.oneCell'=true) (hb:b.oneCell'=true) (hc:c.oneCell'=true):∀ v ∈ [a,b,c],v.oneCell'=true:=by
 simp only [D1,C9,or_false]
 rintro v (rfl|rfl|rfl)
 ·exact ha
 ·exact hb
 ·exact hc
theorem Vt_sgc {x:Vt} (h:x.OK) (j:Nat) (u:Value) (hu:([.int .i64 x.sb,.int .i64 x.mr]:List Value)[j]? = some u):x.cells[36+j]? = some u:=by
 rw [← Vt_sg h,List.getElem?_take] at hu
 by_cases hj:j < 2
 ·rw [if_pos hj,List.getElem?_drop] at hu;exact hu
 ·rw [if_neg hj] at hu;cases hu
set_option maxHeartbeats 8000000 in
theorem RefPack_Q:∀ (R2:Nat→Prop) (cs:List Value) (x:Mg) (w:World),MgR.rd R2 w cs x→(∀ k,R2 k→k < w.heap.size)→(Bg x).length≤900000→
 Calls Tryz.prog 6 #[.agg cs.toArray] w fun e w'=>∃ v,e=.returned (.tuple #[v,.bool (packs x)])∧OwR (New w w') 900000 w' v (if packs x=true then Bg x else [])∧Mod (fun _=>False) w w':=by
 intro R2 cs x w hx hB2 hl
 obtain ⟨RB,hRB⟩:∃ z,z=(if packs x=true then Bg x else []):=⟨_,rfl⟩
 rw [← hRB]
 obtain ⟨pk,hpk⟩:∃ z,z=packs x:=⟨_,rfl⟩
 rw [← hpk]
 have HRB:=B8 hRB
 have HPK:=B8 hpk
 clear hRB hpk
 obtain ⟨c5,c10,c11,c15,c18,rfl,hok,h5,h10,h11,h15,h18⟩:=hx
 have HC5:=hid (CeR.len h5)
 have HC10:=hid (PmR.len h10)
 have HC15:=hid (OpR.len h15)
 have HLN:=hid (Mg.lns hok h5 h10 h11 h15 h18)
 obtain ⟨p_ps,p_os,p_ts,rfl,hokp,hp0,hp1,hp2⟩:=h11
 obtain ⟨d_ps,d_os,d_ts,d_l,rfl,hokd,hd0,hd1,hd2,hd3⟩:=h18
 obtain ⟨aol,capl,rfl⟩:=hd3.shape
 have hbl:x.dc.l.length≤maxLen:=hd3.bd
 rw [Ax] at hbl
 have HIL:=hid (show I64 (x.dc.l.length:Int) by unfold I64;omega)
 clear hbl
 have H5:=B8 h5
 have H10:=B8 h10
 have H15:=B8 h15
 have HP0:=B8 hp0
 have HP1:=B8 hp1
 have HP2:=B8 hp2
 have HD0:=B8 hd0
 have HD1:=B8 hd1
 have HD2:=B8 hd2
 have HD3:=B8 hd3
 have HBT:=B8 hB2
 have HOK:=B8 hok
 have HOP:=B8 hokp
 have HOD:=B8 hokd
 have HL0:=hid (show (encI x.kd ++ (encI x.fr ++ encI x.to) ++ A3 x).length≤900000 by simpa only [Bg,C2] using hl)
 clear hB2 hok hokp hokd hl h5 h10 h15 hp0 hp1 hp2 hd0 hd1 hd2 hd3
 go_enter Tryz.func6,Tryz.ntmps6
 go_upto_region 1 with (fail)
 obtain ⟨w1,hw1⟩:∃ zz,zz=(w.alloc (.cells ((Mg.segs x c5 c10 (x.pr.cells p_ps p_os p_ts) c15 (x.dc.cells d_ps d_os d_ts (Value.slice aol x.dc.l.length capl))).flatten:List Value).toArray 61)):=⟨_,rfl⟩
 change Code.wp _ _ _ _ (w.alloc (.cells ((Mg.segs x c5 c10 (x.pr.cells p_ps p_os p_ts) c15 (x.dc.cells d_ps d_os d_ts (Value.slice aol x.dc.l.length capl))).flatten:List Value).toArray 61))
 rw [← hw1]
 have HB1:=hid (show Cs w1 (w.heap.size) ((Mg.segs x c5 c10 (x.pr.cells p_ps p_os p_ts) c15 (x.dc.cells d_ps d_os d_ts (Value.slice aol x.dc.l.length capl))).flatten:List Value).toArray 61 by rw [hw1];exact Cs.new _ _ _)
 have hm:Mod (fun _=>False) w w1:=by rw [hw1];exact (Mod.refl _ _).alloc _
 have HM0:=hid (show Mod (fun _=>False) w w1 from hm.mono iB)
 have hs1:w1.heap.size=w.heap.size+1:=by rw [hw1];simp
 have bh:=hid (H5.o.mod hm iA)
 clear H5
 have bj:=hid (H10.o.mod hm iA)
 clear H10
 have bk:=hid (H15.o.mod hm iA)
 clear H15
 have n6:=hid (HP0.o.mod hm iA)
 clear HP0
 have n7:=hid (HP1.o.mod hm iA)
 clear HP1
 have n8:=hid (HP2.o.mod hm iA)
 clear HP2
 have o5:=hid (HD0.o.mod hm iA)
 clear HD0
 have Hx8:=hid (HD1.o.mod hm iA)
 clear HD1
 have Hx9:=hid (HD2.o.mod hm iA)
 clear HD2
 have Hx10:=hid (HD3.o.mod hm iA)
 clear HD3
 clear hw1 hm
 by_cases hk1:x.kd < 1
 ·skip
  go_upto_region 1 with (fail)
  refine Ab 227 [8,9,10,11,12,13,14,15] [0,1,2,3,4,5,6,7] (fun a0 HA0=>?_)
  have c3:=ev HA0 1 rfl
  refine qfd rfl 0 C1 c3 ?_
  refine QSeq.pure rfl (.int .i64 x.kd) (fun E=>Af rfl B9 rfl (E.d 0 0) (AD HB1.o HLN.o 0 rfl (o:=0) (k:=0) rfl rfl rfl)) ?_
  refine QSeq.pure rfl (.bool true) (fun E=>Aq rfl (E.d 1 0) rfl (Ai _ _ _ _ _ _) (A1 _ _ _ B9) (congrArg Value.bool (decide_eq_true aL))) ?_
  refine qmv rfl 2 0 ?_
  refine AE rfl (fun E=>((Ag rfl rfl (E.sz 11 aM) (E.d 3 0)).trans rfl)) ?_
  refine AE rfl (fun E=>((Ag rfl rfl (E.sz 11 aM) (E.d 3 1)).trans rfl)) ?_
  refine AE rfl (fun E=>((Ag rfl rfl (E.sz 11 aM) (E.d 3 2)).trans rfl)) ?_
  refine QSeq.pure rfl (.bool true) (fun E=>Bp rfl (E.d 3 3) rfl (E.d 6 0)) ?_
  refine qe ?_
  clear HA0 c3 a0
  go_upto_region 2 with (fail)
  refine Ab 227 [2,3] [0,1] (fun a0 HA0=>?_)
  refine QSeq.pure rfl (.slice none 0 0) (fun E=>An rfl rfl) ?_
  refine QSeq.pure rfl (.bool false) (fun E=>An rfl rfl) ?_
  refine qe ?_
  clear HA0 a0
  have HP:=hid (show packs x=false by unfold packs;rw [show okKd x.kd=false by unfold okKd;rw [decide_eq_false_iff_not];omega];rfl)
  go_wp2
  go_ret2
  exact ⟨.slice none 0 0,by rw [HPK.o,HP.o];rfl,by rw [show RB=[] by rw [HRB.o,HP.o];rfl];exact ⟨Own.nil _ _ _ _,(fun g h=>by cases h),Nat.zero_le _⟩,HM0.o⟩
 by_cases hk2:14 < x.kd
 ·skip
  go_upto_region 1 with (fail)
  refine Ab 227 [8,9,10,11,12,13,14,15] [0,1,2,3,4,5,6,7] (fun a0 HA0=>?_)
  have c3:=ev HA0 1 rfl
  refine qfd rfl 0 C1 c3 ?_
  refine QSeq.pure rfl (.int .i64 x.kd) (fun E=>Af rfl B9 rfl (E.d 0 0) (AD HB1.o HLN.o 0 rfl (o:=0) (k:=0) rfl rfl rfl)) ?_
  refine QSeq.pure rfl (.bool false) (fun E=>Aq rfl (E.d 1 0) rfl (Ai _ _ _ _ _ _) (A1 _ _ _ B9) (congrArg Value.bool (decide_eq_false aL))) ?_
  refine qmv rfl 2 0 ?_
  refine AB rfl (.pointer (some ⟨w.heap.size,0,none⟩)) (fun E=>((Ag rfl rfl (E.sz 11 aM) (E.d 3 0)).trans rfl)) (fun E=>Ae rfl C1 rfl aE (E.v c3)) ?_
  refine AB rfl (.int .i64 x.kd) (fun E=>((Ag rfl rfl (E.sz 11 aM) (E.d 3 1)).trans rfl)) (fun E=>Af rfl B9 rfl (E.d 4 0) (AD HB1.o HLN.o 0 rfl (o:=0) (k:=0) rfl rfl rfl)) ?_
  refine AB rfl (.bool true) (fun E=>((Ag rfl rfl (E.sz 11 aM) (E.d 3 2)).trans rfl)) (fun E=>Aq rfl (E.d 5 0) rfl (Ai _ _ _ _ _ _) (Bx _ _ _ B9) (congrArg Value.bool (decide_eq_true aL))) ?_
  refine QSeq.pure rfl (.bool true) (fun E=>Bp rfl (E.d 3 3) rfl (E.d 6 0)) ?_
  refine qe ?_
  clear HA0 c3 a0
  go_upto_region 2 with (fail)
  refine Ab 227 [2,3] [0,1] (fun a0 HA0=>?_)
  refine QSeq.pure rfl (.slice none 0 0) (fun E=>An rfl rfl) ?_
  refine QSeq.pure rfl (.bool false) (fun E=>An rfl rfl) ?_
  refine qe ?_
  clear HA0 a0
  have HP:=hid (show packs x=false by unfold packs;rw [show okKd x.kd=false by unfold okKd;rw [decide_eq_false_iff_not];omega];rfl)
  go_wp2
  go_ret2
  exact ⟨.slice none 0 0,by rw [HPK.o,HP.o];rfl,by rw [show RB=[] by rw [HRB.o,HP.o];rfl];exact ⟨Own.nil _ _ _ _,(fun g h=>by cases h),Nat.zero_le _⟩,HM0.o⟩
 go_upto_region 1 with (fail)
 refine Ab 227 [8,9,10,11,12,13,14,15] [0,1,2,3,4,5,6,7] (fun a0 HA0=>?_)
 have c3:=ev HA0 1 rfl
 refine qfd rfl 0 C1 c3 ?_
 refine QSeq.pure rfl (.int .i64 x.kd) (fun E=>Af rfl B9 rfl (E.d 0 0) (AD HB1.o HLN.o 0 rfl (o:=0) (k:=0) rfl rfl rfl)) ?_
 refine QSeq.pure rfl (.bool false) (fun E=>Aq rfl (E.d 1 0) rfl (Ai _ _ _ _ _ _) (A1 _ _ _ B9) (congrArg Value.bool (decide_eq_false aL))) ?_
 refine qmv rfl 2 0 ?_
 refine AB rfl (.pointer (some ⟨w.heap.size,0,none⟩)) (fun E=>((Ag rfl rfl (E.sz 11 aM) (E.d 3 0)).trans rfl)) (fun E=>Ae rfl C1 rfl aE (E.v c3)) ?_
 refine AB rfl (.int .i64 x.kd) (fun E=>((Ag rfl rfl (E.sz 11 aM) (E.d 3 1)).trans rfl)) (fun E=>Af rfl B9 rfl (E.d 4 0) (AD HB1.o HLN.o 0 rfl (o:=0) (k:=0) rfl rfl rfl)) ?_
 refine AB rfl (.bool false) (fun E=>((Ag rfl rfl (E.sz 11 aM) (E.d 3 2)).trans rfl)) (fun E=>Aq rfl (E.d 5 0) rfl (Ai _ _ _ _ _ _) (Bx _ _ _ B9) (congrArg Value.bool (decide_eq_false aL))) ?_
 refine QSeq.pure rfl (.bool false) (fun E=>Bp rfl (E.d 3 3) rfl (E.d 6 0)) ?_
 refine qe ?_
 clear HA0 c3 a0
 have HK:=hid (show okKd x.kd=true by unfold okKd;rw [decide_eq_true_eq];omega)
 have HL:=hid (show (encI x.kd ++ (encI x.fr ++ encI x.to)).length≤900000 by have:=HL0.o;simp only [C3] at this ⊢; omega)
 go_upto_region 3 with (fail)
 generalize ha0:Act.mk _ _=a0
 have c3:a0.eval (.tmp 1)=.pointer (some ⟨w.heap.size,0,none⟩):=by rw [← ha0];rfl
 have hsz0:a0.tmps.size=227:=by rw [← ha0];rfl
 have HA0:=hid ha0
 clear ha0
 refine A7 227 hsz0 [16,17,18,19,20,21,22,23,24,25,26,4] [qi (.pointer (some ⟨w.heap.size,0,none⟩)),qi (.int .i64 x.kd),qv 0,qi (.pointer (some ⟨w.heap.size,1,none⟩)),qi (.int .i64 x.fr),qv 1,qi (.pointer (some ⟨w.heap.size,2,none⟩)),qi (.int .i64 x.to),qv 2,qv 3,qv 4,qv 4] ⟨Ac,Ac,Ah,Ac,Ac,Ah,Ac,Ac,Ah,Ah,Ah,Ah,trivial⟩ [2,5,8,9,10] ⟨?_,?_,?_,?_,?_,?_,?_,?_,?_,?_,?_,?_,trivial⟩ ?_
 ·exact stq (fun E=>Ae rfl C1 rfl aE (E.v c3))
 ·exact stq (fun E=>Af rfl B9 rfl (E.d 0) (AD (HB1.o.mod E.m.old aG) HLN.o 0 rfl (o:=0) (k:=0) rfl rfl rfl))
 ·exact Ad rfl
 ·exact stq (fun E=>Ae rfl C1 rfl aE (E.v c3))
 ·exact stq (fun E=>Af rfl B9 rfl (E.d 3) (AD (HB1.o.mod E.m.old aG) HLN.o 1 rfl (o:=1) (k:=0) rfl rfl rfl))
 ·exact Ad rfl
 ·exact stq (fun E=>Ae rfl C1 rfl aE (E.v c3))
 ·exact stq (fun E=>Af rfl B9 rfl (E.d 6) (AD (HB1.o.mod E.m.old aG) HLN.o 2 rfl (o:=2) (k:=0) rfl rfl rfl))
 ·exact Ad rfl
 ·exact Ad rfl
 ·exact Ad rfl
 ·refine Ay rfl rfl rfl fun _ _ _ _ _ _ _ _ _ hd _ _=>?_
  have h10:=hd ⟨10,.data⟩ bA rfl _ rfl
  exact Bl rfl (Aa rfl) (An rfl rfl) QE.refl h10
 intro je hr
 have po:=hr.size
 have bl:=hid (hr.new (S:=(fun _=>False)))
 clear hr
 refine QChain.go fun Z act E=>?_
 refine Aj (args:=#[.int .i64 x.kd]) rfl (Aa rfl) rfl E3 (Ap (E.d 1)) (Bf _ HOK.o.kd _) ?_
 rintro e jf ⟨v_a1,rfl,qa1,hm⟩
 obtain ⟨j8,j9,rfl⟩:=qa1.shape
 have pp:=hm.size
 refine ⟨_,rfl,hm.mono iB,(fun _=>rfl),?_⟩
 intro jg hr
 have pq:=hr.size
 have bm:=hid ((qa1.widen (R':=(fun k=>(New je jf k))) (fun _ h=>h) (C0 _)).mod hr aD)
 have bn:=hid (bl.out.go hm hr)
 clear bl hm hr Z act E qa1
 refine QChain.go fun Z act E=>?_
 refine Aj (args:=#[.int .i64 x.fr]) rfl (Aa rfl) rfl E3 (Ap (E.d 4)) (Bf _ HOK.o.fr _) ?_
 rintro e jh ⟨v_a2,rfl,qa2,hm⟩
 obtain ⟨l7,l8,rfl⟩:=qa2.shape
 have pt:=hm.size
 refine ⟨_,rfl,hm.mono iB,(fun _=>rfl),?_⟩
 intro ji hr
 have pu:=hr.size
 have bp:=hid ((qa2.widen (R':=(fun k=>(New jg jh k))) (fun _ h=>h) (C0 _)).mod hr aD)
 have hmr:=Mod.after hm hr
 have bq:=hid (bm.out.mod hmr aD)
 clear bm
 clear hmr
 have br:=hid (bn.out.go hm hr)
 clear bn hm hr Z act E qa2
 refine QChain.go fun Z act E=>?_
 refine Aj (args:=#[.int .i64 x.to]) rfl (Aa rfl) rfl E3 (Ap (E.d 7)) (Bf _ HOK.o.to _) ?_
 rintro e jj ⟨v_a3,rfl,qa3,hm⟩
 obtain ⟨m7,m8,rfl⟩:=qa3.shape
 have pv:=hm.size
 refine ⟨_,rfl,hm.mono iB,(fun _=>rfl),?_⟩
 intro bt hr
 have pw:=hr.size
 have bu:=hid ((qa3.widen (R':=(fun k=>(New ji jj k))) (fun _ h=>h) (C0 _)).mod hr aD)
 have hmr:=Mod.after hm hr
 have bw:=hid (bq.out.mod hmr aD)
 have bx:=hid (bp.out.mod hmr aD)
 clear bq bp
 clear hmr
 have bz:=hid (br.out.go hm hr)
 clear br hm hr Z act E qa3
 refine QChain.go fun Z act E=>?_
 have ea18:act.eval (.tmp 18)=.slice j8 ((encI x.kd).length) j9:=(chv (v:=.slice j8 ((encI x.kd).length) j9) (E.d 2))
 have ea21:act.eval (.tmp 21)=.slice l7 ((encI x.fr).length) l8:=(chv (v:=.slice l7 ((encI x.fr).length) l8) (E.d 5))
 have ea24:act.eval (.tmp 24)=.slice m7 ((encI x.to).length) m8:=(chv (v:=.slice m7 ((encI x.to).length) m8) (E.d 8))
 refine Bv rfl (Aa rfl) rfl D7 aM (C:=#[.slice j8 ((encI x.kd).length) j9,.slice l7 ((encI x.fr).length) l8,.slice m7 ((encI x.to).length) m8]) (by simp only [C8,C5,C6,ea18,ea21,ea24];kernel_rfl) ?_
 intro qd qrow9 hm
 have qf:=qrow9.lt
 have qg:=hm.size
 refine ⟨hm.mono iB,(fun _=>rfl),?_⟩
 intro jk hr
 have qh:=hr.size
 have o6:=hid (qrow9.mod hr aG)
 have hmr:=Mod.after hm hr
 have o7:=hid (bw.out.mod hmr aD)
 have o8:=hid (bx.out.mod hmr aD)
 have o9:=hid (bu.out.mod hmr aD)
 clear bw bx bu
 clear hmr
 have cd:=hid (bz.out.go hm hr)
 clear bz hm hr Z act E qrow9 ea18 ea21 ea24
 refine QChain.go fun Z act E=>?_
 refine Aj (args:=#[.slice (some ⟨bt.heap.size,0,none⟩) 3 3]) rfl (Aa rfl) rfl E9 (Ap (chv (v:=.slice (some ⟨bt.heap.size,0,none⟩) 3 3) (E.d 9))) (Join_Q (n:=3)  o6.out [(.slice j8 ((encI x.kd).length) j9,encI x.kd),(.slice l7 ((encI x.fr).length) l8,encI x.fr),(.slice m7 ((encI x.to).length) m8,encI x.to)] rfl rfl (by intro p hp;simp only [D1,C9,or_false] at hp;rcases hp with rfl|rfl|rfl<;>first|exact o7.out.rd.1|exact o8.out.rd.1|exact o9.out.rd.1) bA (show flat _=encI x.kd ++ (encI x.fr ++ encI x.to) from by simp only [flat,C5,C6,List.flatten_cons,List.flatten_nil,List.append_nil]) aF) ?_
 rintro e jl ⟨v_join1,rfl,qjoin1,hm⟩
 have qj:=hm.size
 refine ⟨_,rfl,hm.mono iB,(fun _=>rfl),?_⟩
 intro d6 hr
 have qk:=hr.size
 have cf:=hid ((qjoin1.widen (R':=(fun k=>(New jk jl k))) (fun _ h=>h) (C0 _)).mod hr aD)
 have hmr:=Mod.after hm hr
 have jm:=hid (o7.out.mod hmr aD)
 have jn:=hid (o8.out.mod hmr aD)
 have jo:=hid (o9.out.mod hmr aD)
 have jp:=hid (o6.out.mod hmr aG)
 clear o7 o8 o9 o6
 clear hmr
 have c7:=hid (cd.out.go hm hr)
 clear cd hm hr Z act E qjoin1
 refine QChain.nil fun vs hl hzz hrows hne=>?_
 obtain ⟨Z,hYZ,hZb,hV⟩:=hzz
 have f2:=fvc hV hl 2
 have f5:=fvc hV hl 5
 have f8:=fvc hV hl 8
 have f9:=fvc hV hl 9
 have f10:=fvc hV hl 10
 have f11:=fvc hV hl 11
 rw [show vs=[gw vs 0,gw vs 1,gw vs 2,gw vs 3,gw vs 4,gw vs 5,gw vs 6,gw vs 7,gw vs 8,gw vs 9,gw vs 10,gw vs 11] from (Bi hl).trans rfl]
 have ha0:=HA0.o
 subst ha0
 clear HA0 hV hYZ hZb hsz0 hrows hne c3
 simp only [Au,Act.put,sIB,sCZ,sCS,f2,f5,f8,f9,f10,f11]
 clear hl f2 f5 f8 f9 f10 f11
 obtain ⟨BJ,hbj⟩:∃ z,z=encI x.kd ++ (encI x.fr ++ encI x.to):=⟨_,rfl⟩
 have hq:=cf.out
 rw [← hbj] at hq
 obtain ⟨aoj,capj,rfl⟩:=hq.shape
 have HJ:=B8 hq
 have HBJ:=B8 hbj
 clear hq hbj cf
 clear HL
 go_upto_region 4 with (fail)
 refine Ab 227 [27,28] [0,1] (fun a0 HA0=>?_)
 have c3:=ev HA0 1 rfl
 refine qfd rfl 0 C1 c3 ?_
 refine QSeq.pure rfl (.int .i64 x.kd) (fun E=>Af rfl B9 rfl (E.d 0 0) (AD (HB1.o.mod c7.out (fun h=>h)) HLN.o 0 rfl (o:=0) (k:=0) rfl rfl rfl)) ?_
 refine qe ?_
 clear HA0 c3 a0
 go_upto_block 0 with (fail)
 go_cut [4,5,6,7] from 29 (fun t4 t5 t6 t7 w'=>OwR (New w w') 900000 w' t4 (Bg x)∧Mod (fun _=>False) w w')
 case first=>
  by_cases h1:x.kd=1
  ·have KK:=B8 h1
   clear h1
   go_upto_region 5 with (fail)
   refine tst 227 B9 (Bj KK.o) rfl (qs ?_)
   have HE:=hid (show A3 x=cmB x.cm by unfold A3;rw [KK.o];rfl)
   have HL:=hid (show (BJ ++ (cmB x.cm)).length≤900000 by have h:=HL0.o;rw [HE.o,← HBJ.o] at h;exact h)
   go_upto_region 6 with (fail)
   refine Ab 227 [31,32,33,34,35,36,4] [0,1,2,3,4,5,6] (fun a0 HA0=>?_)
   have c3:=ev HA0 1 rfl
   have c8:=ev HA0 4 rfl
   refine QSeq.pure rfl _ (fun E=>Al rfl (E.y 6 c8)) ?_
   refine qfd rfl 3 C1 c3 ?_
   refine QSeq.pure rfl _ (fun E=>Ak rfl E7 rfl (off:=3) (cs:=(x.cm.cells)) (by rw [Cm.len HOK.o.cm.2.1];exact size_commit) (E.d 1 0) (Cs.seg (HB1.o.mod c7.out (fun h=>h)) HLN.o 3 rfl rfl)) ?_
   refine QSeq.call rfl rfl Tryz.func23 (RefCm_Q (fun _=>False) _ x.cm _ ⟨rfl,HOK.o.cm⟩ iC aF) (fun E=>Ap (E.d 2 0)) ?_
   rintro e jq ⟨v_a4,rfl,qa4,hm⟩
   obtain ⟨c4,c6,rfl⟩:=qa4.shape
   refine ⟨_,rfl,?_⟩
   have p5:=hid qa4
   have qm:=hm.size
   have cg:=hid (show Mod (fun _=>False) d6 jq from hm)
   clear hm
   clear qa4
   refine QSeq.go fun act E=>?_
   have ea31:act.eval (.tmp 31)=.slice aoj (BJ.length) capj:=(E.d 0 3)
   have ea34:act.eval (.tmp 34)=.slice c4 ((cmB x.cm).length) c6:=(E.d 3 0)
   refine Bv rfl (Aa rfl) rfl D7 aM (C:=#[.slice aoj (BJ.length) capj,.slice c4 ((cmB x.cm).length) c6]) (by simp only [C8,C5,C6,ea31,ea34];kernel_rfl) ?_
   intro qn qrow4 hm
   have qo:=qrow4.lt
   have p6:=hid qrow4
   have qp:=hm.size
   have p7:=hid hm
   have p8:=hid (cg.out.goE hm)
   clear hm cg
   clear act E qrow4 ea31 ea34
   refine QSeq.call rfl rfl E9 (Join_Q (n:=2)  p6.out [(.slice aoj (BJ.length) capj,BJ),(.slice c4 ((cmB x.cm).length) c6,cmB x.cm)] rfl rfl (by intro p hp;simp only [D1,C9,or_false] at hp;rcases hp with rfl|rfl<;>first|exact (HJ.o.mod p8.out iA).rd.1|exact (p5.out.mod p7.out iA).rd.1) bA (show flat _=BJ ++ cmB x.cm from by simp only [flat,C5,C6,List.flatten_cons,List.flatten_nil,List.append_nil]) aF) (fun E=>Ap (E.d 4 0)) ?_
   rintro e jr ⟨v_join2,rfl,qjoin2,hm⟩
   refine ⟨_,rfl,?_⟩
   have js:=hid qjoin2
   have qt:=hm.size
   have p9:=hid hm
   have jt:=hid (p8.out.goE hm)
   clear hm p8
   clear qjoin2
   refine qas rfl 5 0 ?_
   have qw:=hid ((p5.out.mod p7.out iA).mod p9.out iA)
   have qy:=hid (p6.out.mod p9.out (fun h=>h))
   clear p5 p6 p7 p9
   refine qe ?_
   clear HA0 c3 c8 a0
   have hq:=(js.out.widen (R':=(fun k=>New w jr k)) bB (C0 _))
   rw [show BJ ++ cmB x.cm=Bg x by unfold Bg;rw [HE.o,HBJ.o];simp only [C2]] at hq
   have HQ:=B8 hq
   clear hq
   go_wp2_with fail
   go_meet
   case rel=>exact ⟨HQ.o,((HM0.o.trans c7.out iB).trans jt.out iB)⟩
  have K1:=B8 h1
  clear h1
  go_upto_region 5 with (fail)
  refine tst 227 B9 (Bk K1.o) rfl (qs ?_)
  by_cases h2:x.kd=2
  ·have KK:=B8 h2
   clear h2
   go_upto_region 7 with (fail)
   refine tst 227 B9 (Bj KK.o) rfl (qs ?_)
   have HE:=hid (show A3 x=stB x.st by unfold A3;rw [KK.o];rfl)
   have HL:=hid (show (BJ ++ (stB x.st)).length≤900000 by have h:=HL0.o;rw [HE.o,← HBJ.o] at h;exact h)
   go_upto_region 8 with (fail)
   refine Ab 227 [39,40,41,42,43,44,4] [0,1,2,3,4,5,6] (fun a0 HA0=>?_)
   have c3:=ev HA0 1 rfl
   have c8:=ev HA0 4 rfl
   refine QSeq.pure rfl _ (fun E=>Al rfl (E.y 6 c8)) ?_
   refine qfd rfl 40 C1 c3 ?_
   refine QSeq.pure rfl _ (fun E=>Ak rfl Tryz.underlying32 rfl (off:=40) (cs:=(x.st.cells)) (by rw [St.len HOK.o.st];kernel_rfl) (E.d 1 0) (Cs.seg (HB1.o.mod c7.out (fun h=>h)) HLN.o 4 rfl rfl)) ?_
   refine QSeq.call rfl rfl Tryz.func24 (RefSt_Q (fun _=>False) _ x.st _ ⟨rfl,HOK.o.st⟩ iC aF) (fun E=>Ap (E.d 2 0)) ?_
   rintro e ju ⟨v_a4,rfl,qa4,hm⟩
   obtain ⟨c4,c6,rfl⟩:=qa4.shape
   refine ⟨_,rfl,?_⟩
   have q6:=hid qa4
   have qz:=hm.size
   have ch:=hid (show Mod (fun _=>False) d6 ju from hm)
   clear hm
   clear qa4
   refine QSeq.go fun act E=>?_
   have ea39:act.eval (.tmp 39)=.slice aoj (BJ.length) capj:=(E.d 0 3)
   have ea42:act.eval (.tmp 42)=.slice c4 ((stB x.st).length) c6:=(E.d 3 0)
   refine Bv rfl (Aa rfl) rfl D7 aM (C:=#[.slice aoj (BJ.length) capj,.slice c4 ((stB x.st).length) c6]) (by simp only [C8,C5,C6,ea39,ea42];kernel_rfl) ?_
   intro ra qrow4 hm
   have rc:=qrow4.lt
   have q7:=hid qrow4
   have re:=hm.size
   have q8:=hid hm
   have q9:=hid (ch.out.goE hm)
   clear hm ch
   clear act E qrow4 ea39 ea42
   refine QSeq.call rfl rfl E9 (Join_Q (n:=2)  q7.out [(.slice aoj (BJ.length) capj,BJ),(.slice c4 ((stB x.st).length) c6,stB x.st)] rfl rfl (by intro p hp;simp only [D1,C9,or_false] at hp;rcases hp with rfl|rfl<;>first|exact (HJ.o.mod q9.out iA).rd.1|exact (q6.out.mod q8.out iA).rd.1) bA (show flat _=BJ ++ stB x.st from by simp only [flat,C5,C6,List.flatten_cons,List.flatten_nil,List.append_nil]) aF) (fun E=>Ap (E.d 4 0)) ?_
   rintro e jv ⟨v_join2,rfl,qjoin2,hm⟩
   refine ⟨_,rfl,?_⟩
   have jw:=hid qjoin2
   have rf:=hm.size
   have r5:=hid hm
   have jx:=hid (q9.out.goE hm)
   clear hm q9
   clear qjoin2
   refine qas rfl 5 0 ?_
   have rg:=hid ((q6.out.mod q8.out iA).mod r5.out iA)
   have rh:=hid (q7.out.mod r5.out (fun h=>h))
   clear q6 q7 q8 r5
   refine qe ?_
   clear HA0 c3 c8 a0
   have hq:=(jw.out.widen (R':=(fun k=>New w jv k)) bB (C0 _))
   rw [show BJ ++ stB x.st=Bg x by unfold Bg;rw [HE.o,HBJ.o];simp only [C2]] at hq
   have HQ:=B8 hq
   clear hq
   go_wp2_with fail
   go_meet
   case rel=>exact ⟨HQ.o,((HM0.o.trans c7.out iB).trans jx.out iB)⟩
  have K2:=B8 h2
  clear h2
  go_upto_region 7 with (fail)
  refine tst 227 B9 (Bk K2.o) rfl (qs ?_)
  by_cases h3:x.kd=3
  ·have KK:=B8 h3
   clear h3
   go_upto_region 9 with (fail)
   refine tst 227 B9 (Bj KK.o) rfl (qs ?_)
   have HE:=hid (show A3 x=ceB x.ce by unfold A3;rw [KK.o];rfl)
   have HL:=hid (show (BJ ++ (ceB x.ce)).length≤900000 by have h:=HL0.o;rw [HE.o,← HBJ.o] at h;exact h)
   go_upto_region 10 with (fail)
   refine Ab 227 [47,48,49,50,51,52,4] [0,1,2,3,4,5,6] (fun a0 HA0=>?_)
   have c3:=ev HA0 1 rfl
   have c8:=ev HA0 4 rfl
   refine QSeq.pure rfl _ (fun E=>Al rfl (E.y 6 c8)) ?_
   refine qfd rfl 78 C1 c3 ?_
   refine QSeq.pure rfl _ (fun E=>Ak rfl Tryz.underlying35 rfl (off:=78) (cs:=(c5)) (by rw [HC5.o];kernel_rfl) (E.d 1 0) (Cs.seg (HB1.o.mod c7.out (fun h=>h)) HLN.o 5 rfl rfl)) ?_
   refine QSeq.call rfl rfl Tryz.func25 (RefCe_Q R2 _ x.ce _ (bh.out.mod c7.out iA) aU aF) (fun E=>Ap (E.d 2 0)) ?_
   rintro e jy ⟨v_a4,rfl,qa4,hm⟩
   obtain ⟨c4,c6,rfl⟩:=qa4.shape
   refine ⟨_,rfl,?_⟩
   have r6:=hid qa4
   have ri:=hm.size
   have cj:=hid (show Mod (fun _=>False) d6 jy from hm)
   clear hm
   clear qa4
   refine QSeq.go fun act E=>?_
   have ea47:act.eval (.tmp 47)=.slice aoj (BJ.length) capj:=(E.d 0 3)
   have ea50:act.eval (.tmp 50)=.slice c4 ((ceB x.ce).length) c6:=(E.d 3 0)
   refine Bv rfl (Aa rfl) rfl D7 aM (C:=#[.slice aoj (BJ.length) capj,.slice c4 ((ceB x.ce).length) c6]) (by simp only [C8,C5,C6,ea47,ea50];kernel_rfl) ?_
   intro rj qrow4 hm
   have rk:=qrow4.lt
   have r7:=hid qrow4
   have rl:=hm.size
   have r8:=hid hm
   have r9:=hid (cj.out.goE hm)
   clear hm cj
   clear act E qrow4 ea47 ea50
   refine QSeq.call rfl rfl E9 (Join_Q (n:=2)  r7.out [(.slice aoj (BJ.length) capj,BJ),(.slice c4 ((ceB x.ce).length) c6,ceB x.ce)] rfl rfl (by intro p hp;simp only [D1,C9,or_false] at hp;rcases hp with rfl|rfl<;>first|exact (HJ.o.mod r9.out iA).rd.1|exact (r6.out.mod r8.out iA).rd.1) bA (show flat _=BJ ++ ceB x.ce from by simp only [flat,C5,C6,List.flatten_cons,List.flatten_nil,List.append_nil]) aF) (fun E=>Ap (E.d 4 0)) ?_
   rintro e jz ⟨v_join2,rfl,qjoin2,hm⟩
   refine ⟨_,rfl,?_⟩
   have ka:=hid qjoin2
   have rm:=hm.size
   have s0:=hid hm
   have kb:=hid (r9.out.goE hm)
   clear hm r9
   clear qjoin2
   refine qas rfl 5 0 ?_
   have ro:=hid ((r6.out.mod r8.out iA).mod s0.out iA)
   have rq:=hid (r7.out.mod s0.out (fun h=>h))
   clear r6 r7 r8 s0
   refine qe ?_
   clear HA0 c3 c8 a0
   have hq:=(ka.out.widen (R':=(fun k=>New w jz k)) bB (C0 _))
   rw [show BJ ++ ceB x.ce=Bg x by unfold Bg;rw [HE.o,HBJ.o];simp only [C2]] at hq
   have HQ:=B8 hq
   clear hq
   go_wp2_with fail
   go_meet
   case rel=>exact ⟨HQ.o,((HM0.o.trans c7.out iB).trans kb.out iB)⟩
  have K3:=B8 h3
  clear h3
  go_upto_region 9 with (fail)
  refine tst 227 B9 (Bk K3.o) rfl (qs ?_)
  by_cases h4:x.kd=4
  ·have KK:=B8 h4
   clear h4
   go_upto_region 11 with (fail)
   refine tst 227 B9 (Bj KK.o) rfl (qs ?_)
   have HE:=hid (show A3 x=bareT x.ak ++ sigB x.ak.sb x.ak.mr by unfold A3;rw [KK.o];exact st_bare x.ak)
   have HL:=hid (show (BJ ++ (bareT x.ak ++ sigB x.ak.sb x.ak.mr)).length≤900000 by have h:=HL0.o;rw [HE.o,← HBJ.o] at h;exact h)
   go_upto_region 12 with (fail)
   generalize ha0:Act.mk _ _=a0
   have c3:a0.eval (.tmp 1)=.pointer (some ⟨w.heap.size,0,none⟩):=by rw [← ha0];rfl
   have c8:a0.eval (.tmp 4)=.slice aoj (BJ.length) capj:=by rw [← ha0];rfl
   have hsz0:a0.tmps.size=227:=by rw [← ha0];rfl
   have HA0:=hid ha0
   clear ha0
   refine A7 227 hsz0 [55,56,57,58,59,60,61,62,63,64,4] [qi (.slice aoj (BJ.length) capj),qi (.pointer (some ⟨w.heap.size,116,none⟩)),qi (.agg (x.ak.cells).toArray),qv 0,qi (.pointer (some ⟨w.heap.size,116,none⟩)),qi (.pointer (some ⟨w.heap.size,152,none⟩)),qi (.agg #[.int .i64 x.ak.sb,.int .i64 x.ak.mr]),qv 1,qv 2,qv 3,qv 3] ⟨Ac,Ac,Ac,Ah,Ac,Ac,Ac,Ah,Ah,Ah,Ah,trivial⟩ [3,7,8,9] ⟨?_,?_,?_,?_,?_,?_,?_,?_,?_,?_,?_,trivial⟩ ?_
   ·exact stq (fun E=>Al rfl ((E.pre 10 4 rfl aE).trans c8))
   ·exact stq (fun E=>Ae rfl C1 rfl aE (E.v c3))
   ·exact stq (fun E=>Ak rfl Tryz.underlying37 rfl (off:=116) (cs:=(x.ak.cells)) (by rw [St.len HOK.o.ak];kernel_rfl) (E.d 1) (Cs.seg ((HB1.o.mod c7.out (fun h=>h)).mod E.m.old aG) HLN.o 6 rfl rfl))
   ·exact Ad rfl
   ·exact stq (fun E=>Ae rfl C1 rfl aE (E.v c3))
   ·exact stq (fun E=>Ae rfl Tryz.underlying37 rfl aE (E.d 4))
   ·exact stq (fun E=>Ak rfl Tryz.underlying27 rfl (off:=152) (cs:=[.int .i64 x.ak.sb,.int .i64 x.ak.mr]) aE (E.d 5) (Cs.segA ((HB1.o.mod c7.out (fun h=>h)).mod E.m.old aG) HLN.o 6 rfl (o:=116) (k:=36) rfl rfl (St_sg HOK.o.ak)))
   ·exact Ad rfl
   ·exact Ad rfl
   ·exact Ad rfl
   ·refine Ay rfl rfl rfl fun _ _ _ _ _ _ _ _ _ hd _ _=>?_
    have h9:=hd ⟨9,.data⟩ bA rfl _ rfl
    exact Bl rfl (Aa rfl) (An rfl rfl) QE.refl h9
   intro ke hr
   have rt:=hr.size
   have ck:=hid (hr.new (S:=(fun _=>False)))
   clear hr
   refine QChain.go fun Z act E=>?_
   refine Aj (args:=#[.agg (x.ak.cells).toArray]) rfl (Aa rfl) rfl Tryz.func26 (Ap (E.d 2)) (RefBareA_Q (fun _=>False) _ x.ak _ ⟨rfl,HOK.o.ak⟩ iC aF) ?_
   rintro e kf ⟨v_a4,rfl,qa4,hm⟩
   obtain ⟨c4,c6,rfl⟩:=qa4.shape
   have ru:=hm.size
   refine ⟨_,rfl,hm.mono iB,(fun _=>rfl),?_⟩
   intro kg hr
   have rv:=hr.size
   have co:=hid ((qa4.widen (R':=(fun k=>(New ke kf k))) (fun _ h=>h) (C0 _)).mod hr aD)
   have cq:=hid (ck.out.go hm hr)
   clear ck hm hr Z act E qa4
   refine QChain.go fun Z act E=>?_
   refine Aj (args:=#[.agg #[.int .i64 x.ak.sb,.int .i64 x.ak.mr]]) rfl (Aa rfl) rfl Tryz.func27 (Ap (E.d 6)) (RefSig_Q HOK.o.ak.sb HOK.o.ak.mr _) ?_
   rintro e kh ⟨v_a5,rfl,qa5,hm⟩
   obtain ⟨c9,d5,rfl⟩:=qa5.shape
   have rx:=hm.size
   refine ⟨_,rfl,hm.mono iB,(fun _=>rfl),?_⟩
   intro cr hr
   have ry:=hr.size
   have ct:=hid ((qa5.widen (R':=(fun k=>(New kg kh k))) (fun _ h=>h) (C0 _)).mod hr aD)
   have hmr:=Mod.after hm hr
   have cw:=hid (co.out.mod hmr aD)
   clear co
   clear hmr
   have cx:=hid (cq.out.go hm hr)
   clear cq hm hr Z act E qa5
   refine QChain.go fun Z act E=>?_
   have ea55:act.eval (.tmp 55)=.slice aoj (BJ.length) capj:=(E.d 0)
   have ea58:act.eval (.tmp 58)=.slice c4 ((bareT x.ak).length) c6:=(chv (v:=.slice c4 ((bareT x.ak).length) c6) (E.d 3))
   have ea62:act.eval (.tmp 62)=.slice c9 ((sigB x.ak.sb x.ak.mr).length) d5:=(chv (v:=.slice c9 ((sigB x.ak.sb x.ak.mr).length) d5) (E.d 7))
   refine Bv rfl (Aa rfl) rfl D7 aM (C:=#[.slice aoj (BJ.length) capj,.slice c4 ((bareT x.ak).length) c6,.slice c9 ((sigB x.ak.sb x.ak.mr).length) d5]) (by simp only [C8,C5,C6,ea55,ea58,ea62];kernel_rfl) ?_
   intro rz qrow8 hm
   have sc:=qrow8.lt
   have sd:=hm.size
   refine ⟨hm.mono iB,(fun _=>rfl),?_⟩
   intro ki hr
   have se:=hr.size
   have s5:=hid (qrow8.mod hr aG)
   have hmr:=Mod.after hm hr
   have s6:=hid (cw.out.mod hmr aD)
   have s7:=hid (ct.out.mod hmr aD)
   clear cw ct
   clear hmr
   have s8:=hid (cx.out.go hm hr)
   clear cx hm hr Z act E qrow8 ea55 ea58 ea62
   refine QChain.go fun Z act E=>?_
   refine Aj (args:=#[.slice (some ⟨cr.heap.size,0,none⟩) 3 3]) rfl (Aa rfl) rfl E9 (Ap (chv (v:=.slice (some ⟨cr.heap.size,0,none⟩) 3 3) (E.d 8))) (Join_Q (n:=3)  s5.out [(.slice aoj (BJ.length) capj,BJ),(.slice c4 ((bareT x.ak).length) c6,bareT x.ak),(.slice c9 ((sigB x.ak.sb x.ak.mr).length) d5,sigB x.ak.sb x.ak.mr)] rfl rfl (by intro p hp;simp only [D1,C9,or_false] at hp;rcases hp with rfl|rfl|rfl<;>first|exact (HJ.o.mod s8.out iA).rd.1|exact s6.out.rd.1|exact s7.out.rd.1) bA (show flat _=BJ ++ (bareT x.ak ++ sigB x.ak.sb x.ak.mr) from by simp only [flat,C5,C6,List.flatten_cons,List.flatten_nil,List.append_nil]) aF) ?_
   rintro e kj ⟨v_join2,rfl,qjoin2,hm⟩
   have sf:=hm.size
   refine ⟨_,rfl,hm.mono iB,(fun _=>rfl),?_⟩
   intro km hr
   have sg:=hr.size
   have kn:=hid ((qjoin2.widen (R':=(fun k=>(New ki kj k))) (fun _ h=>h) (C0 _)).mod hr aD)
   have hmr:=Mod.after hm hr
   have sh:=hid (s6.out.mod hmr aD)
   have si:=hid (s7.out.mod hmr aD)
   have sj:=hid (s5.out.mod hmr aG)
   clear s6 s7 s5
   clear hmr
   have ko:=hid (s8.out.go hm hr)
   clear s8 hm hr Z act E qjoin2
   refine QChain.nil fun vs hl hzz hrows hne=>?_
   obtain ⟨Z,hYZ,hZb,hV⟩:=hzz
   have f0:=fvi hV hl 0
   have f3:=fvc hV hl 3
   have f7:=fvc hV hl 7
   have f8:=fvc hV hl 8
   have f9:=fvc hV hl 9
   have f10:=fvc hV hl 10
   rw [show vs=[gw vs 0,gw vs 1,gw vs 2,gw vs 3,gw vs 4,gw vs 5,gw vs 6,gw vs 7,gw vs 8,gw vs 9,gw vs 10] from (Bi hl).trans rfl]
   have ha0:=HA0.o
   subst ha0
   clear HA0 hV hYZ hZb hsz0 hrows hne c3 c8
   simp only [Au,Act.put,sIB,sCZ,sCS,f0,f3,f7,f8,f9,f10]
   clear hl f0 f3 f7 f8 f9 f10
   have hq:=(kn.out.widen (R':=(fun k=>New w km k)) bB (C0 _))
   rw [show BJ ++ (bareT x.ak ++ sigB x.ak.sb x.ak.mr)=Bg x by unfold Bg;rw [HE.o,HBJ.o];simp only [C2]] at hq
   have HQ:=B8 hq
   clear hq
   go_wp2_with fail
   go_meet
   case rel=>exact ⟨HQ.o,((HM0.o.trans c7.out iB).trans ko.out iB)⟩
  have K4:=B8 h4
  clear h4
  go_upto_region 11 with (fail)
  refine tst 227 B9 (Bk K4.o) rfl (qs ?_)
  by_cases h5:x.kd=5
  ·have KK:=B8 h5
   clear h5
   go_upto_region 13 with (fail)
   refine tst 227 B9 (Bj KK.o) rfl (qs ?_)
   have HE:=hid (show A3 x=encI x.ep ++ (encI x.rn ++ encN x.tm) by unfold A3;rw [KK.o];exact (rfl:_=encI x.ep ++ encI x.rn ++ encN x.tm).trans (C2 _ _ _))
   have HL:=hid (show (BJ ++ (encI x.ep ++ (encI x.rn ++ encN x.tm))).length≤900000 by have h:=HL0.o;rw [HE.o,← HBJ.o] at h;exact h)
   go_upto_region 14 with (fail)
   generalize ha0:Act.mk _ _=a0
   have c3:a0.eval (.tmp 1)=.pointer (some ⟨w.heap.size,0,none⟩):=by rw [← ha0];rfl
   have c8:a0.eval (.tmp 4)=.slice aoj (BJ.length) capj:=by rw [← ha0];rfl
   have hsz0:a0.tmps.size=227:=by rw [← ha0];rfl
   have HA0:=hid ha0
   clear ha0
   refine A7 227 hsz0 [67,68,69,70,71,72,73,74,75,76,77,78,4] [qi (.slice aoj (BJ.length) capj),qi (.pointer (some ⟨w.heap.size,154,none⟩)),qi (.int .i64 x.ep),qv 0,qi (.pointer (some ⟨w.heap.size,155,none⟩)),qi (.int .i64 x.rn),qv 1,qi (.pointer (some ⟨w.heap.size,156,none⟩)),qi (.int .u64 (x.tm:Nat)),qv 2,qv 3,qv 4,qv 4] ⟨Ac,Ac,Ac,Ah,Ac,Ac,Ah,Ac,Ac,Ah,Ah,Ah,Ah,trivial⟩ [3,6,9,10,11] ⟨?_,?_,?_,?_,?_,?_,?_,?_,?_,?_,?_,?_,?_,trivial⟩ ?_
   ·exact stq (fun E=>Al rfl ((E.pre 12 4 rfl aE).trans c8))
   ·exact stq (fun E=>Ae rfl C1 rfl aE (E.v c3))
   ·exact stq (fun E=>Af rfl B9 rfl (E.d 1) (AD ((HB1.o.mod c7.out (fun h=>h)).mod E.m.old aG) HLN.o 7 rfl (o:=154) (k:=0) rfl rfl rfl))
   ·exact Ad rfl
   ·exact stq (fun E=>Ae rfl C1 rfl aE (E.v c3))
   ·exact stq (fun E=>Af rfl B9 rfl (E.d 4) (AD ((HB1.o.mod c7.out (fun h=>h)).mod E.m.old aG) HLN.o 8 rfl (o:=155) (k:=0) rfl rfl rfl))
   ·exact Ad rfl
   ·exact stq (fun E=>Ae rfl C1 rfl aE (E.v c3))
   ·exact stq (fun E=>Af rfl E0 rfl (E.d 7) (AD ((HB1.o.mod c7.out (fun h=>h)).mod E.m.old aG) HLN.o 9 rfl (o:=156) (k:=0) rfl rfl rfl))
   ·exact Ad rfl
   ·exact Ad rfl
   ·exact Ad rfl
   ·refine Ay rfl rfl rfl fun _ _ _ _ _ _ _ _ _ hd _ _=>?_
    have h11:=hd ⟨11,.data⟩ bA rfl _ rfl
    exact Bl rfl (Aa rfl) (An rfl rfl) QE.refl h11
   intro kp hr
   have sk:=hr.size
   have cy:=hid (hr.new (S:=(fun _=>False)))
   clear hr
   refine QChain.go fun Z act E=>?_
   refine Aj (args:=#[.int .i64 x.ep]) rfl (Aa rfl) rfl E3 (Ap (E.d 2)) (Bf _ HOK.o.ep _) ?_
   rintro e kq ⟨v_a4,rfl,qa4,hm⟩
   obtain ⟨c4,c6,rfl⟩:=qa4.shape
   have sl:=hm.size
   refine ⟨_,rfl,hm.mono iB,(fun _=>rfl),?_⟩
   intro kr hr
   have sm:=hr.size
   have da:=hid ((qa4.widen (R':=(fun k=>(New kp kq k))) (fun _ h=>h) (C0 _)).mod hr aD)
   have db:=hid (cy.out.go hm hr)
   clear cy hm hr Z act E qa4
   refine QChain.go fun Z act E=>?_
   refine Aj (args:=#[.int .i64 x.rn]) rfl (Aa rfl) rfl E3 (Ap (E.d 5)) (Bf _ HOK.o.rn _) ?_
   rintro e kt ⟨v_a5,rfl,qa5,hm⟩
   obtain ⟨c9,d5,rfl⟩:=qa5.shape
   have sn:=hm.size
   refine ⟨_,rfl,hm.mono iB,(fun _=>rfl),?_⟩
   intro ku hr
   have sr:=hr.size
   have dd:=hid ((qa5.widen (R':=(fun k=>(New kr kt k))) (fun _ h=>h) (C0 _)).mod hr aD)
   have hmr:=Mod.after hm hr
   have df:=hid (da.out.mod hmr aD)
   clear da
   clear hmr
   have dg:=hid (db.out.go hm hr)
   clear db hm hr Z act E qa5
   refine QChain.go fun Z act E=>?_
   refine Aj (args:=#[.int .u64 (x.tm:Nat)]) rfl (Aa rfl) rfl Tryz.func28 (Ap (E.d 8)) (RefNum_Q _ HOK.o.tm _) ?_
   rintro e kv ⟨v_a6,rfl,qa6,hm⟩
   obtain ⟨d7,d8,rfl⟩:=qa6.shape
   have su:=hm.size
   refine ⟨_,rfl,hm.mono iB,(fun _=>rfl),?_⟩
   intro dh hr
   have sw:=hr.size
   have di:=hid ((qa6.widen (R':=(fun k=>(New ku kv k))) (fun _ h=>h) (C0 _)).mod hr aD)
   have hmr:=Mod.after hm hr
   have dj:=hid (df.out.mod hmr aD)
   have dk:=hid (dd.out.mod hmr aD)
   clear df dd
   clear hmr
   have dl:=hid (dg.out.go hm hr)
   clear dg hm hr Z act E qa6
   refine QChain.go fun Z act E=>?_
   have ea67:act.eval (.tmp 67)=.slice aoj (BJ.length) capj:=(E.d 0)
   have ea70:act.eval (.tmp 70)=.slice c4 ((encI x.ep).length) c6:=(chv (v:=.slice c4 ((encI x.ep).length) c6) (E.d 3))
   have ea73:act.eval (.tmp 73)=.slice c9 ((encI x.rn).length) d5:=(chv (v:=.slice c9 ((encI x.rn).length) d5) (E.d 6))
   have ea76:act.eval (.tmp 76)=.slice d7 ((encN x.tm).length) d8:=(chv (v:=.slice d7 ((encN x.tm).length) d8) (E.d 9))
   refine Bv rfl (Aa rfl) rfl D7 aM (C:=#[.slice aoj (BJ.length) capj,.slice c4 ((encI x.ep).length) c6,.slice c9 ((encI x.rn).length) d5,.slice d7 ((encN x.tm).length) d8]) (by simp only [C8,C5,C6,ea67,ea70,ea73,ea76];kernel_rfl) ?_
   intro sx qrow10 hm
   have tb:=qrow10.lt
   have tc:=hm.size
   refine ⟨hm.mono iB,(fun _=>rfl),?_⟩
   intro kw hr
   have td:=hr.size
   have t0:=hid (qrow10.mod hr aG)
   have hmr:=Mod.after hm hr
   have t1:=hid (dj.out.mod hmr aD)
   have t2:=hid (dk.out.mod hmr aD)
   have t8:=hid (di.out.mod hmr aD)
   clear dj dk di
   clear hmr
   have t9:=hid (dl.out.go hm hr)
   clear dl hm hr Z act E qrow10 ea67 ea70 ea73 ea76
   refine QChain.go fun Z act E=>?_
   refine Aj (args:=#[.slice (some ⟨dh.heap.size,0,none⟩) 4 4]) rfl (Aa rfl) rfl E9 (Ap (chv (v:=.slice (some ⟨dh.heap.size,0,none⟩) 4 4) (E.d 10))) (Join_Q (n:=4)  t0.out [(.slice aoj (BJ.length) capj,BJ),(.slice c4 ((encI x.ep).length) c6,encI x.ep),(.slice c9 ((encI x.rn).length) d5,encI x.rn),(.slice d7 ((encN x.tm).length) d8,encN x.tm)] rfl rfl (by intro p hp;simp only [D1,C9,or_false] at hp;rcases hp with rfl|rfl|rfl|rfl<;>first|exact (HJ.o.mod t9.out iA).rd.1|exact t1.out.rd.1|exact t2.out.rd.1|exact t8.out.rd.1) bA (show flat _=BJ ++ (encI x.ep ++ (encI x.rn ++ encN x.tm)) from by simp only [flat,C5,C6,List.flatten_cons,List.flatten_nil,List.append_nil]) aF) ?_
   rintro e kx ⟨v_join2,rfl,qjoin2,hm⟩
   have te:=hm.size
   refine ⟨_,rfl,hm.mono iB,(fun _=>rfl),?_⟩
   intro ky hr
   have tf:=hr.size
   have kz:=hid ((qjoin2.widen (R':=(fun k=>(New kw kx k))) (fun _ h=>h) (C0 _)).mod hr aD)
   have hmr:=Mod.after hm hr
   have tg:=hid (t1.out.mod hmr aD)
   have tj:=hid (t2.out.mod hmr aD)
   have tk:=hid (t8.out.mod hmr aD)
   have tl:=hid (t0.out.mod hmr aG)
   clear t1 t2 t8 t0
   clear hmr
   have lc:=hid (t9.out.go hm hr)
   clear t9 hm hr Z act E qjoin2
   refine QChain.nil fun vs hl hzz hrows hne=>?_
   obtain ⟨Z,hYZ,hZb,hV⟩:=hzz
   have f0:=fvi hV hl 0
   have f3:=fvc hV hl 3
   have f6:=fvc hV hl 6
   have f9:=fvc hV hl 9
   have f10:=fvc hV hl 10
   have f11:=fvc hV hl 11
   have f12:=fvc hV hl 12
   rw [show vs=[gw vs 0,gw vs 1,gw vs 2,gw vs 3,gw vs 4,gw vs 5,gw vs 6,gw vs 7,gw vs 8,gw vs 9,gw vs 10,gw vs 11,gw vs 12] from (Bi hl).trans rfl]
   have ha0:=HA0.o
   subst ha0
   clear HA0 hV hYZ hZb hsz0 hrows hne c3 c8
   simp only [Au,Act.put,sIB,sCZ,sCS,f0,f3,f6,f9,f10,f11,f12]
   clear hl f0 f3 f6 f9 f10 f11 f12
   have hq:=(kz.out.widen (R':=(fun k=>New w ky k)) bB (C0 _))
   rw [show BJ ++ (encI x.ep ++ (encI x.rn ++ encN x.tm))=Bg x by unfold Bg;rw [HE.o,HBJ.o];simp only [C2]] at hq
   have HQ:=B8 hq
   clear hq
   go_wp2_with fail
   go_meet
   case rel=>exact ⟨HQ.o,((HM0.o.trans c7.out iB).trans lc.out iB)⟩
  have K5:=B8 h5
  clear h5
  go_upto_region 13 with (fail)
  refine tst 227 B9 (Bk K5.o) rfl (qs ?_)
  by_cases h6:x.kd=6
  ·have KK:=B8 h6
   clear h6
   go_upto_region 15 with (fail)
   refine tst 227 B9 (Bj KK.o) rfl (qs ?_)
   have HE:=hid (show A3 x=pmB x.pm by unfold A3;rw [KK.o];rfl)
   have HL:=hid (show (BJ ++ (pmB x.pm)).length≤900000 by have h:=HL0.o;rw [HE.o,← HBJ.o] at h;exact h)
   go_upto_region 16 with (fail)
   refine Ab 227 [81,82,83,84,85,86,4] [0,1,2,3,4,5,6] (fun a0 HA0=>?_)
   have c3:=ev HA0 1 rfl
   have c8:=ev HA0 4 rfl
   refine QSeq.pure rfl _ (fun E=>Al rfl (E.y 6 c8)) ?_
   refine qfd rfl 157 C1 c3 ?_
   refine QSeq.pure rfl _ (fun E=>Ak rfl Tryz.underlying40 rfl (off:=157) (cs:=(c10)) (by rw [HC10.o];kernel_rfl) (E.d 1 0) (Cs.seg (HB1.o.mod c7.out (fun h=>h)) HLN.o 10 rfl rfl)) ?_
   refine QSeq.call rfl rfl Tryz.func29 (RefPm_Q R2 _ x.pm _ (bj.out.mod c7.out iA) aU aF) (fun E=>Ap (E.d 2 0)) ?_
   rintro e ld ⟨v_a4,rfl,qa4,hm⟩
   obtain ⟨c4,c6,rfl⟩:=qa4.shape
   refine ⟨_,rfl,?_⟩
   have u0:=hid qa4
   have tn:=hm.size
   have dm:=hid (show Mod (fun _=>False) d6 ld from hm)
   clear hm
   clear qa4
   refine QSeq.go fun act E=>?_
   have ea81:act.eval (.tmp 81)=.slice aoj (BJ.length) capj:=(E.d 0 3)
   have ea84:act.eval (.tmp 84)=.slice c4 ((pmB x.pm).length) c6:=(E.d 3 0)
   refine Bv rfl (Aa rfl) rfl D7 aM (C:=#[.slice aoj (BJ.length) capj,.slice c4 ((pmB x.pm).length) c6]) (by simp only [C8,C5,C6,ea81,ea84];kernel_rfl) ?_
   intro tp qrow4 hm
   have tq:=qrow4.lt
   have u1:=hid qrow4
   have tr:=hm.size
   have u2:=hid hm
   have u3:=hid (dm.out.goE hm)
   clear hm dm
   clear act E qrow4 ea81 ea84
   refine QSeq.call rfl rfl E9 (Join_Q (n:=2)  u1.out [(.slice aoj (BJ.length) capj,BJ),(.slice c4 ((pmB x.pm).length) c6,pmB x.pm)] rfl rfl (by intro p hp;simp only [D1,C9,or_false] at hp;rcases hp with rfl|rfl<;>first|exact (HJ.o.mod u3.out iA).rd.1|exact (u0.out.mod u2.out iA).rd.1) bA (show flat _=BJ ++ pmB x.pm from by simp only [flat,C5,C6,List.flatten_cons,List.flatten_nil,List.append_nil]) aF) (fun E=>Ap (E.d 4 0)) ?_
   rintro e le ⟨v_join2,rfl,qjoin2,hm⟩
   refine ⟨_,rfl,?_⟩
   have lf:=hid qjoin2
   have tt:=hm.size
   have u4:=hid hm
   have lg:=hid (u3.out.goE hm)
   clear hm u3
   clear qjoin2
   refine qas rfl 5 0 ?_
   have tu:=hid ((u0.out.mod u2.out iA).mod u4.out iA)
   have tv:=hid (u1.out.mod u4.out (fun h=>h))
   clear u0 u1 u2 u4
   refine qe ?_
   clear HA0 c3 c8 a0
   have hq:=(lf.out.widen (R':=(fun k=>New w le k)) bB (C0 _))
   rw [show BJ ++ pmB x.pm=Bg x by unfold Bg;rw [HE.o,HBJ.o];simp only [C2]] at hq
   have HQ:=B8 hq
   clear hq
   go_wp2_with fail
   go_meet
   case rel=>exact ⟨HQ.o,((HM0.o.trans c7.out iB).trans lg.out iB)⟩
  have K6:=B8 h6
  clear h6
  go_upto_region 15 with (fail)
  refine tst 227 B9 (Bk K6.o) rfl (qs ?_)
  by_cases h7:x.kd=7
  ·have KK:=B8 h7
   clear h7
   go_upto_region 17 with (fail)
   refine tst 227 B9 (Bj KK.o) rfl (qs ?_)
   obtain ⟨vw,hvw⟩:∃ z,z=IntKind.i64.wrap (x.pr.vl+1):=⟨_,rfl⟩
   have HVW:=B8 hvw
   have HIV:=hid (show I64 vw by rw [HVW.o];exact I64_wrap5 _)
   clear hvw
   have HE:=hid (show A3 x=encI x.pr.ep ++ (encI x.pr.rn ++ (encI vw ++ (encI x.pr.rp ++ (baB x.pr.ba ++ sigB x.pr.sb x.pr.mr)))) by unfold A3;rw [KK.o];rw [HVW.o];rfl)
   have HL:=hid (show (BJ ++ (encI x.pr.ep ++ (encI x.pr.rn ++ (encI vw ++ (encI x.pr.rp ++ (baB x.pr.ba ++ sigB x.pr.sb x.pr.mr)))))).length≤900000 by have h:=HL0.o;rw [HE.o,← HBJ.o] at h;exact h)
   have HV1:=hid (show ∀ v ∈ [p_ps,p_os,p_ts],v.oneCell'=true from one3 (rdS_one (n6.out.mod c7.out iA)) (rdS_one (n7.out.mod c7.out iA)) (rdS_one (n8.out.mod c7.out iA)))
   go_upto_region 18 with (fail)
   refine Ab 227 [89,90,5,230] [0,1,2,3] (fun a0 HA0=>?_)
   have c3:=ev HA0 1 rfl
   refine qfd rfl 163 C1 c3 ?_
   refine QSeq.pure rfl _ (fun E=>Ak rfl D4 rfl (off:=163) (cs:=(x.pr.cells p_ps p_os p_ts)) aE (E.d 0 0) (Cs.seg (HB1.o.mod c7.out (fun h=>h)) HLN.o 11 rfl rfl)) ?_
   refine QSeq.go fun act E=>?_
   refine qc_alloc rfl (Aa rfl) rfl (z:=zq10) aE ?_
   intro lh qbp hm
   have tw:=qbp.lt
   have dp:=hid qbp
   have tx:=hm.size
   have dq:=hid (show Mod (fun _=>False) d6 lh from hm)
   clear hm
   clear act E qbp
   refine QSeq.go fun act E=>?_
   have hlz:((x.pr.cells p_ps p_os p_ts)).length=List.length (zq10:List Value):=rfl
   refine Am rfl (Aa rfl) rfl dp.out (off:=0) (vs:=(x.pr.cells p_ps p_os p_ts)) dI (by intro u hu;simp only [Pr.cells,D1,C9,or_false] at hu;rcases hu with rfl|rfl|rfl|rfl|rfl|rfl|rfl|rfl|rfl|rfl|rfl<;>first|rfl|exact HV1.o _ bA) bS (E.d 2 0) (ec (E.d 1 1)) ?_
   intro tz qc0 hm
   have qbp:=qc0.eqv (b:=((x.pr.cells p_ps p_os p_ts):List Value).toArray) (Aw (zq10.toArray) _ eK)
   clear qc0 hlz
   have j0:=hid qbp
   have ua:=hm.size
   have li:=hid hm
   have j4:=hid (AA (S':=(fun _=>False)) dq.out hm (fun _ h=>h) cQ)
   clear hm dq
   clear act E qbp dp
   clear li
   refine qe ?_
   clear HA0 c3 a0
   go_upto_region 19 with (fail)
   generalize ha0:Act.mk _ _=a0
   have c8:a0.eval (.tmp 4)=.slice aoj (BJ.length) capj:=by rw [← ha0];rfl
   have i8:a0.eval (.tmp 5)=.pointer (some ⟨d6.heap.size,0,none⟩):=by rw [← ha0];rfl
   have hsz0:a0.tmps.size=227:=by rw [← ha0];rfl
   have HA0:=hid ha0
   clear ha0
   refine A7 227 hsz0 [91,92,93,94,95,96,97,98,99,100,101,102,103,104,105,106,107,108,109,110,111,112,4] [qi (.slice aoj (BJ.length) capj),qi (.pointer (some ⟨d6.heap.size,0,none⟩)),qi (.int .i64 x.pr.ep),qv 0,qi (.pointer (some ⟨d6.heap.size,1,none⟩)),qi (.int .i64 x.pr.rn),qv 1,qi (.pointer (some ⟨d6.heap.size,2,none⟩)),qi (.int .i64 x.pr.vl),qi (.int .i64 vw),qv 2,qi (.pointer (some ⟨d6.heap.size,3,none⟩)),qi (.int .i64 x.pr.rp),qv 3,qi (.pointer (some ⟨d6.heap.size,4,none⟩)),qi (.agg #[.int .i64 x.pr.ba.ep,.int .u64 (x.pr.ba.tm:Nat),p_ps,p_os,p_ts]),qv 4,qi (.pointer (some ⟨d6.heap.size,9,none⟩)),qi (.agg #[.int .i64 x.pr.sb,.int .i64 x.pr.mr]),qv 5,qv 6,qv 7,qv 7] ⟨Ac,Ac,Ac,Ah,Ac,Ac,Ah,Ac,Ac,Ac,Ah,Ac,Ac,Ah,Ac,Ac,Ah,Ac,Ac,Ah,Ah,Ah,Ah,trivial⟩ [3,6,10,13,16,19,20,21] ⟨?_,?_,?_,?_,?_,?_,?_,?_,?_,?_,?_,?_,?_,?_,?_,?_,?_,?_,?_,?_,?_,?_,?_,trivial⟩ ?_
   ·exact stq (fun E=>Al rfl ((E.pre 22 4 rfl aE).trans c8))
   ·exact stq (fun E=>Ae rfl D4 rfl aE (E.v i8))
   ·exact stq (fun E=>Af rfl B9 rfl (E.d 1) (AC (j0.out.mod E.m.old aG) rfl))
   ·exact Ad rfl
   ·exact stq (fun E=>Ae rfl D4 rfl aE (E.v i8))
   ·exact stq (fun E=>Af rfl B9 rfl (E.d 4) (AC (j0.out.mod E.m.old aG) rfl))
   ·exact Ad rfl
   ·exact stq (fun E=>Ae rfl D4 rfl aE (E.v i8))
   ·exact stq (fun E=>Af rfl B9 rfl (E.d 7) (AC (j0.out.mod E.m.old aG) rfl))
   ·exact stq (fun E=>Aq rfl (E.d 8) rfl (Ai _ _ _ _ _ _) (Bz _ _ B9) (congrArg (Value.int .i64) HVW.o.symm))
   ·exact Ad rfl
   ·exact stq (fun E=>Ae rfl D4 rfl aE (E.v i8))
   ·exact stq (fun E=>Af rfl B9 rfl (E.d 11) (AC (j0.out.mod E.m.old aG) rfl))
   ·exact Ad rfl
   ·exact stq (fun E=>Ae rfl D4 rfl aE (E.v i8))
   ·exact stq (fun E=>Ak rfl C7 rfl (off:=4) (cs:=[.int .i64 x.pr.ba.ep,.int .u64 (x.pr.ba.tm:Nat),p_ps,p_os,p_ts]) aE (E.d 14) (AK (j0.out.mod E.m.old aG) rfl))
   ·exact Ad rfl
   ·exact stq (fun E=>Ae rfl D4 rfl aE (E.v i8))
   ·exact stq (fun E=>Ak rfl Tryz.underlying27 rfl (off:=9) (cs:=[.int .i64 x.pr.sb,.int .i64 x.pr.mr]) aE (E.d 17) (AK (j0.out.mod E.m.old aG) rfl))
   ·exact Ad rfl
   ·exact Ad rfl
   ·exact Ad rfl
   ·refine Ay rfl rfl rfl fun _ _ _ _ _ _ _ _ _ hd _ _=>?_
    have h21:=hd ⟨21,.data⟩ bA rfl _ rfl
    exact Bl rfl (Aa rfl) (An rfl rfl) QE.refl h21
   intro lj hr
   have uc:=hr.size
   have dr:=hid (hr.new (S:=(fun _=>False)))
   clear hr
   refine QChain.go fun Z act E=>?_
   refine Aj (args:=#[.int .i64 x.pr.ep]) rfl (Aa rfl) rfl E3 (Ap (E.d 2)) (Bf _ HOP.o.1 _) ?_
   rintro e lk ⟨v_a4,rfl,qa4,hm⟩
   obtain ⟨c4,c6,rfl⟩:=qa4.shape
   have ud:=hm.size
   refine ⟨_,rfl,hm.mono iB,(fun _=>rfl),?_⟩
   intro ll hr
   have ue:=hr.size
   have dt:=hid ((qa4.widen (R':=(fun k=>(New lj lk k))) (fun _ h=>h) (C0 _)).mod hr aD)
   have du:=hid (dr.out.go hm hr)
   clear dr hm hr Z act E qa4
   refine QChain.go fun Z act E=>?_
   refine Aj (args:=#[.int .i64 x.pr.rn]) rfl (Aa rfl) rfl E3 (Ap (E.d 5)) (Bf _ HOP.o.2.1 _) ?_
   rintro e lm ⟨v_a5,rfl,qa5,hm⟩
   obtain ⟨c9,d5,rfl⟩:=qa5.shape
   have uf:=hm.size
   refine ⟨_,rfl,hm.mono iB,(fun _=>rfl),?_⟩
   intro lp hr
   have ug:=hr.size
   have dv:=hid ((qa5.widen (R':=(fun k=>(New ll lm k))) (fun _ h=>h) (C0 _)).mod hr aD)
   have hmr:=Mod.after hm hr
   have dw:=hid (dt.out.mod hmr aD)
   clear dt
   clear hmr
   have dx:=hid (du.out.go hm hr)
   clear du hm hr Z act E qa5
   refine QChain.go fun Z act E=>?_
   refine Aj (args:=#[.int .i64 vw]) rfl (Aa rfl) rfl E3 (Ap (E.d 9)) (Bf _ HIV.o _) ?_
   rintro e lq ⟨v_a6,rfl,qa6,hm⟩
   obtain ⟨d7,d8,rfl⟩:=qa6.shape
   have uh:=hm.size
   refine ⟨_,rfl,hm.mono iB,(fun _=>rfl),?_⟩
   intro lr hr
   have ui:=hr.size
   have dy:=hid ((qa6.widen (R':=(fun k=>(New lp lq k))) (fun _ h=>h) (C0 _)).mod hr aD)
   have hmr:=Mod.after hm hr
   have dz:=hid (dw.out.mod hmr aD)
   have eb:=hid (dv.out.mod hmr aD)
   clear dw dv
   clear hmr
   have ed:=hid (dx.out.go hm hr)
   clear dx hm hr Z act E qa6
   refine QChain.go fun Z act E=>?_
   refine Aj (args:=#[.int .i64 x.pr.rp]) rfl (Aa rfl) rfl E3 (Ap (E.d 12)) (Bf _ HOP.o.2.2.2.1 _) ?_
   rintro e ls ⟨v_a7,rfl,qa7,hm⟩
   obtain ⟨g5,g6,rfl⟩:=qa7.shape
   have uj:=hm.size
   refine ⟨_,rfl,hm.mono iB,(fun _=>rfl),?_⟩
   intro lu hr
   have uk:=hr.size
   have ee:=hid ((qa7.widen (R':=(fun k=>(New lr ls k))) (fun _ h=>h) (C0 _)).mod hr aD)
   have hmr:=Mod.after hm hr
   have eg:=hid (dz.out.mod hmr aD)
   have eh:=hid (eb.out.mod hmr aD)
   have ei:=hid (dy.out.mod hmr aD)
   clear dz eb dy
   clear hmr
   have j5:=hid (ed.out.go hm hr)
   clear ed hm hr Z act E qa7
   refine QChain.go fun Z act E=>?_
   refine Aj (args:=#[.agg #[.int .i64 x.pr.ba.ep,.int .u64 (x.pr.ba.tm:Nat),p_ps,p_os,p_ts]]) rfl (Aa rfl) rfl Tryz.func30 (Ap (E.d 15)) (RefBa_Q R2 _ x.pr.ba _ ⟨_,_,_,rfl,HOP.o.2.2.2.2.1,(((n6.out.mod c7.out iA).mod j4.out iA).mod j5.out iA),(((n7.out.mod c7.out iA).mod j4.out iA).mod j5.out iA),(((n8.out.mod c7.out iA).mod j4.out iA).mod j5.out iA)⟩ aU aF) ?_
   rintro e lv ⟨v_a8,rfl,qa8,hm⟩
   obtain ⟨g7,g8,rfl⟩:=qa8.shape
   have ul:=hm.size
   refine ⟨_,rfl,hm.mono iB,(fun _=>rfl),?_⟩
   intro lw hr
   have un:=hr.size
   have ej:=hid ((qa8.widen (R':=(fun k=>(New lu lv k))) (fun _ h=>h) (C0 _)).mod hr aD)
   have hmr:=Mod.after hm hr
   have eo:=hid (eg.out.mod hmr aD)
   have eq:=hid (eh.out.mod hmr aD)
   have er:=hid (ei.out.mod hmr aD)
   have et:=hid (ee.out.mod hmr aD)
   clear eg eh ei ee
   clear hmr
   have eu:=hid (j5.out.go hm hr)
   clear j5 hm hr Z act E qa8
   refine QChain.go fun Z act E=>?_
   refine Aj (args:=#[.agg #[.int .i64 x.pr.sb,.int .i64 x.pr.mr]]) rfl (Aa rfl) rfl Tryz.func27 (Ap (E.d 18)) (RefSig_Q HOP.o.2.2.2.2.2.1 HOP.o.2.2.2.2.2.2 _) ?_
   rintro e lx ⟨v_a9,rfl,qa9,hm⟩
   obtain ⟨g9,i7,rfl⟩:=qa9.shape
   have uo:=hm.size
   refine ⟨_,rfl,hm.mono iB,(fun _=>rfl),?_⟩
   intro ew hr
   have uq:=hr.size
   have ex:=hid ((qa9.widen (R':=(fun k=>(New lw lx k))) (fun _ h=>h) (C0 _)).mod hr aD)
   have hmr:=Mod.after hm hr
   have ey:=hid (eo.out.mod hmr aD)
   have ez:=hid (eq.out.mod hmr aD)
   have fc:=hid (er.out.mod hmr aD)
   have fe:=hid (et.out.mod hmr aD)
   have ff:=hid (ej.out.mod hmr aD)
   clear eo eq er et ej
   clear hmr
   have fg:=hid (eu.out.go hm hr)
   clear eu hm hr Z act E qa9
   refine QChain.go fun Z act E=>?_
   have ea91:act.eval (.tmp 91)=.slice aoj (BJ.length) capj:=(E.d 0)
   have ea94:act.eval (.tmp 94)=.slice c4 ((encI x.pr.ep).length) c6:=(chv (v:=.slice c4 ((encI x.pr.ep).length) c6) (E.d 3))
   have ea97:act.eval (.tmp 97)=.slice c9 ((encI x.pr.rn).length) d5:=(chv (v:=.slice c9 ((encI x.pr.rn).length) d5) (E.d 6))
   have ea101:act.eval (.tmp 101)=.slice d7 ((encI vw).length) d8:=(chv (v:=.slice d7 ((encI vw).length) d8) (E.d 10))
   have ea104:act.eval (.tmp 104)=.slice g5 ((encI x.pr.rp).length) g6:=(chv (v:=.slice g5 ((encI x.pr.rp).length) g6) (E.d 13))
   have ea107:act.eval (.tmp 107)=.slice g7 ((baB x.pr.ba).length) g8:=(chv (v:=.slice g7 ((baB x.pr.ba).length) g8) (E.d 16))
   have ea110:act.eval (.tmp 110)=.slice g9 ((sigB x.pr.sb x.pr.mr).length) i7:=(chv (v:=.slice g9 ((sigB x.pr.sb x.pr.mr).length) i7) (E.d 19))
   refine Bv rfl (Aa rfl) rfl D7 aM (C:=#[.slice aoj (BJ.length) capj,.slice c4 ((encI x.pr.ep).length) c6,.slice c9 ((encI x.pr.rn).length) d5,.slice d7 ((encI vw).length) d8,.slice g5 ((encI x.pr.rp).length) g6,.slice g7 ((baB x.pr.ba).length) g8,.slice g9 ((sigB x.pr.sb x.pr.mr).length) i7]) (by simp only [C8,C5,C6,ea91,ea94,ea97,ea101,ea104,ea107,ea110];kernel_rfl) ?_
   intro ur qrow20 hm
   have us:=qrow20.lt
   have ut:=hm.size
   refine ⟨hm.mono iB,(fun _=>rfl),?_⟩
   intro ly hr
   have uu:=hr.size
   have u5:=hid (qrow20.mod hr aG)
   have hmr:=Mod.after hm hr
   have u6:=hid (ey.out.mod hmr aD)
   have u7:=hid (ez.out.mod hmr aD)
   have u9:=hid (fc.out.mod hmr aD)
   have v5:=hid (fe.out.mod hmr aD)
   have v6:=hid (ff.out.mod hmr aD)
   have v7:=hid (ex.out.mod hmr aD)
   clear ey ez fc fe ff ex
   clear hmr
   have v8:=hid (fg.out.go hm hr)
   clear fg hm hr Z act E qrow20 ea91 ea94 ea97 ea101 ea104 ea107 ea110
   refine QChain.go fun Z act E=>?_
   refine Aj (args:=#[.slice (some ⟨ew.heap.size,0,none⟩) 7 7]) rfl (Aa rfl) rfl E9 (Ap (chv (v:=.slice (some ⟨ew.heap.size,0,none⟩) 7 7) (E.d 20))) (Join_Q (n:=7)  u5.out [(.slice aoj (BJ.length) capj,BJ),(.slice c4 ((encI x.pr.ep).length) c6,encI x.pr.ep),(.slice c9 ((encI x.pr.rn).length) d5,encI x.pr.rn),(.slice d7 ((encI vw).length) d8,encI vw),(.slice g5 ((encI x.pr.rp).length) g6,encI x.pr.rp),(.slice g7 ((baB x.pr.ba).length) g8,baB x.pr.ba),(.slice g9 ((sigB x.pr.sb x.pr.mr).length) i7,sigB x.pr.sb x.pr.mr)] rfl rfl (by intro p hp;simp only [D1,C9,or_false] at hp;rcases hp with rfl|rfl|rfl|rfl|rfl|rfl|rfl<;>first|exact ((HJ.o.mod j4.out iA).mod v8.out iA).rd.1|exact u6.out.rd.1|exact u7.out.rd.1|exact u9.out.rd.1|exact v5.out.rd.1|exact v6.out.rd.1|exact v7.out.rd.1) bA (show flat _=BJ ++ (encI x.pr.ep ++ (encI x.pr.rn ++ (encI vw ++ (encI x.pr.rp ++ (baB x.pr.ba ++ sigB x.pr.sb x.pr.mr))))) from by simp only [flat,C5,C6,List.flatten_cons,List.flatten_nil,List.append_nil]) aF) ?_
   rintro e lz ⟨v_join2,rfl,qjoin2,hm⟩
   have uv:=hm.size
   refine ⟨_,rfl,hm.mono iB,(fun _=>rfl),?_⟩
   intro mc hr
   have uw:=hr.size
   have md:=hid ((qjoin2.widen (R':=(fun k=>(New ly lz k))) (fun _ h=>h) (C0 _)).mod hr aD)
   have hmr:=Mod.after hm hr
   have ux:=hid (u6.out.mod hmr aD)
   have uz:=hid (u7.out.mod hmr aD)
   have vc:=hid (u9.out.mod hmr aD)
   have vd:=hid (v5.out.mod hmr aD)
   have ve:=hid (v6.out.mod hmr aD)
   have vf:=hid (v7.out.mod hmr aD)
   have vg:=hid (u5.out.mod hmr aG)
   clear u6 u7 u9 v5 v6 v7 u5
   clear hmr
   have me:=hid (v8.out.go hm hr)
   clear v8 hm hr Z act E qjoin2
   refine QChain.nil fun vs hl hzz hrows hne=>?_
   obtain ⟨Z,hYZ,hZb,hV⟩:=hzz
   have f0:=fvi hV hl 0
   have f3:=fvc hV hl 3
   have f6:=fvc hV hl 6
   have f10:=fvc hV hl 10
   have f13:=fvc hV hl 13
   have f16:=fvc hV hl 16
   have f19:=fvc hV hl 19
   have f20:=fvc hV hl 20
   have f21:=fvc hV hl 21
   have f22:=fvc hV hl 22
   rw [show vs=[gw vs 0,gw vs 1,gw vs 2,gw vs 3,gw vs 4,gw vs 5,gw vs 6,gw vs 7,gw vs 8,gw vs 9,gw vs 10,gw vs 11,gw vs 12,gw vs 13,gw vs 14,gw vs 15,gw vs 16,gw vs 17,gw vs 18,gw vs 19,gw vs 20,gw vs 21,gw vs 22] from (Bi hl).trans rfl]
   have ha0:=HA0.o
   subst ha0
   clear HA0 hV hYZ hZb hsz0 hrows hne c8 i8
   simp only [Au,Act.put,sIB,sCZ,sCS,f0,f3,f6,f10,f13,f16,f19,f20,f21,f22]
   clear hl f0 f3 f6 f10 f13 f16 f19 f20 f21 f22
   have hq:=(md.out.widen (R':=(fun k=>New w mc k)) bB (C0 _))
   rw [show BJ ++ (encI x.pr.ep ++ (encI x.pr.rn ++ (encI vw ++ (encI x.pr.rp ++ (baB x.pr.ba ++ sigB x.pr.sb x.pr.mr)))))=Bg x by unfold Bg;rw [HE.o,HBJ.o];simp only [C2]] at hq
   have HQ:=B8 hq
   clear hq
   go_wp2_with fail
   go_meet
   case rel=>exact ⟨HQ.o,(((HM0.o.trans c7.out iB).trans j4.out iB).trans me.out iB)⟩
  have K7:=B8 h7
  clear h7
  go_upto_region 17 with (fail)
  refine tst 227 B9 (Bk K7.o) rfl (qs ?_)
  by_cases h8:x.kd=8
  ·have KK:=B8 h8
   clear h8
   go_upto_region 20 with (fail)
   refine tst 227 B9 (Bj KK.o) rfl (qs ?_)
   have HE:=hid (show A3 x=bareV x.vt ++ sigB x.vt.sb x.vt.mr by unfold A3;rw [KK.o];exact vt_bare x.vt)
   have HL:=hid (show (BJ ++ (bareV x.vt ++ sigB x.vt.sb x.vt.mr)).length≤900000 by have h:=HL0.o;rw [HE.o,← HBJ.o] at h;exact h)
   go_upto_region 21 with (fail)
   generalize ha0:Act.mk _ _=a0
   have c3:a0.eval (.tmp 1)=.pointer (some ⟨w.heap.size,0,none⟩):=by rw [← ha0];rfl
   have c8:a0.eval (.tmp 4)=.slice aoj (BJ.length) capj:=by rw [← ha0];rfl
   have hsz0:a0.tmps.size=227:=by rw [← ha0];rfl
   have HA0:=hid ha0
   clear ha0
   refine A7 227 hsz0 [115,116,117,118,119,120,121,122,123,124,4] [qi (.slice aoj (BJ.length) capj),qi (.pointer (some ⟨w.heap.size,174,none⟩)),qi (.agg (x.vt.cells).toArray),qv 0,qi (.pointer (some ⟨w.heap.size,174,none⟩)),qi (.pointer (some ⟨w.heap.size,210,none⟩)),qi (.agg #[.int .i64 x.vt.sb,.int .i64 x.vt.mr]),qv 1,qv 2,qv 3,qv 3] ⟨Ac,Ac,Ac,Ah,Ac,Ac,Ac,Ah,Ah,Ah,Ah,trivial⟩ [3,7,8,9] ⟨?_,?_,?_,?_,?_,?_,?_,?_,?_,?_,?_,trivial⟩ ?_
   ·exact stq (fun E=>Al rfl ((E.pre 10 4 rfl aE).trans c8))
   ·exact stq (fun E=>Ae rfl C1 rfl aE (E.v c3))
   ·exact stq (fun E=>Ak rfl Tryz.underlying49 rfl (off:=174) (cs:=(x.vt.cells)) (by rw [Vt.len HOK.o.vt];kernel_rfl) (E.d 1) (Cs.seg ((HB1.o.mod c7.out (fun h=>h)).mod E.m.old aG) HLN.o 12 rfl rfl))
   ·exact Ad rfl
   ·exact stq (fun E=>Ae rfl C1 rfl aE (E.v c3))
   ·exact stq (fun E=>Ae rfl Tryz.underlying49 rfl aE (E.d 4))
   ·exact stq (fun E=>Ak rfl Tryz.underlying27 rfl (off:=210) (cs:=[.int .i64 x.vt.sb,.int .i64 x.vt.mr]) aE (E.d 5) (Cs.segA ((HB1.o.mod c7.out (fun h=>h)).mod E.m.old aG) HLN.o 12 rfl (o:=174) (k:=36) rfl rfl (Vt_sg HOK.o.vt)))
   ·exact Ad rfl
   ·exact Ad rfl
   ·exact Ad rfl
   ·refine Ay rfl rfl rfl fun _ _ _ _ _ _ _ _ _ hd _ _=>?_
    have h9:=hd ⟨9,.data⟩ bA rfl _ rfl
    exact Bl rfl (Aa rfl) (An rfl rfl) QE.refl h9
   intro mf hr
   have vh:=hr.size
   have fh:=hid (hr.new (S:=(fun _=>False)))
   clear hr
   refine QChain.go fun Z act E=>?_
   refine Aj (args:=#[.agg (x.vt.cells).toArray]) rfl (Aa rfl) rfl Tryz.func31 (Ap (E.d 2)) (RefBareV_Q (fun _=>False) _ x.vt _ ⟨rfl,HOK.o.vt⟩ iC aF) ?_
   rintro e mg ⟨v_a4,rfl,qa4,hm⟩
   obtain ⟨c4,c6,rfl⟩:=qa4.shape
   have vj:=hm.size
   refine ⟨_,rfl,hm.mono iB,(fun _=>rfl),?_⟩
   intro mh hr
   have vk:=hr.size
   have fi:=hid ((qa4.widen (R':=(fun k=>(New mf mg k))) (fun _ h=>h) (C0 _)).mod hr aD)
   have fj:=hid (fh.out.go hm hr)
   clear fh hm hr Z act E qa4
   refine QChain.go fun Z act E=>?_
   refine Aj (args:=#[.agg #[.int .i64 x.vt.sb,.int .i64 x.vt.mr]]) rfl (Aa rfl) rfl Tryz.func27 (Ap (E.d 6)) (RefSig_Q HOK.o.vt.sb HOK.o.vt.mr _) ?_
   rintro e mi ⟨v_a5,rfl,qa5,hm⟩
   obtain ⟨c9,d5,rfl⟩:=qa5.shape
   have vm:=hm.size
   refine ⟨_,rfl,hm.mono iB,(fun _=>rfl),?_⟩
   intro fk hr
   have vn:=hr.size
   have fm:=hid ((qa5.widen (R':=(fun k=>(New mh mi k))) (fun _ h=>h) (C0 _)).mod hr aD)
   have hmr:=Mod.after hm hr
   have fo:=hid (fi.out.mod hmr aD)
   clear fi
   clear hmr
   have fp:=hid (fj.out.go hm hr)
   clear fj hm hr Z act E qa5
   refine QChain.go fun Z act E=>?_
   have ea115:act.eval (.tmp 115)=.slice aoj (BJ.length) capj:=(E.d 0)
   have ea118:act.eval (.tmp 118)=.slice c4 ((bareV x.vt).length) c6:=(chv (v:=.slice c4 ((bareV x.vt).length) c6) (E.d 3))
   have ea122:act.eval (.tmp 122)=.slice c9 ((sigB x.vt.sb x.vt.mr).length) d5:=(chv (v:=.slice c9 ((sigB x.vt.sb x.vt.mr).length) d5) (E.d 7))
   refine Bv rfl (Aa rfl) rfl D7 aM (C:=#[.slice aoj (BJ.length) capj,.slice c4 ((bareV x.vt).length) c6,.slice c9 ((sigB x.vt.sb x.vt.mr).length) d5]) (by simp only [C8,C5,C6,ea115,ea118,ea122];kernel_rfl) ?_
   intro vq qrow8 hm
   have vu:=qrow8.lt
   have vv:=hm.size
   refine ⟨hm.mono iB,(fun _=>rfl),?_⟩
   intro mj hr
   have vz:=hr.size
   have x4:=hid (qrow8.mod hr aG)
   have hmr:=Mod.after hm hr
   have x5:=hid (fo.out.mod hmr aD)
   have x6:=hid (fm.out.mod hmr aD)
   clear fo fm
   clear hmr
   have x7:=hid (fp.out.go hm hr)
   clear fp hm hr Z act E qrow8 ea115 ea118 ea122
   refine QChain.go fun Z act E=>?_
   refine Aj (args:=#[.slice (some ⟨fk.heap.size,0,none⟩) 3 3]) rfl (Aa rfl) rfl E9 (Ap (chv (v:=.slice (some ⟨fk.heap.size,0,none⟩) 3 3) (E.d 8))) (Join_Q (n:=3)  x4.out [(.slice aoj (BJ.length) capj,BJ),(.slice c4 ((bareV x.vt).length) c6,bareV x.vt),(.slice c9 ((sigB x.vt.sb x.vt.mr).length) d5,sigB x.vt.sb x.vt.mr)] rfl rfl (by intro p hp;simp only [D1,C9,or_false] at hp;rcases hp with rfl|rfl|rfl<;>first|exact (HJ.o.mod x7.out iA).rd.1|exact x5.out.rd.1|exact x6.out.rd.1) bA (show flat _=BJ ++ (bareV x.vt ++ sigB x.vt.sb x.vt.mr) from by simp only [flat,C5,C6,List.flatten_cons,List.flatten_nil,List.append_nil]) aF) ?_
   rintro e ml ⟨v_join2,rfl,qjoin2,hm⟩
   have wa:=hm.size
   refine ⟨_,rfl,hm.mono iB,(fun _=>rfl),?_⟩
   intro mm hr
   have wb:=hr.size
   have mn:=hid ((qjoin2.widen (R':=(fun k=>(New mj ml k))) (fun _ h=>h) (C0 _)).mod hr aD)
   have hmr:=Mod.after hm hr
   have wd:=hid (x5.out.mod hmr aD)
   have we:=hid (x6.out.mod hmr aD)
   have wg:=hid (x4.out.mod hmr aG)
   clear x5 x6 x4
   clear hmr
   have mo:=hid (x7.out.go hm hr)
   clear x7 hm hr Z act E qjoin2
   refine QChain.nil fun vs hl hzz hrows hne=>?_
   obtain ⟨Z,hYZ,hZb,hV⟩:=hzz
   have f0:=fvi hV hl 0
   have f3:=fvc hV hl 3
   have f7:=fvc hV hl 7
   have f8:=fvc hV hl 8
   have f9:=fvc hV hl 9
   have f10:=fvc hV hl 10
   rw [show vs=[gw vs 0,gw vs 1,gw vs 2,gw vs 3,gw vs 4,gw vs 5,gw vs 6,gw vs 7,gw vs 8,gw vs 9,gw vs 10] from (Bi hl).trans rfl]
   have ha0:=HA0.o
   subst ha0
   clear HA0 hV hYZ hZb hsz0 hrows hne c3 c8
   simp only [Au,Act.put,sIB,sCZ,sCS,f0,f3,f7,f8,f9,f10]
   clear hl f0 f3 f7 f8 f9 f10
   have hq:=(mn.out.widen (R':=(fun k=>New w mm k)) bB (C0 _))
   rw [show BJ ++ (bareV x.vt ++ sigB x.vt.sb x.vt.mr)=Bg x by unfold Bg;rw [HE.o,HBJ.o];simp only [C2]] at hq
   have HQ:=B8 hq
   clear hq
   go_wp2_with fail
   go_meet
   case rel=>exact ⟨HQ.o,((HM0.o.trans c7.out iB).trans mo.out iB)⟩
  have K8:=B8 h8
  clear h8
  go_upto_region 20 with (fail)
  refine tst 227 B9 (Bk K8.o) rfl (qs ?_)
  by_cases h9:x.kd=9
  ·have KK:=B8 h9
   clear h9
   go_upto_region 22 with (fail)
   refine tst 227 B9 (Bj KK.o) rfl (qs ?_)
   have HE:=hid (show A3 x=encI x.ix ++ (nameB x.en.cl x.en.sq ++ (x.en.h ++ encN x.en.tm)) by unfold A3;rw [KK.o];exact (rfl:_=encI x.ix ++ enB x.en).trans (by simp only [enB,C2]))
   have HL:=hid (show (BJ ++ (encI x.ix ++ (nameB x.en.cl x.en.sq ++ (x.en.h ++ encN x.en.tm)))).length≤900000 by have h:=HL0.o;rw [HE.o,← HBJ.o] at h;exact h)
   go_upto_region 23 with (fail)
   generalize ha0:Act.mk _ _=a0
   have c3:a0.eval (.tmp 1)=.pointer (some ⟨w.heap.size,0,none⟩):=by rw [← ha0];rfl
   have c8:a0.eval (.tmp 4)=.slice aoj (BJ.length) capj:=by rw [← ha0];rfl
   have hsz0:a0.tmps.size=227:=by rw [← ha0];rfl
   have HA0:=hid ha0
   clear ha0
   refine A7 227 hsz0 [127,128,129,130,131,132,133,134,135,136,137,138,139,140,141,142,143,4] [qi (.slice aoj (BJ.length) capj),qi (.pointer (some ⟨w.heap.size,212,none⟩)),qi (.int .i64 x.ix),qv 0,qi (.pointer (some ⟨w.heap.size,213,none⟩)),qi (.pointer (some ⟨w.heap.size,213,none⟩)),qi (.agg #[.int .i64 x.en.cl,.int .i64 x.en.sq]),qv 1,qi (.pointer (some ⟨w.heap.size,213,none⟩)),qi (.pointer (some ⟨w.heap.size,215,none⟩)),qi (.slice (some ⟨w.heap.size,215,none⟩) 32 32),qi (.pointer (some ⟨w.heap.size,213,none⟩)),qi (.pointer (some ⟨w.heap.size,247,none⟩)),qi (.int .u64 (x.en.tm:Nat)),qv 2,qv 3,qv 4,qv 4] ⟨Ac,Ac,Ac,Ah,Ac,Ac,Ac,Ah,Ac,Ac,Ac,Ac,Ac,Ac,Ah,Ah,Ah,Ah,trivial⟩ [3,7,14,15,16] ⟨?_,?_,?_,?_,?_,?_,?_,?_,?_,?_,?_,?_,?_,?_,?_,?_,?_,?_,trivial⟩ ?_
   ·exact stq (fun E=>Al rfl ((E.pre 17 4 rfl aE).trans c8))
   ·exact stq (fun E=>Ae rfl C1 rfl aE (E.v c3))
   ·exact stq (fun E=>Af rfl B9 rfl (E.d 1) (AD ((HB1.o.mod c7.out (fun h=>h)).mod E.m.old aG) HLN.o 13 rfl (o:=212) (k:=0) rfl rfl rfl))
   ·exact Ad rfl
   ·exact stq (fun E=>Ae rfl C1 rfl aE (E.v c3))
   ·exact stq (fun E=>Ae rfl Tryz.underlying51 rfl aE (E.d 4))
   ·exact stq (fun E=>Ak rfl Tryz.underlying23 rfl (off:=213) (cs:=[.int .i64 x.en.cl,.int .i64 x.en.sq]) aE (E.d 5) (Cs.segA ((HB1.o.mod c7.out (fun h=>h)).mod E.m.old aG) HLN.o 14 rfl (o:=213) (k:=0) rfl rfl rfl))
   ·exact Ad rfl
   ·exact stq (fun E=>Ae rfl C1 rfl aE (E.v c3))
   ·exact stq (fun E=>Ae rfl Tryz.underlying51 rfl aE (E.d 8))
   ·exact stq (fun E=>ex_sliceArr rfl D8 aE (E.d 9) aM)
   ·exact stq (fun E=>Ae rfl C1 rfl aE (E.v c3))
   ·exact stq (fun E=>Ae rfl Tryz.underlying51 rfl aE (E.d 11))
   ·exact stq (fun E=>Af rfl E0 rfl (E.d 12) (AD ((HB1.o.mod c7.out (fun h=>h)).mod E.m.old aG) HLN.o 14 rfl (o:=213) (k:=34) rfl rfl (En_tm HOK.o.en)))
   ·exact Ad rfl
   ·exact Ad rfl
   ·exact Ad rfl
   ·refine Ay rfl rfl rfl fun _ _ _ _ _ _ _ _ _ hd _ _=>?_
    have h16:=hd ⟨16,.data⟩ bA rfl _ rfl
    exact Bl rfl (Aa rfl) (An rfl rfl) QE.refl h16
   intro mp hr
   have wh:=hr.size
   have fq:=hid (hr.new (S:=(fun _=>False)))
   clear hr
   refine QChain.go fun Z act E=>?_
   refine Aj (args:=#[.int .i64 x.ix]) rfl (Aa rfl) rfl E3 (Ap (E.d 2)) (Bf _ HOK.o.ix _) ?_
   rintro e mq ⟨v_a4,rfl,qa4,hm⟩
   obtain ⟨c4,c6,rfl⟩:=qa4.shape
   have wj:=hm.size
   refine ⟨_,rfl,hm.mono iB,(fun _=>rfl),?_⟩
   intro ms hr
   have wk:=hr.size
   have ft:=hid ((qa4.widen (R':=(fun k=>(New mp mq k))) (fun _ h=>h) (C0 _)).mod hr aD)
   have fv:=hid (fq.out.go hm hr)
   clear fq hm hr Z act E qa4
   refine QChain.go fun Z act E=>?_
   refine Aj (args:=#[.agg #[.int .i64 x.en.cl,.int .i64 x.en.sq]]) rfl (Aa rfl) rfl Tryz.func32 (Ap (E.d 6)) (RefName_Q HOK.o.en.cl HOK.o.en.sq _) ?_
   rintro e mt ⟨v_a5,rfl,qa5,hm⟩
   obtain ⟨c9,d5,rfl⟩:=qa5.shape
   have wm:=hm.size
   refine ⟨_,rfl,hm.mono iB,(fun _=>rfl),?_⟩
   intro mu hr
   have wn:=hr.size
   have fw:=hid ((qa5.widen (R':=(fun k=>(New ms mt k))) (fun _ h=>h) (C0 _)).mod hr aD)
   have hmr:=Mod.after hm hr
   have fx:=hid (ft.out.mod hmr aD)
   clear ft
   clear hmr
   have fy:=hid (fv.out.go hm hr)
   clear fv hm hr Z act E qa5
   refine QChain.go fun Z act E=>?_
   refine Aj (args:=#[.int .u64 (x.en.tm:Nat)]) rfl (Aa rfl) rfl Tryz.func28 (Ap (E.d 13)) (RefNum_Q _ HOK.o.en.tm _) ?_
   rintro e mv ⟨v_a6,rfl,qa6,hm⟩
   obtain ⟨d7,d8,rfl⟩:=qa6.shape
   have wt:=hm.size
   refine ⟨_,rfl,hm.mono iB,(fun _=>rfl),?_⟩
   intro fz hr
   have wu:=hr.size
   have gc:=hid ((qa6.widen (R':=(fun k=>(New mu mv k))) (fun _ h=>h) (C0 _)).mod hr aD)
   have hmr:=Mod.after hm hr
   have gd:=hid (fx.out.mod hmr aD)
   have ge:=hid (fw.out.mod hmr aD)
   clear fx fw
   clear hmr
   have gf:=hid (fy.out.go hm hr)
   clear fy hm hr Z act E qa6
   refine QChain.go fun Z act E=>?_
   have ea127:act.eval (.tmp 127)=.slice aoj (BJ.length) capj:=(E.d 0)
   have ea130:act.eval (.tmp 130)=.slice c4 ((encI x.ix).length) c6:=(chv (v:=.slice c4 ((encI x.ix).length) c6) (E.d 3))
   have ea134:act.eval (.tmp 134)=.slice c9 ((nameB x.en.cl x.en.sq).length) d5:=(chv (v:=.slice c9 ((nameB x.en.cl x.en.sq).length) d5) (E.d 7))
   have ea137:act.eval (.tmp 137)=.slice (some ⟨w.heap.size,215,none⟩) 32 32:=(E.d 10)
   have ea141:act.eval (.tmp 141)=.slice d7 ((encN x.en.tm).length) d8:=(chv (v:=.slice d7 ((encN x.en.tm).length) d8) (E.d 14))
   refine Bv rfl (Aa rfl) rfl D7 aM (C:=#[.slice aoj (BJ.length) capj,.slice c4 ((encI x.ix).length) c6,.slice c9 ((nameB x.en.cl x.en.sq).length) d5,.slice (some ⟨w.heap.size,215,none⟩) 32 32,.slice d7 ((encN x.en.tm).length) d8]) (by simp only [C8,C5,C6,ea127,ea130,ea134,ea137,ea141];kernel_rfl) ?_
   intro ww qrow15 hm
   have wy:=qrow15.lt
   have wz:=hm.size
   refine ⟨hm.mono iB,(fun _=>rfl),?_⟩
   intro mw hr
   have xa:=hr.size
   have x8:=hid (qrow15.mod hr aG)
   have hmr:=Mod.after hm hr
   have x9:=hid (gd.out.mod hmr aD)
   have y0:=hid (ge.out.mod hmr aD)
   have y5:=hid (gc.out.mod hmr aD)
   clear gd ge gc
   clear hmr
   have m9:=hid (gf.out.go hm hr)
   clear gf hm hr Z act E qrow15 ea127 ea130 ea134 ea137 ea141
   refine QChain.go fun Z act E=>?_
   refine Aj (args:=#[.slice (some ⟨fz.heap.size,0,none⟩) 5 5]) rfl (Aa rfl) rfl E9 (Ap (chv (v:=.slice (some ⟨fz.heap.size,0,none⟩) 5 5) (E.d 15))) (Join_Q (n:=5)  x8.out [(.slice aoj (BJ.length) capj,BJ),(.slice c4 ((encI x.ix).length) c6,encI x.ix),(.slice c9 ((nameB x.en.cl x.en.sq).length) d5,nameB x.en.cl x.en.sq),(.slice (some ⟨w.heap.size,215,none⟩) 32 32,x.en.h),(.slice d7 ((encN x.en.tm).length) d8,encN x.en.tm)] rfl rfl (by intro p hp;simp only [D1,C9,or_false] at hp;rcases hp with rfl|rfl|rfl|rfl|rfl<;>first|exact (HJ.o.mod m9.out iA).rd.1|exact x9.out.rd.1|exact y0.out.rd.1|exact RdB_arr3 (Cs.segA ((HB1.o.mod c7.out (fun h=>h)).mod m9.out (fun h=>h)) HLN.o 14 rfl (o:=213) (k:=2) rfl rfl En_hs) HOK.o.en.h|exact y5.out.rd.1) bA (show flat _=BJ ++ (encI x.ix ++ (nameB x.en.cl x.en.sq ++ (x.en.h ++ encN x.en.tm))) from by simp only [flat,C5,C6,List.flatten_cons,List.flatten_nil,List.append_nil]) aF) ?_
   rintro e mx ⟨v_join2,rfl,qjoin2,hm⟩
   have xb:=hm.size
   refine ⟨_,rfl,hm.mono iB,(fun _=>rfl),?_⟩
   intro my hr
   have xd:=hr.size
   have mz:=hid ((qjoin2.widen (R':=(fun k=>(New mw mx k))) (fun _ h=>h) (C0 _)).mod hr aD)
   have hmr:=Mod.after hm hr
   have xe:=hid (x9.out.mod hmr aD)
   have xf:=hid (y0.out.mod hmr aD)
   have xh:=hid (y5.out.mod hmr aD)
   have xi:=hid (x8.out.mod hmr aG)
   clear x9 y0 y5 x8
   clear hmr
   have nd:=hid (m9.out.go hm hr)
   clear m9 hm hr Z act E qjoin2
   refine QChain.nil fun vs hl hzz hrows hne=>?_
   obtain ⟨Z,hYZ,hZb,hV⟩:=hzz
   have f0:=fvi hV hl 0
   have f3:=fvc hV hl 3
   have f7:=fvc hV hl 7
   have f14:=fvc hV hl 14
   have f15:=fvc hV hl 15
   have f16:=fvc hV hl 16
   have f17:=fvc hV hl 17
   rw [show vs=[gw vs 0,gw vs 1,gw vs 2,gw vs 3,gw vs 4,gw vs 5,gw vs 6,gw vs 7,gw vs 8,gw vs 9,gw vs 10,gw vs 11,gw vs 12,gw vs 13,gw vs 14,gw vs 15,gw vs 16,gw vs 17] from (Bi hl).trans rfl]
   have ha0:=HA0.o
   subst ha0
   clear HA0 hV hYZ hZb hsz0 hrows hne c3 c8
   simp only [Au,Act.put,sIB,sCZ,sCS,f0,f3,f7,f14,f15,f16,f17]
   clear hl f0 f3 f7 f14 f15 f16 f17
   have hq:=(mz.out.widen (R':=(fun k=>New w my k)) bB (C0 _))
   rw [show BJ ++ (encI x.ix ++ (nameB x.en.cl x.en.sq ++ (x.en.h ++ encN x.en.tm)))=Bg x by unfold Bg;rw [HE.o,HBJ.o];simp only [C2]] at hq
   have HQ:=B8 hq
   clear hq
   go_wp2_with fail
   go_meet
   case rel=>exact ⟨HQ.o,((HM0.o.trans c7.out iB).trans nd.out iB)⟩
  have K9:=B8 h9
  clear h9
  go_upto_region 22 with (fail)
  refine tst 227 B9 (Bk K9.o) rfl (qs ?_)
  by_cases h10:x.kd=10
  ·have KK:=B8 h10
   clear h10
   go_upto_region 24 with (fail)
   refine tst 227 B9 (Bj KK.o) rfl (qs ?_)
   have HE:=hid (show A3 x=opB x.op by unfold A3;rw [KK.o];rfl)
   have HL:=hid (show (BJ ++ (opB x.op)).length≤900000 by have h:=HL0.o;rw [HE.o,← HBJ.o] at h;exact h)
   go_upto_region 25 with (fail)
   refine Ab 227 [146,147,148,149,150,151,4] [0,1,2,3,4,5,6] (fun a0 HA0=>?_)
   have c3:=ev HA0 1 rfl
   have c8:=ev HA0 4 rfl
   refine QSeq.pure rfl _ (fun E=>Al rfl (E.y 6 c8)) ?_
   refine qfd rfl 248 C1 c3 ?_
   refine QSeq.pure rfl _ (fun E=>Ak rfl Tryz.underlying54 rfl (off:=248) (cs:=(c15)) (by rw [HC15.o];kernel_rfl) (E.d 1 0) (Cs.seg (HB1.o.mod c7.out (fun h=>h)) HLN.o 15 rfl rfl)) ?_
   refine QSeq.call rfl rfl Tryz.func33 (RefOp_Q R2 _ x.op _ (bk.out.mod c7.out iA) aU aF) (fun E=>Ap (E.d 2 0)) ?_
   rintro e nf ⟨v_a4,rfl,qa4,hm⟩
   obtain ⟨c4,c6,rfl⟩:=qa4.shape
   refine ⟨_,rfl,?_⟩
   have y6:=hid qa4
   have xj:=hm.size
   have gg:=hid (show Mod (fun _=>False) d6 nf from hm)
   clear hm
   clear qa4
   refine QSeq.go fun act E=>?_
   have ea146:act.eval (.tmp 146)=.slice aoj (BJ.length) capj:=(E.d 0 3)
   have ea149:act.eval (.tmp 149)=.slice c4 ((opB x.op).length) c6:=(E.d 3 0)
   refine Bv rfl (Aa rfl) rfl D7 aM (C:=#[.slice aoj (BJ.length) capj,.slice c4 ((opB x.op).length) c6]) (by simp only [C8,C5,C6,ea146,ea149];kernel_rfl) ?_
   intro xk qrow4 hm
   have xl:=qrow4.lt
   have y7:=hid qrow4
   have xm:=hm.size
   have y8:=hid hm
   have z0:=hid (gg.out.goE hm)
   clear hm gg
   clear act E qrow4 ea146 ea149
   refine QSeq.call rfl rfl E9 (Join_Q (n:=2)  y7.out [(.slice aoj (BJ.length) capj,BJ),(.slice c4 ((opB x.op).length) c6,opB x.op)] rfl rfl (by intro p hp;simp only [D1,C9,or_false] at hp;rcases hp with rfl|rfl<;>first|exact (HJ.o.mod z0.out iA).rd.1|exact (y6.out.mod y8.out iA).rd.1) bA (show flat _=BJ ++ opB x.op from by simp only [flat,C5,C6,List.flatten_cons,List.flatten_nil,List.append_nil]) aF) (fun E=>Ap (E.d 4 0)) ?_
   rintro e ng ⟨v_join2,rfl,qjoin2,hm⟩
   refine ⟨_,rfl,?_⟩
   have nh:=hid qjoin2
   have xn:=hm.size
   have z3:=hid hm
   have ni:=hid (z0.out.goE hm)
   clear hm z0
   clear qjoin2
   refine qas rfl 5 0 ?_
   have xp:=hid ((y6.out.mod y8.out iA).mod z3.out iA)
   have xq:=hid (y7.out.mod z3.out (fun h=>h))
   clear y6 y7 y8 z3
   refine qe ?_
   clear HA0 c3 c8 a0
   have hq:=(nh.out.widen (R':=(fun k=>New w ng k)) bB (C0 _))
   rw [show BJ ++ opB x.op=Bg x by unfold Bg;rw [HE.o,HBJ.o];simp only [C2]] at hq
   have HQ:=B8 hq
   clear hq
   go_wp2_with fail
   go_meet
   case rel=>exact ⟨HQ.o,((HM0.o.trans c7.out iB).trans ni.out iB)⟩
  have K10:=B8 h10
  clear h10
  go_upto_region 24 with (fail)
  refine tst 227 B9 (Bk K10.o) rfl (qs ?_)
  by_cases h11:x.kd=11
  ·have KK:=B8 h11
   clear h11
   go_upto_region 26 with (fail)
   refine tst 227 B9 (Bj KK.o) rfl (qs ?_)
   have HE:=hid (show A3 x=encI x.ix by unfold A3;rw [KK.o];rfl)
   have HL:=hid (show (BJ ++ (encI x.ix)).length≤900000 by have h:=HL0.o;rw [HE.o,← HBJ.o] at h;exact h)
   go_upto_region 27 with (fail)
   refine Ab 227 [154,155,156,157,158,159,4] [0,1,2,3,4,5,6] (fun a0 HA0=>?_)
   have c3:=ev HA0 1 rfl
   have c8:=ev HA0 4 rfl
   refine QSeq.pure rfl _ (fun E=>Al rfl (E.y 6 c8)) ?_
   refine qfd rfl 212 C1 c3 ?_
   refine QSeq.pure rfl (.int .i64 x.ix) (fun E=>Af rfl B9 rfl (E.d 1 0) (AD (HB1.o.mod c7.out (fun h=>h)) HLN.o 13 rfl (o:=212) (k:=0) rfl rfl rfl)) ?_
   refine QSeq.call rfl rfl E3 (Bf _ HOK.o.ix _) (fun E=>Ap (E.d 2 0)) ?_
   rintro e nj ⟨v_a4,rfl,qa4,hm⟩
   obtain ⟨c4,c6,rfl⟩:=qa4.shape
   refine ⟨_,rfl,?_⟩
   have z4:=hid qa4
   have xt:=hm.size
   have gh:=hid (show Mod (fun _=>False) d6 nj from hm)
   clear hm
   clear qa4
   refine QSeq.go fun act E=>?_
   have ea154:act.eval (.tmp 154)=.slice aoj (BJ.length) capj:=(E.d 0 3)
   have ea157:act.eval (.tmp 157)=.slice c4 ((encI x.ix).length) c6:=(E.d 3 0)
   refine Bv rfl (Aa rfl) rfl D7 aM (C:=#[.slice aoj (BJ.length) capj,.slice c4 ((encI x.ix).length) c6]) (by simp only [C8,C5,C6,ea154,ea157];kernel_rfl) ?_
   intro xu qrow4 hm
   have xw:=qrow4.lt
   have z5:=hid qrow4
   have xx:=hm.size
   have z6:=hid hm
   have z7:=hid (gh.out.goE hm)
   clear hm gh
   clear act E qrow4 ea154 ea157
   refine QSeq.call rfl rfl E9 (Join_Q (n:=2)  z5.out [(.slice aoj (BJ.length) capj,BJ),(.slice c4 ((encI x.ix).length) c6,encI x.ix)] rfl rfl (by intro p hp;simp only [D1,C9,or_false] at hp;rcases hp with rfl|rfl<;>first|exact (HJ.o.mod z7.out iA).rd.1|exact (z4.out.mod z6.out iA).rd.1) bA (show flat _=BJ ++ encI x.ix from by simp only [flat,C5,C6,List.flatten_cons,List.flatten_nil,List.append_nil]) aF) (fun E=>Ap (E.d 4 0)) ?_
   rintro e nk ⟨v_join2,rfl,qjoin2,hm⟩
   refine ⟨_,rfl,?_⟩
   have nl:=hid qjoin2
   have xy:=hm.size
   have z9:=hid hm
   have nn:=hid (z7.out.goE hm)
   clear hm z7
   clear qjoin2
   refine qas rfl 5 0 ?_
   have xz:=hid ((z4.out.mod z6.out iA).mod z9.out iA)
   have ya:=hid (z5.out.mod z9.out (fun h=>h))
   clear z4 z5 z6 z9
   refine qe ?_
   clear HA0 c3 c8 a0
   have hq:=(nl.out.widen (R':=(fun k=>New w nk k)) bB (C0 _))
   rw [show BJ ++ encI x.ix=Bg x by unfold Bg;rw [HE.o,HBJ.o];simp only [C2]] at hq
   have HQ:=B8 hq
   clear hq
   go_wp2_with fail
   go_meet
   case rel=>exact ⟨HQ.o,((HM0.o.trans c7.out iB).trans nn.out iB)⟩
  have K11:=B8 h11
  clear h11
  go_upto_region 26 with (fail)
  refine tst 227 B9 (Bk K11.o) rfl (qs ?_)
  by_cases h12:x.kd=12
  ·have KK:=B8 h12
   clear h12
   go_upto_region 28 with (fail)
   refine tst 227 B9 (Bj KK.o) rfl (qs ?_)
   have HE:=hid (show A3 x=dnB x.dn by unfold A3;rw [KK.o];rfl)
   have HL:=hid (show (BJ ++ (dnB x.dn)).length≤900000 by have h:=HL0.o;rw [HE.o,← HBJ.o] at h;exact h)
   go_upto_region 29 with (fail)
   refine Ab 227 [162,163,164,165,166,167,4] [0,1,2,3,4,5,6] (fun a0 HA0=>?_)
   have c3:=ev HA0 1 rfl
   have c8:=ev HA0 4 rfl
   refine QSeq.pure rfl _ (fun E=>Al rfl (E.y 6 c8)) ?_
   refine qfd rfl 282 C1 c3 ?_
   refine QSeq.pure rfl _ (fun E=>Ak rfl Tryz.underlying56 rfl (off:=282) (cs:=(x.dn.cells)) aE (E.d 1 0) (Cs.seg (HB1.o.mod c7.out (fun h=>h)) HLN.o 16 rfl rfl)) ?_
   refine QSeq.call rfl rfl Tryz.func34 (RefDn_Q (fun _=>False) _ x.dn _ ⟨rfl,HOK.o.dn⟩ iC aF) (fun E=>Ap (E.d 2 0)) ?_
   rintro e np ⟨v_a4,rfl,qa4,hm⟩
   obtain ⟨c4,c6,rfl⟩:=qa4.shape
   refine ⟨_,rfl,?_⟩
   have aa:=hid qa4
   have yc:=hm.size
   have gi:=hid (show Mod (fun _=>False) d6 np from hm)
   clear hm
   clear qa4
   refine QSeq.go fun act E=>?_
   have ea162:act.eval (.tmp 162)=.slice aoj (BJ.length) capj:=(E.d 0 3)
   have ea165:act.eval (.tmp 165)=.slice c4 ((dnB x.dn).length) c6:=(E.d 3 0)
   refine Bv rfl (Aa rfl) rfl D7 aM (C:=#[.slice aoj (BJ.length) capj,.slice c4 ((dnB x.dn).length) c6]) (by simp only [C8,C5,C6,ea162,ea165];kernel_rfl) ?_
   intro yd qrow4 hm
   have ye:=qrow4.lt
   have ac:=hid qrow4
   have yf:=hm.size
   have ae:=hid hm
   have af:=hid (gi.out.goE hm)
   clear hm gi
   clear act E qrow4 ea162 ea165
   refine QSeq.call rfl rfl E9 (Join_Q (n:=2)  ac.out [(.slice aoj (BJ.length) capj,BJ),(.slice c4 ((dnB x.dn).length) c6,dnB x.dn)] rfl rfl (by intro p hp;simp only [D1,C9,or_false] at hp;rcases hp with rfl|rfl<;>first|exact (HJ.o.mod af.out iA).rd.1|exact (aa.out.mod ae.out iA).rd.1) bA (show flat _=BJ ++ dnB x.dn from by simp only [flat,C5,C6,List.flatten_cons,List.flatten_nil,List.append_nil]) aF) (fun E=>Ap (E.d 4 0)) ?_
   rintro e nq ⟨v_join2,rfl,qjoin2,hm⟩
   refine ⟨_,rfl,?_⟩
   have nr:=hid qjoin2
   have yg:=hm.size
   have ag:=hid hm
   have nt:=hid (af.out.goE hm)
   clear hm af
   clear qjoin2
   refine qas rfl 5 0 ?_
   have yh:=hid ((aa.out.mod ae.out iA).mod ag.out iA)
   have yi:=hid (ac.out.mod ag.out (fun h=>h))
   clear aa ac ae ag
   refine qe ?_
   clear HA0 c3 c8 a0
   have hq:=(nr.out.widen (R':=(fun k=>New w nq k)) bB (C0 _))
   rw [show BJ ++ dnB x.dn=Bg x by unfold Bg;rw [HE.o,HBJ.o];simp only [C2]] at hq
   have HQ:=B8 hq
   clear hq
   go_wp2_with fail
   go_meet
   case rel=>exact ⟨HQ.o,((HM0.o.trans c7.out iB).trans nt.out iB)⟩
  have K12:=B8 h12
  clear h12
  go_upto_region 28 with (fail)
  refine tst 227 B9 (Bk K12.o) rfl (qs ?_)
  by_cases h13:x.kd=13
  ·have KK:=B8 h13
   clear h13
   go_upto_region 30 with (fail)
   refine tst 227 B9 (Bj KK.o) rfl (qs ?_)
   have HE:=hid (show A3 x=encI x.ix ++ (encN (Bd x.rp).length ++ Bd x.rp) by unfold A3;rw [KK.o];rfl)
   have HL:=hid (show (BJ ++ (encI x.ix ++ (encN (Bd x.rp).length ++ Bd x.rp))).length≤900000 by have h:=HL0.o;rw [HE.o,← HBJ.o] at h;exact h)
   go_upto_region 31 with (fail)
   generalize ha0:Act.mk _ _=a0
   have c3:a0.eval (.tmp 1)=.pointer (some ⟨w.heap.size,0,none⟩):=by rw [← ha0];rfl
   have c8:a0.eval (.tmp 4)=.slice aoj (BJ.length) capj:=by rw [← ha0];rfl
   have hsz0:a0.tmps.size=227:=by rw [← ha0];rfl
   have HA0:=hid ha0
   clear ha0
   refine A7 227 hsz0 [170,171,172,173,174,175,176,177,178,179,4] [qi (.slice aoj (BJ.length) capj),qi (.pointer (some ⟨w.heap.size,212,none⟩)),qi (.int .i64 x.ix),qv 0,qi (.pointer (some ⟨w.heap.size,286,none⟩)),qi (.string x.rp),qr d6.heap.size (fun _=>False) (fun R w v=>RdR R 1000000 w v (Bd x.rp)),qv 1,qv 2,qv 3,qv 3] ⟨Ac,Ac,Ac,Ah,Ac,Ac,(qr_stable rdR_cells),Ah,Ah,Ah,Ah,trivial⟩ [3,7,8,9] ⟨?_,?_,?_,?_,?_,?_,?_,?_,?_,?_,?_,trivial⟩ ?_
   ·exact stq (fun E=>Al rfl ((E.pre 10 4 rfl aE).trans c8))
   ·exact stq (fun E=>Ae rfl C1 rfl aE (E.v c3))
   ·exact stq (fun E=>Af rfl B9 rfl (E.d 1) (AD ((HB1.o.mod c7.out (fun h=>h)).mod E.m.old aG) HLN.o 13 rfl (o:=212) (k:=0) rfl rfl rfl))
   ·exact Ad rfl
   ·exact stq (fun E=>Ae rfl C1 rfl aE (E.v c3))
   ·exact stq (fun E=>Af rfl Tryz.underlying9 rfl (E.d 4) (AD ((HB1.o.mod c7.out (fun h=>h)).mod E.m.old aG) HLN.o 17 rfl (o:=286) (k:=0) rfl rfl rfl))
   ·refine Ay rfl rfl rfl fun _ _ _ _ hZ hm _ _ _ hd _ _=>?_
    have h5:=hd ⟨5,.data⟩ bA rfl _ rfl
    exact qe_strB rfl (Aa rfl) rfl h5 (by have:=HL.o;simp only [C3] at this;rw [← bytesOf_len];omega) (by have:=hm.size;omega) (fun j hj=>(hZ j hj).2) iA
   ·exact Ad rfl
   ·exact Ad rfl
   ·exact Ad rfl
   ·refine Ay rfl rfl rfl fun _ _ _ _ _ _ _ _ _ hd _ _=>?_
    have h9:=hd ⟨9,.data⟩ bA rfl _ rfl
    exact Bl rfl (Aa rfl) (An rfl rfl) QE.refl h9
   intro nu hr
   have yj:=hr.size
   have gj:=hid (hr.new (S:=(fun _=>False)))
   clear hr
   refine QChain.go fun Z act E=>?_
   refine Aj (args:=#[.int .i64 x.ix]) rfl (Aa rfl) rfl E3 (Ap (E.d 2)) (Bf _ HOK.o.ix _) ?_
   rintro e nv ⟨v_a4,rfl,qa4,hm⟩
   obtain ⟨c4,c6,rfl⟩:=qa4.shape
   have yk:=hm.size
   refine ⟨_,rfl,hm.mono iB,(fun _=>rfl),?_⟩
   intro nw hr
   have yl:=hr.size
   have gk:=hid ((qa4.widen (R':=(fun k=>(New nu nv k))) (fun _ h=>h) (C0 _)).mod hr aD)
   have gm:=hid (gj.out.go hm hr)
   clear gj hm hr Z act E qa4
   refine QChain.go fun Z act E=>?_
   have h6q:=E.d 6
   obtain ⟨R2q,hR2,hrd2⟩:=h6q
   refine Aj (args:=#[act.eval (.tmp 176)]) rfl (Aa rfl) rfl Tryz.func35 (Ap rfl) (RefRow_Q hrd2 aF) ?_
   rintro e nx ⟨v_a5,rfl,qa5,hm⟩
   obtain ⟨c9,d5,rfl⟩:=qa5.shape
   have ym:=hm.size
   refine ⟨_,rfl,hm.mono iB,(fun _=>rfl),?_⟩
   intro gn hr
   have yp:=hr.size
   have gq:=hid ((qa5.widen (R':=(fun k=>(New nw nx k))) (fun _ h=>h) (C0 _)).mod hr aD)
   have hmr:=Mod.after hm hr
   have gr:=hid (gk.out.mod hmr aD)
   clear gk
   clear hmr
   have gu:=hid (gm.out.go hm hr)
   clear gm hm hr qa5
   refine QChain.go fun Z act E=>?_
   have ea170:act.eval (.tmp 170)=.slice aoj (BJ.length) capj:=(E.d 0)
   have ea173:act.eval (.tmp 173)=.slice c4 ((encI x.ix).length) c6:=(chv (v:=.slice c4 ((encI x.ix).length) c6) (E.d 3))
   have ea177:act.eval (.tmp 177)=.slice c9 (((encN (Bd x.rp).length ++ Bd x.rp)).length) d5:=(chv (v:=.slice c9 (((encN (Bd x.rp).length ++ Bd x.rp)).length) d5) (E.d 7))
   refine Bv rfl (Aa rfl) rfl D7 aM (C:=#[.slice aoj (BJ.length) capj,.slice c4 ((encI x.ix).length) c6,.slice c9 (((encN (Bd x.rp).length ++ Bd x.rp)).length) d5]) (by simp only [C8,C5,C6,ea170,ea173,ea177];kernel_rfl) ?_
   intro yq qrow8 hm
   have yr:=qrow8.lt
   have yt:=hm.size
   refine ⟨hm.mono iB,(fun _=>rfl),?_⟩
   intro ny hr
   have yu:=hr.size
   have ah:=hid (qrow8.mod hr aG)
   have hmr:=Mod.after hm hr
   have aj:=hid (gr.out.mod hmr aD)
   have am:=hid (gq.out.mod hmr aD)
   clear gr gq
   clear hmr
   have ap:=hid (gu.out.go hm hr)
   clear gu hm hr Z act E qrow8 ea170 ea173 ea177
   refine QChain.go fun Z act E=>?_
   refine Aj (args:=#[.slice (some ⟨gn.heap.size,0,none⟩) 3 3]) rfl (Aa rfl) rfl E9 (Ap (chv (v:=.slice (some ⟨gn.heap.size,0,none⟩) 3 3) (E.d 8))) (Join_Q (n:=3)  ah.out [(.slice aoj (BJ.length) capj,BJ),(.slice c4 ((encI x.ix).length) c6,encI x.ix),(.slice c9 (((encN (Bd x.rp).length ++ Bd x.rp)).length) d5,(encN (Bd x.rp).length ++ Bd x.rp))] rfl rfl (by intro p hp;simp only [D1,C9,or_false] at hp;rcases hp with rfl|rfl|rfl<;>first|exact (HJ.o.mod ap.out iA).rd.1|exact aj.out.rd.1|exact am.out.rd.1) bA (show flat _=BJ ++ (encI x.ix ++ ((encN (Bd x.rp).length ++ Bd x.rp))) from by simp only [flat,C5,C6,List.flatten_cons,List.flatten_nil,List.append_nil]) aF) ?_
   rintro e nz ⟨v_join2,rfl,qjoin2,hm⟩
   have yv:=hm.size
   refine ⟨_,rfl,hm.mono iB,(fun _=>rfl),?_⟩
   intro oc hr
   have yw:=hr.size
   have od:=hid ((qjoin2.widen (R':=(fun k=>(New ny nz k))) (fun _ h=>h) (C0 _)).mod hr aD)
   have hmr:=Mod.after hm hr
   have yx:=hid (aj.out.mod hmr aD)
   have yy:=hid (am.out.mod hmr aD)
   have yz:=hid (ah.out.mod hmr aG)
   clear aj am ah
   clear hmr
   have og:=hid (ap.out.go hm hr)
   clear ap hm hr Z act E qjoin2
   refine QChain.nil fun vs hl hzz hrows hne=>?_
   obtain ⟨Z,hYZ,hZb,hV⟩:=hzz
   have f0:=fvi hV hl 0
   have f3:=fvc hV hl 3
   have f7:=fvc hV hl 7
   have f8:=fvc hV hl 8
   have f9:=fvc hV hl 9
   have f10:=fvc hV hl 10
   rw [show vs=[gw vs 0,gw vs 1,gw vs 2,gw vs 3,gw vs 4,gw vs 5,gw vs 6,gw vs 7,gw vs 8,gw vs 9,gw vs 10] from (Bi hl).trans rfl]
   have ha0:=HA0.o
   subst ha0
   clear HA0 hV hYZ hZb hsz0 hrows hne c3 c8
   simp only [Au,Act.put,sIB,sCZ,sCS,f0,f3,f7,f8,f9,f10]
   clear hl f0 f3 f7 f8 f9 f10
   have hq:=(od.out.widen (R':=(fun k=>New w oc k)) bB (C0 _))
   rw [show BJ ++ (encI x.ix ++ ((encN (Bd x.rp).length ++ Bd x.rp)))=Bg x by unfold Bg;rw [HE.o,HBJ.o];simp only [C2]] at hq
   have HQ:=B8 hq
   clear hq
   go_wp2_with fail
   go_meet
   case rel=>exact ⟨HQ.o,((HM0.o.trans c7.out iB).trans og.out iB)⟩
  have K13:=B8 h13
  clear h13
  go_upto_region 30 with (fail)
  refine tst 227 B9 (Bk K13.o) rfl (qs ?_)
  by_cases h14:x.kd=14
  ·have KK:=B8 h14
   clear h14
   go_upto_region 32 with (fail)
   refine tst 227 B9 (Bj KK.o) rfl (qs ?_)
   have HE:=hid (show A3 x=encI x.dc.ep ++ (encI x.dc.rn ++ (baB x.dc.ba ++ (encI x.dc.l.length ++ (x.dc.l.map vtB).flatten))) by unfold A3;rw [KK.o];exact (rfl:_=encI x.dc.ep ++ encI x.dc.rn ++ baB x.dc.ba ++ listB vtB x.dc.l).trans (by simp only [listB,C2]))
   have HL:=hid (show (BJ ++ (encI x.dc.ep ++ (encI x.dc.rn ++ (baB x.dc.ba ++ (encI x.dc.l.length ++ (x.dc.l.map vtB).flatten))))).length≤900000 by have h:=HL0.o;rw [HE.o,← HBJ.o] at h;exact h)
   have HV1:=hid (show ∀ v ∈ [d_ps,d_os,d_ts],v.oneCell'=true from one3 (rdS_one (o5.out.mod c7.out iA)) (rdS_one (Hx8.o.mod c7.out iA)) (rdS_one (Hx9.o.mod c7.out iA)))
   go_upto_region 33 with (fail)
   refine Ab 227 [182,183,6,230] [0,1,2,3] (fun a0 HA0=>?_)
   have c3:=ev HA0 1 rfl
   refine qfd rfl 287 C1 c3 ?_
   refine QSeq.pure rfl _ (fun E=>Ak rfl D9 rfl (off:=287) (cs:=(x.dc.cells d_ps d_os d_ts (Value.slice aol x.dc.l.length capl))) aE (E.d 0 0) (Cs.seg (HB1.o.mod c7.out (fun h=>h)) HLN.o 18 rfl rfl)) ?_
   refine QSeq.go fun act E=>?_
   refine qc_alloc rfl (Aa rfl) rfl (z:=zq11) aE ?_
   intro oh qbd hm
   have za:=qbd.lt
   have gv:=hid qbd
   have zb:=hm.size
   have gx:=hid (show Mod (fun _=>False) d6 oh from hm)
   clear hm
   clear act E qbd
   refine QSeq.go fun act E=>?_
   have hlz:((x.dc.cells d_ps d_os d_ts (Value.slice aol x.dc.l.length capl))).length=List.length (zq11:List Value):=rfl
   refine Am rfl (Aa rfl) rfl gv.out (off:=0) (vs:=(x.dc.cells d_ps d_os d_ts (Value.slice aol x.dc.l.length capl))) dI (by intro u hu;simp only [Dc.cells,D1,C9,or_false] at hu;rcases hu with rfl|rfl|rfl|rfl|rfl|rfl|rfl|rfl<;>first|rfl|exact HV1.o _ bA) bS (E.d 2 0) (ec (E.d 1 1)) ?_
   intro zd qc0 hm
   have qbd:=qc0.eqv (b:=((x.dc.cells d_ps d_os d_ts (Value.slice aol x.dc.l.length capl)):List Value).toArray) (Aw (zq11.toArray) _ eK)
   clear qc0 hlz
   have i9:=hid qbd
   have ze:=hm.size
   have oi:=hid hm
   have j3:=hid (AA (S':=(fun _=>False)) gx.out hm (fun _ h=>h) cQ)
   clear hm gx
   clear act E qbd gv
   clear oi
   refine qe ?_
   clear HA0 c3 a0
   go_upto_region 34 with (fail)
   generalize ha0:Act.mk _ _=a0
   have c8:a0.eval (.tmp 4)=.slice aoj (BJ.length) capj:=by rw [← ha0];rfl
   have d9:a0.eval (.tmp 6)=.pointer (some ⟨d6.heap.size,0,none⟩):=by rw [← ha0];rfl
   have hsz0:a0.tmps.size=227:=by rw [← ha0];rfl
   have HA0:=hid ha0
   clear ha0
   refine A7 227 hsz0 [184,185,186,187,188,189,190,191,192,193,194,195,196,197,198,199,4] [qi (.slice aoj (BJ.length) capj),qi (.pointer (some ⟨d6.heap.size,0,none⟩)),qi (.int .i64 x.dc.ep),qv 0,qi (.pointer (some ⟨d6.heap.size,1,none⟩)),qi (.int .i64 x.dc.rn),qv 1,qi (.pointer (some ⟨d6.heap.size,2,none⟩)),qi (.agg #[.int .i64 x.dc.ba.ep,.int .u64 (x.dc.ba.tm:Nat),d_ps,d_os,d_ts]),qv 2,qi (.pointer (some ⟨d6.heap.size,7,none⟩)),qi (.slice aol x.dc.l.length capl),qi (.int .i64 x.dc.l.length),qv 3,qv 4,qv 5,qv 5] ⟨Ac,Ac,Ac,Ah,Ac,Ac,Ah,Ac,Ac,Ah,Ac,Ac,Ac,Ah,Ah,Ah,Ah,trivial⟩ [3,6,9,13,14,15] ⟨?_,?_,?_,?_,?_,?_,?_,?_,?_,?_,?_,?_,?_,?_,?_,?_,?_,trivial⟩ ?_
   ·exact stq (fun E=>Al rfl ((E.pre 16 4 rfl aE).trans c8))
   ·exact stq (fun E=>Ae rfl D9 rfl aE (E.v d9))
   ·exact stq (fun E=>Af rfl B9 rfl (E.d 1) (AC (i9.out.mod E.m.old aG) rfl))
   ·exact Ad rfl
   ·exact stq (fun E=>Ae rfl D9 rfl aE (E.v d9))
   ·exact stq (fun E=>Af rfl B9 rfl (E.d 4) (AC (i9.out.mod E.m.old aG) rfl))
   ·exact Ad rfl
   ·exact stq (fun E=>Ae rfl D9 rfl aE (E.v d9))
   ·exact stq (fun E=>Ak rfl C7 rfl (off:=2) (cs:=[.int .i64 x.dc.ba.ep,.int .u64 (x.dc.ba.tm:Nat),d_ps,d_os,d_ts]) aE (E.d 7) (AK (i9.out.mod E.m.old aG) rfl))
   ·exact Ad rfl
   ·exact stq (fun E=>Ae rfl D9 rfl aE (E.v d9))
   ·exact stq (fun E=>Af rfl Tryz.underlying57 rfl (E.d 10) (AC (i9.out.mod E.m.old aG) rfl))
   ·exact stq (fun E=>A2 rfl (E.d 11) Tryz.underlying57)
   ·exact Ad rfl
   ·exact Ad rfl
   ·exact Ad rfl
   ·refine Ay rfl rfl rfl fun _ _ _ _ _ _ _ _ _ hd _ _=>?_
    have h15:=hd ⟨15,.data⟩ bA rfl _ rfl
    exact Bl rfl (Aa rfl) (An rfl rfl) QE.refl h15
   intro oj hr
   have zf:=hr.size
   have gy:=hid (hr.new (S:=(fun _=>False)))
   clear hr
   refine QChain.go fun Z act E=>?_
   refine Aj (args:=#[.int .i64 x.dc.ep]) rfl (Aa rfl) rfl E3 (Ap (E.d 2)) (Bf _ HOD.o.1 _) ?_
   rintro e ol ⟨v_a4,rfl,qa4,hm⟩
   obtain ⟨c4,c6,rfl⟩:=qa4.shape
   have zg:=hm.size
   refine ⟨_,rfl,hm.mono iB,(fun _=>rfl),?_⟩
   intro om hr
   have zh:=hr.size
   have gz:=hid ((qa4.widen (R':=(fun k=>(New oj ol k))) (fun _ h=>h) (C0 _)).mod hr aD)
   have ia:=hid (gy.out.go hm hr)
   clear gy hm hr Z act E qa4
   refine QChain.go fun Z act E=>?_
   refine Aj (args:=#[.int .i64 x.dc.rn]) rfl (Aa rfl) rfl E3 (Ap (E.d 5)) (Bf _ HOD.o.2.1 _) ?_
   rintro e oo ⟨v_a5,rfl,qa5,hm⟩
   obtain ⟨c9,d5,rfl⟩:=qa5.shape
   have zj:=hm.size
   refine ⟨_,rfl,hm.mono iB,(fun _=>rfl),?_⟩
   intro oq hr
   have zk:=hr.size
   have ib:=hid ((qa5.widen (R':=(fun k=>(New om oo k))) (fun _ h=>h) (C0 _)).mod hr aD)
   have hmr:=Mod.after hm hr
   have ic:=hid (gz.out.mod hmr aD)
   clear gz
   clear hmr
   have j6:=hid (ia.out.go hm hr)
   clear ia hm hr Z act E qa5
   refine QChain.go fun Z act E=>?_
   refine Aj (args:=#[.agg #[.int .i64 x.dc.ba.ep,.int .u64 (x.dc.ba.tm:Nat),d_ps,d_os,d_ts]]) rfl (Aa rfl) rfl Tryz.func30 (Ap (E.d 8)) (RefBa_Q R2 _ x.dc.ba _ ⟨_,_,_,rfl,HOD.o.2.2,(((o5.out.mod c7.out iA).mod j3.out iA).mod j6.out iA),(((Hx8.o.mod c7.out iA).mod j3.out iA).mod j6.out iA),(((Hx9.o.mod c7.out iA).mod j3.out iA).mod j6.out iA)⟩ aU aF) ?_
   rintro e ot ⟨v_a6,rfl,qa6,hm⟩
   obtain ⟨d7,d8,rfl⟩:=qa6.shape
   have zl:=hm.size
   refine ⟨_,rfl,hm.mono iB,(fun _=>rfl),?_⟩
   intro ou hr
   have zm:=hr.size
   have ig:=hid ((qa6.widen (R':=(fun k=>(New oq ot k))) (fun _ h=>h) (C0 _)).mod hr aD)
   have hmr:=Mod.after hm hr
   have ii:=hid (ic.out.mod hmr aD)
   have ij:=hid (ib.out.mod hmr aD)
   clear ic ib
   clear hmr
   have ik:=hid (j6.out.go hm hr)
   clear j6 hm hr Z act E qa6
   refine QChain.go fun Z act E=>?_
   refine Aj (args:=#[.int .i64 x.dc.l.length]) rfl (Aa rfl) rfl E3 (Ap (E.d 12)) (Bf _ HIL.o _) ?_
   rintro e ov ⟨v_a7,rfl,qa7,hm⟩
   obtain ⟨g5,g6,rfl⟩:=qa7.shape
   have zn:=hm.size
   refine ⟨_,rfl,hm.mono iB,(fun _=>rfl),?_⟩
   intro il hr
   have zo:=hr.size
   have im:=hid ((qa7.widen (R':=(fun k=>(New ou ov k))) (fun _ h=>h) (C0 _)).mod hr aD)
   have hmr:=Mod.after hm hr
   have io:=hid (ii.out.mod hmr aD)
   have ip:=hid (ij.out.mod hmr aD)
   have iq:=hid (ig.out.mod hmr aD)
   clear ii ij ig
   clear hmr
   have ir:=hid (ik.out.go hm hr)
   clear ik hm hr Z act E qa7
   refine QChain.go fun Z act E=>?_
   have ea184:act.eval (.tmp 184)=.slice aoj (BJ.length) capj:=(E.d 0)
   have ea187:act.eval (.tmp 187)=.slice c4 ((encI x.dc.ep).length) c6:=(chv (v:=.slice c4 ((encI x.dc.ep).length) c6) (E.d 3))
   have ea190:act.eval (.tmp 190)=.slice c9 ((encI x.dc.rn).length) d5:=(chv (v:=.slice c9 ((encI x.dc.rn).length) d5) (E.d 6))
   have ea193:act.eval (.tmp 193)=.slice d7 ((baB x.dc.ba).length) d8:=(chv (v:=.slice d7 ((baB x.dc.ba).length) d8) (E.d 9))
   have ea197:act.eval (.tmp 197)=.slice g5 ((encI x.dc.l.length).length) g6:=(chv (v:=.slice g5 ((encI x.dc.l.length).length) g6) (E.d 13))
   refine Bv rfl (Aa rfl) rfl D7 aM (C:=#[.slice aoj (BJ.length) capj,.slice c4 ((encI x.dc.ep).length) c6,.slice c9 ((encI x.dc.rn).length) d5,.slice d7 ((baB x.dc.ba).length) d8,.slice g5 ((encI x.dc.l.length).length) g6]) (by simp only [C8,C5,C6,ea184,ea187,ea190,ea193,ea197];kernel_rfl) ?_
   intro zp qrow14 hm
   have zq:=qrow14.lt
   have zr:=hm.size
   refine ⟨hm.mono iB,(fun _=>rfl),?_⟩
   intro ow hr
   have zt:=hr.size
   have aq:=hid (qrow14.mod hr aG)
   have hmr:=Mod.after hm hr
   have ar:=hid (io.out.mod hmr aD)
   have au:=hid (ip.out.mod hmr aD)
   have av:=hid (iq.out.mod hmr aD)
   have aw:=hid (im.out.mod hmr aD)
   clear io ip iq im
   clear hmr
   have ax:=hid (ir.out.go hm hr)
   clear ir hm hr Z act E qrow14 ea184 ea187 ea190 ea193 ea197
   refine QChain.go fun Z act E=>?_
   refine Aj (args:=#[.slice (some ⟨il.heap.size,0,none⟩) 5 5]) rfl (Aa rfl) rfl E9 (Ap (chv (v:=.slice (some ⟨il.heap.size,0,none⟩) 5 5) (E.d 14))) (Join_Q (n:=5)  aq.out [(.slice aoj (BJ.length) capj,BJ),(.slice c4 ((encI x.dc.ep).length) c6,encI x.dc.ep),(.slice c9 ((encI x.dc.rn).length) d5,encI x.dc.rn),(.slice d7 ((baB x.dc.ba).length) d8,baB x.dc.ba),(.slice g5 ((encI x.dc.l.length).length) g6,encI x.dc.l.length)] rfl rfl (by intro p hp;simp only [D1,C9,or_false] at hp;rcases hp with rfl|rfl|rfl|rfl|rfl<;>first|exact ((HJ.o.mod j3.out iA).mod ax.out iA).rd.1|exact ar.out.rd.1|exact au.out.rd.1|exact av.out.rd.1|exact aw.out.rd.1) bA (show flat _=BJ ++ (encI x.dc.ep ++ (encI x.dc.rn ++ (baB x.dc.ba ++ encI x.dc.l.length))) from by simp only [flat,C5,C6,List.flatten_cons,List.flatten_nil,List.append_nil]) aF) ?_
   rintro e ox ⟨v_join2,rfl,qjoin2,hm⟩
   have zu:=hm.size
   refine ⟨_,rfl,hm.mono iB,(fun _=>rfl),?_⟩
   intro iu hr
   have zw:=hr.size
   have iv:=hid ((qjoin2.widen (R':=(fun k=>(New ow ox k))) (fun _ h=>h) (C0 _)).mod hr aD)
   have hmr:=Mod.after hm hr
   have oy:=hid (ar.out.mod hmr aD)
   have oz:=hid (au.out.mod hmr aD)
   have pa:=hid (av.out.mod hmr aD)
   have pb:=hid (aw.out.mod hmr aD)
   have pc:=hid (aq.out.mod hmr aG)
   clear ar au av aw aq
   clear hmr
   have n5:=hid (ax.out.go hm hr)
   clear ax hm hr Z act E qjoin2
   refine QChain.nil fun vs hl hzz hrows hne=>?_
   obtain ⟨Z,hYZ,hZb,hV⟩:=hzz
   have f0:=fvi hV hl 0
   have f3:=fvc hV hl 3
   have f6:=fvc hV hl 6
   have f9:=fvc hV hl 9
   have f12:=fvi hV hl 12
   have f13:=fvc hV hl 13
   have f14:=fvc hV hl 14
   have f15:=fvc hV hl 15
   have f16:=fvc hV hl 16
   rw [show vs=[gw vs 0,gw vs 1,gw vs 2,gw vs 3,gw vs 4,gw vs 5,gw vs 6,gw vs 7,gw vs 8,gw vs 9,gw vs 10,gw vs 11,gw vs 12,gw vs 13,gw vs 14,gw vs 15,gw vs 16] from (Bi hl).trans rfl]
   have ha0:=HA0.o
   subst ha0
   clear HA0 hV hYZ hZb hsz0 hrows hne c8 d9
   simp only [Au,Act.put,sIB,sCZ,sCS,f0,f3,f6,f9,f12,f13,f14,f15,f16]
   clear hl f0 f3 f6 f9 f12 f13 f14 f15 f16
   go_upto_region 35 with (fail)
   refine Ab 227 [200,201,202,203] [0,1,2,3] (fun a0 HA0=>?_)
   have d9:=ev HA0 6 rfl
   refine qfd rfl 7 D9 d9 ?_
   refine QSeq.pure rfl _ (fun E=>Af rfl Tryz.underlying57 rfl (E.d 0 0) (AC (i9.out.mod n5.out (fun h=>h)) rfl)) ?_
   refine QSeq.pure rfl (.int .i64 x.dc.l.length) (fun E=>A2 rfl (E.d 1 0) Tryz.underlying57) ?_
   refine QSeq.pure rfl (.int .i64 0) (fun E=>Al rfl rfl) ?_
   refine qe ?_
   clear HA0 d9 a0
   clear bh
   clear bj
   clear bk
   clear n6
   clear n7
   clear n8
   clear o5
   clear Hx8
   clear Hx9
   clear HJ
   clear HB1
   clear jm
   clear jn
   clear jo
   clear jp
   clear oy
   clear oz
   clear pa
   clear pb
   clear pc
   go_wp2
   go_loopw [4,203] (fun ta ti wr=>∃ k:Nat,ti=.int .i64 (k:Int)∧k≤x.dc.l.length∧iu.heap.size≤wr.heap.size∧OwR (fun b=>w1.heap.size≤b∧b < wr.heap.size) 900000 wr ta (BJ ++ (encI x.dc.ep ++ (encI x.dc.rn ++ (baB x.dc.ba ++ encI x.dc.l.length))) ++ ((x.dc.l.take k).map vtB).flatten)∧RdS VtR R2 wr (.slice aol x.dc.l.length capl) x.dc.l∧Cs wr (d6.heap.size) ((x.dc.cells d_ps d_os d_ts (Value.slice aol x.dc.l.length capl))).toArray 59∧Mod (fun _=>False) w wr) (fun _ ti _=>x.dc.l.length - (intOf ti).toNat)
   case atStart=>exact ⟨0,rfl,Nat.zero_le _,C0 _,by have hq:=(iv.out.widen (R':=(fun b=>w1.heap.size≤b∧b < iu.heap.size)) bB (C0 _));simpa only [List.take_zero,C6,List.flatten_nil,List.append_nil,C2] using hq,(((Hx10.o.mod c7.out iA).mod j3.out iA).mod n5.out iA),(i9.out.mod n5.out (fun h=>h)),(((HM0.o.trans c7.out iB).trans j3.out iB).trans n5.out iB)⟩
   case round=>
    obtain ⟨k1,rfl,hk,hz,ha,hk_0,hk_1,hm⟩:=hrel
    obtain ⟨wl1,rfl⟩:∃ x,x=wr:=⟨_,rfl⟩
    obtain ⟨aol1,capl1,rfl⟩:=ha.shape
    have HAL1:=B8 ha
    have HKL1_0:=B8 hk_0
    have HKL1_1:=B8 hk_1
    have HML1:=B8 hm
    clear ha hm hk_0 hk_1 Hx10 HM0 i9 iv
    by_cases hlt1:k1 < x.dc.l.length
    ·skip
     have hat:=HKL1_0.o.at hlt1
     obtain ⟨g1,o1,cs1,eao,hrg,hrd,hcs⟩:=hat
     subst eao
     have hcl:cs1.length=38:=VtR.len hrd
     have HCL1:=B8 hcl
     have HAT1:=hid (show CellsAt R2 wl1 g1 (o1+k1 * 38) cs1 from ⟨hrg,hcs⟩)
     have HRD1:=B8 hrd
     clear hcl hcs hrd hrg
     obtain ⟨y1,hy1⟩:∃ y,y=x.dc.l[k1]:=⟨_,rfl⟩
     rw [← hy1] at HRD1
     have HE1:Hid ((BJ ++ (encI x.dc.ep ++ (encI x.dc.rn ++ (baB x.dc.ba ++ encI x.dc.l.length))) ++ ((x.dc.l.take k1).map vtB).flatten) ++ vtB x.dc.l[k1]=BJ ++ (encI x.dc.ep ++ (encI x.dc.rn ++ (baB x.dc.ba ++ encI x.dc.l.length))) ++ ((x.dc.l.take (k1+1)).map vtB).flatten):=hid cZ
     have HB1':=hid (show ((BJ ++ (encI x.dc.ep ++ (encI x.dc.rn ++ (baB x.dc.ba ++ encI x.dc.l.length))) ++ ((x.dc.l.take k1).map vtB).flatten) ++ vtB x.dc.l[k1]).length≤900000 by rw [HE1.o];exact acc_len _ _ _ _ aF)
     have HBE1:=hid (show (vtB x.dc.l[k1]).length≤900000 by have:=HB1'.o;simp only [C3] at this ⊢; omega)
     go_upto_region 37 with (fail)
     refine Ab 227 [205,7] [0,1] (fun a0 HA0=>?_)
     have j7:=ev HA0 203 rfl
     refine qmo rfl j7 ?_
     refine qas rfl 0 0 ?_
     refine qe ?_
     clear HA0 j7 a0
     rw [← hy1] at HE1 HB1' HBE1
     clear hy1
     obtain ⟨rfl,hvk⟩:=HRD1.o
     have HVK:=B8 hvk
     clear hvk HRD1
     have HL':=HL
     clear HL
     have HL:=hid (show ((BJ ++ (encI x.dc.ep ++ (encI x.dc.rn ++ (baB x.dc.ba ++ encI x.dc.l.length))) ++ ((x.dc.l.take k1).map vtB).flatten) ++ (bareV y1 ++ sigB y1.sb y1.mr)).length≤900000 by have h:=HB1'.o;rw [vt_bare] at h;exact h)
     go_upto_region 38 with (fail)
     generalize ha0:Act.mk _ _=a0
     have c8:a0.eval (.tmp 4)=.slice aol1 ((BJ ++ (encI x.dc.ep ++ (encI x.dc.rn ++ (baB x.dc.ba ++ encI x.dc.l.length))) ++ ((x.dc.l.take k1).map vtB).flatten).length) capl1:=by rw [← ha0];rfl
     have d9:a0.eval (.tmp 6)=.pointer (some ⟨d6.heap.size,0,none⟩):=by rw [← ha0];rfl
     have ay:a0.eval (.tmp 7)=.int .i64 ((k1:Nat):Int):=by rw [← ha0];rfl
     have hsz0:a0.tmps.size=227:=by rw [← ha0];rfl
     have HA0:=hid ha0
     clear ha0
     refine A7 227 hsz0 [206,207,208,209,210,211,212,213,214,215,216,217,218,219,220,221,4] [qi (.slice aol1 ((BJ ++ (encI x.dc.ep ++ (encI x.dc.rn ++ (baB x.dc.ba ++ encI x.dc.l.length))) ++ ((x.dc.l.take k1).map vtB).flatten).length) capl1),qi (.pointer (some ⟨d6.heap.size,7,none⟩)),qi (.slice (some ⟨g1,o1,none⟩) x.dc.l.length capl),qi (.int .i64 ((k1:Nat):Int)),qi (.pointer (some ⟨g1,o1+k1 * 38,none⟩)),qi (.agg y1.cells.toArray),qv 0,qi (.pointer (some ⟨d6.heap.size,7,none⟩)),qi (.slice (some ⟨g1,o1,none⟩) x.dc.l.length capl),qi (.int .i64 ((k1:Nat):Int)),qi (.pointer (some ⟨g1,o1+k1 * 38,none⟩)),qi (.pointer (some ⟨g1,o1+k1 * 38+36,none⟩)),qi (.agg #[.int .i64 y1.sb,.int .i64 y1.mr]),qv 1,qv 2,qv 3,qv 3] ⟨Ac,Ac,Ac,Ac,Ac,Ac,Ah,Ac,Ac,Ac,Ac,Ac,Ac,Ah,Ah,Ah,Ah,trivial⟩ [6,13,14,15] ⟨?_,?_,?_,?_,?_,?_,?_,?_,?_,?_,?_,?_,?_,?_,?_,?_,?_,trivial⟩ ?_
     ·exact stq (fun E=>Al rfl ((E.pre 16 4 rfl aE).trans c8))
     ·exact stq (fun E=>Ae rfl D9 rfl aE (E.v d9))
     ·exact stq (fun E=>Af rfl Tryz.underlying57 rfl (E.d 1) (AC (HKL1_1.o.mod E.m.old aG) rfl))
     ·exact stq (fun E=>Al rfl (E.v ay))
     ·exact stq (fun E=>Bq (i:=k1) (s:=38) rfl Tryz.underlying57 aE (E.d 2) (E.d 3) hlt1)
     ·exact stq (fun E=>Ak rfl Tryz.underlying49 rfl (off:=o1+k1 * 38) (cs:=y1.cells) (by rw [Vt.len HVK.o];kernel_rfl) (E.d 4) (fun j u hu=>((HAT1.o.mod E.m.old cI)).2 j u hu))
     ·exact Ad rfl
     ·exact stq (fun E=>Ae rfl D9 rfl aE (E.v d9))
     ·exact stq (fun E=>Af rfl Tryz.underlying57 rfl (E.d 7) (AC (HKL1_1.o.mod E.m.old aG) rfl))
     ·exact stq (fun E=>Al rfl (E.v ay))
     ·exact stq (fun E=>Bq (i:=k1) (s:=38) rfl Tryz.underlying57 aE (E.d 8) (E.d 9) hlt1)
     ·exact stq (fun E=>Ae rfl Tryz.underlying49 rfl aE (E.d 10))
     ·exact stq (fun E=>Ak rfl Tryz.underlying27 rfl (off:=o1+k1 * 38+36) (cs:=[.int .i64 y1.sb,.int .i64 y1.mr]) aE (E.d 11) (fun j u hu=>by rw [Nat.add_assoc];exact ((HAT1.o.mod E.m.old cI)).2 (36+j) u (Vt_sgc HVK.o j u hu)))
     ·exact Ad rfl
     ·exact Ad rfl
     ·exact Ad rfl
     ·refine Ay rfl rfl rfl fun _ _ _ _ _ _ _ _ _ hd _ _=>?_
      have h15:=hd ⟨15,.data⟩ bA rfl _ rfl
      exact Bl rfl (Aa rfl) (An rfl rfl) QE.refl h15
     intro pd hr
     have zx:=hr.size
     have iw:=hid (hr.new (S:=(fun _=>False)))
     clear hr
     refine QChain.go fun Z act E=>?_
     refine Aj (args:=#[.agg y1.cells.toArray]) rfl (Aa rfl) rfl Tryz.func31 (Ap (E.d 5)) (RefBareV_Q (fun _=>False) _ y1 _ ⟨rfl,HVK.o⟩ iC aF) ?_
     rintro e pf ⟨v_a8,rfl,qa8,hm⟩
     obtain ⟨g7,g8,rfl⟩:=qa8.shape
     have zy:=hm.size
     refine ⟨_,rfl,hm.mono iB,(fun _=>rfl),?_⟩
     intro pg hr
     have aa0:=hr.size
     have iy:=hid ((qa8.widen (R':=(fun k=>(New pd pf k))) (fun _ h=>h) (C0 _)).mod hr aD)
     have iz:=hid (iw.out.go hm hr)
     clear iw hm hr Z act E qa8
     refine QChain.go fun Z act E=>?_
     refine Aj (args:=#[.agg #[.int .i64 y1.sb,.int .i64 y1.mr]]) rfl (Aa rfl) rfl Tryz.func27 (Ap (E.d 12)) (RefSig_Q HVK.o.sb HVK.o.mr _) ?_
     rintro e ph ⟨v_a9,rfl,qa9,hm⟩
     obtain ⟨g9,i7,rfl⟩:=qa9.shape
     have aa1:=hm.size
     refine ⟨_,rfl,hm.mono iB,(fun _=>rfl),?_⟩
     intro ja hr
     have aa2:=hr.size
     have jb:=hid ((qa9.widen (R':=(fun k=>(New pg ph k))) (fun _ h=>h) (C0 _)).mod hr aD)
     have hmr:=Mod.after hm hr
     have jc:=hid (iy.out.mod hmr aD)
     clear iy
     clear hmr
     have jd:=hid (iz.out.go hm hr)
     clear iz hm hr Z act E qa9
     refine QChain.go fun Z act E=>?_
     have ea206:act.eval (.tmp 206)=.slice aol1 ((BJ ++ (encI x.dc.ep ++ (encI x.dc.rn ++ (baB x.dc.ba ++ encI x.dc.l.length))) ++ ((x.dc.l.take k1).map vtB).flatten).length) capl1:=(E.d 0)
     have ea212:act.eval (.tmp 212)=.slice g7 ((bareV y1).length) g8:=(chv (v:=.slice g7 ((bareV y1).length) g8) (E.d 6))
     have ea219:act.eval (.tmp 219)=.slice g9 ((sigB y1.sb y1.mr).length) i7:=(chv (v:=.slice g9 ((sigB y1.sb y1.mr).length) i7) (E.d 13))
     refine Bv rfl (Aa rfl) rfl D7 aM (C:=#[.slice aol1 ((BJ ++ (encI x.dc.ep ++ (encI x.dc.rn ++ (baB x.dc.ba ++ encI x.dc.l.length))) ++ ((x.dc.l.take k1).map vtB).flatten).length) capl1,.slice g7 ((bareV y1).length) g8,.slice g9 ((sigB y1.sb y1.mr).length) i7]) (by simp only [C8,C5,C6,ea206,ea212,ea219];kernel_rfl) ?_
     intro aa3 qrow14 hm
     have aa4:=qrow14.lt
     have aa5:=hm.size
     refine ⟨hm.mono iB,(fun _=>rfl),?_⟩
     intro pi hr
     have aa6:=hr.size
     have az:=hid (qrow14.mod hr aG)
     have hmr:=Mod.after hm hr
     have bb:=hid (jc.out.mod hmr aD)
     have bc:=hid (jb.out.mod hmr aD)
     clear jc jb
     clear hmr
     have bf:=hid (jd.out.go hm hr)
     clear jd hm hr Z act E qrow14 ea206 ea212 ea219
     refine QChain.go fun Z act E=>?_
     refine Aj (args:=#[.slice (some ⟨ja.heap.size,0,none⟩) 3 3]) rfl (Aa rfl) rfl E9 (Ap (chv (v:=.slice (some ⟨ja.heap.size,0,none⟩) 3 3) (E.d 14))) (Join_Q (n:=3)  az.out [(.slice aol1 ((BJ ++ (encI x.dc.ep ++ (encI x.dc.rn ++ (baB x.dc.ba ++ encI x.dc.l.length))) ++ ((x.dc.l.take k1).map vtB).flatten).length) capl1,(BJ ++ (encI x.dc.ep ++ (encI x.dc.rn ++ (baB x.dc.ba ++ encI x.dc.l.length))) ++ ((x.dc.l.take k1).map vtB).flatten)),(.slice g7 ((bareV y1).length) g8,bareV y1),(.slice g9 ((sigB y1.sb y1.mr).length) i7,sigB y1.sb y1.mr)] rfl rfl (by intro p hp;simp only [D1,C9,or_false] at hp;rcases hp with rfl|rfl|rfl<;>first|exact (HAL1.o.mod bf.out iA).rd.1|exact bb.out.rd.1|exact bc.out.rd.1) bA (show flat _=((BJ ++ (encI x.dc.ep ++ (encI x.dc.rn ++ (baB x.dc.ba ++ encI x.dc.l.length))) ++ ((x.dc.l.take k1).map vtB).flatten)) ++ (bareV y1 ++ sigB y1.sb y1.mr) from by simp only [flat,C5,C6,List.flatten_cons,List.flatten_nil,List.append_nil]) aF) ?_
     rintro e pj ⟨v_join3,rfl,qjoin3,hm⟩
     have aa7:=hm.size
     refine ⟨_,rfl,hm.mono iB,(fun _=>rfl),?_⟩
     intro aa8 hr
     have aa9:=hr.size
     have pn:=hid ((qjoin3.widen (R':=(fun k=>(New pi pj k))) (fun _ h=>h) (C0 _)).mod hr aD)
     have hmr:=Mod.after hm hr
     have ab0:=hid (bb.out.mod hmr aD)
     have ab1:=hid (bc.out.mod hmr aD)
     have ab2:=hid (az.out.mod hmr aG)
     clear bb bc az
     clear hmr
     have bg:=hid (bf.out.go hm hr)
     clear bf hm hr Z act E qjoin3
     refine QChain.nil fun vs hl hzz hrows hne=>?_
     obtain ⟨Z,hYZ,hZb,hV⟩:=hzz
     have f0:=fvi hV hl 0
     have f3:=fvi hV hl 3
     have f6:=fvc hV hl 6
     have f9:=fvi hV hl 9
     have f13:=fvc hV hl 13
     have f14:=fvc hV hl 14
     have f15:=fvc hV hl 15
     have f16:=fvc hV hl 16
     rw [show vs=[gw vs 0,gw vs 1,gw vs 2,gw vs 3,gw vs 4,gw vs 5,gw vs 6,gw vs 7,gw vs 8,gw vs 9,gw vs 10,gw vs 11,gw vs 12,gw vs 13,gw vs 14,gw vs 15,gw vs 16] from (Bi hl).trans rfl]
     have ha0:=HA0.o
     subst ha0
     clear HA0 hV hYZ hZb hsz0 hrows hne c8 d9 ay
     simp only [Au,Act.put,sIB,sCZ,sCS,f0,f3,f6,f9,f13,f14,f15,f16]
     clear hl f0 f3 f6 f9 f13 f14 f15 f16
     have hq:=pn.out
     rw [show ((BJ ++ (encI x.dc.ep ++ (encI x.dc.rn ++ (baB x.dc.ba ++ encI x.dc.l.length))) ++ ((x.dc.l.take k1).map vtB).flatten)) ++ (bareV y1 ++ sigB y1.sb y1.mr)=(BJ ++ (encI x.dc.ep ++ (encI x.dc.rn ++ (baB x.dc.ba ++ encI x.dc.l.length))) ++ ((x.dc.l.take k1).map vtB).flatten) ++ vtB y1 by rw [vt_bare]] at hq
     have HQB:=B8 hq
     clear hq
     go_upto_region 39 with (fail)
     refine Ab 227 [222,203] [0,1] (fun a0 HA0=>?_)
     have j7:=ev HA0 203 rfl
     refine QSeq.pure rfl (.int .i64 (((k1:Nat):Int)+1)) (fun E=>Aq rfl (E.y 1 j7) rfl (Ai _ _ _ _ _ _) (Bz _ _ B9) (congrArg (Value.int .i64) (IntWalk.i64_in _ (by have hil:=HIL.o;unfold I64 at hil;omega)))) ?_
     refine qmv rfl 0 0 ?_
     refine qe ?_
     clear HA0 j7 a0
     have hq:=HQB.o
     rw [HE1.o] at hq
     have HQ1:=B8 hq
     clear hq
     go_wp2
     go_roundw
     case rel=>exact ⟨k1+1,by go_num,by omega,by omega,(HQ1.o.widen cS (C0 _)),(HKL1_0.o.mod bg.out iA),(HKL1_1.o.mod bg.out (fun h=>h)),(HML1.o.trans bg.out iB)⟩
     case measure=>simp [intOf];omega
    ·obtain rfl:k1=x.dc.l.length:=by omega
     have hq:=HAL1.o
     rw [List.take_length] at hq
     have HAF1:=B8 hq
     clear hq
     rw [List.take_length]
     have HEQ:=hid (show (BJ ++ (encI x.dc.ep ++ (encI x.dc.rn ++ (baB x.dc.ba ++ encI x.dc.l.length))) ++ (x.dc.l.map vtB).flatten)=Bg x by unfold Bg;rw [HE.o,HBJ.o];simp only [C2])
     have HQ:=hid (HAF1.o.widen (R':=(fun k=>New w wl1 k)) bB (C0 _))
     go_wp2_with fail
     go_meet
     case rel=>exact ⟨by have h:=HQ.o;rw [HEQ.o] at h ⊢; exact h,HML1.o⟩
  have K14:=B8 h14
  clear h14
  go_upto_region 32 with (fail)
  refine tst 227 B9 (Bk K14.o) rfl (qs ?_)
  exact absurd (show False by have kk:=HK.o;unfold okKd at kk;rw [decide_eq_true_eq] at kk;have k1:=K1.o;have k2:=K2.o;have k3:=K3.o;have k4:=K4.o;have k5:=K5.o;have k6:=K6.o;have k7:=K7.o;have k8:=K8.o;have k9:=K9.o;have k10:=K10.o;have k11:=K11.o;have k12:=K12.o;have k13:=K13.o;have k14:=K14.o;omega) (fun h=>h)
 case rest=>
  obtain ⟨wq,rfl⟩:∃ x,x=wc:=⟨_,rfl⟩
  obtain ⟨ho,hm⟩:=hcut
  obtain ⟨aoq,capq,rfl⟩:=ho.shape
  have HOW:=B8 ho
  have HMM:=B8 hm
  clear ho hm
  by_cases hn:65536 < (Bg x).length
  ·skip
   go_upto_region 40 with (fail)
   refine Ab 227 [223,224,225] [0,1,2] (fun a0 HA0=>?_)
   have c8:=ev HA0 4 rfl
   refine qmo rfl c8 ?_
   refine QSeq.pure rfl (.int .i64 ((Bg x).length)) (fun E=>A2 rfl (E.d 0 0) D2) ?_
   refine QSeq.pure rfl (.bool true) (fun E=>Aq rfl (E.d 1 0) rfl (Ai _ _ _ _ _ _) (Bx _ _ _ B9) (congrArg Value.bool (decide_eq_true aL))) ?_
   refine qe ?_
   clear HA0 c8 a0
   go_upto_region 41 with (fail)
   refine Ab 227 [2,3] [0,1] (fun a0 HA0=>?_)
   refine QSeq.pure rfl (.slice none 0 0) (fun E=>An rfl rfl) ?_
   refine QSeq.pure rfl (.bool false) (fun E=>An rfl rfl) ?_
   refine qe ?_
   clear HA0 a0
   have HP:=hid (show packs x=false by unfold packs;rw [HK.o,Bool.true_and,decide_eq_false_iff_not];omega)
   go_wp2
   go_ret2
   exact ⟨.slice none 0 0,by rw [HPK.o,HP.o];rfl,by rw [show RB=[] by rw [HRB.o,HP.o];rfl];exact ⟨Own.nil _ _ _ _,(fun g h=>by cases h),Nat.zero_le _⟩,HMM.o⟩
  go_upto_region 40 with (fail)
  refine Ab 227 [223,224,225] [0,1,2] (fun a0 HA0=>?_)
  have c8:=ev HA0 4 rfl
  refine qmo rfl c8 ?_
  refine QSeq.pure rfl (.int .i64 ((Bg x).length)) (fun E=>A2 rfl (E.d 0 0) D2) ?_
  refine QSeq.pure rfl (.bool false) (fun E=>Aq rfl (E.d 1 0) rfl (Ai _ _ _ _ _ _) (Bx _ _ _ B9) (congrArg Value.bool (decide_eq_false aL))) ?_
  refine qe ?_
  clear HA0 c8 a0
  go_upto_region 42 with (fail)
  refine Ab 227 [226,2,3] [0,1,2] (fun a0 HA0=>?_)
  have c8:=ev HA0 4 rfl
  refine qmo rfl c8 ?_
  refine qas rfl 0 0 ?_
  refine QSeq.pure rfl (.bool true) (fun E=>An rfl rfl) ?_
  refine qe ?_
  clear HA0 c8 a0
  have HP:=hid (show packs x=true by unfold packs;rw [HK.o,Bool.true_and,decide_eq_true_eq];omega)
  go_wp2
  go_ret2
  exact ⟨_,by rw [HPK.o,HP.o];rfl,by rw [show RB=Bg x by rw [HRB.o,HP.o];rfl];exact HOW.o,HMM.o⟩
structure DS where
 b:List Int
 sy:Nat
 fu:Nat
 lit:Bool
 dead:Bool
section
variable {R R' S:Nat→Prop} {N M:Nat} {w w':World} {p:Nat} {s s':DS} {v:Value}
end
section
variable {R R':Nat→Prop} {N M p:Nat} {s:DS} {w:World}
end
section
variable {R R':Nat→Prop} {N M p:Nat} {s:DS} {w:World}
end
section
variable {R R':Nat→Prop} {N M p:Nat} {s:DS} {w:World}
end
section
variable {R R':Nat→Prop} {N M p:Nat} {s:DS} {w:World}
end
def encR (b:List Int):List Int:=encN b.length ++ b
def rowsE (rs:List (List Int)):List Int:=rs.flatMap encR
@[simp] theorem rowsE_nil:rowsE []=[]:=rfl
/-- nothing whole begins here -/
def Stuck (l:List Int):Prop:=l=[]∨(rRow 65536 (some l)).2=none
def Fit (rs:List (List Int)):Prop:=∀ b ∈ rs,b.length≤65536
def Parse (bs:List Int) (rs:List (List Int)):Prop:=Fit rs∧∃ rest,bs=rowsE rs ++ rest∧Stuck rest
theorem Fit.nil:Fit []:=fun b h=>by cases h
theorem Parse.whole {rs:List (List Int)} (h:Fit rs):Parse (rowsE rs) rs:=⟨h,[],by simp,.inl rfl⟩
theorem Parse.pre {bs:List Int} {rs:List (List Int)} (h:Parse bs rs):rowsE rs=bs.take (rowsE rs).length∧(rowsE rs).length≤bs.length:=by
 obtain ⟨_,rest,e,_⟩:=h
 subst e
 exact ⟨by rw [List.take_append_of_le_length (C0 _),List.take_length],by simp⟩
/-! ### what is read was written so -/
theorem RdR_keepW {R:Nat→Prop} {N:Nat} {w w':World} {v:Value} {bs:List Int} (h:RdR R N w v bs) (hk:∀ p u,R p.block→w.cell? p=some u→w'.cell? p=some u):RdR R N w' v bs:=
 ⟨⟨h.1.1,h.1.2.keepc fun h0 g hg p u hp hc=>hk p u (hp▸h.2.1 h0 g hg) hc⟩,h.2⟩
theorem RdR_tightW {R:Nat→Prop} {N:Nat} {w:World} {v:Value} {bs:List Int} (h:RdR R N w v bs):RdR (fun k=>R k∧k < w.heap.size) N w v bs:=
 ⟨h.1,fun h0 g hg=>⟨h.2.1 h0 g hg,h.1.2.lt aM h0 hg⟩,h.2.2⟩
/-- a row of bytes -/
def RwR:Rep (List Int) where
 sz:=1
 pos:=by decide
 rd R w cs b:=∃ v,cs=[v]∧RdR R 100000 w v b
 len h:=by obtain ⟨v,rfl,_⟩:=h;rfl
 one h:=by
  obtain ⟨v,rfl,h0⟩:=h
  obtain ⟨_,_,e⟩:=h0.shape
  subst e
  intro u hu
  simp only [D1,C9,or_false] at hu
  subst hu;rfl
 keep h hk:=by obtain ⟨v,rfl,h0⟩:=h;exact ⟨v,rfl,RdR_keepW h0 hk⟩
 wid h hs:=by obtain ⟨v,rfl,h0⟩:=h;exact ⟨v,rfl,h0.widen hs (C0 _)⟩
 tight h:=by obtain ⟨v,rfl,h0⟩:=h;exact ⟨v,rfl,RdR_tightW h0⟩
theorem RwR.mk {R:Nat→Prop} {N:Nat} {w:World} {v:Value} {b:List Int} (h:RdR R N w v b) (hN:b.length≤100000):RwR.rd R w [v] b:=⟨v,rfl,h.1,h.2.1,hN⟩
/-- its first things, as a slice that may be appended to; with all that is behind them cut off -/
theorem OwS.upto {α:Type} {A:Rep α} {e:TypeId} {R E:Nat→Prop} {w:World} {ao:Option Addr} {n cap:Nat} {l:List α} (h:OwS A e R E w (.slice ao n cap) l) (k c:Nat) (hk:k≤l.length) (hc:c=cap∨c=k):OwS A e R E w (.slice ao k c) (l.take k):=by
 obtain ⟨css,h1,h2,h3,h4⟩:=h
 have hcl:∀ cs ∈ css,cs.length=A.sz:=css_len h1 h2 (fun cs a h=>A.len h)
 have el:(l.take k).length=k:=by simp;omega
 have ef:(css.take k).flatten=css.flatten.take (k * A.sz):=by
  have h5:css.flatten=(css.take k).flatten ++ (css.drop k).flatten:=by rw [← List.flatten_append,List.take_append_drop]
  have h6:(css.take k).flatten.length=k * A.sz:=by rw [flat_len (fun x hx=>hcl x (List.mem_of_mem_take hx))];congr 1;simp;omega
  rw [h5,← h6,List.take_left]
 have hb:∀ g,(Value.slice ao k c).ownBlock=some g→(Value.slice ao n cap).ownBlock=some g:=fun g hg=>by cases ao<;>exact hg
 have hb2:∀ g,(Value.slice ao n cap).ownBlock≠some g→(Value.slice ao k c).ownBlock≠some g:=fun g hg he=>hg (hb g he)
 refine ⟨css.take k,by simp;omega,fun i cs a hi ha=>?_,?_,fun g hg=>h4 g (hb g hg)⟩
 ·rw [List.getElem?_take] at hi ha
  split at hi
  ·rename_i hik
   rw [if_pos hik] at ha
   exact A.wid (h2 i cs a hi ha) (fun q hq=>⟨hq.1,hb2 q hq.2⟩)
  ·cases hi
 ·rw [el,ef]
  obtain ⟨hl,hE,⟨hv,hn⟩|⟨g,cap',cur,hv,hg,q1,q2,q3,q4,q5⟩⟩:=h3
  ·simp only [Value.slice.injEq] at hv
   obtain ⟨rfl,rfl,rfl⟩:=hv
   obtain rfl:k=0:=by omega
   obtain rfl:c=0:=by omega
   exact ⟨by simp,(fun u hu=>by simp at hu),.inl ⟨rfl,rfl⟩⟩
  ·simp only [Value.slice.injEq] at hv
   obtain ⟨rfl,rfl,rfl⟩:=hv
   have hkm:k * A.sz≤l.length * A.sz:=Nat.mul_le_mul_right _ hk
   have hcm:c * A.sz≤cap * A.sz:=Nat.mul_le_mul_right _ aL
   refine ⟨by rw [List.length_take];omega,fun u hu=>hE u (List.mem_of_mem_take hu),.inr ⟨g,c,cur,rfl,hg,by omega,by omega,by omega,?_,q5⟩⟩
   rw [← q4,List.take_take,Nat.min_eq_left hkm]
theorem OwS.lt {α:Type} {A:Rep α} {e:TypeId} {R E:Nat→Prop} {w:World} {v:Value} {l:List α} (h:OwS A e R E w v l) {g:Nat} (hg:v.ownBlock=some g):g < w.heap.size:=by
 obtain ⟨_,_,_,h3,_⟩:=h
 exact Own.lt h3 hg
section
variable {R R' S:Nat→Prop} {w w':World} {x p:Nat} {rs:List (List Int)}
end
section
variable {R R':Nat→Prop} {N M p:Nat} {b:List Int} {sy fu:Nat} {lit dead:Bool} {w:World}
end
section
variable {R:Nat→Prop} {r:Nat} {w:World} {l b rest:List Int}
end
section
variable {R R':Nat→Prop} {N p:Nat} {s:DS} {w:World}
end
theorem own_lit {w:World} {g:Nat} {bs:List Int} (hc:Cs w g (bs.map bv).toArray 5) (hb:Bytes bs) (hl:bs.length≤maxLen):OwnB w (.slice (some ⟨g,0,none⟩) bs.length bs.length) bs:=by
 refine ⟨by simp,?_,.inr ⟨g,bs.length,_,rfl,hc,C0 _,hl,by simp,by rw [Nat.mul_one];exact List.take_of_length_le bA,?_⟩⟩
 ·intro u hu
  obtain ⟨y,hy,rfl⟩:=List.mem_map.1 hu
  exact ⟨y,rfl,hb y hy⟩
 ·intro u hu
  obtain ⟨y,hy,rfl⟩:=List.mem_map.1 (by simpa using hu)
  exact ⟨y,rfl,hb y hy⟩
theorem own_litR {w w':World} {C:Array Value} {bs:List Int} {n N:Nat} (hc:Cs w' w.heap.size C 5) (hC:C=(bs.map bv).toArray) (hb:Bytes bs) (hn:n=bs.length) (hN:n≤1000000∧n≤N) (hm:Mod (fun _=>False) w w'):OwR (New w w') N w' (.slice (some ⟨w.heap.size,0,none⟩) n n) bs:=by
 subst hC hn
 exact ⟨own_lit hc hb dR,(fun g hg=>by
  obtain rfl:w.heap.size=g:=by simpa [Value.ownBlock] using hg
  exact ⟨C0 _,hc.lt⟩),hN.2⟩
section
variable {ops:Array Oper} {i:Nat} {o:Oper} {a:Act} {w:World}
theorem qc_bytes {KQ:Value→World→Prop} {ts T8:TypeId} {n:Nat} {parts:Array (Nat × Operand)} (ho:ops[i]? = some o) (hw:Region.wanted o (yielded ops a.tmps)=true) (hop:o.op=.buildSlice ts n parts) (hu:Tryz.prog.underlying ts=some (.slice T8)) (hie:(Tryz.prog.info? T8).map (fun i=>(i.size,i.zero))=some (1,some (.int .u8 0))) (hn:n≠0∧n≤1000) {C:Array Value}
 (hf:Instr.fill (fun i=>some (i * 1,1)) ((Array.range (n * 1)).map (#[Value.int .u8 0][· % 1]!)) (parts.map fun (i,x)=>(i,a.eval x)).toList=some C)
 (h:∀ w',Cs w' w.heap.size C T8→Mod (fun _=>False) w w'→KQ (.slice (some ⟨w.heap.size,0,none⟩) n n) w') {Q:Exit→Act→World→Prop}:wpOp Tryz.prog ops Q i (fun a' w'=>∃ v,a'=a.put o.dst v∧KQ v w') a w:=
 Bu ho hw (ex_lit hop hu hie hn hf) (h _ (Cs.new _ _ _) ((Mod.refl _ _).alloc _))
end
theorem callsU {F:FuncId} {args:Array Value} {w:World} {bs:List Int} {um:Option Mg} {b:Bool} {y:Mg} (h:unpackB bs=um) (hb:um.isSome=b) (hy:um.getD zMg=y)
 (hc:Calls Tryz.prog F args w fun e w'=>∃ cs,e=.returned (.tuple #[.agg cs.toArray,.bool (unpackB bs).isSome])∧MgR.rd (New w w') w' cs ((unpackB bs).getD zMg)∧Mod (fun _=>False) w w') :
 Calls Tryz.prog F args w fun e w'=>∃ cs,e=.returned (.tuple #[.agg cs.toArray,.bool b])∧MgR.rd (New w w') w' cs y∧Mod (fun _=>False) w w':=by
 subst h hb hy
 exact hc
theorem callsPQ {P:Program} {F:FuncId} {args:Array Value} {w:World} {b c:Bool} {l m:List Int} (h:c=b) (hl:m=l) (hc:Calls P F args w fun e w'=>∃ v,e=.returned (.tuple #[v,.bool b])∧OwR (New w w') 900000 w' v l∧Mod (fun _=>False) w w'):Calls P F args w fun e w'=>∃ v,e=.returned (.tuple #[v,.bool c])∧OwR (New w w') 900000 w' v m∧Mod (fun _=>False) w w':=by
 subst h hl
 exact hc
theorem RdR_3007 {R:Nat→Prop} {N:Nat} {w:World} {v:Value} {bs:List Int} (h:RdR R N w v (bs.take 300)):RdR R 900000 w v (bs.take 300):=⟨h.1,h.2.1,by simp;omega⟩
set_option maxHeartbeats 8000000 in
theorem LUnpacks_any (R2:Nat→Prop) (a:Mg) (ca:List Value) (vr:Value) (raw:List Int) (N:Nat) (how at_ c:Int) (w:World) (ha:MgR.rd R2 w ca a) (hraw:RdR R2 N w vr raw) (hhow:I64 how) (hat:I64 at_) (hc:0≤c∧c < 256) (hB2:∀ k,R2 k→k < w.heap.size) :
 Calls Tryz.prog 3 #[.agg ca.toArray,vr,.int .i64 how,.int .i64 at_,.int .u8 c] w fun e w'=>e=.returned (.bool true)∧Mod (fun _=>False) w w':=by
 have HA:=B8 ha
 have HCA:=hid (show ca.length=295 from MgR.len ha)
 obtain ⟨aor,capr,rfl⟩:=hraw.shape
 have HW:=B8 hraw
 have HBT:=B8 hB2
 have HH:=B8 hhow
 have HAT:=B8 hat
 have HCC:=B8 hc
 clear ha hraw hB2 hhow hat hc
 go_enter Tryz.func3,Tryz.ntmps3
 go_upto_region 1 with (fail)
 obtain ⟨w1,hw1⟩:∃ zz,zz=(w.alloc (.cells (ca:List Value).toArray 61)):=⟨_,rfl⟩
 change Code.wp _ _ _ _ (w.alloc (.cells (ca:List Value).toArray 61))
 rw [← hw1]
 have HB5:=hid (show Cs w1 (w.heap.size) (ca:List Value).toArray 61 by rw [hw1];exact Cs.new _ _ _)
 have hm:Mod (fun _=>False) w w1:=by rw [hw1];exact (Mod.refl _ _).alloc _
 have HM0:=hid (show Mod (fun _=>False) w w1 from hm.mono iB)
 have hs1:w1.heap.size=w.heap.size+1:=by rw [hw1];simp
 have g8:=hid (HA.o.mod hm iA)
 clear HA
 have p5:=hid (HW.o.mod hm iA)
 clear HW
 clear hw1 hm
 obtain ⟨m,hm0⟩:∃ z,z=smallM a:=⟨_,rfl⟩
 have HS0:=B8 hm0
 clear hm0
 obtain ⟨rb,hrb⟩:∃ z,z=(if packs m=true then Bg m else []):=⟨_,rfl⟩
 have HRB:=B8 hrb
 clear hrb
 go_upto_region 1 with (fail)
 refine Ab 88 [19,20,21,18,22,23,11,12] [0,1,2,3,4,5,6,7] (fun a0 HA0=>?_)
 have g9:=ev HA0 5 rfl
 refine QSeq.pure rfl _ (fun E=>Ak rfl C1 rfl (off:=0) (cs:=ca) (by rw [HCA.o];kernel_rfl) (E.v g9) (Cs.whole HB5.o)) ?_
 refine QSeq.call rfl rfl Tryz.func7 (HS0.o.symm▸Small_c R2 a _ _ g8.out aU) (fun E=>Ap (E.d 0 0)) ?_
 rintro e d7 ⟨cp,rfl,qa,hm⟩
 have HNm:=hid (show cp.length=295 from MgR.len qa)
 have HWm:=hid (MgR.one qa)
 have HLE:=hid (show (Bg m).length≤30000 by have h:=qa;rw [HS0.o] at h ⊢; exact small_len (k:=(smallM a).kd) h)
 refine ⟨_,rfl,?_⟩
 have g5:=hid (qa.widen (R':=(fun k=>(R2 k)∨(New w1 d7 k))) (fun _ h=>h))
 have t8:=hm.size
 have i7:=hid (show Mod (fun _=>False) w1 d7 from hm)
 clear hm
 clear qa g8
 refine QSeq.call rfl rfl Tryz.func6 (callsPQ rfl HRB.o (RefPack_Q _ _ m _ g5.out (by intro k h1;rcases h1 with h1|h1<;>first|omega|(have hb:=HBT.o k h1;omega)) (C4 HLE.o aM))) (fun E=>Ap (E.d 1 0)) ?_
 rintro e c4 ⟨vb,rfl,qb,hm⟩
 obtain ⟨aob,capb,rfl⟩:=qb.shape
 refine ⟨_,rfl,?_⟩
 have c6:=hid qb
 have t9:=hm.size
 have i8:=hid hm
 have c7:=hid (i7.out.goE hm)
 clear hm i7
 clear qb
 refine qmv rfl 2 0 ?_
 refine QSeq.pure rfl (.slice aob rb.length capb) (fun E=>B6 rfl (E.d 3 0) rfl) ?_
 refine QSeq.pure rfl (.bool (packs m)) (fun E=>B6 rfl (E.d 3 1) rfl) ?_
 refine qas rfl 4 1 ?_
 refine qas rfl 5 1 ?_
 have p6:=hid (g5.out.mod i8.out iA)
 clear g5 i8
 refine qe ?_
 clear HA0 g9 a0
 have hlm:rb.length≤30000:=by rw [HRB.o];split;exact HLE.o;exact Nat.zero_le _
 clear p6
 clear HB5
 go_upto_region 2 with (fail)
 refine Ab 88 [24,25] [0,1] (fun a0 HA0=>?_)
 have i9:=ev HA0 2 rfl
 refine qmo rfl i9 ?_
 refine QSeq.go fun act E=>?_
 refine Aj (args:=#[.int .i64 how,.int .i64 5]) rfl (Aa rfl) rfl Tryz.func8 (Ar (E.d 0 0) rfl) (Within_any how 5 aM aM HH.o _) ?_
 rintro e w2 ⟨rfl,hw2⟩
 obtain rfl:c4=w2:=by first|exact hw2|exact hw2.symm
 refine ⟨_,rfl,?_⟩
 clear act E
 refine qe ?_
 clear HA0 i9 a0
 go_upto_block 0 with (fail)
 go_cut [11] from 26 (fun t11 w'=>∃ bs:List Int,RdR (New w w') 900000 w' t11 bs∧Mod (fun _=>False) w w')
 case first=>
  by_cases h1:within how 5=1
  ·have K1:=B8 h1
   clear h1
   go_upto_region 3 with (fail)
   refine tst 88 B9 (Bj K1.o) rfl (qs ?_)
   by_cases hp:0 < rb.length
   ·skip
    go_upto_region 4 with (fail)
    refine Ab 88 [28,29,30] [0,1,2] (fun a0 HA0=>?_)
    have c3:=ev HA0 11 rfl
    refine qmo rfl c3 ?_
    refine QSeq.pure rfl (.int .i64 rb.length) (fun E=>A2 rfl (E.d 0 0) D2) ?_
    refine QSeq.pure rfl (.bool true) (fun E=>Aq rfl (E.d 1 0) rfl (Ai _ _ _ _ _ _) (Bx _ _ _ B9) (congrArg Value.bool (decide_eq_true aL))) ?_
    refine qe ?_
    clear HA0 c3 a0
    obtain ⟨i,hi,hlt0⟩:=within_nat at_ (rb.length:Int) aL
    have hlt:i < rb.length:=by omega
    have HWI:=B8 hi
    clear hi
    obtain ⟨g,cl,eao,hcs,hrg,hget,hll,hset⟩:=OwR.cs c6.out hp
    subst eao
    obtain ⟨x,hx⟩:∃ x,x=rb[i]:=⟨_,rfl⟩
    have hg:=hget i hlt
    rw [← hx] at hg
    have HG:=B8 hg
    have HCU:=B8 hcs
    have HSET:=B8 hset
    have hil:i < cl.length:=by omega
    clear hg hcs hget hset hx
    have hgr:w.heap.size≤g∧g < c4.heap.size:=by (try dsimp only at hrg);(try simp only [false_or] at hrg);omega
    go_upto_region 5 with (fail)
    refine Ab 88 [31,32,33,34,35,36,37,38,39,40,98] [0,1,2,3,4,5,6,7,8,9,10] (fun a0 HA0=>?_)
    have c8:=ev HA0 3 rfl
    have c9:=ev HA0 4 rfl
    have c3:=ev HA0 11 rfl
    refine qmo rfl c3 ?_
    refine qmo rfl c8 ?_
    refine qmo rfl c3 ?_
    refine QSeq.pure rfl (.int .i64 rb.length) (fun E=>A2 rfl (E.d 2 0) D2) ?_
    refine QSeq.go fun act E=>?_
    refine Aj (args:=#[.int .i64 at_,.int .i64 (rb.length:Int)]) rfl (Aa rfl) rfl Tryz.func8 (Ar (E.d 1 2) (E.d 3 0)) (HWI.o▸Within_any at_ (rb.length:Int) aL aL HAT.o _) ?_
    rintro e w2 ⟨rfl,hw2⟩
    obtain rfl:c4=w2:=by first|exact hw2|exact hw2.symm
    refine ⟨_,rfl,?_⟩
    clear act E
    refine QSeq.pure rfl (.pointer (some ⟨g,0+i * 1,none⟩)) (fun E=>Bq (i:=i) (s:=1) rfl D2 aE (E.d 0 4) (E.d 4 0) hlt) ?_
    refine QSeq.pure rfl (.int .u8 x) (fun E=>Af rfl Tryz.underlying5 rfl (E.d 5 0) (by rw [HCU.o.cell];simpa using HG.o)) ?_
    refine qmo rfl c9 ?_
    refine QSeq.pure rfl (.int .u8 (bits .xor .u8 x c)) (fun E=>ex_bin rfl (E.d 6 1) (E.d 7 0) (Ai _ _ _ _ _ _) (run_xor_i _ _)) ?_
    refine QSeq.pure rfl (.pointer (some ⟨g,0+i * 1,none⟩)) (fun E=>Bq (i:=i) (s:=1) rfl D2 aE (E.d 0 8) (E.d 4 4) hlt) ?_
    refine QSeq.go fun act E=>?_
    refine Am rfl (Aa rfl) rfl HCU.o (off:=0+i * 1) (vs:=[.int .u8 (bits .xor .u8 x c)]) aE one1 (by show 0+i * 1+1≤cl.length;omega) (E.d 9 0) (ec (E.d 8 1)) ?_
    intro p7 qc0 hm
    have qcur:=qc0.eqv (b:=((cl.set i (.int .u8 (bits .xor .u8 x c))):List Value).toArray) (lay_set1 cl i _ hil)
    clear qc0
    have Hx8:=hid qcur
    have u0:=hm.size
    have p8:=hid (show Mod (fun k=>(k=g)) c4 p7 from hm)
    clear hm
    clear act E qcur HCU
    refine qe ?_
    clear HA0 c8 c9 c3 a0
    have HOW:=hid (HSET.o _ i (bits .xor .u8 x c) hlt (by have:=bounds_u8 (wf_bits .xor .u8 x c);omega) Hx8.o)
    go_wp2_with fail
    go_meet
    case rel=>exact ⟨rb.set i (bits .xor .u8 x c),(HOW.o.rd.widen cK (C0 _)),((HM0.o.trans c7.out iB).trans p8.out aD)⟩
   ·skip
    go_upto_region 4 with (fail)
    refine Ab 88 [28,29,30] [0,1,2] (fun a0 HA0=>?_)
    have c3:=ev HA0 11 rfl
    refine qmo rfl c3 ?_
    refine QSeq.pure rfl (.int .i64 rb.length) (fun E=>A2 rfl (E.d 0 0) D2) ?_
    refine QSeq.pure rfl (.bool false) (fun E=>Aq rfl (E.d 1 0) rfl (Ai _ _ _ _ _ _) (Bx _ _ _ B9) (congrArg Value.bool (decide_eq_false aL))) ?_
    refine qe ?_
    clear HA0 c3 a0
    go_wp2_with fail
    go_meet
    case rel=>exact ⟨rb,(c6.out.rd.widen cK (C0 _)),(HM0.o.trans c7.out iB)⟩
  have K1:=B8 h1
  clear h1
  go_upto_region 3 with (fail)
  refine tst 88 B9 (Bk K1.o) rfl (qs ?_)
  by_cases h2:within how 5=2
  ·have K2:=B8 h2
   clear h2
   go_upto_region 6 with (fail)
   refine tst 88 B9 (Bj K2.o) rfl (qs ?_)
   obtain ⟨i,hi,hlt0⟩:=within_nat at_ ((rb.length:Int)+1) aL
   have hlt:i≤rb.length:=by omega
   have HWI:=B8 hi
   clear hi
   have hcap:rb.length≤capb:=(c6.out).1.rd.len.2.1
   go_upto_region 7 with (fail)
   refine Ab 88 [43,44,45,46,47,48,49,11] [0,1,2,3,4,5,6,7] (fun a0 HA0=>?_)
   have c8:=ev HA0 3 rfl
   have c3:=ev HA0 11 rfl
   refine QSeq.pure rfl _ (fun E=>Al rfl (E.y 7 c3)) ?_
   refine qmo rfl c8 ?_
   refine QSeq.pure rfl _ (fun E=>Al rfl (E.y 7 c3)) ?_
   refine QSeq.pure rfl (.int .i64 rb.length) (fun E=>A2 rfl (E.d 2 0) D2) ?_
   refine QSeq.pure rfl (.int .i64 ((rb.length:Int)+1)) (fun E=>Aq rfl (E.d 3 0) rfl (Ai _ _ _ _ _ _) (Bz _ _ B9) (congrArg (Value.int .i64) (IntWalk.i64_in _ aL))) ?_
   refine QSeq.go fun act E=>?_
   refine Aj (args:=#[.int .i64 at_,.int .i64 ((rb.length:Int)+1)]) rfl (Aa rfl) rfl Tryz.func8 (Ar (E.d 1 3) (E.d 4 0)) (HWI.o▸Within_any at_ ((rb.length:Int)+1) aL aL HAT.o _) ?_
   rintro e w2 ⟨rfl,hw2⟩
   obtain rfl:c4=w2:=by first|exact hw2|exact hw2.symm
   refine ⟨_,rfl,?_⟩
   clear act E
   refine QSeq.pure rfl (.slice aob i capb) (fun E=>ex_sliceTo (i:=i) (s:=1) rfl D2 aE (E.d 0 5) (E.d 5 0) aL) ?_
   refine qas rfl 6 0 ?_
   refine qe ?_
   clear HA0 c8 c3 a0
   go_wp2_with fail
   go_meet
   case rel=>exact ⟨rb.take i,((c6.out.rd.upto i hlt).widen cK (C0 _)),(HM0.o.trans c7.out iB)⟩
  have K2:=B8 h2
  clear h2
  go_upto_region 6 with (fail)
  refine tst 88 B9 (Bk K2.o) rfl (qs ?_)
  by_cases h3:within how 5=3
  ·have K3:=B8 h3
   clear h3
   go_upto_region 8 with (fail)
   refine tst 88 B9 (Bj K3.o) rfl (qs ?_)
   go_upto_region 9 with (fail)
   refine Ab 88 [52,53,54,55,11] [0,1,2,3,4] (fun a0 HA0=>?_)
   have c9:=ev HA0 4 rfl
   have c3:=ev HA0 11 rfl
   refine QSeq.pure rfl _ (fun E=>Al rfl (E.y 4 c3)) ?_
   refine qmo rfl c9 ?_
   refine QSeq.go fun act E=>?_
   have ea53:act.eval (.tmp 53)=.int .u8 c:=(E.d 1 0)
   refine qc_bytes rfl (Aa rfl) rfl D2 aE aM (C:=#[.int .u8 c]) (by simp only [C8,C5,C6,ea53];kernel_rfl) ?_
   intro j0 qr0 hm
   have qbz:=own_litR (bs:=[c]) (n:=1) (N:=900000) qr0 rfl (by intro q hq;rw [List.mem_singleton] at hq;rw [hq];exact HCC.o) rfl aM hm
   clear qr0 ea53
   have Hx10:=hid qbz
   have u1:=hm.size
   have g6:=hid (show Mod (fun _=>False) c4 j0 from hm)
   clear hm
   clear act E qbz
   refine QSeq.go fun act E=>?_
   refine qc_appR rfl (Aa rfl) rfl (E.d 0 2) (E.d 2 0) (c6.out.mod g6.out iA) Hx10.o.rd (by simp only [C3,D6,D5];omega) ?_
   intro ao4 cap4 p9 qb hm
   have q6:=hid (qb.widen (R':=(fun k=>(New d7 c4 k)∨(New j0 p9 k))) (fun _ h=>h) (C0 _))
   have u2:=hm.size
   have j3:=hid hm
   have q7:=hid (AA (S':=(fun k=>(New d7 c4 k))) g6.out hm iC aQ)
   clear hm g6
   clear act E qb c6
   refine qas rfl 3 0 ?_
   have u3:=hid (Hx10.o.mod j3.out aD)
   clear Hx10 j3
   refine qe ?_
   clear HA0 c9 c3 a0
   go_wp2_with fail
   go_meet
   case rel=>exact ⟨rb ++ [c],(q6.out.rd.widen cK (C0 _)),((HM0.o.trans c7.out iB).trans q7.out aD)⟩
  have K3:=B8 h3
  clear h3
  go_upto_region 8 with (fail)
  refine tst 88 B9 (Bk K3.o) rfl (qs ?_)
  by_cases h4:within how 5=4
  ·have K4:=B8 h4
   clear h4
   go_upto_region 10 with (fail)
   refine tst 88 B9 (Bj K4.o) rfl (qs ?_)
   go_upto_region 11 with (fail)
   refine Ab 88 [58,59,11] [0,1,2] (fun a0 HA0=>?_)
   have j4:=ev HA0 1 rfl
   refine qmo rfl j4 ?_
   refine QSeq.call rfl rfl Tryz.func9 (Cut_R 300 (p5.out.mod c7.out iA) aM) (fun E=>Ar (E.d 0 0) rfl) ?_
   rintro e q8 ⟨v1,rfl,qout,hm⟩
   refine ⟨_,rfl,?_⟩
   have q9:=hid qout
   have u4:=hm.size
   have r5:=hid (show Mod (fun _=>False) c4 q8 from hm)
   clear hm
   clear qout
   refine qas rfl 1 0 ?_
   refine qe ?_
   clear HA0 j4 a0
   go_wp2_with fail
   go_meet
   case rel=>exact ⟨raw.take 300,((RdR_3007 q9.out.rd).widen cK (C0 _)),((HM0.o.trans c7.out iB).trans r5.out iB)⟩
  have K4:=B8 h4
  clear h4
  go_upto_region 10 with (fail)
  refine tst 88 B9 (Bk K4.o) rfl (qs ?_)
  go_wp2_with fail
  go_meet
  case rel=>exact ⟨rb,(c6.out.rd.widen cK (C0 _)),(HM0.o.trans c7.out iB)⟩
 case rest=>
  obtain ⟨wq,rfl⟩:∃ x,x=wc:=⟨_,rfl⟩
  obtain ⟨bs,hbs,hm⟩:=hcut
  have zwq:=hm.size
  obtain ⟨aox,capx,rfl⟩:=hbs.shape
  have HBS:=B8 hbs
  have HMM:=B8 hm
  clear hbs hm
  obtain ⟨ub,hub⟩:∃ z,z=(unpackB bs).isSome:=⟨_,rfl⟩
  obtain ⟨uy,huy⟩:∃ z,z=(unpackB bs).getD zMg:=⟨_,rfl⟩
  have HUB:=hid hub.symm
  have HUY:=hid huy.symm
  clear hub huy
  go_upto_region 12 with (fail)
  refine Ab 88 [60,61,13] [0,1,2] (fun a0 HA0=>?_)
  have c3:=ev HA0 11 rfl
  refine qmo rfl c3 ?_
  refine QSeq.call rfl rfl Tryz.func10 (Lend_R HBS.o aM) (fun E=>Ap (E.d 0 0)) ?_
  rintro e j5 ⟨vx,rfl,qlx,hm⟩
  obtain ⟨aoy,capy,rfl⟩:=qlx.rd.shape
  refine ⟨_,rfl,?_⟩
  have j6:=hid qlx
  have u5:=hm.size
  have g7:=hid (show Mod (fun _=>False) wq j5 from hm)
  clear hm
  clear qlx
  refine qas rfl 1 0 ?_
  refine qe ?_
  clear HA0 c3 a0
  go_upto_region 13 with (fail)
  refine Ab 88 [63,64,62,65,66,14,94,15] [0,1,2,3,4,5,6,7] (fun a0 HA0=>?_)
  have d5:=ev HA0 13 rfl
  refine qmo rfl d5 ?_
  refine QSeq.call rfl rfl Tryz.func11 (callsU rfl HUB.o HUY.o (Unpack_Q _ _ bs _ j6.out.rd bB)) (fun E=>Ap (E.d 0 0)) ?_
  rintro e r6 ⟨cu,rfl,qu,hm⟩
  have HNu:=hid (show cu.length=295 from MgR.len qu)
  have HWu:=hid (MgR.one qu)
  refine ⟨_,rfl,?_⟩
  have j7:=hid qu
  have u6:=hm.size
  have j8:=hid (show Mod (fun _=>False) j5 r6 from hm)
  clear hm
  clear qu
  refine qmv rfl 1 0 ?_
  refine QSeq.pure rfl (.agg cu.toArray) (fun E=>B6 rfl (E.d 2 0) rfl) ?_
  refine QSeq.pure rfl (.bool ub) (fun E=>B6 rfl (E.d 2 1) rfl) ?_
  refine QSeq.go fun act E=>?_
  refine qc_alloc rfl (Aa rfl) rfl (z:=(mg0C 0 0 0)) aE ?_
  intro u7 qq14 hm
  have u9:=qq14.lt
  have j9:=hid qq14
  have v5:=hm.size
  have l7:=hid hm
  have l8:=hid (j8.out.goE hm)
  clear hm j8
  clear act E qq14
  refine QSeq.go fun act E=>?_
  have hlz:(cu).length=List.length ((mg0C 0 0 0):List Value):=HNu.o
  refine Am rfl (Aa rfl) rfl j9.out (off:=0) (vs:=cu) dI HWu.o bS (E.d 5 0) (ec (E.d 3 2)) ?_
  intro r7 qc0 hm
  have qq14:=qc0.eqv (b:=(cu:List Value).toArray) (Aw (((mg0C 0 0 0):List Value).toArray) _ eK)
  clear qc0 hlz
  have r8:=hid qq14
  have v6:=hm.size
  have m7:=hid hm
  have d8:=hid (AA (S':=(fun _=>False)) l8.out hm (fun _ h=>h) cQ)
  clear hm l8
  clear act E qq14 j9
  refine qas rfl 4 2 ?_
  have r9:=hid ((j7.out.mod l7.out iA).mod m7.out aD)
  clear j7 l7 m7
  refine qe ?_
  clear HA0 d5 a0
  go_upto_region 14 with (fail)
  refine Ab 88 [68,69,67,70,71,16,94,17] [0,1,2,3,4,5,6,7] (fun a0 HA0=>?_)
  have c3:=ev HA0 11 rfl
  refine qmo rfl c3 ?_
  refine QSeq.call rfl rfl Tryz.func12 (callsU rfl HUB.o HUY.o (RefUnpack_Q _ _ bs _ ((HBS.o.mod g7.out iA).mod d8.out iA) bB)) (fun E=>Ap (E.d 0 0)) ?_
  rintro e s0 ⟨cv,rfl,qv,hm⟩
  have HNv:=hid (show cv.length=295 from MgR.len qv)
  have HWv:=hid (MgR.one qv)
  refine ⟨_,rfl,?_⟩
  have m8:=hid qv
  have v7:=hm.size
  have m9:=hid (show Mod (fun _=>False) r7 s0 from hm)
  clear hm
  clear qv
  refine qmv rfl 1 0 ?_
  refine QSeq.pure rfl (.agg cv.toArray) (fun E=>B6 rfl (E.d 2 0) rfl) ?_
  refine QSeq.pure rfl (.bool ub) (fun E=>B6 rfl (E.d 2 1) rfl) ?_
  refine QSeq.go fun act E=>?_
  refine qc_alloc rfl (Aa rfl) rfl (z:=(mg0C 0 0 0)) aE ?_
  intro v8 qq16 hm
  have x4:=qq16.lt
  have n5:=hid qq16
  have x5:=hm.size
  have n6:=hid hm
  have n7:=hid (m9.out.goE hm)
  clear hm m9
  clear act E qq16
  refine QSeq.go fun act E=>?_
  have hlz:(cv).length=List.length ((mg0C 0 0 0):List Value):=HNv.o
  refine Am rfl (Aa rfl) rfl n5.out (off:=0) (vs:=cv) dI HWv.o bS (E.d 5 0) (ec (E.d 3 2)) ?_
  intro s5 qc0 hm
  have qq16:=qc0.eqv (b:=(cv:List Value).toArray) (Aw (((mg0C 0 0 0):List Value).toArray) _ eK)
  clear qc0 hlz
  have s6:=hid qq16
  have x6:=hm.size
  have n8:=hid hm
  have d6:=hid (AA (S':=(fun _=>False)) n7.out hm (fun _ h=>h) cQ)
  clear hm n7
  clear act E qq16 n5
  refine qas rfl 4 2 ?_
  have s7:=hid ((m8.out.mod n6.out iA).mod n8.out aD)
  clear m8 n6 n8
  refine qe ?_
  clear HA0 c3 a0
  go_upto_region 15 with (fail)
  refine Ab 88 [72,73,74,75,76,77,78,79,80,81,82,83,84,85,86,87,10] [0,1,2,3,4,5,6,7,8,9,10,11,12,13,14,15,16] (fun a0 HA0=>?_)
  have c3:=ev HA0 11 rfl
  have d5:=ev HA0 13 rfl
  have o5:=ev HA0 14 rfl
  have o6:=ev HA0 15 rfl
  have o7:=ev HA0 16 rfl
  have o8:=ev HA0 17 rfl
  refine qmo rfl o6 ?_
  refine qmo rfl o8 ?_
  refine QSeq.pure rfl (.bool true) (fun E=>Aq rfl (E.d 0 1) (E.d 1 0) (guard_bools _ _ _ _ _ _) (run_eql_bools _ _ _ E8) (congrArg Value.bool (beq_self_eq_true _))) ?_
  refine qmv rfl 2 0 ?_
  refine AB rfl (.agg cu.toArray) (fun E=>((Ag rfl rfl (E.sz 75 aM) (E.d 3 0)).trans rfl)) (fun E=>Ak rfl C1 rfl (off:=0) (cs:=cu) (by rw [HNu.o];kernel_rfl) (E.v o5) (Cs.whole (r8.out.mod d6.out (fun h=>h)))) ?_
  refine AB rfl (.agg cv.toArray) (fun E=>((Ag rfl rfl (E.sz 75 aM) (E.d 3 1)).trans rfl)) (fun E=>Ak rfl C1 rfl (off:=0) (cs:=cv) (by rw [HNv.o];kernel_rfl) (E.v o7) (Cs.whole s6.out)) ?_
  refine QSeq.go fun act E=>?_
  refine Aj (args:=#[.agg cu.toArray,.agg cv.toArray]) rfl ((Ag rfl rfl (E.sz 75 aM) (E.d 3 2)).trans rfl) rfl Tryz.func13 (Ar (E.d 4 1) (E.d 5 0)) (callsB (eqb_rfl uy) (Eq_Mg _ _ _ _ uy uy _ (r9.out.mod d6.out iA) s7.out bB bB)) ?_
  rintro e s8 ⟨rfl,hm⟩
  refine ⟨_,rfl,?_⟩
  have x7:=hm.size
  have d9:=hid (show Mod (fun _=>False) s5 s8 from hm)
  clear hm
  clear act E
  refine QSeq.pure rfl (.bool true) (fun E=>Bp rfl (E.d 3 3) (E.d 6 0) rfl) ?_
  refine qmv rfl 7 0 ?_
  refine AB rfl (.slice aoy bs.length capy) (fun E=>((Ag rfl rfl (E.sz 80 aM) (E.d 8 0)).trans rfl)) (fun E=>Al rfl (E.v d5)) ?_
  refine AB rfl (.slice aox bs.length capx) (fun E=>((Ag rfl rfl (E.sz 80 aM) (E.d 8 1)).trans rfl)) (fun E=>Al rfl (E.v c3)) ?_
  refine QSeq.go fun act E=>?_
  refine Aj (args:=#[.slice aoy bs.length capy,.slice aox bs.length capx]) rfl ((Ag rfl rfl (E.sz 80 aM) (E.d 8 2)).trans rfl) rfl Tryz.func14 (Ar (E.d 9 1) (E.d 10 0)) (Intact_R (((j6.out.mod d8.out iA).mod d6.out iA).mod d9.out iA) ((((HBS.o.mod g7.out iA).mod d8.out iA).mod d6.out iA).mod d9.out iA)) ?_
  rintro e x8 ⟨rfl,hm⟩
  refine ⟨_,rfl,?_⟩
  have x9:=hm.size
  have t0:=hid hm
  have o9:=hid (d9.out.goE hm)
  clear hm d9
  clear act E
  refine QSeq.pure rfl (.bool true) (fun E=>Bp rfl (E.d 8 3) (E.d 11 0) rfl) ?_
  refine qmv rfl 12 0 ?_
  refine QSeq.go fun act E=>?_
  refine Aj (args:=#[]) rfl ((Ag rfl rfl (E.sz 85 aM) (E.d 13 0)).trans rfl) rfl Tryz.func15 args0 (wakes06 _) ?_
  rintro e y0 ⟨rfl,hm⟩
  refine ⟨_,rfl,?_⟩
  have y5:=hm.size
  have t1:=hid hm
  have t2:=hid (o9.out.goE hm)
  clear hm o9
  clear act E
  refine QSeq.pure rfl (.bool true) (fun E=>Bp rfl (E.d 13 1) (E.d 14 0) rfl) ?_
  refine qas rfl 15 0 ?_
  clear t0 t1
  refine qe ?_
  clear HA0 c3 d5 o5 o6 o7 o8 a0
  go_wp2
  go_ret
  exact ⟨rfl,((((HMM.o.trans g7.out iB).trans d8.out iB).trans d6.out iB).trans t2.out iB)⟩
open Go Go.RowKit Go.Gv Go.ChangeShapes Go.WideShapes Go.ChangeAt Go.Deep
section
variable {H:Type} {enc:TypeId × Value→H} {W:World}
theorem trod_pair {t:TypeId} {fs:Array Field} {fuel:Nat} {cs:List Value} {x:DataW H × List MemPlace} (ht:Tryz.prog.underlying t=some (.struct fs)) (hs:fs.size=2) (h0:(fs[0]?).map (fun f=>(f.offset,f.type))=some (0,3)) (h1:(fs[1]?).map (fun f=>(f.offset,f.type))=some (1,3)) (hc:Tryz.prog.cellsOf t=2)
 (h:DataW.trod enc Tryz.prog W 0 (fun _=>true) true fuel t cs=some x):∃ a b:Int,cs=[.int .i64 a,.int .i64 b]∧I64 a∧I64 b:=by
 obtain ⟨xs,n,_,-,hl,hn,hf⟩:=DataW.trod_struct ht h
 rw [hc] at hl
 have hxs:xs.length=2:=hn.trans hs
 obtain ⟨q0,e0,hq0⟩:∃ f,fs[0]? = some f∧(f.offset,f.type)=(0,3):=by
  cases hh:fs[0]? with
  | none=>rw [hh] at h0;cases h0
  | some f=>rw [hh] at h0;exact ⟨f,rfl,Option.some.inj h0⟩
 obtain ⟨q1,e1,hq1⟩:∃ f,fs[1]? = some f∧(f.offset,f.type)=(1,3):=by
  cases hh:fs[1]? with
  | none=>rw [hh] at h1;cases h1
  | some f=>rw [hh] at h1;exact ⟨f,rfl,Option.some.inj h1⟩
 have f0:=hf 0 _ e0
 have f1:=hf 1 _ e1
 rw [show q0.offset=0 from congrArg Prod.fst hq0,show q0.type=3 from congrArg Prod.snd hq0] at f0
 rw [show q1.offset=1 from congrArg Prod.fst hq1,show q1.type=3 from congrArg Prod.snd hq1] at f1
 rw [List.getElem?_eq_getElem aL,show Tryz.prog.cellsOf 3=1 from by kernel_rfl] at f0 f1
 match cs,hl with
 | [c0,c1],_=>
  simp only [List.drop_zero,List.drop_succ_cons,List.take_succ_cons,List.take_zero] at f0 f1
  obtain ⟨p0,e0,_,w0⟩:=DataW.trod_int B9 f0
  obtain ⟨p1,e1,_,w1⟩:=DataW.trod_int B9 f1
  simp at e0 e1
  subst e0 e1
  exact ⟨p0,p1,rfl,bounds_i64 w0,bounds_i64 w1⟩
theorem cm_cells {fuel:Nat} {cs:List Value} {x:DataW H × List MemPlace} (h:DataW.trod enc Tryz.prog W 0 (fun _=>true) true fuel 29 cs=some x):∃ c:Cm,cs=c.cells∧c.OK:=by
 obtain ⟨xs,n,_,-,hl,hn,hf⟩:=DataW.trod_struct E7 h
 rw [show Tryz.prog.cellsOf 29=37 from by kernel_rfl] at hl
 have hxs:xs.length=4:=hn
 have f0:DataW.trod enc Tryz.prog W 0 (fun _=>true) true n 23 ((cs.drop 0).take (Tryz.prog.cellsOf 23))=xs[0]?:=hf 0 _ rfl
 have f1:DataW.trod enc Tryz.prog W 0 (fun _=>true) true n 25 ((cs.drop 2).take (Tryz.prog.cellsOf 25))=xs[1]?:=hf 1 _ rfl
 have f2:DataW.trod enc Tryz.prog W 0 (fun _=>true) true n 3 ((cs.drop 34).take (Tryz.prog.cellsOf 3))=xs[2]?:=hf 2 _ rfl
 have f3:DataW.trod enc Tryz.prog W 0 (fun _=>true) true n 27 ((cs.drop 35).take (Tryz.prog.cellsOf 27))=xs[3]?:=hf 3 _ rfl
 rw [List.getElem?_eq_getElem aL] at f0 f1 f2 f3
 obtain ⟨a,b,e0,h1,h2⟩:=trod_pair Tryz.underlying23 rfl rfl rfl aE f0
 obtain ⟨hs,e1,hb,hl32⟩:=trod_arr D8 Tryz.underlying5 aE aE f1
 obtain ⟨sa,sb,e3,h3,h4⟩:=trod_pair Tryz.underlying27 rfl rfl rfl aE f3
 rw [show Tryz.prog.cellsOf 23=2 from by kernel_rfl] at e0
 rw [show Tryz.prog.cellsOf 25=32 from by kernel_rfl] at e1
 rw [show Tryz.prog.cellsOf 3=1 from by kernel_rfl] at f2
 rw [show Tryz.prog.cellsOf 27=2 from by kernel_rfl] at e3
 obtain ⟨q,e2,_,w2⟩:=DataW.trod_int B9 f2
 refine ⟨⟨a,b,hs,q,sa,sb⟩,?_,⟨h1,h2,bounds_i64 w2,h3,h4⟩,hl32,hb⟩
 have d1:cs=cs.take 2 ++ cs.drop 2:=(List.take_append_drop 2 cs).symm
 have d2:cs.drop 2=(cs.drop 2).take 32 ++ cs.drop 34:=by conv=>lhs;rw [← List.take_append_drop 32 (cs.drop 2)];rw [List.drop_drop]
 have d3:cs.drop 34=(cs.drop 34).take 1 ++ cs.drop 35:=by conv=>lhs;rw [← List.take_append_drop 1 (cs.drop 34)];rw [List.drop_drop]
 have d4:cs.drop 35=(cs.drop 35).take 2:=(List.take_of_length_le (by rw [List.length_drop];omega)).symm
 rw [List.drop_zero] at e0
 rw [d1,d2,d3,d4,e0,e1,e2,e3]
 rfl
end
def segs (cs:List Value):Nat→List Nat→List (List Value)
 | _,[]=>[]
 | off,n :: ns=>(cs.drop off).take n :: segs cs (off+n) ns
theorem segs_all (cs:List Value):∀ (ns:List Nat) (off:Nat),cs.length=off+ns.sum→cs.drop off=(segs cs off ns).flatten
 | [],off,h=>by simp at h;simp [segs,List.drop_of_length_le (show cs.length≤off by omega)]
 | n :: ns,off,h=>by
  have ih:=segs_all cs ns (off+n) (by simp at h;omega)
  simp only [segs,List.flatten_cons]
  rw [← ih,← List.drop_drop,List.take_append_drop]
theorem seg_one {cs:List Value} {off:Nat} (h:off < cs.length):∃ v,(cs.drop off).take 1=[v]:=⟨cs[off],by rw [List.drop_eq_getElem_cons h];rfl⟩
/-- whatever reads as a T reads as one of A -/
def Reads {α:Type} (A:Rep α) (T:TypeId):Prop:=∀ (H:Type) (enc:TypeId × Value→H) (W:World) (fuel:Nat) (cs:List Value) (x:DataW H × List MemPlace),DataW.trod enc Tryz.prog W 0 (fun _=>true) true fuel T cs=some x→∃ a,A.rd (fun k=>k < W.heap.size) W cs a
theorem all_list {α:Type} {P:List Value→α→Prop}:∀ (css:List (List Value)),(∀ cs ∈ css,∃ a,P cs a)→∃ l:List α,l.length=css.length∧∀ (i:Nat) cs a,css[i]? = some cs→l[i]? = some a→P cs a
 | [],_=>⟨[],rfl,fun i cs a h=>by simp at h⟩
 | c :: r,h=>by
  obtain ⟨a,ha⟩:=h c bA
  obtain ⟨l,h1,h2⟩:=all_list r fun cs hcs=>h cs (by simp [hcs])
  refine ⟨a :: l,by simp [h1],fun i cs b hi hb=>?_⟩
  cases i with
  | zero=>simp at hi hb;subst hi hb;exact ha
  | succ i=>simp at hi hb;exact h2 i cs b hi hb
theorem trod_slice {α:Type} {A:Rep α} {t e:TypeId} {H:Type} {enc:TypeId × Value→H} {W:World} {fuel:Nat} {v:Value} {x:DataW H × List MemPlace} (hr:Reads A e) (ht:Tryz.prog.underlying t=some (.slice e)) (hce:Tryz.prog.cellsOf e=A.sz)
 (h:DataW.trod enc Tryz.prog W 0 (fun _=>true) true fuel t [v]=some x):∃ l:List α,RdS A (fun k=>k < W.heap.size) W v l:=by
 haveI:Inhabited {cs:List Value // cs.length=A.sz}:=⟨⟨List.replicate A.sz undef,by simp⟩⟩
 have hsh:∃ ao n cap,v=.slice ao n cap∧n≤cap∧cap≤maxLen∧(ao=none→cap=0):=by
  rcases open_slice ht h with ⟨hcs,_⟩|⟨a,len,cap,m,n,D,Pl,hcs,_,hl,hm,hmm,_,hel⟩
  ·simp at hcs;subst hcs;exact ⟨none,0,0,rfl,C0 _,Nat.zero_le _,fun _=>rfl⟩
  ·simp at hcs;subst hcs;simp only [if_true] at hmm;subst hmm;exact ⟨some a,len,_,rfl,hl,hm,fun h=>by cases h⟩
 obtain ⟨raws,h1,h2⟩:=trod_list (fun a:{cs:List Value // cs.length=A.sz}=>a.1) (fun a=>∃ y,A.rd (fun k=>k < W.heap.size) W a.1 y) ht hce A.pos (fun a=>a.2)
  (fun fuel cs x hx=>by obtain ⟨a,ha⟩:=hr H enc W fuel cs x hx;exact ⟨⟨cs,A.len ha⟩,rfl,a,ha⟩) h
 obtain ⟨l,hl,hP⟩:=all_list (P:=fun cs a=>A.rd (fun k=>k < W.heap.size) W cs a) (raws.map (·.1)) (fun cs hcs=>by obtain ⟨a,ha,rfl⟩:=List.mem_map.1 hcs;exact h2 a ha)
 have hl':l.length=raws.length:=by simpa using hl
 refine ⟨l,raws.map (·.1),by simp [hl'],hP,?_,?_⟩
 ·have hcl:∀ cs ∈ raws.map (·.1),cs.length=A.sz:=fun cs hcs=>by obtain ⟨a,_,rfl⟩:=List.mem_map.1 hcs;exact a.2
  have hfl:=flat_len hcl
  rcases h1 with ⟨rfl,ao,cap,rfl⟩|⟨g,o,cap,hg,rfl,h0,hc,hm,hcell⟩
  ·obtain ⟨ao',n',cap',e',g1,g2,g3⟩:=hsh
   cases e'
   obtain rfl:l=[]:=List.eq_nil_of_length_eq_zero (by simpa using hl')
   exact Rd.zero _ _ _ _ g2 g3
  ·rw [hl']
   refine Rd.mk hc hm (by rw [hfl];simp) fun j u hu=>?_
   have hj:=(List.getElem?_eq_some_iff.1 hu).1
   rw [hfl] at hj
   simp only [List.length_map] at hj
   have hq:j / A.sz < raws.length:=Nat.div_lt_of_lt_mul (by rw [Nat.mul_comm];exact hj)
   have hmod:=Nat.mod_lt j A.pos
   have hdm:=Nat.div_add_mod j A.sz
   have hgt:=flat_get hcl (j / A.sz) raws[j / A.sz].1 (by simp [List.getElem?_eq_getElem hq]) (j % A.sz) (raws[j / A.sz].1[j % A.sz]'(by rw [raws[j / A.sz].2];exact hmod)) (List.getElem?_eq_getElem _)
   rw [show j / A.sz * A.sz+j % A.sz=j by rw [Nat.mul_comm];exact hdm] at hgt
   rw [hgt] at hu
   have:=hcell (j / A.sz) hq (j % A.sz) u (by rw [List.getElem?_eq_getElem (by rw [raws[j / A.sz].2];exact hmod)];exact hu)
   rw [show o+j / A.sz * A.sz+j % A.sz=o+j by rw [Nat.add_assoc,Nat.mul_comm,hdm]] at this
   exact this
 ·intro h0 g hg
  rcases h1 with ⟨rfl,ao,cap,rfl⟩|⟨g',o,cap,hg',rfl,_⟩
  ·simp at hl';rw [hl'] at h0;simp at h0
  ·simp [Value.ownBlock] at hg;subst hg;exact hg'
theorem reads_arg {α:Type} {A:Rep α} {T:TypeId} (hr:Reads A T) {fs:Array Field} (hu:Tryz.prog.underlying T=some (.struct fs)) {H:Type} {enc:TypeId × Value→H} {W:World} {base:Nat} {v:Value} {d:DataW H} {p:List MemPlace} (hv':Value.okWide Tryz.prog W .any base T v)
 (h:DataW.Trod enc Tryz.prog W 0 (fun _=>true) true T v d p):∃ cs a,v=.agg cs.toArray∧A.rd (fun k=>k < W.heap.size) W cs a:=by
 obtain ⟨fuel,hf⟩:=h
 simp only [Value.okWide,hu] at hv'
 obtain ⟨cs,rfl,-,-⟩:=hv'
 obtain ⟨a,ha⟩:=hr _ _ _ _ _ _ hf
 exact ⟨_,a,(by congr 1),ha⟩
theorem reads_cm:Reads CmR 29:=fun H enc W fuel cs x h=>by obtain ⟨c,e,hok⟩:=cm_cells h;exact ⟨c,e,hok⟩
open Go.Proofs renaming Tryz.underlying32→va' in
open Go.Gv renaming n'32→vb' in
theorem reads_st:Reads StR 32:=
 fm18'
open Go.Proofs renaming Tryz.underlying37→va' in
open Go.Gv renaming n'37→vb' in
theorem reads_ak:Reads StR 37:=
 fm18'
theorem reads_vt:Reads VtR 49:=by
 intro H enc W fuel cs x h
 obtain ⟨xs,n,_,-,hl,hn,hf⟩:=DataW.trod_struct Tryz.underlying49 h
 rw [show Tryz.prog.cellsOf 49=38 from by kernel_rfl] at hl
 have hxs:xs.length=6:=hn
 have f0:DataW.trod enc Tryz.prog W 0 (fun _=>true) true n 3 ((cs.drop 0).take (Tryz.prog.cellsOf 3))=xs[0]?:=hf 0 _ rfl
 rw [List.getElem?_eq_getElem aL,show Tryz.prog.cellsOf 3=1 from by kernel_rfl] at f0
 have f1:DataW.trod enc Tryz.prog W 0 (fun _=>true) true n 3 ((cs.drop 1).take (Tryz.prog.cellsOf 3))=xs[1]?:=hf 1 _ rfl
 rw [List.getElem?_eq_getElem aL,show Tryz.prog.cellsOf 3=1 from by kernel_rfl] at f1
 have f2:DataW.trod enc Tryz.prog W 0 (fun _=>true) true n 3 ((cs.drop 2).take (Tryz.prog.cellsOf 3))=xs[2]?:=hf 2 _ rfl
 rw [List.getElem?_eq_getElem aL,show Tryz.prog.cellsOf 3=1 from by kernel_rfl] at f2
 have f3:DataW.trod enc Tryz.prog W 0 (fun _=>true) true n 3 ((cs.drop 3).take (Tryz.prog.cellsOf 3))=xs[3]?:=hf 3 _ rfl
 rw [List.getElem?_eq_getElem aL,show Tryz.prog.cellsOf 3=1 from by kernel_rfl] at f3
 have f4:DataW.trod enc Tryz.prog W 0 (fun _=>true) true n 25 ((cs.drop 4).take (Tryz.prog.cellsOf 25))=xs[4]?:=hf 4 _ rfl
 rw [List.getElem?_eq_getElem aL,show Tryz.prog.cellsOf 25=32 from by kernel_rfl] at f4
 have f5:DataW.trod enc Tryz.prog W 0 (fun _=>true) true n 27 ((cs.drop 36).take (Tryz.prog.cellsOf 27))=xs[5]?:=hf 5 _ rfl
 rw [List.getElem?_eq_getElem aL,show Tryz.prog.cellsOf 27=2 from by kernel_rfl] at f5
 obtain ⟨kd,e0,_,w0⟩:=DataW.trod_int B9 f0
 obtain ⟨ep,e1,_,w1⟩:=DataW.trod_int B9 f1
 obtain ⟨rn,e2,_,w2⟩:=DataW.trod_int B9 f2
 obtain ⟨rp,e3,_,w3⟩:=DataW.trod_int B9 f3
 obtain ⟨hh,e4,w4,w4'⟩:=trod_arr D8 Tryz.underlying5 aE aE f4
 obtain ⟨sb,mr,e5,w5,w5'⟩:=trod_pair Tryz.underlying27 rfl rfl rfl aE f5
 have hcs:=segs_all cs [1,1,1,1,32,2] 0 dF
 simp only [List.drop_zero,segs,List.flatten_cons,List.flatten_nil,List.append_nil,Nat.zero_add,Nat.reduceAdd,e0,e1,e2,e3,e4,e5] at hcs
 (try rw [List.drop_zero] at e0)
 (try simp only [e0] at hcs)
 exact ⟨⟨kd,ep,rn,rp,hh,sb,mr⟩,by rw [hcs];rfl,⟨bounds_i64 w0,bounds_i64 w1,bounds_i64 w2,bounds_i64 w3,⟨w4',w4⟩,w5,w5'⟩⟩
theorem reads_dn:Reads DnR 56:=by
 intro H enc W fuel cs x h
 obtain ⟨xs,n,_,-,hl,hn,hf⟩:=DataW.trod_struct Tryz.underlying56 h
 rw [show Tryz.prog.cellsOf 56=4 from by kernel_rfl] at hl
 have hxs:xs.length=3:=hn
 have f0:DataW.trod enc Tryz.prog W 0 (fun _=>true) true n 3 ((cs.drop 0).take (Tryz.prog.cellsOf 3))=xs[0]?:=hf 0 _ rfl
 rw [List.getElem?_eq_getElem aL,show Tryz.prog.cellsOf 3=1 from by kernel_rfl] at f0
 have f1:DataW.trod enc Tryz.prog W 0 (fun _=>true) true n 3 ((cs.drop 1).take (Tryz.prog.cellsOf 3))=xs[1]?:=hf 1 _ rfl
 rw [List.getElem?_eq_getElem aL,show Tryz.prog.cellsOf 3=1 from by kernel_rfl] at f1
 have f2:DataW.trod enc Tryz.prog W 0 (fun _=>true) true n 27 ((cs.drop 2).take (Tryz.prog.cellsOf 27))=xs[2]?:=hf 2 _ rfl
 rw [List.getElem?_eq_getElem aL,show Tryz.prog.cellsOf 27=2 from by kernel_rfl] at f2
 obtain ⟨rp,e0,_,w0⟩:=DataW.trod_int B9 f0
 obtain ⟨ix,e1,_,w1⟩:=DataW.trod_int B9 f1
 obtain ⟨sb,mr,e2,w2,w2'⟩:=trod_pair Tryz.underlying27 rfl rfl rfl aE f2
 have hcs:=segs_all cs [1,1,2] 0 dF
 simp only [List.drop_zero,segs,List.flatten_cons,List.flatten_nil,List.append_nil,Nat.zero_add,Nat.reduceAdd,e0,e1,e2] at hcs
 (try rw [List.drop_zero] at e0)
 (try simp only [e0] at hcs)
 exact ⟨⟨rp,ix,sb,mr⟩,by rw [hcs];rfl,⟨bounds_i64 w0,bounds_i64 w1,w2,w2'⟩⟩
theorem reads_ce:Reads CeR 35:=by
 intro H enc W fuel cs x h
 obtain ⟨xs,n,_,-,hl,hn,hf⟩:=DataW.trod_struct Tryz.underlying35 h
 rw [show Tryz.prog.cellsOf 35=38 from by kernel_rfl] at hl
 have hxs:xs.length=2:=hn
 have f0:DataW.trod enc Tryz.prog W 0 (fun _=>true) true n 29 ((cs.drop 0).take (Tryz.prog.cellsOf 29))=xs[0]?:=hf 0 _ rfl
 rw [List.getElem?_eq_getElem aL,show Tryz.prog.cellsOf 29=37 from by kernel_rfl] at f0
 have f1:DataW.trod enc Tryz.prog W 0 (fun _=>true) true n 33 ((cs.drop 37).take (Tryz.prog.cellsOf 33))=xs[1]?:=hf 1 _ rfl
 rw [List.getElem?_eq_getElem aL,show Tryz.prog.cellsOf 33=1 from by kernel_rfl] at f1
 obtain ⟨c,e0,w0⟩:=reads_cm _ _ _ _ _ _ f0
 obtain ⟨v,e1⟩:=seg_one (cs:=cs) (off:=37) aL
 rw [e1] at f1
 obtain ⟨l,w1⟩:=trod_slice reads_st Tryz.underlying33 aE f1
 have hcs:=segs_all cs [37,1] 0 dF
 simp only [List.drop_zero,segs,List.flatten_cons,List.flatten_nil,List.append_nil,Nat.zero_add,Nat.reduceAdd,e0,e1] at hcs
 (try rw [List.drop_zero] at e0)
 (try simp only [e0] at hcs)
 exact ⟨⟨c,l⟩,v,hcs,w0,w1⟩
theorem reads_pm:Reads PmR 40:=by
 intro H enc W fuel cs x h
 obtain ⟨xs,n,_,-,hl,hn,hf⟩:=DataW.trod_struct Tryz.underlying40 h
 rw [show Tryz.prog.cellsOf 40=6 from by kernel_rfl] at hl
 have hxs:xs.length=5:=hn
 have f0:DataW.trod enc Tryz.prog W 0 (fun _=>true) true n 3 ((cs.drop 0).take (Tryz.prog.cellsOf 3))=xs[0]?:=hf 0 _ rfl
 rw [List.getElem?_eq_getElem aL,show Tryz.prog.cellsOf 3=1 from by kernel_rfl] at f0
 have f1:DataW.trod enc Tryz.prog W 0 (fun _=>true) true n 3 ((cs.drop 1).take (Tryz.prog.cellsOf 3))=xs[1]?:=hf 1 _ rfl
 rw [List.getElem?_eq_getElem aL,show Tryz.prog.cellsOf 3=1 from by kernel_rfl] at f1
 have f2:DataW.trod enc Tryz.prog W 0 (fun _=>true) true n 30 ((cs.drop 2).take (Tryz.prog.cellsOf 30))=xs[2]?:=hf 2 _ rfl
 rw [List.getElem?_eq_getElem aL,show Tryz.prog.cellsOf 30=1 from by kernel_rfl] at f2
 have f3:DataW.trod enc Tryz.prog W 0 (fun _=>true) true n 38 ((cs.drop 3).take (Tryz.prog.cellsOf 38))=xs[3]?:=hf 3 _ rfl
 rw [List.getElem?_eq_getElem aL,show Tryz.prog.cellsOf 38=1 from by kernel_rfl] at f3
 have f4:DataW.trod enc Tryz.prog W 0 (fun _=>true) true n 27 ((cs.drop 4).take (Tryz.prog.cellsOf 27))=xs[4]?:=hf 4 _ rfl
 rw [List.getElem?_eq_getElem aL,show Tryz.prog.cellsOf 27=2 from by kernel_rfl] at f4
 obtain ⟨rp,e0,_,w0⟩:=DataW.trod_int B9 f0
 obtain ⟨ep,e1,_,w1⟩:=DataW.trod_int B9 f1
 obtain ⟨fl',e2,_,w2⟩:=DataW.trod_int E0 f2
 obtain ⟨fl,rfl,w2'⟩:=u64_nat w2
 obtain ⟨v,e3⟩:=seg_one (cs:=cs) (off:=3) aL
 rw [e3] at f3
 obtain ⟨l,w3⟩:=trod_slice reads_ce Tryz.underlying38 aE f3
 obtain ⟨sb,mr,e4,w4,w4'⟩:=trod_pair Tryz.underlying27 rfl rfl rfl aE f4
 have hcs:=segs_all cs [1,1,1,1,2] 0 dF
 simp only [List.drop_zero,segs,List.flatten_cons,List.flatten_nil,List.append_nil,Nat.zero_add,Nat.reduceAdd,e0,e1,e2,e3,e4] at hcs
 (try rw [List.drop_zero] at e0)
 (try simp only [e0] at hcs)
 exact ⟨⟨rp,ep,fl,l,sb,mr⟩,v,hcs,⟨bounds_i64 w0,bounds_i64 w1,w2',w4,w4'⟩,w3⟩
theorem reads_op:Reads OpR 54:=by
 intro H enc W fuel cs x h
 obtain ⟨xs,n,_,-,hl,hn,hf⟩:=DataW.trod_struct Tryz.underlying54 h
 rw [show Tryz.prog.cellsOf 54=34 from by kernel_rfl] at hl
 have hxs:xs.length=3:=hn
 have f0:DataW.trod enc Tryz.prog W 0 (fun _=>true) true n 3 ((cs.drop 0).take (Tryz.prog.cellsOf 3))=xs[0]?:=hf 0 _ rfl
 rw [List.getElem?_eq_getElem aL,show Tryz.prog.cellsOf 3=1 from by kernel_rfl] at f0
 have f1:DataW.trod enc Tryz.prog W 0 (fun _=>true) true n 52 ((cs.drop 1).take (Tryz.prog.cellsOf 52))=xs[1]?:=hf 1 _ rfl
 rw [List.getElem?_eq_getElem aL,show Tryz.prog.cellsOf 52=1 from by kernel_rfl] at f1
 have f2:DataW.trod enc Tryz.prog W 0 (fun _=>true) true n 25 ((cs.drop 2).take (Tryz.prog.cellsOf 25))=xs[2]?:=hf 2 _ rfl
 rw [List.getElem?_eq_getElem aL,show Tryz.prog.cellsOf 25=32 from by kernel_rfl] at f2
 obtain ⟨ix,e0,_,w0⟩:=DataW.trod_int B9 f0
 obtain ⟨v,e1⟩:=seg_one (cs:=cs) (off:=1) aL
 rw [e1] at f1
 obtain ⟨pl,w1⟩:=trod_bytes f1
 obtain ⟨hh,e2,w2,w2'⟩:=trod_arr D8 Tryz.underlying5 aE aE f2
 have hcs:=segs_all cs [1,1,32] 0 dF
 simp only [List.drop_zero,segs,List.flatten_cons,List.flatten_nil,List.append_nil,Nat.zero_add,Nat.reduceAdd,e0,e1,e2] at hcs
 (try rw [List.drop_zero] at e0)
 (try simp only [e0] at hcs)
 exact ⟨⟨ix,pl,hh⟩,v,hcs,⟨bounds_i64 w0,w2',w2⟩,w1⟩
theorem reads_tb:Reads TbR 127:=by
 intro H enc W fuel cs x h
 obtain ⟨xs,n,_,-,hl,hn,hf⟩:=DataW.trod_struct E4 h
 rw [show Tryz.prog.cellsOf 127=2 from by kernel_rfl] at hl
 have hxs:xs.length=2:=hn
 have f0:DataW.trod enc Tryz.prog W 0 (fun _=>true) true n 3 ((cs.drop 0).take (Tryz.prog.cellsOf 3))=xs[0]?:=hf 0 _ rfl
 rw [List.getElem?_eq_getElem aL,show Tryz.prog.cellsOf 3=1 from by kernel_rfl] at f0
 have f1:DataW.trod enc Tryz.prog W 0 (fun _=>true) true n 125 ((cs.drop 1).take (Tryz.prog.cellsOf 125))=xs[1]?:=hf 1 _ rfl
 rw [List.getElem?_eq_getElem aL,show Tryz.prog.cellsOf 125=1 from by kernel_rfl] at f1
 obtain ⟨ix,e0,_,w0⟩:=DataW.trod_int B9 f0
 obtain ⟨v,e1⟩:=seg_one (cs:=cs) (off:=1) aL
 rw [e1] at f1
 obtain ⟨l,w1⟩:=trod_slice reads_dn Tryz.underlying125 aE f1
 have hcs:=segs_all cs [1,1] 0 dF
 simp only [List.drop_zero,segs,List.flatten_cons,List.flatten_nil,List.append_nil,Nat.zero_add,Nat.reduceAdd,e0,e1] at hcs
 (try rw [List.drop_zero] at e0)
 (try simp only [e0] at hcs)
 exact ⟨⟨ix,l⟩,v,hcs,bounds_i64 w0,w1⟩
theorem reads_ba:Reads BaR 45:=by
 intro H enc W fuel cs x h
 obtain ⟨xs,n,_,-,hl,hn,hf⟩:=DataW.trod_struct C7 h
 rw [show Tryz.prog.cellsOf 45=5 from by kernel_rfl] at hl
 have hxs:xs.length=5:=hn
 have f0:DataW.trod enc Tryz.prog W 0 (fun _=>true) true n 3 ((cs.drop 0).take (Tryz.prog.cellsOf 3))=xs[0]?:=hf 0 _ rfl
 rw [List.getElem?_eq_getElem aL,show Tryz.prog.cellsOf 3=1 from by kernel_rfl] at f0
 have f1:DataW.trod enc Tryz.prog W 0 (fun _=>true) true n 30 ((cs.drop 1).take (Tryz.prog.cellsOf 30))=xs[1]?:=hf 1 _ rfl
 rw [List.getElem?_eq_getElem aL,show Tryz.prog.cellsOf 30=1 from by kernel_rfl] at f1
 have f2:DataW.trod enc Tryz.prog W 0 (fun _=>true) true n 41 ((cs.drop 2).take (Tryz.prog.cellsOf 41))=xs[2]?:=hf 2 _ rfl
 rw [List.getElem?_eq_getElem aL,show Tryz.prog.cellsOf 41=1 from by kernel_rfl] at f2
 have f3:DataW.trod enc Tryz.prog W 0 (fun _=>true) true n 42 ((cs.drop 3).take (Tryz.prog.cellsOf 42))=xs[3]?:=hf 3 _ rfl
 rw [List.getElem?_eq_getElem aL,show Tryz.prog.cellsOf 42=1 from by kernel_rfl] at f3
 have f4:DataW.trod enc Tryz.prog W 0 (fun _=>true) true n 43 ((cs.drop 4).take (Tryz.prog.cellsOf 43))=xs[4]?:=hf 4 _ rfl
 rw [List.getElem?_eq_getElem aL,show Tryz.prog.cellsOf 43=1 from by kernel_rfl] at f4
 obtain ⟨ep,e0,_,w0⟩:=DataW.trod_int B9 f0
 obtain ⟨tm',e1,_,w1⟩:=DataW.trod_int E0 f1
 obtain ⟨tm,rfl,w1'⟩:=u64_nat w1
 obtain ⟨vp,e2⟩:=seg_one (cs:=cs) (off:=2) aL
 rw [e2] at f2
 obtain ⟨ps,w2⟩:=trod_slice reads_pm Tryz.underlying41 aE f2
 obtain ⟨vo,e3⟩:=seg_one (cs:=cs) (off:=3) aL
 rw [e3] at f3
 obtain ⟨os,w3⟩:=trod_slice reads_op Tryz.underlying42 aE f3
 obtain ⟨vt,e4⟩:=seg_one (cs:=cs) (off:=4) aL
 rw [e4] at f4
 obtain ⟨ts,w4⟩:=trod_slice reads_tb D0 aE f4
 have hcs:=segs_all cs [1,1,1,1,1] 0 dF
 simp only [List.drop_zero,segs,List.flatten_cons,List.flatten_nil,List.append_nil,Nat.zero_add,Nat.reduceAdd,e0,e1,e2,e3,e4] at hcs
 (try rw [List.drop_zero] at e0)
 (try simp only [e0] at hcs)
 exact ⟨⟨ep,tm,ps,os,ts⟩,vp,vo,vt,hcs,⟨bounds_i64 w0,w1'⟩,w2,w3,w4⟩
theorem reads_pr:Reads PrR 47:=by
 intro H enc W fuel cs x h
 obtain ⟨xs,n,_,-,hl,hn,hf⟩:=DataW.trod_struct D4 h
 rw [show Tryz.prog.cellsOf 47=11 from by kernel_rfl] at hl
 have hxs:xs.length=6:=hn
 have f0:DataW.trod enc Tryz.prog W 0 (fun _=>true) true n 3 ((cs.drop 0).take (Tryz.prog.cellsOf 3))=xs[0]?:=hf 0 _ rfl
 rw [List.getElem?_eq_getElem aL,show Tryz.prog.cellsOf 3=1 from by kernel_rfl] at f0
 have f1:DataW.trod enc Tryz.prog W 0 (fun _=>true) true n 3 ((cs.drop 1).take (Tryz.prog.cellsOf 3))=xs[1]?:=hf 1 _ rfl
 rw [List.getElem?_eq_getElem aL,show Tryz.prog.cellsOf 3=1 from by kernel_rfl] at f1
 have f2:DataW.trod enc Tryz.prog W 0 (fun _=>true) true n 3 ((cs.drop 2).take (Tryz.prog.cellsOf 3))=xs[2]?:=hf 2 _ rfl
 rw [List.getElem?_eq_getElem aL,show Tryz.prog.cellsOf 3=1 from by kernel_rfl] at f2
 have f3:DataW.trod enc Tryz.prog W 0 (fun _=>true) true n 3 ((cs.drop 3).take (Tryz.prog.cellsOf 3))=xs[3]?:=hf 3 _ rfl
 rw [List.getElem?_eq_getElem aL,show Tryz.prog.cellsOf 3=1 from by kernel_rfl] at f3
 have f4:DataW.trod enc Tryz.prog W 0 (fun _=>true) true n 45 ((cs.drop 4).take (Tryz.prog.cellsOf 45))=xs[4]?:=hf 4 _ rfl
 rw [List.getElem?_eq_getElem aL,show Tryz.prog.cellsOf 45=5 from by kernel_rfl] at f4
 have f5:DataW.trod enc Tryz.prog W 0 (fun _=>true) true n 27 ((cs.drop 9).take (Tryz.prog.cellsOf 27))=xs[5]?:=hf 5 _ rfl
 rw [List.getElem?_eq_getElem aL,show Tryz.prog.cellsOf 27=2 from by kernel_rfl] at f5
 obtain ⟨ep,e0,_,w0⟩:=DataW.trod_int B9 f0
 obtain ⟨rn,e1,_,w1⟩:=DataW.trod_int B9 f1
 obtain ⟨vl,e2,_,w2⟩:=DataW.trod_int B9 f2
 obtain ⟨rp,e3,_,w3⟩:=DataW.trod_int B9 f3
 obtain ⟨ba,w4⟩:=reads_ba _ _ _ _ _ _ f4
 obtain ⟨vp,vo,vt,e4,w4,w4'⟩:=w4
 obtain ⟨sb,mr,e5,w5,w5'⟩:=trod_pair Tryz.underlying27 rfl rfl rfl aE f5
 have hcs:=segs_all cs [1,1,1,1,5,2] 0 dF
 simp only [List.drop_zero,segs,List.flatten_cons,List.flatten_nil,List.append_nil,Nat.zero_add,Nat.reduceAdd,e0,e1,e2,e3,e4,e5] at hcs
 (try rw [List.drop_zero] at e0)
 (try simp only [e0] at hcs)
 exact ⟨⟨ep,rn,vl,rp,ba,sb,mr⟩,vp,vo,vt,hcs,⟨bounds_i64 w0,bounds_i64 w1,bounds_i64 w2,bounds_i64 w3,w4,w5,w5'⟩,w4'⟩
theorem reads_dc:Reads DcR 59:=by
 intro H enc W fuel cs x h
 obtain ⟨xs,n,_,-,hl,hn,hf⟩:=DataW.trod_struct D9 h
 rw [show Tryz.prog.cellsOf 59=8 from by kernel_rfl] at hl
 have hxs:xs.length=4:=hn
 have f0:DataW.trod enc Tryz.prog W 0 (fun _=>true) true n 3 ((cs.drop 0).take (Tryz.prog.cellsOf 3))=xs[0]?:=hf 0 _ rfl
 rw [List.getElem?_eq_getElem aL,show Tryz.prog.cellsOf 3=1 from by kernel_rfl] at f0
 have f1:DataW.trod enc Tryz.prog W 0 (fun _=>true) true n 3 ((cs.drop 1).take (Tryz.prog.cellsOf 3))=xs[1]?:=hf 1 _ rfl
 rw [List.getElem?_eq_getElem aL,show Tryz.prog.cellsOf 3=1 from by kernel_rfl] at f1
 have f2:DataW.trod enc Tryz.prog W 0 (fun _=>true) true n 45 ((cs.drop 2).take (Tryz.prog.cellsOf 45))=xs[2]?:=hf 2 _ rfl
 rw [List.getElem?_eq_getElem aL,show Tryz.prog.cellsOf 45=5 from by kernel_rfl] at f2
 have f3:DataW.trod enc Tryz.prog W 0 (fun _=>true) true n 57 ((cs.drop 7).take (Tryz.prog.cellsOf 57))=xs[3]?:=hf 3 _ rfl
 rw [List.getElem?_eq_getElem aL,show Tryz.prog.cellsOf 57=1 from by kernel_rfl] at f3
 obtain ⟨ep,e0,_,w0⟩:=DataW.trod_int B9 f0
 obtain ⟨rn,e1,_,w1⟩:=DataW.trod_int B9 f1
 obtain ⟨ba,w2⟩:=reads_ba _ _ _ _ _ _ f2
 obtain ⟨vp,vo,vt,e2,w2,w2'⟩:=w2
 obtain ⟨vl,e3⟩:=seg_one (cs:=cs) (off:=7) aL
 rw [e3] at f3
 obtain ⟨l,w3⟩:=trod_slice reads_vt Tryz.underlying57 aE f3
 have hcs:=segs_all cs [1,1,5,1] 0 dF
 simp only [List.drop_zero,segs,List.flatten_cons,List.flatten_nil,List.append_nil,Nat.zero_add,Nat.reduceAdd,e0,e1,e2,e3] at hcs
 (try rw [List.drop_zero] at e0)
 (try simp only [e0] at hcs)
 exact ⟨⟨ep,rn,ba,l⟩,vp,vo,vt,vl,hcs,⟨bounds_i64 w0,bounds_i64 w1,w2⟩,w2'.1,w2'.2.1,w2'.2.2,w3⟩
theorem reads_en:Reads EnR 51:=by
 intro H enc W fuel cs x h
 obtain ⟨xs,n,_,-,hl,hn,hf⟩:=DataW.trod_struct Tryz.underlying51 h
 rw [show Tryz.prog.cellsOf 51=35 from by kernel_rfl] at hl
 have hxs:xs.length=3:=hn
 have f0:DataW.trod enc Tryz.prog W 0 (fun _=>true) true n 23 ((cs.drop 0).take (Tryz.prog.cellsOf 23))=xs[0]?:=hf 0 _ rfl
 rw [List.getElem?_eq_getElem aL,show Tryz.prog.cellsOf 23=2 from by kernel_rfl] at f0
 have f1:DataW.trod enc Tryz.prog W 0 (fun _=>true) true n 25 ((cs.drop 2).take (Tryz.prog.cellsOf 25))=xs[1]?:=hf 1 _ rfl
 rw [List.getElem?_eq_getElem aL,show Tryz.prog.cellsOf 25=32 from by kernel_rfl] at f1
 have f2:DataW.trod enc Tryz.prog W 0 (fun _=>true) true n 30 ((cs.drop 34).take (Tryz.prog.cellsOf 30))=xs[2]?:=hf 2 _ rfl
 rw [List.getElem?_eq_getElem aL,show Tryz.prog.cellsOf 30=1 from by kernel_rfl] at f2
 obtain ⟨cl,sq,e0,w0,w0'⟩:=trod_pair Tryz.underlying23 rfl rfl rfl aE f0
 obtain ⟨hh,e1,w1,w1'⟩:=trod_arr D8 Tryz.underlying5 aE aE f1
 obtain ⟨tm',e2,_,w2⟩:=DataW.trod_int E0 f2
 obtain ⟨tm,rfl,w2'⟩:=u64_nat w2
 have hcs:=segs_all cs [2,32,1] 0 dF
 simp only [List.drop_zero,segs,List.flatten_cons,List.flatten_nil,List.append_nil,Nat.zero_add,Nat.reduceAdd,e0,e1,e2] at hcs
 (try rw [List.drop_zero] at e0)
 (try simp only [e0] at hcs)
 exact ⟨⟨cl,sq,hh,tm⟩,(by first|exact hcs|(rw [hcs];rfl)),⟨w0,w0',⟨w1',w1⟩,w2'⟩⟩
theorem trod_str1 {H:Type} {enc:TypeId × Value→H} {W:World} {n:Nat} {cs:List Value} {x:DataW H × List MemPlace} (h:DataW.trod enc Tryz.prog W 0 (fun _=>true) true n 9 cs=some x):∃ s:ByteArray,cs=[.string s]:=by
 obtain ⟨s,hc,_,_⟩:=DataW.trod_string Tryz.underlying9 h
 exact ⟨s,hc⟩
theorem reads_mg:Reads MgR 61:=by
 intro H enc W fuel cs x h
 obtain ⟨xs,n,_,-,hl,hn,hf⟩:=DataW.trod_struct C1 h
 rw [show Tryz.prog.cellsOf 61=295 from by kernel_rfl] at hl
 have hxs:xs.length=19:=hn
 have f0:DataW.trod enc Tryz.prog W 0 (fun _=>true) true n 3 ((cs.drop 0).take (Tryz.prog.cellsOf 3))=xs[0]?:=hf 0 _ rfl
 rw [List.getElem?_eq_getElem aL,show Tryz.prog.cellsOf 3=1 from by kernel_rfl] at f0
 have f1:DataW.trod enc Tryz.prog W 0 (fun _=>true) true n 3 ((cs.drop 1).take (Tryz.prog.cellsOf 3))=xs[1]?:=hf 1 _ rfl
 rw [List.getElem?_eq_getElem aL,show Tryz.prog.cellsOf 3=1 from by kernel_rfl] at f1
 have f2:DataW.trod enc Tryz.prog W 0 (fun _=>true) true n 3 ((cs.drop 2).take (Tryz.prog.cellsOf 3))=xs[2]?:=hf 2 _ rfl
 rw [List.getElem?_eq_getElem aL,show Tryz.prog.cellsOf 3=1 from by kernel_rfl] at f2
 have f3:DataW.trod enc Tryz.prog W 0 (fun _=>true) true n 29 ((cs.drop 3).take (Tryz.prog.cellsOf 29))=xs[3]?:=hf 3 _ rfl
 rw [List.getElem?_eq_getElem aL,show Tryz.prog.cellsOf 29=37 from by kernel_rfl] at f3
 have f4:DataW.trod enc Tryz.prog W 0 (fun _=>true) true n 32 ((cs.drop 40).take (Tryz.prog.cellsOf 32))=xs[4]?:=hf 4 _ rfl
 rw [List.getElem?_eq_getElem aL,show Tryz.prog.cellsOf 32=38 from by kernel_rfl] at f4
 have f5:DataW.trod enc Tryz.prog W 0 (fun _=>true) true n 35 ((cs.drop 78).take (Tryz.prog.cellsOf 35))=xs[5]?:=hf 5 _ rfl
 rw [List.getElem?_eq_getElem aL,show Tryz.prog.cellsOf 35=38 from by kernel_rfl] at f5
 have f6:DataW.trod enc Tryz.prog W 0 (fun _=>true) true n 37 ((cs.drop 116).take (Tryz.prog.cellsOf 37))=xs[6]?:=hf 6 _ rfl
 rw [List.getElem?_eq_getElem aL,show Tryz.prog.cellsOf 37=38 from by kernel_rfl] at f6
 have f7:DataW.trod enc Tryz.prog W 0 (fun _=>true) true n 3 ((cs.drop 154).take (Tryz.prog.cellsOf 3))=xs[7]?:=hf 7 _ rfl
 rw [List.getElem?_eq_getElem aL,show Tryz.prog.cellsOf 3=1 from by kernel_rfl] at f7
 have f8:DataW.trod enc Tryz.prog W 0 (fun _=>true) true n 3 ((cs.drop 155).take (Tryz.prog.cellsOf 3))=xs[8]?:=hf 8 _ rfl
 rw [List.getElem?_eq_getElem aL,show Tryz.prog.cellsOf 3=1 from by kernel_rfl] at f8
 have f9:DataW.trod enc Tryz.prog W 0 (fun _=>true) true n 30 ((cs.drop 156).take (Tryz.prog.cellsOf 30))=xs[9]?:=hf 9 _ rfl
 rw [List.getElem?_eq_getElem aL,show Tryz.prog.cellsOf 30=1 from by kernel_rfl] at f9
 have f10:DataW.trod enc Tryz.prog W 0 (fun _=>true) true n 40 ((cs.drop 157).take (Tryz.prog.cellsOf 40))=xs[10]?:=hf 10 _ rfl
 rw [List.getElem?_eq_getElem aL,show Tryz.prog.cellsOf 40=6 from by kernel_rfl] at f10
 have f11:DataW.trod enc Tryz.prog W 0 (fun _=>true) true n 47 ((cs.drop 163).take (Tryz.prog.cellsOf 47))=xs[11]?:=hf 11 _ rfl
 rw [List.getElem?_eq_getElem aL,show Tryz.prog.cellsOf 47=11 from by kernel_rfl] at f11
 have f12:DataW.trod enc Tryz.prog W 0 (fun _=>true) true n 49 ((cs.drop 174).take (Tryz.prog.cellsOf 49))=xs[12]?:=hf 12 _ rfl
 rw [List.getElem?_eq_getElem aL,show Tryz.prog.cellsOf 49=38 from by kernel_rfl] at f12
 have f13:DataW.trod enc Tryz.prog W 0 (fun _=>true) true n 3 ((cs.drop 212).take (Tryz.prog.cellsOf 3))=xs[13]?:=hf 13 _ rfl
 rw [List.getElem?_eq_getElem aL,show Tryz.prog.cellsOf 3=1 from by kernel_rfl] at f13
 have f14:DataW.trod enc Tryz.prog W 0 (fun _=>true) true n 51 ((cs.drop 213).take (Tryz.prog.cellsOf 51))=xs[14]?:=hf 14 _ rfl
 rw [List.getElem?_eq_getElem aL,show Tryz.prog.cellsOf 51=35 from by kernel_rfl] at f14
 have f15:DataW.trod enc Tryz.prog W 0 (fun _=>true) true n 54 ((cs.drop 248).take (Tryz.prog.cellsOf 54))=xs[15]?:=hf 15 _ rfl
 rw [List.getElem?_eq_getElem aL,show Tryz.prog.cellsOf 54=34 from by kernel_rfl] at f15
 have f16:DataW.trod enc Tryz.prog W 0 (fun _=>true) true n 56 ((cs.drop 282).take (Tryz.prog.cellsOf 56))=xs[16]?:=hf 16 _ rfl
 rw [List.getElem?_eq_getElem aL,show Tryz.prog.cellsOf 56=4 from by kernel_rfl] at f16
 have f17:DataW.trod enc Tryz.prog W 0 (fun _=>true) true n 9 ((cs.drop 286).take (Tryz.prog.cellsOf 9))=xs[17]?:=hf 17 _ rfl
 rw [List.getElem?_eq_getElem aL,show Tryz.prog.cellsOf 9=1 from by kernel_rfl] at f17
 have f18:DataW.trod enc Tryz.prog W 0 (fun _=>true) true n 59 ((cs.drop 287).take (Tryz.prog.cellsOf 59))=xs[18]?:=hf 18 _ rfl
 rw [List.getElem?_eq_getElem aL,show Tryz.prog.cellsOf 59=8 from by kernel_rfl] at f18
 obtain ⟨kd,e0,_,w0⟩:=DataW.trod_int B9 f0
 obtain ⟨fr,e1,_,w1⟩:=DataW.trod_int B9 f1
 obtain ⟨to_,e2,_,w2⟩:=DataW.trod_int B9 f2
 obtain ⟨cm,e3,w3⟩:=reads_cm _ _ _ _ _ _ f3
 obtain ⟨st,e4,w4⟩:=reads_st _ _ _ _ _ _ f4
 obtain ⟨ce,w5⟩:=reads_ce _ _ _ _ _ _ f5
 obtain ⟨ak,e6,w6⟩:=reads_ak _ _ _ _ _ _ f6
 obtain ⟨ep,e7,_,w7⟩:=DataW.trod_int B9 f7
 obtain ⟨rn,e8,_,w8⟩:=DataW.trod_int B9 f8
 obtain ⟨tm',e9,_,w9⟩:=DataW.trod_int E0 f9
 obtain ⟨tm,rfl,w9'⟩:=u64_nat w9
 obtain ⟨pm,w10⟩:=reads_pm _ _ _ _ _ _ f10
 obtain ⟨pr,w11⟩:=reads_pr _ _ _ _ _ _ f11
 obtain ⟨vt,e12,w12⟩:=reads_vt _ _ _ _ _ _ f12
 obtain ⟨ix,e13,_,w13⟩:=DataW.trod_int B9 f13
 obtain ⟨en,e14,w14⟩:=reads_en _ _ _ _ _ _ f14
 obtain ⟨op,w15⟩:=reads_op _ _ _ _ _ _ f15
 obtain ⟨dn,e16,w16⟩:=reads_dn _ _ _ _ _ _ f16
 obtain ⟨rp,e17⟩:=trod_str1 f17
 obtain ⟨dc,w18⟩:=reads_dc _ _ _ _ _ _ f18
 have hcs:=segs_all cs [1,1,1,37,38,38,38,1,1,1,6,11,38,1,35,34,4,1,8] 0 dF
 simp only [List.drop_zero,segs,Nat.zero_add,Nat.reduceAdd,e1,e2,e3,e4,e6,e7,e8,e9,e12,e13,e14,e16,e17] at hcs
 (try rw [List.drop_zero] at e0)
 (try simp only [e0] at hcs)
 exact ⟨⟨kd,fr,to_,cm,st,ce,ak,ep,rn,tm,pm,pr,vt,ix,en,op,dn,rp,dc⟩,(cs.drop 78).take 38,(cs.drop 157).take 6,(cs.drop 163).take 11,(cs.drop 248).take 34,(cs.drop 287).take 8,hcs,⟨bounds_i64 w0,bounds_i64 w1,bounds_i64 w2,w3,w4,w6,bounds_i64 w7,bounds_i64 w8,w9',w12,bounds_i64 w13,w14,w16⟩,w5,w10,w11,w15,w18⟩
end Go.Proofs.YtnaoeginonpicaaGreat
namespace Go.Proofs.YtnaoeginonpicaaGreat.msgUnpacks
open Go Go.RowKit Go.Gv Go.ChangeShapes Go.WideShapes Go.ChangeAt
open Go.ChangeMaps (open_string shut_string)
theorem own:ownKnob Tryz.prog.godebug=none:=by kernel_rfl
theorem laidOut:laidOutB Tryz.prog=true:=by kernel_rfl
theorem lifted (os:Os) (started:os.Started) (H:Type) (enc:TypeId × Value→H) :
 ReturnsInHanded {} Tryz.checked os 3 .any (Rows.msgUnpacksSpec.pre6 enc Tryz.prog Tryz.f3 Rows.msgUnpacksRow.domain false) (Rows.msgUnpacksSpec.post enc Tryz.prog Tryz.f3 false true false false):=by
 refine returnsInHanded_of_change (C:=Tryz.checked) own started aE Tryz.func3
  (ChangeSpec.witness6 (enc:=enc) (C:=Tryz.checked) false ⟨#[],#[.agg zq0.toArray,.slice none 0 0,.int .i64 0,.int .i64 0,.int .u8 0],[]⟩ 8 aE aE aE aE) ?_
 intro W base args ds gs before hval0 hW hcnd _
 have hval:∀ (j:Nat) t v,Tryz.f3.params[j]? = some t→args[j]? = some v→Value.okWide Tryz.prog W .any base t v:=hval0
 have hW':=hW
 obtain ⟨p,q,hA0,hV,rfl,hfz,hnd⟩:=hW
 have hA:DataW.TrodAll enc Tryz.prog W 0 (fun _=>true) true Tryz.f3.params.toList args.toList ds p:=hA0
 rw [Tryz.params3] at hA hval
 obtain ⟨v0,vs0,d0,ds0,p0,q0,hargs,rfl,rfl,h0,r0⟩:=trodAll_cons hA
 obtain ⟨v1,vs1,d1,ds1,p1,q1,rfl,rfl,rfl,h1,r1⟩:=trodAll_cons r0
 obtain ⟨v2,vs2,d2,ds2,p2,q2,rfl,rfl,rfl,h2,r2⟩:=trodAll_cons r1
 obtain ⟨v3,vs3,d3,ds3,p3,q3,rfl,rfl,rfl,h3,r3⟩:=trodAll_cons r2
 obtain ⟨v4,vs4,d4,ds4,p4,q4,rfl,rfl,rfl,h4,r4⟩:=trodAll_cons r3
 obtain ⟨rfl,rfl,rfl⟩:=trodAll_nil r4
 obtain rfl:args=#[v0,v1,v2,v3,v4]:=by cases args;simp_all
 obtain ⟨rfl,rfl⟩:=trodVars_none hV
 have k0:=h0
 have lt0:∀ x ∈ p0,x.block < W.heap.size:=by obtain ⟨m,hm⟩:=k0;exact DataW.trod_lt m _ _ _ hm
 have k1:=h1
 have lt1:∀ x ∈ p1,x.block < W.heap.size:=by obtain ⟨m,hm⟩:=k1;exact DataW.trod_lt m _ _ _ hm
 have k2:=h2
 have lt2:∀ x ∈ p2,x.block < W.heap.size:=by obtain ⟨m,hm⟩:=k2;exact DataW.trod_lt m _ _ _ hm
 have k3:=h3
 have lt3:∀ x ∈ p3,x.block < W.heap.size:=by obtain ⟨m,hm⟩:=k3;exact DataW.trod_lt m _ _ _ hm
 have k4:=h4
 have lt4:∀ x ∈ p4,x.block < W.heap.size:=by obtain ⟨m,hm⟩:=k4;exact DataW.trod_lt m _ _ _ hm
 obtain ⟨cs0,x0,e0,n0⟩:=reads_arg reads_mg C1 (hval 0 61 v0 rfl rfl) h0
 subst e0
 obtain ⟨b1,w1,o1⟩:=bytes_of_trod (hval 1 52 v1 rfl rfl) h1
 obtain ⟨a2,rfl,rfl,rfl,w2⟩:=open_int B9 (hval 2 3 v2 rfl rfl) h2
 obtain ⟨a3,rfl,rfl,rfl,w3⟩:=open_int B9 (hval 3 3 v3 rfl rfl) h3
 obtain ⟨a4,rfl,rfl,rfl,w4⟩:=open_int Tryz.underlying5 (hval 4 5 v4 rfl rfl) h4
 clear hA0 hval0
 have hp1:RdR (fun k=>k < W.heap.size) b1.length W v1 b1:=⟨w1,w1.block_lt,C0 _⟩
 refine (LUnpacks_any (fun k=>k < W.heap.size) x0 cs0 v1 b1 b1.length a2 a3 a4 W n0 hp1 (i64_bd w2) (i64_bd w3) ⟨(bounds_u8 w4).1,by have:=(bounds_u8 w4).2;omega⟩ (fun _ h=>h)).mono fun e W' ⟨he,hmod⟩=>?_
 subst he
 have bel:Below W.heap.size W W':=hmod.below (C0 _) (fun _ _=>id)
 exact ⟨_,rfl,_,_,_,[],_,[],hW',trodAll_mk1 (shut_bool E8 _),(trodAll_cons_mk (Below.trod laidOut aE (of_decide_eq_true aE) k0 bel lt0) (trodAll_cons_mk (Below.trod laidOut aE (of_decide_eq_true aE) k1 bel lt1) (trodAll_cons_mk (Below.trod laidOut aE (of_decide_eq_true aE) k2 bel lt2) (trodAll_cons_mk (Below.trod laidOut aE (of_decide_eq_true aE) k3 bel lt3) (trodAll_cons_mk (Below.trod laidOut aE (of_decide_eq_true aE) k4 bel lt4) trodAll_mk0))))),rfl,bel.frame _,fun h=>by cases h⟩
theorem over:Rows.msgUnpacksRow.holds Tryz.pinned (OpenSpec.ofChange Rows.msgUnpacksSpec):=
 OpenClaim.holds_of_wide 3 Tryz.f3 rfl rfl rfl rfl rfl rfl rfl ⟨rfl,rfl,rfl,rfl,rfl⟩ rfl rfl rfl rfl rfl aE Tryz.func3 aE
  (of_decide_eq_true aE) (by unfold Func.isWrapper;first|(rw [if_pos (by decide +kernel)];kernel_rfl)|(rw [if_neg (by decide +kernel)];exact ⟨rfl,rfl⟩))
  (fun os started H enc _=>lifted os started H enc)
theorem proved:Rows.MsgUnpacksSaid:=over
end Go.Proofs.YtnaoeginonpicaaGreat.msgUnpacks
