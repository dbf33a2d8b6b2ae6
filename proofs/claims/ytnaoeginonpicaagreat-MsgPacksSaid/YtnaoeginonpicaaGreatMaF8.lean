/- Texts that are built one behind the other: XRp, XMa, XArg0, XArg, XArg2. No condition. -/
import Derived.Test.YtnaoeginonpicaaGreatMaF7
import Derived.Deep.CutBlock
set_option maxRecDepth 100000
set_option linter.unusedVariables false
open List renaming setIfInBounds_toArray → sIB, set_cons_zero → sCZ, set_cons_succ → sCS
/- gavelref01.Pack. -/
namespace Go.Proofs.YtnaoeginonpicaaGreat
open Go Go.RowKit Go.Gv
theorem st_bare (x:St):stB x=bareT x ++ sigB x.sb x.mr:=by simp only [stB,bareT,List.append_assoc]
theorem vt_bare (x:Vt):vtB x=bareV x ++ sigB x.sb x.mr:=by simp only [vtB,bareV,List.append_assoc]
theorem St_sg {x:St} (h:x.OK):(x.cells.drop 36).take 2=[.int .i64 x.sb,.int .i64 x.mr]:=by
 have:=h.h.1
 simp [St.cells,List.drop_append,this]
 rw [List.drop_eq_nil_of_le (by simp [this])]
 rfl
theorem Vt_sg {x:Vt} (h:x.OK):(x.cells.drop 36).take 2=[.int .i64 x.sb,.int .i64 x.mr]:=by
 have:=h.h.1
 simp [Vt.cells,List.drop_append,this]
theorem En_hs {x:En}:(x.cells.drop 2).take (x.h.map bv).length=x.h.map bv:=by simp [En.cells]
theorem En_tm {x:En} (h:x.OK):x.cells[34]? = some (.int .u64 (x.tm:Nat)):=by
 have:=h.h.1
 simp [En.cells,List.getElem?_append,this]
theorem I64_wrap5 (n:Int):I64 (IntKind.i64.wrap n):=by
 have:=bounds_i64 (wf_wrap .i64 n)
 unfold I64
 omega
theorem rdS_one {α:Type} {A:Rep α} {R:Nat→Prop} {w:World} {v:Value} {l:List α} (h:RdS A R w v l):v.oneCell'=true:=by
 obtain ⟨_,_,rfl⟩:=h.shape
 rfl
theorem one3 {a b c:Value} (ha:a.oneCell'=true) (hb:b.oneCell'=true) (hc:c.oneCell'=true):∀ v ∈ [a,b,c],v.oneCell'=true:=by
 simp only [List.mem_cons,List.not_mem_nil,or_false]
 rintro v (rfl|rfl|rfl)
 ·exact ha
 ·exact hb
 ·exact hc
theorem Vt_sgc {x:Vt} (h:x.OK) (j:Nat) (u:Value) (hu:([.int .i64 x.sb,.int .i64 x.mr]:List Value)[j]? = some u):x.cells[36+j]? = some u:=by
 rw [← Vt_sg h,List.getElem?_take] at hu
 by_cases hj:j < 2
 ·rw [if_pos hj,List.getElem?_drop] at hu;exact hu
 ·rw [if_neg hj] at hu;cases hu
set_option maxHeartbeats 8000000 in
theorem RefPack_Q:∀ (R2:Nat→Prop) (cs:List Value) (x:Mg) (w:World),MgR.rd R2 w cs x→(∀ k,R2 k→k < w.heap.size)→(Bj x).length≤900000→
 Calls Tryz.prog 6 #[.agg cs.toArray] w fun e w'=>∃ v,e=.returned (.tuple #[v,.bool (packs x)])∧OwR (New w w') 900000 w' v (if packs x=true then Bj x else [])∧Mod (fun _=>False) w w':=by
 intro R2 cs x w hx hB2 hl
 obtain ⟨RB,hRB⟩:∃ z,z=(if packs x=true then Bj x else []):=⟨_,rfl⟩
 rw [← hRB]
 obtain ⟨pk,hpk⟩:∃ z,z=packs x:=⟨_,rfl⟩
 rw [← hpk]
 have HRB:=Lib.hid hRB
 have HPK:=Lib.hid hpk
 clear hRB hpk
 obtain ⟨c5,c10,c11,c15,c18,rfl,hok,h5,h10,h11,h15,h18⟩:=hx
 have HC5:=hid (CeR.len h5)
 have HC10:=hid (PmR.len h10)
 have HC15:=hid (OpR.len h15)
 have HLN:=hid (Mg.lns hok h5 h10 h11 h15 h18)
 obtain ⟨p_ps,p_os,p_ts,rfl,hokp,hp0,hp1,hp2⟩:=h11
 obtain ⟨d_ps,d_os,d_ts,d_l,rfl,hokd,hd0,hd1,hd2,hd3⟩:=h18
 obtain ⟨aol,capl,rfl⟩:=hd3.shape
 have hbl:x.dc.l.length≤maxLen:=hd3.bd
 rw [Ax] at hbl
 have HIL:=hid (show I64 (x.dc.l.length:Int) by unfold I64;omega)
 clear hbl
 have H5:=Lib.hid h5
 have H10:=Lib.hid h10
 have H15:=Lib.hid h15
 have HP0:=Lib.hid hp0
 have HP1:=Lib.hid hp1
 have HP2:=Lib.hid hp2
 have HD0:=Lib.hid hd0
 have HD1:=Lib.hid hd1
 have HD2:=Lib.hid hd2
 have HD3:=Lib.hid hd3
 have HBT:=Lib.hid hB2
 have HOK:=Lib.hid hok
 have HOP:=Lib.hid hokp
 have HOD:=Lib.hid hokd
 have HL0:=hid (show (encI x.kd ++ (encI x.fr ++ encI x.to) ++ A8 x).length≤900000 by simpa only [Bj,List.append_assoc] using hl)
 clear hB2 hok hokp hokd hl h5 h10 h15 hp0 hp1 hp2 hd0 hd1 hd2 hd3
 go_enter Tryz.func6,Tryz.ntmps6
 go_upto_region 1 with (fail)
 obtain ⟨w1,hw1⟩:∃ zz,zz=(w.alloc (.cells ((Mg.segs x c5 c10 (x.pr.cells p_ps p_os p_ts) c15 (x.dc.cells d_ps d_os d_ts (Value.slice aol x.dc.l.length capl))).flatten:List Value).toArray 61)):=⟨_,rfl⟩
 change Code.wp _ _ _ _ (w.alloc (.cells ((Mg.segs x c5 c10 (x.pr.cells p_ps p_os p_ts) c15 (x.dc.cells d_ps d_os d_ts (Value.slice aol x.dc.l.length capl))).flatten:List Value).toArray 61))
 rw [← hw1]
 have HB1:=hid (show Cs w1 (w.heap.size) ((Mg.segs x c5 c10 (x.pr.cells p_ps p_os p_ts) c15 (x.dc.cells d_ps d_os d_ts (Value.slice aol x.dc.l.length capl))).flatten:List Value).toArray 61 by rw [hw1];exact Cs.new _ _ _)
 have hm:Mod (fun _=>False) w w1:=by rw [hw1];exact (Mod.refl _ _).alloc _
 have HM0:=hid (show Mod (fun _=>False) w w1 from hm.mono (fun _ _ h=>h.elim))
 have hs1:w1.heap.size=w.heap.size+1:=by rw [hw1];simp
 have Hx1:=hid (H5.out.mod hm (fun _ _ h=>h))
 clear H5
 have Hx2:=hid (H10.out.mod hm (fun _ _ h=>h))
 clear H10
 have Hx3:=hid (H15.out.mod hm (fun _ _ h=>h))
 clear H15
 have Hx4:=hid (HP0.out.mod hm (fun _ _ h=>h))
 clear HP0
 have Hx5:=hid (HP1.out.mod hm (fun _ _ h=>h))
 clear HP1
 have Hx6:=hid (HP2.out.mod hm (fun _ _ h=>h))
 clear HP2
 have Hx7:=hid (HD0.out.mod hm (fun _ _ h=>h))
 clear HD0
 have Hx8:=hid (HD1.out.mod hm (fun _ _ h=>h))
 clear HD1
 have Hx9:=hid (HD2.out.mod hm (fun _ _ h=>h))
 clear HD2
 have Hx10:=hid (HD3.out.mod hm (fun _ _ h=>h))
 clear HD3
 clear hw1 hm
 by_cases hk1:x.kd < 1
 ·skip
  go_upto_region 1 with (fail)
  refine Aa 227 [8,9,10,11,12,13,14,15] [0,1,2,3,4,5,6,7] (fun a0 HA0=>?_)
  have oe1:=ev HA0 1 rfl
  refine QSeq.pure rfl (.pointer (some ⟨w.heap.size,0,none⟩)) (fun E=>Ad rfl Tryz.underlying61 rfl (by kernel_rfl) (E.v oe1)) ?_
  refine QSeq.pure rfl (.int .i64 x.kd) (fun E=>Aj rfl Tryz.underlying3 rfl (E.d 0 0) (Cs.seg1 HB1.out HLN.out 0 rfl (o:=0) (k:=0) rfl rfl rfl)) ?_
  refine QSeq.pure rfl (.bool true) (fun E=>An rfl (E.d 1 0) rfl (Ag _ _ _ _ _ _) (A6 _ _ _ Tryz.underlying3) (congrArg Value.bool (decide_eq_true (by omega)))) ?_
  refine QSeq.pure rfl _ (fun E=>Ai rfl (E.d 2 0)) ?_
  refine QSeq.skip rfl (fun E=>((Ae rfl rfl (E.sz 11 (by decide)) (E.d 3 0)).trans rfl)) ?_
  refine QSeq.skip rfl (fun E=>((Ae rfl rfl (E.sz 11 (by decide)) (E.d 3 1)).trans rfl)) ?_
  refine QSeq.skip rfl (fun E=>((Ae rfl rfl (E.sz 11 (by decide)) (E.d 3 2)).trans rfl)) ?_
  refine QSeq.pure rfl (.bool true) (fun E=>ex_pick rfl (E.d 3 3) rfl (E.d 6 0)) ?_
  refine QSeq.nil (t':=[_,_,_,_,_,_,_,_]) rfl ?_
  obtain rfl:=HA0.out
  clear HA0 oe1
  simp only [pz,Act.put,sIB,sCZ,sCS]
  go_upto_region 2 with (fail)
  refine Aa 227 [2,3] [0,1] (fun a0 HA0=>?_)
  refine QSeq.pure rfl (.slice none 0 0) (fun E=>Af rfl rfl) ?_
  refine QSeq.pure rfl (.bool false) (fun E=>Af rfl rfl) ?_
  refine QSeq.nil (t':=[_,_]) rfl ?_
  obtain rfl:=HA0.out
  clear HA0
  simp only [pz,Act.put,sIB,sCZ,sCS]
  have HP:=hid (show packs x=false by unfold packs;rw [show okKd x.kd=false by unfold okKd;rw [decide_eq_false_iff_not];omega];rfl)
  go_wp2
  go_ret2
  exact ⟨.slice none 0 0,by rw [HPK.out,HP.out];rfl,by rw [show RB=[] by rw [HRB.out,HP.out];rfl];exact ⟨Own.nil _ _ _ _,(fun g h=>by cases h),Nat.zero_le _⟩,HM0.out⟩
 by_cases hk2:14 < x.kd
 ·skip
  go_upto_region 1 with (fail)
  refine Aa 227 [8,9,10,11,12,13,14,15] [0,1,2,3,4,5,6,7] (fun a0 HA0=>?_)
  have oe1:=ev HA0 1 rfl
  refine QSeq.pure rfl (.pointer (some ⟨w.heap.size,0,none⟩)) (fun E=>Ad rfl Tryz.underlying61 rfl (by kernel_rfl) (E.v oe1)) ?_
  refine QSeq.pure rfl (.int .i64 x.kd) (fun E=>Aj rfl Tryz.underlying3 rfl (E.d 0 0) (Cs.seg1 HB1.out HLN.out 0 rfl (o:=0) (k:=0) rfl rfl rfl)) ?_
  refine QSeq.pure rfl (.bool false) (fun E=>An rfl (E.d 1 0) rfl (Ag _ _ _ _ _ _) (A6 _ _ _ Tryz.underlying3) (congrArg Value.bool (decide_eq_false (by omega)))) ?_
  refine QSeq.pure rfl _ (fun E=>Ai rfl (E.d 2 0)) ?_
  refine QSeq.pureG rfl (.pointer (some ⟨w.heap.size,0,none⟩)) (fun E=>((Ae rfl rfl (E.sz 11 (by decide)) (E.d 3 0)).trans rfl)) (fun E=>Ad rfl Tryz.underlying61 rfl (by kernel_rfl) (E.v oe1)) ?_
  refine QSeq.pureG rfl (.int .i64 x.kd) (fun E=>((Ae rfl rfl (E.sz 11 (by decide)) (E.d 3 1)).trans rfl)) (fun E=>Aj rfl Tryz.underlying3 rfl (E.d 4 0) (Cs.seg1 HB1.out HLN.out 0 rfl (o:=0) (k:=0) rfl rfl rfl)) ?_
  refine QSeq.pureG rfl (.bool true) (fun E=>((Ae rfl rfl (E.sz 11 (by decide)) (E.d 3 2)).trans rfl)) (fun E=>An rfl (E.d 5 0) rfl (Ag _ _ _ _ _ _) (run_gtr_i _ _ _ Tryz.underlying3) (congrArg Value.bool (decide_eq_true (by omega)))) ?_
  refine QSeq.pure rfl (.bool true) (fun E=>ex_pick rfl (E.d 3 3) rfl (E.d 6 0)) ?_
  refine QSeq.nil (t':=[_,_,_,_,_,_,_,_]) rfl ?_
  obtain rfl:=HA0.out
  clear HA0 oe1
  simp only [pz,Act.put,sIB,sCZ,sCS]
  go_upto_region 2 with (fail)
  refine Aa 227 [2,3] [0,1] (fun a0 HA0=>?_)
  refine QSeq.pure rfl (.slice none 0 0) (fun E=>Af rfl rfl) ?_
  refine QSeq.pure rfl (.bool false) (fun E=>Af rfl rfl) ?_
  refine QSeq.nil (t':=[_,_]) rfl ?_
  obtain rfl:=HA0.out
  clear HA0
  simp only [pz,Act.put,sIB,sCZ,sCS]
  have HP:=hid (show packs x=false by unfold packs;rw [show okKd x.kd=false by unfold okKd;rw [decide_eq_false_iff_not];omega];rfl)
  go_wp2
  go_ret2
  exact ⟨.slice none 0 0,by rw [HPK.out,HP.out];rfl,by rw [show RB=[] by rw [HRB.out,HP.out];rfl];exact ⟨Own.nil _ _ _ _,(fun g h=>by cases h),Nat.zero_le _⟩,HM0.out⟩
 go_upto_region 1 with (fail)
 refine Aa 227 [8,9,10,11,12,13,14,15] [0,1,2,3,4,5,6,7] (fun a0 HA0=>?_)
 have oe1:=ev HA0 1 rfl
 refine QSeq.pure rfl (.pointer (some ⟨w.heap.size,0,none⟩)) (fun E=>Ad rfl Tryz.underlying61 rfl (by kernel_rfl) (E.v oe1)) ?_
 refine QSeq.pure rfl (.int .i64 x.kd) (fun E=>Aj rfl Tryz.underlying3 rfl (E.d 0 0) (Cs.seg1 HB1.out HLN.out 0 rfl (o:=0) (k:=0) rfl rfl rfl)) ?_
 refine QSeq.pure rfl (.bool false) (fun E=>An rfl (E.d 1 0) rfl (Ag _ _ _ _ _ _) (A6 _ _ _ Tryz.underlying3) (congrArg Value.bool (decide_eq_false (by omega)))) ?_
 refine QSeq.pure rfl _ (fun E=>Ai rfl (E.d 2 0)) ?_
 refine QSeq.pureG rfl (.pointer (some ⟨w.heap.size,0,none⟩)) (fun E=>((Ae rfl rfl (E.sz 11 (by decide)) (E.d 3 0)).trans rfl)) (fun E=>Ad rfl Tryz.underlying61 rfl (by kernel_rfl) (E.v oe1)) ?_
 refine QSeq.pureG rfl (.int .i64 x.kd) (fun E=>((Ae rfl rfl (E.sz 11 (by decide)) (E.d 3 1)).trans rfl)) (fun E=>Aj rfl Tryz.underlying3 rfl (E.d 4 0) (Cs.seg1 HB1.out HLN.out 0 rfl (o:=0) (k:=0) rfl rfl rfl)) ?_
 refine QSeq.pureG rfl (.bool false) (fun E=>((Ae rfl rfl (E.sz 11 (by decide)) (E.d 3 2)).trans rfl)) (fun E=>An rfl (E.d 5 0) rfl (Ag _ _ _ _ _ _) (run_gtr_i _ _ _ Tryz.underlying3) (congrArg Value.bool (decide_eq_false (by omega)))) ?_
 refine QSeq.pure rfl (.bool false) (fun E=>ex_pick rfl (E.d 3 3) rfl (E.d 6 0)) ?_
 refine QSeq.nil (t':=[_,_,_,_,_,_,_,_]) rfl ?_
 obtain rfl:=HA0.out
 clear HA0 oe1
 simp only [pz,Act.put,sIB,sCZ,sCS]
 have HK:=hid (show okKd x.kd=true by unfold okKd;rw [decide_eq_true_eq];omega)
 have HL:=hid (show (encI x.kd ++ (encI x.fr ++ encI x.to)).length≤900000 by have:=HL0.out;simp only [List.length_append] at this ⊢; omega)
 go_upto_region 3 with (fail)
 generalize ha0:Act.mk _ _=a0
 have oe1:a0.eval (.tmp 1)=.pointer (some ⟨w.heap.size,0,none⟩):=by rw [← ha0];rfl
 have hsz0:a0.tmps.size=227:=by rw [← ha0];rfl
 have HA0:=hid ha0
 clear ha0
 refine A1 227 hsz0 [16,17,18,19,20,21,22,23,24,25,26,4] [qi (.pointer (some ⟨w.heap.size,0,none⟩)),qi (.int .i64 x.kd),qv 0,qi (.pointer (some ⟨w.heap.size,1,none⟩)),qi (.int .i64 x.fr),qv 1,qi (.pointer (some ⟨w.heap.size,2,none⟩)),qi (.int .i64 x.to),qv 2,qv 3,qv 4,qv 4] ⟨Ab,Ab,Ak,Ab,Ab,Ak,Ab,Ab,Ak,Ak,Ak,Ak,trivial⟩ [2,5,8,9,10] ⟨?_,?_,?_,?_,?_,?_,?_,?_,?_,?_,?_,?_,trivial⟩ ?_
 ·exact stq (fun E=>Ad rfl Tryz.underlying61 rfl (by kernel_rfl) (E.v oe1))
 ·exact stq (fun E=>Aj rfl Tryz.underlying3 rfl (E.d 0) (Cs.seg1 (HB1.out.mod E.m.old (by intro h2;omega)) HLN.out 0 rfl (o:=0) (k:=0) rfl rfl rfl))
 ·exact Ah rfl
 ·exact stq (fun E=>Ad rfl Tryz.underlying61 rfl (by kernel_rfl) (E.v oe1))
 ·exact stq (fun E=>Aj rfl Tryz.underlying3 rfl (E.d 3) (Cs.seg1 (HB1.out.mod E.m.old (by intro h2;omega)) HLN.out 1 rfl (o:=1) (k:=0) rfl rfl rfl))
 ·exact Ah rfl
 ·exact stq (fun E=>Ad rfl Tryz.underlying61 rfl (by kernel_rfl) (E.v oe1))
 ·exact stq (fun E=>Aj rfl Tryz.underlying3 rfl (E.d 6) (Cs.seg1 (HB1.out.mod E.m.old (by intro h2;omega)) HLN.out 2 rfl (o:=2) (k:=0) rfl rfl rfl))
 ·exact Ah rfl
 ·exact Ah rfl
 ·exact Ah rfl
 ·refine Av rfl rfl rfl fun _ _ _ _ _ _ _ _ _ hd _ _=>?_
  have h10:=hd ⟨10,.data⟩ (by simp) rfl _ rfl
  exact Bd rfl (Ac rfl) (Af rfl rfl) QE.refl h10
 intro u3_0 hr
 have zu3_0:=hr.size
 have Cx11:=hid (hr.new (S:=(fun _=>False)))
 clear hr
 refine QChain.go fun Z act E=>?_
 refine Ap (args:=#[.int .i64 x.kd]) rfl (Ac rfl) rfl Tryz.func22 (Aw (E.d 1)) (A9 _ HOK.out.kd _) ?_
 rintro e u3_1a ⟨v_a1,rfl,qa1,hm⟩
 obtain ⟨ao_a1,cap_a1,rfl⟩:=qa1.shape
 have zu3_1a:=hm.size
 refine ⟨_,rfl,hm.mono (fun _ _ h=>h.elim),(fun _=>rfl),?_⟩
 intro u3_1 hr
 have zu3_1:=hr.size
 have Hx12:=hid ((qa1.widen (R':=(fun k=>(New u3_0 u3_1a k))) (fun _ h=>h) (Nat.le_refl _)).mod hr (by intro k h1 h2;omega))
 have Cx13:=hid (Cx11.out.go hm hr)
 clear Cx11 hm hr Z act E qa1
 refine QChain.go fun Z act E=>?_
 refine Ap (args:=#[.int .i64 x.fr]) rfl (Ac rfl) rfl Tryz.func22 (Aw (E.d 4)) (A9 _ HOK.out.fr _) ?_
 rintro e u3_2a ⟨v_a2,rfl,qa2,hm⟩
 obtain ⟨ao_a2,cap_a2,rfl⟩:=qa2.shape
 have zu3_2a:=hm.size
 refine ⟨_,rfl,hm.mono (fun _ _ h=>h.elim),(fun _=>rfl),?_⟩
 intro u3_2 hr
 have zu3_2:=hr.size
 have Hx14:=hid ((qa2.widen (R':=(fun k=>(New u3_1 u3_2a k))) (fun _ h=>h) (Nat.le_refl _)).mod hr (by intro k h1 h2;omega))
 have hmr:=Mod.after hm hr
 have Hx15:=hid (Hx12.out.mod hmr (by intro k h1 h2;omega))
 clear Hx12
 clear hmr
 have Cx16:=hid (Cx13.out.go hm hr)
 clear Cx13 hm hr Z act E qa2
 refine QChain.go fun Z act E=>?_
 refine Ap (args:=#[.int .i64 x.to]) rfl (Ac rfl) rfl Tryz.func22 (Aw (E.d 7)) (A9 _ HOK.out.to _) ?_
 rintro e u3_3a ⟨v_a3,rfl,qa3,hm⟩
 obtain ⟨ao_a3,cap_a3,rfl⟩:=qa3.shape
 have zu3_3a:=hm.size
 refine ⟨_,rfl,hm.mono (fun _ _ h=>h.elim),(fun _=>rfl),?_⟩
 intro u3_3 hr
 have zu3_3:=hr.size
 have Hx17:=hid ((qa3.widen (R':=(fun k=>(New u3_2 u3_3a k))) (fun _ h=>h) (Nat.le_refl _)).mod hr (by intro k h1 h2;omega))
 have hmr:=Mod.after hm hr
 have Hx18:=hid (Hx15.out.mod hmr (by intro k h1 h2;omega))
 have Hx19:=hid (Hx14.out.mod hmr (by intro k h1 h2;omega))
 clear Hx15 Hx14
 clear hmr
 have Cx20:=hid (Cx16.out.go hm hr)
 clear Cx16 hm hr Z act E qa3
 refine QChain.go fun Z act E=>?_
 have ea18:act.eval (.tmp 18)=.slice ao_a1 ((encI x.kd).length) cap_a1:=(chv (v:=.slice ao_a1 ((encI x.kd).length) cap_a1) (E.d 2))
 have ea21:act.eval (.tmp 21)=.slice ao_a2 ((encI x.fr).length) cap_a2:=(chv (v:=.slice ao_a2 ((encI x.fr).length) cap_a2) (E.d 5))
 have ea24:act.eval (.tmp 24)=.slice ao_a3 ((encI x.to).length) cap_a3:=(chv (v:=.slice ao_a3 ((encI x.to).length) cap_a3) (E.d 8))
 refine Bl rfl (Ac rfl) rfl Tryz.underlying124 (by decide) (C:=#[.slice ao_a1 ((encI x.kd).length) cap_a1,.slice ao_a2 ((encI x.fr).length) cap_a2,.slice ao_a3 ((encI x.to).length) cap_a3]) (by simp only [List.map_toArray,List.map_cons,List.map_nil,ea18,ea21,ea24];kernel_rfl) ?_
 intro u3_4a qrow9 hm
 have zl3_9:=qrow9.lt
 have zu3_4a:=hm.size
 refine ⟨hm.mono (fun _ _ h=>h.elim),(fun _=>rfl),?_⟩
 intro u3_4 hr
 have zu3_4:=hr.size
 have Hx21:=hid (qrow9.mod hr (by intro h2;omega))
 have hmr:=Mod.after hm hr
 have Hx22:=hid (Hx18.out.mod hmr (by intro k h1 h2;omega))
 have Hx23:=hid (Hx19.out.mod hmr (by intro k h1 h2;omega))
 have Hx24:=hid (Hx17.out.mod hmr (by intro k h1 h2;omega))
 clear Hx18 Hx19 Hx17
 clear hmr
 have Cx25:=hid (Cx20.out.go hm hr)
 clear Cx20 hm hr Z act E qrow9 ea18 ea21 ea24
 refine QChain.go fun Z act E=>?_
 refine Ap (args:=#[.slice (some ⟨u3_3.heap.size,0,none⟩) 3 3]) rfl (Ac rfl) rfl Tryz.func21 (Aw (chv (v:=.slice (some ⟨u3_3.heap.size,0,none⟩) 3 3) (E.d 9))) (Join_Q (n:=3)  Hx21.out [(.slice ao_a1 ((encI x.kd).length) cap_a1,encI x.kd),(.slice ao_a2 ((encI x.fr).length) cap_a2,encI x.fr),(.slice ao_a3 ((encI x.to).length) cap_a3,encI x.to)] rfl rfl (by intro p hp;simp only [List.mem_cons,List.not_mem_nil,or_false] at hp;rcases hp with rfl|rfl|rfl<;>first|exact Hx22.out.rd.1|exact Hx23.out.rd.1|exact Hx24.out.rd.1) (by simp) (show flat _=encI x.kd ++ (encI x.fr ++ encI x.to) from by simp only [flat,List.map_cons,List.map_nil,List.flatten_cons,List.flatten_nil,List.append_nil]) (by have:=HL.out;simp only [List.length_append] at this ⊢; omega)) ?_
 rintro e u3_5a ⟨v_join1,rfl,qjoin1,hm⟩
 have zu3_5a:=hm.size
 refine ⟨_,rfl,hm.mono (fun _ _ h=>h.elim),(fun _=>rfl),?_⟩
 intro u3_5 hr
 have zu3_5:=hr.size
 have Hx26:=hid ((qjoin1.widen (R':=(fun k=>(New u3_4 u3_5a k))) (fun _ h=>h) (Nat.le_refl _)).mod hr (by intro k h1 h2;omega))
 have hmr:=Mod.after hm hr
 have Hx27:=hid (Hx22.out.mod hmr (by intro k h1 h2;omega))
 have Hx28:=hid (Hx23.out.mod hmr (by intro k h1 h2;omega))
 have Hx29:=hid (Hx24.out.mod hmr (by intro k h1 h2;omega))
 have Hx30:=hid (Hx21.out.mod hmr (by intro h2;omega))
 clear Hx22 Hx23 Hx24 Hx21
 clear hmr
 have Cx31:=hid (Cx25.out.go hm hr)
 clear Cx25 hm hr Z act E qjoin1
 refine QChain.nil fun vs hl hzz hrows hne=>?_
 obtain ⟨Z,hYZ,hZb,hV⟩:=hzz
 have f2:=fvc hV hl 2
 have f5:=fvc hV hl 5
 have f8:=fvc hV hl 8
 have f9:=fvc hV hl 9
 have f10:=fvc hV hl 10
 have f11:=fvc hV hl 11
 rw [show vs=[gw vs 0,gw vs 1,gw vs 2,gw vs 3,gw vs 4,gw vs 5,gw vs 6,gw vs 7,gw vs 8,gw vs 9,gw vs 10,gw vs 11] from (Be hl).trans rfl]
 have ha0:=HA0.out
 subst ha0
 clear HA0 hV hYZ hZb hsz0 hrows hne oe1
 simp only [Au,Act.put,sIB,sCZ,sCS,f2,f5,f8,f9,f10,f11]
 clear hl f2 f5 f8 f9 f10 f11
 obtain ⟨BJ,hbj⟩:∃ z,z=encI x.kd ++ (encI x.fr ++ encI x.to):=⟨_,rfl⟩
 have hq:=Hx26.out
 rw [← hbj] at hq
 obtain ⟨aoj,capj,rfl⟩:=hq.shape
 have HJ:=Lib.hid hq
 have HBJ:=Lib.hid hbj
 clear hq hbj Hx26
 clear HL
 go_upto_region 4 with (fail)
 refine Aa 227 [27,28] [0,1] (fun a0 HA0=>?_)
 have oe1:=ev HA0 1 rfl
 refine QSeq.pure rfl (.pointer (some ⟨w.heap.size,0,none⟩)) (fun E=>Ad rfl Tryz.underlying61 rfl (by kernel_rfl) (E.v oe1)) ?_
 refine QSeq.pure rfl (.int .i64 x.kd) (fun E=>Aj rfl Tryz.underlying3 rfl (E.d 0 0) (Cs.seg1 (HB1.out.mod Cx31.out (fun h=>h)) HLN.out 0 rfl (o:=0) (k:=0) rfl rfl rfl)) ?_
 refine QSeq.nil (t':=[_,_]) rfl ?_
 obtain rfl:=HA0.out
 clear HA0 oe1
 simp only [pz,Act.put,sIB,sCZ,sCS]
 go_upto_block 0 with (fail)
 go_cut [4,5,6,7] from 29 (fun t4 t5 t6 t7 w'=>OwR (New w w') 900000 w' t4 (Bj x)∧Mod (fun _=>False) w w')
 case first=>
  by_cases h1:x.kd=1
  ·have KK:=Lib.hid h1
   clear h1
   go_upto_region 5 with (fail)
   refine Aa 227 [30,29] [0,1] (fun a0 HA0=>?_)
   have oe28:=ev HA0 28 rfl
   refine QSeq.pure rfl (.bool true) (fun E=>An rfl (E.v oe28) rfl (Ag _ _ _ _ _ _) (Al _ _ _ Tryz.underlying3) (congrArg Value.bool (Bi KK.out))) ?_
   refine QSeq.pure rfl _ (fun E=>Af rfl (E.d 0 0)) ?_
   refine QSeq.nil (t':=[_,_]) rfl ?_
   obtain rfl:=HA0.out
   clear HA0 oe28
   simp only [pz,Act.put,sIB,sCZ,sCS]
   have HE:=hid (show A8 x=cmB x.cm by unfold A8;rw [KK.out];rfl)
   have HL:=hid (show (BJ ++ (cmB x.cm)).length≤900000 by have h:=HL0.out;rw [HE.out,← HBJ.out] at h;exact h)
   go_upto_region 6 with (fail)
   refine Aa 227 [31,32,33,34,35,36,4] [0,1,2,3,4,5,6] (fun a0 HA0=>?_)
   have oe1:=ev HA0 1 rfl
   have oe4:=ev HA0 4 rfl
   refine QSeq.pure rfl _ (fun E=>Ai rfl (E.y 6 oe4)) ?_
   refine QSeq.pure rfl (.pointer (some ⟨w.heap.size,3,none⟩)) (fun E=>Ad rfl Tryz.underlying61 rfl (by kernel_rfl) (E.v oe1)) ?_
   refine QSeq.pure rfl _ (fun E=>Am rfl Tryz.underlying29 rfl (off:=3) (cs:=(x.cm.cells)) (by rw [Cm.len HOK.out.cm.2.1];exact size_commit) (E.d 1 0) (Cs.seg (HB1.out.mod Cx31.out (fun h=>h)) HLN.out 3 rfl rfl)) ?_
   refine QSeq.call rfl rfl Tryz.func23 (RefCm_Q (fun _=>False) _ x.cm _ ⟨rfl,HOK.out.cm⟩ (fun _ h=>h.elim) (by have:=HL.out;simp only [List.length_append] at this ⊢; omega)) (fun E=>Aw (E.d 2 0)) ?_
   rintro e u6_3 ⟨v_a4,rfl,qa4,hm⟩
   obtain ⟨ao_a4,cap_a4,rfl⟩:=qa4.shape
   refine ⟨_,rfl,?_⟩
   have Hx32:=hid qa4
   have zu6_3:=hm.size
   have Cx33:=hid (show Mod (fun _=>False) u3_5 u6_3 from hm)
   clear hm
   clear qa4
   refine QSeq.go fun act E=>?_
   have ea31:act.eval (.tmp 31)=.slice aoj (BJ.length) capj:=(E.d 0 3)
   have ea34:act.eval (.tmp 34)=.slice ao_a4 ((cmB x.cm).length) cap_a4:=(E.d 3 0)
   refine Bl rfl (Ac rfl) rfl Tryz.underlying124 (by decide) (C:=#[.slice aoj (BJ.length) capj,.slice ao_a4 ((cmB x.cm).length) cap_a4]) (by simp only [List.map_toArray,List.map_cons,List.map_nil,ea31,ea34];kernel_rfl) ?_
   intro u6_4 qrow4 hm
   have zl6_4:=qrow4.lt
   have Hx34:=hid qrow4
   have zu6_4:=hm.size
   have HMu6_4:=hid hm
   have Cx35:=hid (Cx33.out.goE hm)
   clear hm Cx33
   clear act E qrow4 ea31 ea34
   refine QSeq.call rfl rfl Tryz.func21 (Join_Q (n:=2)  Hx34.out [(.slice aoj (BJ.length) capj,BJ),(.slice ao_a4 ((cmB x.cm).length) cap_a4,cmB x.cm)] rfl rfl (by intro p hp;simp only [List.mem_cons,List.not_mem_nil,or_false] at hp;rcases hp with rfl|rfl<;>first|exact (HJ.out.mod Cx35.out (fun _ _ h=>h)).rd.1|exact (Hx32.out.mod HMu6_4.out (fun _ _ h=>h)).rd.1) (by simp) (show flat _=BJ ++ cmB x.cm from by simp only [flat,List.map_cons,List.map_nil,List.flatten_cons,List.flatten_nil,List.append_nil]) (by have:=HL.out;simp only [List.length_append] at this ⊢; omega)) (fun E=>Aw (E.d 4 0)) ?_
   rintro e u6_5 ⟨v_join2,rfl,qjoin2,hm⟩
   refine ⟨_,rfl,?_⟩
   have Hx36:=hid qjoin2
   have zu6_5:=hm.size
   have HMu6_5:=hid hm
   have Cx37:=hid (Cx35.out.goE hm)
   clear hm Cx35
   clear qjoin2
   refine QSeq.pure rfl _ (fun E=>Af rfl (E.d 5 0)) ?_
   have Hx38:=hid ((Hx32.out.mod HMu6_4.out (fun _ _ h=>h)).mod HMu6_5.out (fun _ _ h=>h))
   have Hx39:=hid (Hx34.out.mod HMu6_5.out (fun h=>h))
   clear Hx32 Hx34 HMu6_4 HMu6_5
   refine QSeq.nil (t':=[_,_,_,_,_,_,_]) rfl ?_
   obtain rfl:=HA0.out
   clear HA0 oe1 oe4
   simp only [pz,Act.put,sIB,sCZ,sCS]
   have hq:=(Hx36.out.widen (R':=(fun k=>New w u6_5 k)) (by intro k h1;omega) (Nat.le_refl _))
   rw [show BJ ++ cmB x.cm=Bj x by unfold Bj;rw [HE.out,HBJ.out];simp only [List.append_assoc]] at hq
   have HQ:=Lib.hid hq
   clear hq
   go_wp2_with fail
   go_meet
   case rel=>exact ⟨HQ.out,((HM0.out.trans Cx31.out (fun _ _ h=>h.elim)).trans Cx37.out (fun _ _ h=>h.elim))⟩
  have K1:=Lib.hid h1
  clear h1
  go_upto_region 5 with (fail)
  refine Aa 227 [30,29] [0,1] (fun a0 HA0=>?_)
  have oe28:=ev HA0 28 rfl
  refine QSeq.pure rfl (.bool false) (fun E=>An rfl (E.v oe28) rfl (Ag _ _ _ _ _ _) (Al _ _ _ Tryz.underlying3) (congrArg Value.bool (Bb K1.out))) ?_
  refine QSeq.pure rfl _ (fun E=>Af rfl (E.d 0 0)) ?_
  refine QSeq.nil (t':=[_,_]) rfl ?_
  obtain rfl:=HA0.out
  clear HA0 oe28
  simp only [pz,Act.put,sIB,sCZ,sCS]
  by_cases h2:x.kd=2
  ·have KK:=Lib.hid h2
   clear h2
   go_upto_region 7 with (fail)
   refine Aa 227 [38,37] [0,1] (fun a0 HA0=>?_)
   have oe28:=ev HA0 28 rfl
   refine QSeq.pure rfl (.bool true) (fun E=>An rfl (E.v oe28) rfl (Ag _ _ _ _ _ _) (Al _ _ _ Tryz.underlying3) (congrArg Value.bool (Bi KK.out))) ?_
   refine QSeq.pure rfl _ (fun E=>Af rfl (E.d 0 0)) ?_
   refine QSeq.nil (t':=[_,_]) rfl ?_
   obtain rfl:=HA0.out
   clear HA0 oe28
   simp only [pz,Act.put,sIB,sCZ,sCS]
   have HE:=hid (show A8 x=stB x.st by unfold A8;rw [KK.out];rfl)
   have HL:=hid (show (BJ ++ (stB x.st)).length≤900000 by have h:=HL0.out;rw [HE.out,← HBJ.out] at h;exact h)
   go_upto_region 8 with (fail)
   refine Aa 227 [39,40,41,42,43,44,4] [0,1,2,3,4,5,6] (fun a0 HA0=>?_)
   have oe1:=ev HA0 1 rfl
   have oe4:=ev HA0 4 rfl
   refine QSeq.pure rfl _ (fun E=>Ai rfl (E.y 6 oe4)) ?_
   refine QSeq.pure rfl (.pointer (some ⟨w.heap.size,40,none⟩)) (fun E=>Ad rfl Tryz.underlying61 rfl (by kernel_rfl) (E.v oe1)) ?_
   refine QSeq.pure rfl _ (fun E=>Am rfl Tryz.underlying32 rfl (off:=40) (cs:=(x.st.cells)) (by rw [St.len HOK.out.st];kernel_rfl) (E.d 1 0) (Cs.seg (HB1.out.mod Cx31.out (fun h=>h)) HLN.out 4 rfl rfl)) ?_
   refine QSeq.call rfl rfl Tryz.func24 (RefSt_Q (fun _=>False) _ x.st _ ⟨rfl,HOK.out.st⟩ (fun _ h=>h.elim) (by have:=HL.out;simp only [List.length_append] at this ⊢; omega)) (fun E=>Aw (E.d 2 0)) ?_
   rintro e u8_3 ⟨v_a4,rfl,qa4,hm⟩
   obtain ⟨ao_a4,cap_a4,rfl⟩:=qa4.shape
   refine ⟨_,rfl,?_⟩
   have Hx40:=hid qa4
   have zu8_3:=hm.size
   have Cx41:=hid (show Mod (fun _=>False) u3_5 u8_3 from hm)
   clear hm
   clear qa4
   refine QSeq.go fun act E=>?_
   have ea39:act.eval (.tmp 39)=.slice aoj (BJ.length) capj:=(E.d 0 3)
   have ea42:act.eval (.tmp 42)=.slice ao_a4 ((stB x.st).length) cap_a4:=(E.d 3 0)
   refine Bl rfl (Ac rfl) rfl Tryz.underlying124 (by decide) (C:=#[.slice aoj (BJ.length) capj,.slice ao_a4 ((stB x.st).length) cap_a4]) (by simp only [List.map_toArray,List.map_cons,List.map_nil,ea39,ea42];kernel_rfl) ?_
   intro u8_4 qrow4 hm
   have zl8_4:=qrow4.lt
   have Hx42:=hid qrow4
   have zu8_4:=hm.size
   have HMu8_4:=hid hm
   have Cx43:=hid (Cx41.out.goE hm)
   clear hm Cx41
   clear act E qrow4 ea39 ea42
   refine QSeq.call rfl rfl Tryz.func21 (Join_Q (n:=2)  Hx42.out [(.slice aoj (BJ.length) capj,BJ),(.slice ao_a4 ((stB x.st).length) cap_a4,stB x.st)] rfl rfl (by intro p hp;simp only [List.mem_cons,List.not_mem_nil,or_false] at hp;rcases hp with rfl|rfl<;>first|exact (HJ.out.mod Cx43.out (fun _ _ h=>h)).rd.1|exact (Hx40.out.mod HMu8_4.out (fun _ _ h=>h)).rd.1) (by simp) (show flat _=BJ ++ stB x.st from by simp only [flat,List.map_cons,List.map_nil,List.flatten_cons,List.flatten_nil,List.append_nil]) (by have:=HL.out;simp only [List.length_append] at this ⊢; omega)) (fun E=>Aw (E.d 4 0)) ?_
   rintro e u8_5 ⟨v_join2,rfl,qjoin2,hm⟩
   refine ⟨_,rfl,?_⟩
   have Hx44:=hid qjoin2
   have zu8_5:=hm.size
   have HMu8_5:=hid hm
   have Cx45:=hid (Cx43.out.goE hm)
   clear hm Cx43
   clear qjoin2
   refine QSeq.pure rfl _ (fun E=>Af rfl (E.d 5 0)) ?_
   have Hx46:=hid ((Hx40.out.mod HMu8_4.out (fun _ _ h=>h)).mod HMu8_5.out (fun _ _ h=>h))
   have Hx47:=hid (Hx42.out.mod HMu8_5.out (fun h=>h))
   clear Hx40 Hx42 HMu8_4 HMu8_5
   refine QSeq.nil (t':=[_,_,_,_,_,_,_]) rfl ?_
   obtain rfl:=HA0.out
   clear HA0 oe1 oe4
   simp only [pz,Act.put,sIB,sCZ,sCS]
   have hq:=(Hx44.out.widen (R':=(fun k=>New w u8_5 k)) (by intro k h1;omega) (Nat.le_refl _))
   rw [show BJ ++ stB x.st=Bj x by unfold Bj;rw [HE.out,HBJ.out];simp only [List.append_assoc]] at hq
   have HQ:=Lib.hid hq
   clear hq
   go_wp2_with fail
   go_meet
   case rel=>exact ⟨HQ.out,((HM0.out.trans Cx31.out (fun _ _ h=>h.elim)).trans Cx45.out (fun _ _ h=>h.elim))⟩
  have K2:=Lib.hid h2
  clear h2
  go_upto_region 7 with (fail)
  refine Aa 227 [38,37] [0,1] (fun a0 HA0=>?_)
  have oe28:=ev HA0 28 rfl
  refine QSeq.pure rfl (.bool false) (fun E=>An rfl (E.v oe28) rfl (Ag _ _ _ _ _ _) (Al _ _ _ Tryz.underlying3) (congrArg Value.bool (Bb K2.out))) ?_
  refine QSeq.pure rfl _ (fun E=>Af rfl (E.d 0 0)) ?_
  refine QSeq.nil (t':=[_,_]) rfl ?_
  obtain rfl:=HA0.out
  clear HA0 oe28
  simp only [pz,Act.put,sIB,sCZ,sCS]
  by_cases h3:x.kd=3
  ·have KK:=Lib.hid h3
   clear h3
   go_upto_region 9 with (fail)
   refine Aa 227 [46,45] [0,1] (fun a0 HA0=>?_)
   have oe28:=ev HA0 28 rfl
   refine QSeq.pure rfl (.bool true) (fun E=>An rfl (E.v oe28) rfl (Ag _ _ _ _ _ _) (Al _ _ _ Tryz.underlying3) (congrArg Value.bool (Bi KK.out))) ?_
   refine QSeq.pure rfl _ (fun E=>Af rfl (E.d 0 0)) ?_
   refine QSeq.nil (t':=[_,_]) rfl ?_
   obtain rfl:=HA0.out
   clear HA0 oe28
   simp only [pz,Act.put,sIB,sCZ,sCS]
   have HE:=hid (show A8 x=ceB x.ce by unfold A8;rw [KK.out];rfl)
   have HL:=hid (show (BJ ++ (ceB x.ce)).length≤900000 by have h:=HL0.out;rw [HE.out,← HBJ.out] at h;exact h)
   go_upto_region 10 with (fail)
   refine Aa 227 [47,48,49,50,51,52,4] [0,1,2,3,4,5,6] (fun a0 HA0=>?_)
   have oe1:=ev HA0 1 rfl
   have oe4:=ev HA0 4 rfl
   refine QSeq.pure rfl _ (fun E=>Ai rfl (E.y 6 oe4)) ?_
   refine QSeq.pure rfl (.pointer (some ⟨w.heap.size,78,none⟩)) (fun E=>Ad rfl Tryz.underlying61 rfl (by kernel_rfl) (E.v oe1)) ?_
   refine QSeq.pure rfl _ (fun E=>Am rfl Tryz.underlying35 rfl (off:=78) (cs:=(c5)) (by rw [HC5.out];kernel_rfl) (E.d 1 0) (Cs.seg (HB1.out.mod Cx31.out (fun h=>h)) HLN.out 5 rfl rfl)) ?_
   refine QSeq.call rfl rfl Tryz.func25 (RefCe_Q R2 _ x.ce _ (Hx1.out.mod Cx31.out (fun _ _ h=>h)) (by intro k h1;have hb:=HBT.out k h1;omega) (by have:=HL.out;simp only [List.length_append] at this ⊢; omega)) (fun E=>Aw (E.d 2 0)) ?_
   rintro e u10_3 ⟨v_a4,rfl,qa4,hm⟩
   obtain ⟨ao_a4,cap_a4,rfl⟩:=qa4.shape
   refine ⟨_,rfl,?_⟩
   have Hx48:=hid qa4
   have zu10_3:=hm.size
   have Cx49:=hid (show Mod (fun _=>False) u3_5 u10_3 from hm)
   clear hm
   clear qa4
   refine QSeq.go fun act E=>?_
   have ea47:act.eval (.tmp 47)=.slice aoj (BJ.length) capj:=(E.d 0 3)
   have ea50:act.eval (.tmp 50)=.slice ao_a4 ((ceB x.ce).length) cap_a4:=(E.d 3 0)
   refine Bl rfl (Ac rfl) rfl Tryz.underlying124 (by decide) (C:=#[.slice aoj (BJ.length) capj,.slice ao_a4 ((ceB x.ce).length) cap_a4]) (by simp only [List.map_toArray,List.map_cons,List.map_nil,ea47,ea50];kernel_rfl) ?_
   intro u10_4 qrow4 hm
   have zl10_4:=qrow4.lt
   have Hx50:=hid qrow4
   have zu10_4:=hm.size
   have HMu10_4:=hid hm
   have Cx51:=hid (Cx49.out.goE hm)
   clear hm Cx49
   clear act E qrow4 ea47 ea50
   refine QSeq.call rfl rfl Tryz.func21 (Join_Q (n:=2)  Hx50.out [(.slice aoj (BJ.length) capj,BJ),(.slice ao_a4 ((ceB x.ce).length) cap_a4,ceB x.ce)] rfl rfl (by intro p hp;simp only [List.mem_cons,List.not_mem_nil,or_false] at hp;rcases hp with rfl|rfl<;>first|exact (HJ.out.mod Cx51.out (fun _ _ h=>h)).rd.1|exact (Hx48.out.mod HMu10_4.out (fun _ _ h=>h)).rd.1) (by simp) (show flat _=BJ ++ ceB x.ce from by simp only [flat,List.map_cons,List.map_nil,List.flatten_cons,List.flatten_nil,List.append_nil]) (by have:=HL.out;simp only [List.length_append] at this ⊢; omega)) (fun E=>Aw (E.d 4 0)) ?_
   rintro e u10_5 ⟨v_join2,rfl,qjoin2,hm⟩
   refine ⟨_,rfl,?_⟩
   have Hx52:=hid qjoin2
   have zu10_5:=hm.size
   have HMu10_5:=hid hm
   have Cx53:=hid (Cx51.out.goE hm)
   clear hm Cx51
   clear qjoin2
   refine QSeq.pure rfl _ (fun E=>Af rfl (E.d 5 0)) ?_
   have Hx54:=hid ((Hx48.out.mod HMu10_4.out (fun _ _ h=>h)).mod HMu10_5.out (fun _ _ h=>h))
   have Hx55:=hid (Hx50.out.mod HMu10_5.out (fun h=>h))
   clear Hx48 Hx50 HMu10_4 HMu10_5
   refine QSeq.nil (t':=[_,_,_,_,_,_,_]) rfl ?_
   obtain rfl:=HA0.out
   clear HA0 oe1 oe4
   simp only [pz,Act.put,sIB,sCZ,sCS]
   have hq:=(Hx52.out.widen (R':=(fun k=>New w u10_5 k)) (by intro k h1;omega) (Nat.le_refl _))
   rw [show BJ ++ ceB x.ce=Bj x by unfold Bj;rw [HE.out,HBJ.out];simp only [List.append_assoc]] at hq
   have HQ:=Lib.hid hq
   clear hq
   go_wp2_with fail
   go_meet
   case rel=>exact ⟨HQ.out,((HM0.out.trans Cx31.out (fun _ _ h=>h.elim)).trans Cx53.out (fun _ _ h=>h.elim))⟩
  have K3:=Lib.hid h3
  clear h3
  go_upto_region 9 with (fail)
  refine Aa 227 [46,45] [0,1] (fun a0 HA0=>?_)
  have oe28:=ev HA0 28 rfl
  refine QSeq.pure rfl (.bool false) (fun E=>An rfl (E.v oe28) rfl (Ag _ _ _ _ _ _) (Al _ _ _ Tryz.underlying3) (congrArg Value.bool (Bb K3.out))) ?_
  refine QSeq.pure rfl _ (fun E=>Af rfl (E.d 0 0)) ?_
  refine QSeq.nil (t':=[_,_]) rfl ?_
  obtain rfl:=HA0.out
  clear HA0 oe28
  simp only [pz,Act.put,sIB,sCZ,sCS]
  by_cases h4:x.kd=4
  ·have KK:=Lib.hid h4
   clear h4
   go_upto_region 11 with (fail)
   refine Aa 227 [54,53] [0,1] (fun a0 HA0=>?_)
   have oe28:=ev HA0 28 rfl
   refine QSeq.pure rfl (.bool true) (fun E=>An rfl (E.v oe28) rfl (Ag _ _ _ _ _ _) (Al _ _ _ Tryz.underlying3) (congrArg Value.bool (Bi KK.out))) ?_
   refine QSeq.pure rfl _ (fun E=>Af rfl (E.d 0 0)) ?_
   refine QSeq.nil (t':=[_,_]) rfl ?_
   obtain rfl:=HA0.out
   clear HA0 oe28
   simp only [pz,Act.put,sIB,sCZ,sCS]
   have HE:=hid (show A8 x=bareT x.ak ++ sigB x.ak.sb x.ak.mr by unfold A8;rw [KK.out];exact st_bare x.ak)
   have HL:=hid (show (BJ ++ (bareT x.ak ++ sigB x.ak.sb x.ak.mr)).length≤900000 by have h:=HL0.out;rw [HE.out,← HBJ.out] at h;exact h)
   go_upto_region 12 with (fail)
   generalize ha0:Act.mk _ _=a0
   have oe1:a0.eval (.tmp 1)=.pointer (some ⟨w.heap.size,0,none⟩):=by rw [← ha0];rfl
   have oe4:a0.eval (.tmp 4)=.slice aoj (BJ.length) capj:=by rw [← ha0];rfl
   have hsz0:a0.tmps.size=227:=by rw [← ha0];rfl
   have HA0:=hid ha0
   clear ha0
   refine A1 227 hsz0 [55,56,57,58,59,60,61,62,63,64,4] [qi (.slice aoj (BJ.length) capj),qi (.pointer (some ⟨w.heap.size,116,none⟩)),qi (.agg (x.ak.cells).toArray),qv 0,qi (.pointer (some ⟨w.heap.size,116,none⟩)),qi (.pointer (some ⟨w.heap.size,152,none⟩)),qi (.agg #[.int .i64 x.ak.sb,.int .i64 x.ak.mr]),qv 1,qv 2,qv 3,qv 3] ⟨Ab,Ab,Ab,Ak,Ab,Ab,Ab,Ak,Ak,Ak,Ak,trivial⟩ [3,7,8,9] ⟨?_,?_,?_,?_,?_,?_,?_,?_,?_,?_,?_,trivial⟩ ?_
   ·exact stq (fun E=>Ai rfl ((E.pre 10 4 rfl (by kernel_rfl)).trans oe4))
   ·exact stq (fun E=>Ad rfl Tryz.underlying61 rfl (by kernel_rfl) (E.v oe1))
   ·exact stq (fun E=>Am rfl Tryz.underlying37 rfl (off:=116) (cs:=(x.ak.cells)) (by rw [St.len HOK.out.ak];kernel_rfl) (E.d 1) (Cs.seg ((HB1.out.mod Cx31.out (fun h=>h)).mod E.m.old (by intro h2;omega)) HLN.out 6 rfl rfl))
   ·exact Ah rfl
   ·exact stq (fun E=>Ad rfl Tryz.underlying61 rfl (by kernel_rfl) (E.v oe1))
   ·exact stq (fun E=>Ad rfl Tryz.underlying37 rfl (by kernel_rfl) (E.d 4))
   ·exact stq (fun E=>Am rfl Tryz.underlying27 rfl (off:=152) (cs:=[.int .i64 x.ak.sb,.int .i64 x.ak.mr]) (by kernel_rfl) (E.d 5) (Cs.segA ((HB1.out.mod Cx31.out (fun h=>h)).mod E.m.old (by intro h2;omega)) HLN.out 6 rfl (o:=116) (k:=36) rfl rfl (St_sg HOK.out.ak)))
   ·exact Ah rfl
   ·exact Ah rfl
   ·exact Ah rfl
   ·refine Av rfl rfl rfl fun _ _ _ _ _ _ _ _ _ hd _ _=>?_
    have h9:=hd ⟨9,.data⟩ (by simp) rfl _ rfl
    exact Bd rfl (Ac rfl) (Af rfl rfl) QE.refl h9
   intro u12_0 hr
   have zu12_0:=hr.size
   have Cx56:=hid (hr.new (S:=(fun _=>False)))
   clear hr
   refine QChain.go fun Z act E=>?_
   refine Ap (args:=#[.agg (x.ak.cells).toArray]) rfl (Ac rfl) rfl Tryz.func26 (Aw (E.d 2)) (RefBareA_Q (fun _=>False) _ x.ak _ ⟨rfl,HOK.out.ak⟩ (fun _ h=>h.elim) (by have:=HL.out;simp only [List.length_append] at this ⊢; omega)) ?_
   rintro e u12_1a ⟨v_a4,rfl,qa4,hm⟩
   obtain ⟨ao_a4,cap_a4,rfl⟩:=qa4.shape
   have zu12_1a:=hm.size
   refine ⟨_,rfl,hm.mono (fun _ _ h=>h.elim),(fun _=>rfl),?_⟩
   intro u12_1 hr
   have zu12_1:=hr.size
   have Hx57:=hid ((qa4.widen (R':=(fun k=>(New u12_0 u12_1a k))) (fun _ h=>h) (Nat.le_refl _)).mod hr (by intro k h1 h2;omega))
   have Cx58:=hid (Cx56.out.go hm hr)
   clear Cx56 hm hr Z act E qa4
   refine QChain.go fun Z act E=>?_
   refine Ap (args:=#[.agg #[.int .i64 x.ak.sb,.int .i64 x.ak.mr]]) rfl (Ac rfl) rfl Tryz.func27 (Aw (E.d 6)) (RefSig_Q HOK.out.ak.sb HOK.out.ak.mr _) ?_
   rintro e u12_2a ⟨v_a5,rfl,qa5,hm⟩
   obtain ⟨ao_a5,cap_a5,rfl⟩:=qa5.shape
   have zu12_2a:=hm.size
   refine ⟨_,rfl,hm.mono (fun _ _ h=>h.elim),(fun _=>rfl),?_⟩
   intro u12_2 hr
   have zu12_2:=hr.size
   have Hx59:=hid ((qa5.widen (R':=(fun k=>(New u12_1 u12_2a k))) (fun _ h=>h) (Nat.le_refl _)).mod hr (by intro k h1 h2;omega))
   have hmr:=Mod.after hm hr
   have Hx60:=hid (Hx57.out.mod hmr (by intro k h1 h2;omega))
   clear Hx57
   clear hmr
   have Cx61:=hid (Cx58.out.go hm hr)
   clear Cx58 hm hr Z act E qa5
   refine QChain.go fun Z act E=>?_
   have ea55:act.eval (.tmp 55)=.slice aoj (BJ.length) capj:=(E.d 0)
   have ea58:act.eval (.tmp 58)=.slice ao_a4 ((bareT x.ak).length) cap_a4:=(chv (v:=.slice ao_a4 ((bareT x.ak).length) cap_a4) (E.d 3))
   have ea62:act.eval (.tmp 62)=.slice ao_a5 ((sigB x.ak.sb x.ak.mr).length) cap_a5:=(chv (v:=.slice ao_a5 ((sigB x.ak.sb x.ak.mr).length) cap_a5) (E.d 7))
   refine Bl rfl (Ac rfl) rfl Tryz.underlying124 (by decide) (C:=#[.slice aoj (BJ.length) capj,.slice ao_a4 ((bareT x.ak).length) cap_a4,.slice ao_a5 ((sigB x.ak.sb x.ak.mr).length) cap_a5]) (by simp only [List.map_toArray,List.map_cons,List.map_nil,ea55,ea58,ea62];kernel_rfl) ?_
   intro u12_3a qrow8 hm
   have zl12_8:=qrow8.lt
   have zu12_3a:=hm.size
   refine ⟨hm.mono (fun _ _ h=>h.elim),(fun _=>rfl),?_⟩
   intro u12_3 hr
   have zu12_3:=hr.size
   have Hx62:=hid (qrow8.mod hr (by intro h2;omega))
   have hmr:=Mod.after hm hr
   have Hx63:=hid (Hx60.out.mod hmr (by intro k h1 h2;omega))
   have Hx64:=hid (Hx59.out.mod hmr (by intro k h1 h2;omega))
   clear Hx60 Hx59
   clear hmr
   have Cx65:=hid (Cx61.out.go hm hr)
   clear Cx61 hm hr Z act E qrow8 ea55 ea58 ea62
   refine QChain.go fun Z act E=>?_
   refine Ap (args:=#[.slice (some ⟨u12_2.heap.size,0,none⟩) 3 3]) rfl (Ac rfl) rfl Tryz.func21 (Aw (chv (v:=.slice (some ⟨u12_2.heap.size,0,none⟩) 3 3) (E.d 8))) (Join_Q (n:=3)  Hx62.out [(.slice aoj (BJ.length) capj,BJ),(.slice ao_a4 ((bareT x.ak).length) cap_a4,bareT x.ak),(.slice ao_a5 ((sigB x.ak.sb x.ak.mr).length) cap_a5,sigB x.ak.sb x.ak.mr)] rfl rfl (by intro p hp;simp only [List.mem_cons,List.not_mem_nil,or_false] at hp;rcases hp with rfl|rfl|rfl<;>first|exact (HJ.out.mod Cx65.out (fun _ _ h=>h)).rd.1|exact Hx63.out.rd.1|exact Hx64.out.rd.1) (by simp) (show flat _=BJ ++ (bareT x.ak ++ sigB x.ak.sb x.ak.mr) from by simp only [flat,List.map_cons,List.map_nil,List.flatten_cons,List.flatten_nil,List.append_nil]) (by have:=HL.out;simp only [List.length_append] at this ⊢; omega)) ?_
   rintro e u12_4a ⟨v_join2,rfl,qjoin2,hm⟩
   have zu12_4a:=hm.size
   refine ⟨_,rfl,hm.mono (fun _ _ h=>h.elim),(fun _=>rfl),?_⟩
   intro u12_4 hr
   have zu12_4:=hr.size
   have Hx66:=hid ((qjoin2.widen (R':=(fun k=>(New u12_3 u12_4a k))) (fun _ h=>h) (Nat.le_refl _)).mod hr (by intro k h1 h2;omega))
   have hmr:=Mod.after hm hr
   have Hx67:=hid (Hx63.out.mod hmr (by intro k h1 h2;omega))
   have Hx68:=hid (Hx64.out.mod hmr (by intro k h1 h2;omega))
   have Hx69:=hid (Hx62.out.mod hmr (by intro h2;omega))
   clear Hx63 Hx64 Hx62
   clear hmr
   have Cx70:=hid (Cx65.out.go hm hr)
   clear Cx65 hm hr Z act E qjoin2
   refine QChain.nil fun vs hl hzz hrows hne=>?_
   obtain ⟨Z,hYZ,hZb,hV⟩:=hzz
   have f0:=fvi hV hl 0
   have f3:=fvc hV hl 3
   have f7:=fvc hV hl 7
   have f8:=fvc hV hl 8
   have f9:=fvc hV hl 9
   have f10:=fvc hV hl 10
   rw [show vs=[gw vs 0,gw vs 1,gw vs 2,gw vs 3,gw vs 4,gw vs 5,gw vs 6,gw vs 7,gw vs 8,gw vs 9,gw vs 10] from (Be hl).trans rfl]
   have ha0:=HA0.out
   subst ha0
   clear HA0 hV hYZ hZb hsz0 hrows hne oe1 oe4
   simp only [Au,Act.put,sIB,sCZ,sCS,f0,f3,f7,f8,f9,f10]
   clear hl f0 f3 f7 f8 f9 f10
   have hq:=(Hx66.out.widen (R':=(fun k=>New w u12_4 k)) (by intro k h1;omega) (Nat.le_refl _))
   rw [show BJ ++ (bareT x.ak ++ sigB x.ak.sb x.ak.mr)=Bj x by unfold Bj;rw [HE.out,HBJ.out];simp only [List.append_assoc]] at hq
   have HQ:=Lib.hid hq
   clear hq
   go_wp2_with fail
   go_meet
   case rel=>exact ⟨HQ.out,((HM0.out.trans Cx31.out (fun _ _ h=>h.elim)).trans Cx70.out (fun _ _ h=>h.elim))⟩
  have K4:=Lib.hid h4
  clear h4
  go_upto_region 11 with (fail)
  refine Aa 227 [54,53] [0,1] (fun a0 HA0=>?_)
  have oe28:=ev HA0 28 rfl
  refine QSeq.pure rfl (.bool false) (fun E=>An rfl (E.v oe28) rfl (Ag _ _ _ _ _ _) (Al _ _ _ Tryz.underlying3) (congrArg Value.bool (Bb K4.out))) ?_
  refine QSeq.pure rfl _ (fun E=>Af rfl (E.d 0 0)) ?_
  refine QSeq.nil (t':=[_,_]) rfl ?_
  obtain rfl:=HA0.out
  clear HA0 oe28
  simp only [pz,Act.put,sIB,sCZ,sCS]
  by_cases h5:x.kd=5
  ·have KK:=Lib.hid h5
   clear h5
   go_upto_region 13 with (fail)
   refine Aa 227 [66,65] [0,1] (fun a0 HA0=>?_)
   have oe28:=ev HA0 28 rfl
   refine QSeq.pure rfl (.bool true) (fun E=>An rfl (E.v oe28) rfl (Ag _ _ _ _ _ _) (Al _ _ _ Tryz.underlying3) (congrArg Value.bool (Bi KK.out))) ?_
   refine QSeq.pure rfl _ (fun E=>Af rfl (E.d 0 0)) ?_
   refine QSeq.nil (t':=[_,_]) rfl ?_
   obtain rfl:=HA0.out
   clear HA0 oe28
   simp only [pz,Act.put,sIB,sCZ,sCS]
   have HE:=hid (show A8 x=encI x.ep ++ (encI x.rn ++ encN x.tm) by unfold A8;rw [KK.out];exact (rfl:_=encI x.ep ++ encI x.rn ++ encN x.tm).trans (List.append_assoc _ _ _))
   have HL:=hid (show (BJ ++ (encI x.ep ++ (encI x.rn ++ encN x.tm))).length≤900000 by have h:=HL0.out;rw [HE.out,← HBJ.out] at h;exact h)
   go_upto_region 14 with (fail)
   generalize ha0:Act.mk _ _=a0
   have oe1:a0.eval (.tmp 1)=.pointer (some ⟨w.heap.size,0,none⟩):=by rw [← ha0];rfl
   have oe4:a0.eval (.tmp 4)=.slice aoj (BJ.length) capj:=by rw [← ha0];rfl
   have hsz0:a0.tmps.size=227:=by rw [← ha0];rfl
   have HA0:=hid ha0
   clear ha0
   refine A1 227 hsz0 [67,68,69,70,71,72,73,74,75,76,77,78,4] [qi (.slice aoj (BJ.length) capj),qi (.pointer (some ⟨w.heap.size,154,none⟩)),qi (.int .i64 x.ep),qv 0,qi (.pointer (some ⟨w.heap.size,155,none⟩)),qi (.int .i64 x.rn),qv 1,qi (.pointer (some ⟨w.heap.size,156,none⟩)),qi (.int .u64 (x.tm:Nat)),qv 2,qv 3,qv 4,qv 4] ⟨Ab,Ab,Ab,Ak,Ab,Ab,Ak,Ab,Ab,Ak,Ak,Ak,Ak,trivial⟩ [3,6,9,10,11] ⟨?_,?_,?_,?_,?_,?_,?_,?_,?_,?_,?_,?_,?_,trivial⟩ ?_
   ·exact stq (fun E=>Ai rfl ((E.pre 12 4 rfl (by kernel_rfl)).trans oe4))
   ·exact stq (fun E=>Ad rfl Tryz.underlying61 rfl (by kernel_rfl) (E.v oe1))
   ·exact stq (fun E=>Aj rfl Tryz.underlying3 rfl (E.d 1) (Cs.seg1 ((HB1.out.mod Cx31.out (fun h=>h)).mod E.m.old (by intro h2;omega)) HLN.out 7 rfl (o:=154) (k:=0) rfl rfl rfl))
   ·exact Ah rfl
   ·exact stq (fun E=>Ad rfl Tryz.underlying61 rfl (by kernel_rfl) (E.v oe1))
   ·exact stq (fun E=>Aj rfl Tryz.underlying3 rfl (E.d 4) (Cs.seg1 ((HB1.out.mod Cx31.out (fun h=>h)).mod E.m.old (by intro h2;omega)) HLN.out 8 rfl (o:=155) (k:=0) rfl rfl rfl))
   ·exact Ah rfl
   ·exact stq (fun E=>Ad rfl Tryz.underlying61 rfl (by kernel_rfl) (E.v oe1))
   ·exact stq (fun E=>Aj rfl Tryz.underlying30 rfl (E.d 7) (Cs.seg1 ((HB1.out.mod Cx31.out (fun h=>h)).mod E.m.old (by intro h2;omega)) HLN.out 9 rfl (o:=156) (k:=0) rfl rfl rfl))
   ·exact Ah rfl
   ·exact Ah rfl
   ·exact Ah rfl
   ·refine Av rfl rfl rfl fun _ _ _ _ _ _ _ _ _ hd _ _=>?_
    have h11:=hd ⟨11,.data⟩ (by simp) rfl _ rfl
    exact Bd rfl (Ac rfl) (Af rfl rfl) QE.refl h11
   intro u14_0 hr
   have zu14_0:=hr.size
   have Cx71:=hid (hr.new (S:=(fun _=>False)))
   clear hr
   refine QChain.go fun Z act E=>?_
   refine Ap (args:=#[.int .i64 x.ep]) rfl (Ac rfl) rfl Tryz.func22 (Aw (E.d 2)) (A9 _ HOK.out.ep _) ?_
   rintro e u14_1a ⟨v_a4,rfl,qa4,hm⟩
   obtain ⟨ao_a4,cap_a4,rfl⟩:=qa4.shape
   have zu14_1a:=hm.size
   refine ⟨_,rfl,hm.mono (fun _ _ h=>h.elim),(fun _=>rfl),?_⟩
   intro u14_1 hr
   have zu14_1:=hr.size
   have Hx72:=hid ((qa4.widen (R':=(fun k=>(New u14_0 u14_1a k))) (fun _ h=>h) (Nat.le_refl _)).mod hr (by intro k h1 h2;omega))
   have Cx73:=hid (Cx71.out.go hm hr)
   clear Cx71 hm hr Z act E qa4
   refine QChain.go fun Z act E=>?_
   refine Ap (args:=#[.int .i64 x.rn]) rfl (Ac rfl) rfl Tryz.func22 (Aw (E.d 5)) (A9 _ HOK.out.rn _) ?_
   rintro e u14_2a ⟨v_a5,rfl,qa5,hm⟩
   obtain ⟨ao_a5,cap_a5,rfl⟩:=qa5.shape
   have zu14_2a:=hm.size
   refine ⟨_,rfl,hm.mono (fun _ _ h=>h.elim),(fun _=>rfl),?_⟩
   intro u14_2 hr
   have zu14_2:=hr.size
   have Hx74:=hid ((qa5.widen (R':=(fun k=>(New u14_1 u14_2a k))) (fun _ h=>h) (Nat.le_refl _)).mod hr (by intro k h1 h2;omega))
   have hmr:=Mod.after hm hr
   have Hx75:=hid (Hx72.out.mod hmr (by intro k h1 h2;omega))
   clear Hx72
   clear hmr
   have Cx76:=hid (Cx73.out.go hm hr)
   clear Cx73 hm hr Z act E qa5
   refine QChain.go fun Z act E=>?_
   refine Ap (args:=#[.int .u64 (x.tm:Nat)]) rfl (Ac rfl) rfl Tryz.func28 (Aw (E.d 8)) (RefNum_Q _ HOK.out.tm _) ?_
   rintro e u14_3a ⟨v_a6,rfl,qa6,hm⟩
   obtain ⟨ao_a6,cap_a6,rfl⟩:=qa6.shape
   have zu14_3a:=hm.size
   refine ⟨_,rfl,hm.mono (fun _ _ h=>h.elim),(fun _=>rfl),?_⟩
   intro u14_3 hr
   have zu14_3:=hr.size
   have Hx77:=hid ((qa6.widen (R':=(fun k=>(New u14_2 u14_3a k))) (fun _ h=>h) (Nat.le_refl _)).mod hr (by intro k h1 h2;omega))
   have hmr:=Mod.after hm hr
   have Hx78:=hid (Hx75.out.mod hmr (by intro k h1 h2;omega))
   have Hx79:=hid (Hx74.out.mod hmr (by intro k h1 h2;omega))
   clear Hx75 Hx74
   clear hmr
   have Cx80:=hid (Cx76.out.go hm hr)
   clear Cx76 hm hr Z act E qa6
   refine QChain.go fun Z act E=>?_
   have ea67:act.eval (.tmp 67)=.slice aoj (BJ.length) capj:=(E.d 0)
   have ea70:act.eval (.tmp 70)=.slice ao_a4 ((encI x.ep).length) cap_a4:=(chv (v:=.slice ao_a4 ((encI x.ep).length) cap_a4) (E.d 3))
   have ea73:act.eval (.tmp 73)=.slice ao_a5 ((encI x.rn).length) cap_a5:=(chv (v:=.slice ao_a5 ((encI x.rn).length) cap_a5) (E.d 6))
   have ea76:act.eval (.tmp 76)=.slice ao_a6 ((encN x.tm).length) cap_a6:=(chv (v:=.slice ao_a6 ((encN x.tm).length) cap_a6) (E.d 9))
   refine Bl rfl (Ac rfl) rfl Tryz.underlying124 (by decide) (C:=#[.slice aoj (BJ.length) capj,.slice ao_a4 ((encI x.ep).length) cap_a4,.slice ao_a5 ((encI x.rn).length) cap_a5,.slice ao_a6 ((encN x.tm).length) cap_a6]) (by simp only [List.map_toArray,List.map_cons,List.map_nil,ea67,ea70,ea73,ea76];kernel_rfl) ?_
   intro u14_4a qrow10 hm
   have zl14_10:=qrow10.lt
   have zu14_4a:=hm.size
   refine ⟨hm.mono (fun _ _ h=>h.elim),(fun _=>rfl),?_⟩
   intro u14_4 hr
   have zu14_4:=hr.size
   have Hx81:=hid (qrow10.mod hr (by intro h2;omega))
   have hmr:=Mod.after hm hr
   have Hx82:=hid (Hx78.out.mod hmr (by intro k h1 h2;omega))
   have Hx83:=hid (Hx79.out.mod hmr (by intro k h1 h2;omega))
   have Hx84:=hid (Hx77.out.mod hmr (by intro k h1 h2;omega))
   clear Hx78 Hx79 Hx77
   clear hmr
   have Cx85:=hid (Cx80.out.go hm hr)
   clear Cx80 hm hr Z act E qrow10 ea67 ea70 ea73 ea76
   refine QChain.go fun Z act E=>?_
   refine Ap (args:=#[.slice (some ⟨u14_3.heap.size,0,none⟩) 4 4]) rfl (Ac rfl) rfl Tryz.func21 (Aw (chv (v:=.slice (some ⟨u14_3.heap.size,0,none⟩) 4 4) (E.d 10))) (Join_Q (n:=4)  Hx81.out [(.slice aoj (BJ.length) capj,BJ),(.slice ao_a4 ((encI x.ep).length) cap_a4,encI x.ep),(.slice ao_a5 ((encI x.rn).length) cap_a5,encI x.rn),(.slice ao_a6 ((encN x.tm).length) cap_a6,encN x.tm)] rfl rfl (by intro p hp;simp only [List.mem_cons,List.not_mem_nil,or_false] at hp;rcases hp with rfl|rfl|rfl|rfl<;>first|exact (HJ.out.mod Cx85.out (fun _ _ h=>h)).rd.1|exact Hx82.out.rd.1|exact Hx83.out.rd.1|exact Hx84.out.rd.1) (by simp) (show flat _=BJ ++ (encI x.ep ++ (encI x.rn ++ encN x.tm)) from by simp only [flat,List.map_cons,List.map_nil,List.flatten_cons,List.flatten_nil,List.append_nil]) (by have:=HL.out;simp only [List.length_append] at this ⊢; omega)) ?_
   rintro e u14_5a ⟨v_join2,rfl,qjoin2,hm⟩
   have zu14_5a:=hm.size
   refine ⟨_,rfl,hm.mono (fun _ _ h=>h.elim),(fun _=>rfl),?_⟩
   intro u14_5 hr
   have zu14_5:=hr.size
   have Hx86:=hid ((qjoin2.widen (R':=(fun k=>(New u14_4 u14_5a k))) (fun _ h=>h) (Nat.le_refl _)).mod hr (by intro k h1 h2;omega))
   have hmr:=Mod.after hm hr
   have Hx87:=hid (Hx82.out.mod hmr (by intro k h1 h2;omega))
   have Hx88:=hid (Hx83.out.mod hmr (by intro k h1 h2;omega))
   have Hx89:=hid (Hx84.out.mod hmr (by intro k h1 h2;omega))
   have Hx90:=hid (Hx81.out.mod hmr (by intro h2;omega))
   clear Hx82 Hx83 Hx84 Hx81
   clear hmr
   have Cx91:=hid (Cx85.out.go hm hr)
   clear Cx85 hm hr Z act E qjoin2
   refine QChain.nil fun vs hl hzz hrows hne=>?_
   obtain ⟨Z,hYZ,hZb,hV⟩:=hzz
   have f0:=fvi hV hl 0
   have f3:=fvc hV hl 3
   have f6:=fvc hV hl 6
   have f9:=fvc hV hl 9
   have f10:=fvc hV hl 10
   have f11:=fvc hV hl 11
   have f12:=fvc hV hl 12
   rw [show vs=[gw vs 0,gw vs 1,gw vs 2,gw vs 3,gw vs 4,gw vs 5,gw vs 6,gw vs 7,gw vs 8,gw vs 9,gw vs 10,gw vs 11,gw vs 12] from (Be hl).trans rfl]
   have ha0:=HA0.out
   subst ha0
   clear HA0 hV hYZ hZb hsz0 hrows hne oe1 oe4
   simp only [Au,Act.put,sIB,sCZ,sCS,f0,f3,f6,f9,f10,f11,f12]
   clear hl f0 f3 f6 f9 f10 f11 f12
   have hq:=(Hx86.out.widen (R':=(fun k=>New w u14_5 k)) (by intro k h1;omega) (Nat.le_refl _))
   rw [show BJ ++ (encI x.ep ++ (encI x.rn ++ encN x.tm))=Bj x by unfold Bj;rw [HE.out,HBJ.out];simp only [List.append_assoc]] at hq
   have HQ:=Lib.hid hq
   clear hq
   go_wp2_with fail
   go_meet
   case rel=>exact ⟨HQ.out,((HM0.out.trans Cx31.out (fun _ _ h=>h.elim)).trans Cx91.out (fun _ _ h=>h.elim))⟩
  have K5:=Lib.hid h5
  clear h5
  go_upto_region 13 with (fail)
  refine Aa 227 [66,65] [0,1] (fun a0 HA0=>?_)
  have oe28:=ev HA0 28 rfl
  refine QSeq.pure rfl (.bool false) (fun E=>An rfl (E.v oe28) rfl (Ag _ _ _ _ _ _) (Al _ _ _ Tryz.underlying3) (congrArg Value.bool (Bb K5.out))) ?_
  refine QSeq.pure rfl _ (fun E=>Af rfl (E.d 0 0)) ?_
  refine QSeq.nil (t':=[_,_]) rfl ?_
  obtain rfl:=HA0.out
  clear HA0 oe28
  simp only [pz,Act.put,sIB,sCZ,sCS]
  by_cases h6:x.kd=6
  ·have KK:=Lib.hid h6
   clear h6
   go_upto_region 15 with (fail)
   refine Aa 227 [80,79] [0,1] (fun a0 HA0=>?_)
   have oe28:=ev HA0 28 rfl
   refine QSeq.pure rfl (.bool true) (fun E=>An rfl (E.v oe28) rfl (Ag _ _ _ _ _ _) (Al _ _ _ Tryz.underlying3) (congrArg Value.bool (Bi KK.out))) ?_
   refine QSeq.pure rfl _ (fun E=>Af rfl (E.d 0 0)) ?_
   refine QSeq.nil (t':=[_,_]) rfl ?_
   obtain rfl:=HA0.out
   clear HA0 oe28
   simp only [pz,Act.put,sIB,sCZ,sCS]
   have HE:=hid (show A8 x=pmB x.pm by unfold A8;rw [KK.out];rfl)
   have HL:=hid (show (BJ ++ (pmB x.pm)).length≤900000 by have h:=HL0.out;rw [HE.out,← HBJ.out] at h;exact h)
   go_upto_region 16 with (fail)
   refine Aa 227 [81,82,83,84,85,86,4] [0,1,2,3,4,5,6] (fun a0 HA0=>?_)
   have oe1:=ev HA0 1 rfl
   have oe4:=ev HA0 4 rfl
   refine QSeq.pure rfl _ (fun E=>Ai rfl (E.y 6 oe4)) ?_
   refine QSeq.pure rfl (.pointer (some ⟨w.heap.size,157,none⟩)) (fun E=>Ad rfl Tryz.underlying61 rfl (by kernel_rfl) (E.v oe1)) ?_
   refine QSeq.pure rfl _ (fun E=>Am rfl Tryz.underlying40 rfl (off:=157) (cs:=(c10)) (by rw [HC10.out];kernel_rfl) (E.d 1 0) (Cs.seg (HB1.out.mod Cx31.out (fun h=>h)) HLN.out 10 rfl rfl)) ?_
   refine QSeq.call rfl rfl Tryz.func29 (RefPm_Q R2 _ x.pm _ (Hx2.out.mod Cx31.out (fun _ _ h=>h)) (by intro k h1;have hb:=HBT.out k h1;omega) (by have:=HL.out;simp only [List.length_append] at this ⊢; omega)) (fun E=>Aw (E.d 2 0)) ?_
   rintro e u16_3 ⟨v_a4,rfl,qa4,hm⟩
   obtain ⟨ao_a4,cap_a4,rfl⟩:=qa4.shape
   refine ⟨_,rfl,?_⟩
   have Hx92:=hid qa4
   have zu16_3:=hm.size
   have Cx93:=hid (show Mod (fun _=>False) u3_5 u16_3 from hm)
   clear hm
   clear qa4
   refine QSeq.go fun act E=>?_
   have ea81:act.eval (.tmp 81)=.slice aoj (BJ.length) capj:=(E.d 0 3)
   have ea84:act.eval (.tmp 84)=.slice ao_a4 ((pmB x.pm).length) cap_a4:=(E.d 3 0)
   refine Bl rfl (Ac rfl) rfl Tryz.underlying124 (by decide) (C:=#[.slice aoj (BJ.length) capj,.slice ao_a4 ((pmB x.pm).length) cap_a4]) (by simp only [List.map_toArray,List.map_cons,List.map_nil,ea81,ea84];kernel_rfl) ?_
   intro u16_4 qrow4 hm
   have zl16_4:=qrow4.lt
   have Hx94:=hid qrow4
   have zu16_4:=hm.size
   have HMu16_4:=hid hm
   have Cx95:=hid (Cx93.out.goE hm)
   clear hm Cx93
   clear act E qrow4 ea81 ea84
   refine QSeq.call rfl rfl Tryz.func21 (Join_Q (n:=2)  Hx94.out [(.slice aoj (BJ.length) capj,BJ),(.slice ao_a4 ((pmB x.pm).length) cap_a4,pmB x.pm)] rfl rfl (by intro p hp;simp only [List.mem_cons,List.not_mem_nil,or_false] at hp;rcases hp with rfl|rfl<;>first|exact (HJ.out.mod Cx95.out (fun _ _ h=>h)).rd.1|exact (Hx92.out.mod HMu16_4.out (fun _ _ h=>h)).rd.1) (by simp) (show flat _=BJ ++ pmB x.pm from by simp only [flat,List.map_cons,List.map_nil,List.flatten_cons,List.flatten_nil,List.append_nil]) (by have:=HL.out;simp only [List.length_append] at this ⊢; omega)) (fun E=>Aw (E.d 4 0)) ?_
   rintro e u16_5 ⟨v_join2,rfl,qjoin2,hm⟩
   refine ⟨_,rfl,?_⟩
   have Hx96:=hid qjoin2
   have zu16_5:=hm.size
   have HMu16_5:=hid hm
   have Cx97:=hid (Cx95.out.goE hm)
   clear hm Cx95
   clear qjoin2
   refine QSeq.pure rfl _ (fun E=>Af rfl (E.d 5 0)) ?_
   have Hx98:=hid ((Hx92.out.mod HMu16_4.out (fun _ _ h=>h)).mod HMu16_5.out (fun _ _ h=>h))
   have Hx99:=hid (Hx94.out.mod HMu16_5.out (fun h=>h))
   clear Hx92 Hx94 HMu16_4 HMu16_5
   refine QSeq.nil (t':=[_,_,_,_,_,_,_]) rfl ?_
   obtain rfl:=HA0.out
   clear HA0 oe1 oe4
   simp only [pz,Act.put,sIB,sCZ,sCS]
   have hq:=(Hx96.out.widen (R':=(fun k=>New w u16_5 k)) (by intro k h1;omega) (Nat.le_refl _))
   rw [show BJ ++ pmB x.pm=Bj x by unfold Bj;rw [HE.out,HBJ.out];simp only [List.append_assoc]] at hq
   have HQ:=Lib.hid hq
   clear hq
   go_wp2_with fail
   go_meet
   case rel=>exact ⟨HQ.out,((HM0.out.trans Cx31.out (fun _ _ h=>h.elim)).trans Cx97.out (fun _ _ h=>h.elim))⟩
  have K6:=Lib.hid h6
  clear h6
  go_upto_region 15 with (fail)
  refine Aa 227 [80,79] [0,1] (fun a0 HA0=>?_)
  have oe28:=ev HA0 28 rfl
  refine QSeq.pure rfl (.bool false) (fun E=>An rfl (E.v oe28) rfl (Ag _ _ _ _ _ _) (Al _ _ _ Tryz.underlying3) (congrArg Value.bool (Bb K6.out))) ?_
  refine QSeq.pure rfl _ (fun E=>Af rfl (E.d 0 0)) ?_
  refine QSeq.nil (t':=[_,_]) rfl ?_
  obtain rfl:=HA0.out
  clear HA0 oe28
  simp only [pz,Act.put,sIB,sCZ,sCS]
  by_cases h7:x.kd=7
  ·have KK:=Lib.hid h7
   clear h7
   go_upto_region 17 with (fail)
   refine Aa 227 [88,87] [0,1] (fun a0 HA0=>?_)
   have oe28:=ev HA0 28 rfl
   refine QSeq.pure rfl (.bool true) (fun E=>An rfl (E.v oe28) rfl (Ag _ _ _ _ _ _) (Al _ _ _ Tryz.underlying3) (congrArg Value.bool (Bi KK.out))) ?_
   refine QSeq.pure rfl _ (fun E=>Af rfl (E.d 0 0)) ?_
   refine QSeq.nil (t':=[_,_]) rfl ?_
   obtain rfl:=HA0.out
   clear HA0 oe28
   simp only [pz,Act.put,sIB,sCZ,sCS]
   obtain ⟨vw,hvw⟩:∃ z,z=IntKind.i64.wrap (x.pr.vl+1):=⟨_,rfl⟩
   have HVW:=Lib.hid hvw
   have HIV:=hid (show I64 vw by rw [HVW.out];exact I64_wrap5 _)
   clear hvw
   have HE:=hid (show A8 x=encI x.pr.ep ++ (encI x.pr.rn ++ (encI vw ++ (encI x.pr.rp ++ (baB x.pr.ba ++ sigB x.pr.sb x.pr.mr)))) by unfold A8;rw [KK.out];rw [HVW.out];rfl)
   have HL:=hid (show (BJ ++ (encI x.pr.ep ++ (encI x.pr.rn ++ (encI vw ++ (encI x.pr.rp ++ (baB x.pr.ba ++ sigB x.pr.sb x.pr.mr)))))).length≤900000 by have h:=HL0.out;rw [HE.out,← HBJ.out] at h;exact h)
   have HV1:=hid (show ∀ v ∈ [p_ps,p_os,p_ts],v.oneCell'=true from one3 (rdS_one (Hx4.out.mod Cx31.out (fun _ _ h=>h))) (rdS_one (Hx5.out.mod Cx31.out (fun _ _ h=>h))) (rdS_one (Hx6.out.mod Cx31.out (fun _ _ h=>h))))
   go_upto_region 18 with (fail)
   refine Aa 227 [89,90,5,230] [0,1,2,3] (fun a0 HA0=>?_)
   have oe1:=ev HA0 1 rfl
   refine QSeq.pure rfl (.pointer (some ⟨w.heap.size,163,none⟩)) (fun E=>Ad rfl Tryz.underlying61 rfl (by kernel_rfl) (E.v oe1)) ?_
   refine QSeq.pure rfl _ (fun E=>Am rfl Tryz.underlying47 rfl (off:=163) (cs:=(x.pr.cells p_ps p_os p_ts)) (by kernel_rfl) (E.d 0 0) (Cs.seg (HB1.out.mod Cx31.out (fun h=>h)) HLN.out 11 rfl rfl)) ?_
   refine QSeq.go fun act E=>?_
   refine qc_alloc rfl (Ac rfl) rfl (z:=[.int .i64 0,.int .i64 0,.int .i64 0,.int .i64 0,.int .i64 0,.int .u64 0,.slice none 0 0,.slice none 0 0,.slice none 0 0,.int .i64 0,.int .i64 0]) (by kernel_rfl) ?_
   intro u18_2 qbp hm
   have zl18_2:=qbp.lt
   have Hx100:=hid qbp
   have zu18_2:=hm.size
   have Cx101:=hid (show Mod (fun _=>False) u3_5 u18_2 from hm)
   clear hm
   clear act E qbp
   refine QSeq.go fun act E=>?_
   have hlz:((x.pr.cells p_ps p_os p_ts)).length=List.length ([.int .i64 0,.int .i64 0,.int .i64 0,.int .i64 0,.int .i64 0,.int .u64 0,.slice none 0 0,.slice none 0 0,.slice none 0 0,.int .i64 0,.int .i64 0]:List Value):=rfl
   refine Aq rfl (Ac rfl) rfl Hx100.out (off:=0) (vs:=(x.pr.cells p_ps p_os p_ts)) (by rw [hlz];kernel_rfl) (by intro u hu;simp only [Pr.cells,List.mem_cons,List.not_mem_nil,or_false] at hu;rcases hu with rfl|rfl|rfl|rfl|rfl|rfl|rfl|rfl|rfl|rfl|rfl<;>first|rfl|exact HV1.out _ (by simp)) (by rw [hlz];exact Nat.le_of_eq (Nat.zero_add _)) (E.d 2 0) (ec (E.d 1 1)) ?_
   intro u18_3 qc0 hm
   have qbp:=qc0.eqv (b:=((x.pr.cells p_ps p_os p_ts):List Value).toArray) (A5 (#[.int .i64 0,.int .i64 0,.int .i64 0,.int .i64 0,.int .i64 0,.int .u64 0,.slice none 0 0,.slice none 0 0,.slice none 0 0,.int .i64 0,.int .i64 0]) _ (by rw [hlz];rfl))
   clear qc0 hlz
   have Hx102:=hid qbp
   have zu18_3:=hm.size
   have HMu18_3:=hid hm
   have Cx103:=hid (Mod.goS (S':=(fun _=>False)) Cx101.out hm (fun _ h=>h) (by intro k h0 h2;omega))
   clear hm Cx101
   clear act E qbp Hx100
   clear HMu18_3
   refine QSeq.nil (t':=[_,_,_,_]) rfl ?_
   obtain rfl:=HA0.out
   clear HA0 oe1
   simp only [pz,Act.put,sIB,sCZ,sCS,List.set_nil]
   go_upto_region 19 with (fail)
   generalize ha0:Act.mk _ _=a0
   have oe4:a0.eval (.tmp 4)=.slice aoj (BJ.length) capj:=by rw [← ha0];rfl
   have oe5:a0.eval (.tmp 5)=.pointer (some ⟨u3_5.heap.size,0,none⟩):=by rw [← ha0];rfl
   have hsz0:a0.tmps.size=227:=by rw [← ha0];rfl
   have HA0:=hid ha0
   clear ha0
   refine A1 227 hsz0 [91,92,93,94,95,96,97,98,99,100,101,102,103,104,105,106,107,108,109,110,111,112,4] [qi (.slice aoj (BJ.length) capj),qi (.pointer (some ⟨u3_5.heap.size,0,none⟩)),qi (.int .i64 x.pr.ep),qv 0,qi (.pointer (some ⟨u3_5.heap.size,1,none⟩)),qi (.int .i64 x.pr.rn),qv 1,qi (.pointer (some ⟨u3_5.heap.size,2,none⟩)),qi (.int .i64 x.pr.vl),qi (.int .i64 vw),qv 2,qi (.pointer (some ⟨u3_5.heap.size,3,none⟩)),qi (.int .i64 x.pr.rp),qv 3,qi (.pointer (some ⟨u3_5.heap.size,4,none⟩)),qi (.agg #[.int .i64 x.pr.ba.ep,.int .u64 (x.pr.ba.tm:Nat),p_ps,p_os,p_ts]),qv 4,qi (.pointer (some ⟨u3_5.heap.size,9,none⟩)),qi (.agg #[.int .i64 x.pr.sb,.int .i64 x.pr.mr]),qv 5,qv 6,qv 7,qv 7] ⟨Ab,Ab,Ab,Ak,Ab,Ab,Ak,Ab,Ab,Ab,Ak,Ab,Ab,Ak,Ab,Ab,Ak,Ab,Ab,Ak,Ak,Ak,Ak,trivial⟩ [3,6,10,13,16,19,20,21] ⟨?_,?_,?_,?_,?_,?_,?_,?_,?_,?_,?_,?_,?_,?_,?_,?_,?_,?_,?_,?_,?_,?_,?_,trivial⟩ ?_
   ·exact stq (fun E=>Ai rfl ((E.pre 22 4 rfl (by kernel_rfl)).trans oe4))
   ·exact stq (fun E=>Ad rfl Tryz.underlying47 rfl (by kernel_rfl) (E.v oe5))
   ·exact stq (fun E=>Aj rfl Tryz.underlying3 rfl (E.d 1) (Cs.lit1 (Hx102.out.mod E.m.old (by intro h2;omega)) rfl))
   ·exact Ah rfl
   ·exact stq (fun E=>Ad rfl Tryz.underlying47 rfl (by kernel_rfl) (E.v oe5))
   ·exact stq (fun E=>Aj rfl Tryz.underlying3 rfl (E.d 4) (Cs.lit1 (Hx102.out.mod E.m.old (by intro h2;omega)) rfl))
   ·exact Ah rfl
   ·exact stq (fun E=>Ad rfl Tryz.underlying47 rfl (by kernel_rfl) (E.v oe5))
   ·exact stq (fun E=>Aj rfl Tryz.underlying3 rfl (E.d 7) (Cs.lit1 (Hx102.out.mod E.m.old (by intro h2;omega)) rfl))
   ·exact stq (fun E=>An rfl (E.d 8) rfl (Ag _ _ _ _ _ _) (run_add_i _ _ Tryz.underlying3) (congrArg (Value.int .i64) HVW.out.symm))
   ·exact Ah rfl
   ·exact stq (fun E=>Ad rfl Tryz.underlying47 rfl (by kernel_rfl) (E.v oe5))
   ·exact stq (fun E=>Aj rfl Tryz.underlying3 rfl (E.d 11) (Cs.lit1 (Hx102.out.mod E.m.old (by intro h2;omega)) rfl))
   ·exact Ah rfl
   ·exact stq (fun E=>Ad rfl Tryz.underlying47 rfl (by kernel_rfl) (E.v oe5))
   ·exact stq (fun E=>Am rfl Tryz.underlying45 rfl (off:=4) (cs:=[.int .i64 x.pr.ba.ep,.int .u64 (x.pr.ba.tm:Nat),p_ps,p_os,p_ts]) (by kernel_rfl) (E.d 14) (Cs.litA (Hx102.out.mod E.m.old (by intro h2;omega)) rfl))
   ·exact Ah rfl
   ·exact stq (fun E=>Ad rfl Tryz.underlying47 rfl (by kernel_rfl) (E.v oe5))
   ·exact stq (fun E=>Am rfl Tryz.underlying27 rfl (off:=9) (cs:=[.int .i64 x.pr.sb,.int .i64 x.pr.mr]) (by kernel_rfl) (E.d 17) (Cs.litA (Hx102.out.mod E.m.old (by intro h2;omega)) rfl))
   ·exact Ah rfl
   ·exact Ah rfl
   ·exact Ah rfl
   ·refine Av rfl rfl rfl fun _ _ _ _ _ _ _ _ _ hd _ _=>?_
    have h21:=hd ⟨21,.data⟩ (by simp) rfl _ rfl
    exact Bd rfl (Ac rfl) (Af rfl rfl) QE.refl h21
   intro u19_0 hr
   have zu19_0:=hr.size
   have Cx104:=hid (hr.new (S:=(fun _=>False)))
   clear hr
   refine QChain.go fun Z act E=>?_
   refine Ap (args:=#[.int .i64 x.pr.ep]) rfl (Ac rfl) rfl Tryz.func22 (Aw (E.d 2)) (A9 _ HOP.out.1 _) ?_
   rintro e u19_1a ⟨v_a4,rfl,qa4,hm⟩
   obtain ⟨ao_a4,cap_a4,rfl⟩:=qa4.shape
   have zu19_1a:=hm.size
   refine ⟨_,rfl,hm.mono (fun _ _ h=>h.elim),(fun _=>rfl),?_⟩
   intro u19_1 hr
   have zu19_1:=hr.size
   have Hx105:=hid ((qa4.widen (R':=(fun k=>(New u19_0 u19_1a k))) (fun _ h=>h) (Nat.le_refl _)).mod hr (by intro k h1 h2;omega))
   have Cx106:=hid (Cx104.out.go hm hr)
   clear Cx104 hm hr Z act E qa4
   refine QChain.go fun Z act E=>?_
   refine Ap (args:=#[.int .i64 x.pr.rn]) rfl (Ac rfl) rfl Tryz.func22 (Aw (E.d 5)) (A9 _ HOP.out.2.1 _) ?_
   rintro e u19_2a ⟨v_a5,rfl,qa5,hm⟩
   obtain ⟨ao_a5,cap_a5,rfl⟩:=qa5.shape
   have zu19_2a:=hm.size
   refine ⟨_,rfl,hm.mono (fun _ _ h=>h.elim),(fun _=>rfl),?_⟩
   intro u19_2 hr
   have zu19_2:=hr.size
   have Hx107:=hid ((qa5.widen (R':=(fun k=>(New u19_1 u19_2a k))) (fun _ h=>h) (Nat.le_refl _)).mod hr (by intro k h1 h2;omega))
   have hmr:=Mod.after hm hr
   have Hx108:=hid (Hx105.out.mod hmr (by intro k h1 h2;omega))
   clear Hx105
   clear hmr
   have Cx109:=hid (Cx106.out.go hm hr)
   clear Cx106 hm hr Z act E qa5
   refine QChain.go fun Z act E=>?_
   refine Ap (args:=#[.int .i64 vw]) rfl (Ac rfl) rfl Tryz.func22 (Aw (E.d 9)) (A9 _ HIV.out _) ?_
   rintro e u19_3a ⟨v_a6,rfl,qa6,hm⟩
   obtain ⟨ao_a6,cap_a6,rfl⟩:=qa6.shape
   have zu19_3a:=hm.size
   refine ⟨_,rfl,hm.mono (fun _ _ h=>h.elim),(fun _=>rfl),?_⟩
   intro u19_3 hr
   have zu19_3:=hr.size
   have Hx110:=hid ((qa6.widen (R':=(fun k=>(New u19_2 u19_3a k))) (fun _ h=>h) (Nat.le_refl _)).mod hr (by intro k h1 h2;omega))
   have hmr:=Mod.after hm hr
   have Hx111:=hid (Hx108.out.mod hmr (by intro k h1 h2;omega))
   have Hx112:=hid (Hx107.out.mod hmr (by intro k h1 h2;omega))
   clear Hx108 Hx107
   clear hmr
   have Cx113:=hid (Cx109.out.go hm hr)
   clear Cx109 hm hr Z act E qa6
   refine QChain.go fun Z act E=>?_
   refine Ap (args:=#[.int .i64 x.pr.rp]) rfl (Ac rfl) rfl Tryz.func22 (Aw (E.d 12)) (A9 _ HOP.out.2.2.2.1 _) ?_
   rintro e u19_4a ⟨v_a7,rfl,qa7,hm⟩
   obtain ⟨ao_a7,cap_a7,rfl⟩:=qa7.shape
   have zu19_4a:=hm.size
   refine ⟨_,rfl,hm.mono (fun _ _ h=>h.elim),(fun _=>rfl),?_⟩
   intro u19_4 hr
   have zu19_4:=hr.size
   have Hx114:=hid ((qa7.widen (R':=(fun k=>(New u19_3 u19_4a k))) (fun _ h=>h) (Nat.le_refl _)).mod hr (by intro k h1 h2;omega))
   have hmr:=Mod.after hm hr
   have Hx115:=hid (Hx111.out.mod hmr (by intro k h1 h2;omega))
   have Hx116:=hid (Hx112.out.mod hmr (by intro k h1 h2;omega))
   have Hx117:=hid (Hx110.out.mod hmr (by intro k h1 h2;omega))
   clear Hx111 Hx112 Hx110
   clear hmr
   have Cx118:=hid (Cx113.out.go hm hr)
   clear Cx113 hm hr Z act E qa7
   refine QChain.go fun Z act E=>?_
   refine Ap (args:=#[.agg #[.int .i64 x.pr.ba.ep,.int .u64 (x.pr.ba.tm:Nat),p_ps,p_os,p_ts]]) rfl (Ac rfl) rfl Tryz.func30 (Aw (E.d 15)) (RefBa_Q R2 _ x.pr.ba _ ⟨_,_,_,rfl,HOP.out.2.2.2.2.1,(((Hx4.out.mod Cx31.out (fun _ _ h=>h)).mod Cx103.out (fun _ _ h=>h)).mod Cx118.out (fun _ _ h=>h)),(((Hx5.out.mod Cx31.out (fun _ _ h=>h)).mod Cx103.out (fun _ _ h=>h)).mod Cx118.out (fun _ _ h=>h)),(((Hx6.out.mod Cx31.out (fun _ _ h=>h)).mod Cx103.out (fun _ _ h=>h)).mod Cx118.out (fun _ _ h=>h))⟩ (by intro k h1;have hb:=HBT.out k h1;omega) (by have:=HL.out;simp only [List.length_append] at this ⊢; omega)) ?_
   rintro e u19_5a ⟨v_a8,rfl,qa8,hm⟩
   obtain ⟨ao_a8,cap_a8,rfl⟩:=qa8.shape
   have zu19_5a:=hm.size
   refine ⟨_,rfl,hm.mono (fun _ _ h=>h.elim),(fun _=>rfl),?_⟩
   intro u19_5 hr
   have zu19_5:=hr.size
   have Hx119:=hid ((qa8.widen (R':=(fun k=>(New u19_4 u19_5a k))) (fun _ h=>h) (Nat.le_refl _)).mod hr (by intro k h1 h2;omega))
   have hmr:=Mod.after hm hr
   have Hx120:=hid (Hx115.out.mod hmr (by intro k h1 h2;omega))
   have Hx121:=hid (Hx116.out.mod hmr (by intro k h1 h2;omega))
   have Hx122:=hid (Hx117.out.mod hmr (by intro k h1 h2;omega))
   have Hx123:=hid (Hx114.out.mod hmr (by intro k h1 h2;omega))
   clear Hx115 Hx116 Hx117 Hx114
   clear hmr
   have Cx124:=hid (Cx118.out.go hm hr)
   clear Cx118 hm hr Z act E qa8
   refine QChain.go fun Z act E=>?_
   refine Ap (args:=#[.agg #[.int .i64 x.pr.sb,.int .i64 x.pr.mr]]) rfl (Ac rfl) rfl Tryz.func27 (Aw (E.d 18)) (RefSig_Q HOP.out.2.2.2.2.2.1 HOP.out.2.2.2.2.2.2 _) ?_
   rintro e u19_6a ⟨v_a9,rfl,qa9,hm⟩
   obtain ⟨ao_a9,cap_a9,rfl⟩:=qa9.shape
   have zu19_6a:=hm.size
   refine ⟨_,rfl,hm.mono (fun _ _ h=>h.elim),(fun _=>rfl),?_⟩
   intro u19_6 hr
   have zu19_6:=hr.size
   have Hx125:=hid ((qa9.widen (R':=(fun k=>(New u19_5 u19_6a k))) (fun _ h=>h) (Nat.le_refl _)).mod hr (by intro k h1 h2;omega))
   have hmr:=Mod.after hm hr
   have Hx126:=hid (Hx120.out.mod hmr (by intro k h1 h2;omega))
   have Hx127:=hid (Hx121.out.mod hmr (by intro k h1 h2;omega))
   have Hx128:=hid (Hx122.out.mod hmr (by intro k h1 h2;omega))
   have Hx129:=hid (Hx123.out.mod hmr (by intro k h1 h2;omega))
   have Hx130:=hid (Hx119.out.mod hmr (by intro k h1 h2;omega))
   clear Hx120 Hx121 Hx122 Hx123 Hx119
   clear hmr
   have Cx131:=hid (Cx124.out.go hm hr)
   clear Cx124 hm hr Z act E qa9
   refine QChain.go fun Z act E=>?_
   have ea91:act.eval (.tmp 91)=.slice aoj (BJ.length) capj:=(E.d 0)
   have ea94:act.eval (.tmp 94)=.slice ao_a4 ((encI x.pr.ep).length) cap_a4:=(chv (v:=.slice ao_a4 ((encI x.pr.ep).length) cap_a4) (E.d 3))
   have ea97:act.eval (.tmp 97)=.slice ao_a5 ((encI x.pr.rn).length) cap_a5:=(chv (v:=.slice ao_a5 ((encI x.pr.rn).length) cap_a5) (E.d 6))
   have ea101:act.eval (.tmp 101)=.slice ao_a6 ((encI vw).length) cap_a6:=(chv (v:=.slice ao_a6 ((encI vw).length) cap_a6) (E.d 10))
   have ea104:act.eval (.tmp 104)=.slice ao_a7 ((encI x.pr.rp).length) cap_a7:=(chv (v:=.slice ao_a7 ((encI x.pr.rp).length) cap_a7) (E.d 13))
   have ea107:act.eval (.tmp 107)=.slice ao_a8 ((baB x.pr.ba).length) cap_a8:=(chv (v:=.slice ao_a8 ((baB x.pr.ba).length) cap_a8) (E.d 16))
   have ea110:act.eval (.tmp 110)=.slice ao_a9 ((sigB x.pr.sb x.pr.mr).length) cap_a9:=(chv (v:=.slice ao_a9 ((sigB x.pr.sb x.pr.mr).length) cap_a9) (E.d 19))
   refine Bl rfl (Ac rfl) rfl Tryz.underlying124 (by decide) (C:=#[.slice aoj (BJ.length) capj,.slice ao_a4 ((encI x.pr.ep).length) cap_a4,.slice ao_a5 ((encI x.pr.rn).length) cap_a5,.slice ao_a6 ((encI vw).length) cap_a6,.slice ao_a7 ((encI x.pr.rp).length) cap_a7,.slice ao_a8 ((baB x.pr.ba).length) cap_a8,.slice ao_a9 ((sigB x.pr.sb x.pr.mr).length) cap_a9]) (by simp only [List.map_toArray,List.map_cons,List.map_nil,ea91,ea94,ea97,ea101,ea104,ea107,ea110];kernel_rfl) ?_
   intro u19_7a qrow20 hm
   have zl19_20:=qrow20.lt
   have zu19_7a:=hm.size
   refine ⟨hm.mono (fun _ _ h=>h.elim),(fun _=>rfl),?_⟩
   intro u19_7 hr
   have zu19_7:=hr.size
   have Hx132:=hid (qrow20.mod hr (by intro h2;omega))
   have hmr:=Mod.after hm hr
   have Hx133:=hid (Hx126.out.mod hmr (by intro k h1 h2;omega))
   have Hx134:=hid (Hx127.out.mod hmr (by intro k h1 h2;omega))
   have Hx135:=hid (Hx128.out.mod hmr (by intro k h1 h2;omega))
   have Hx136:=hid (Hx129.out.mod hmr (by intro k h1 h2;omega))
   have Hx137:=hid (Hx130.out.mod hmr (by intro k h1 h2;omega))
   have Hx138:=hid (Hx125.out.mod hmr (by intro k h1 h2;omega))
   clear Hx126 Hx127 Hx128 Hx129 Hx130 Hx125
   clear hmr
   have Cx139:=hid (Cx131.out.go hm hr)
   clear Cx131 hm hr Z act E qrow20 ea91 ea94 ea97 ea101 ea104 ea107 ea110
   refine QChain.go fun Z act E=>?_
   refine Ap (args:=#[.slice (some ⟨u19_6.heap.size,0,none⟩) 7 7]) rfl (Ac rfl) rfl Tryz.func21 (Aw (chv (v:=.slice (some ⟨u19_6.heap.size,0,none⟩) 7 7) (E.d 20))) (Join_Q (n:=7)  Hx132.out [(.slice aoj (BJ.length) capj,BJ),(.slice ao_a4 ((encI x.pr.ep).length) cap_a4,encI x.pr.ep),(.slice ao_a5 ((encI x.pr.rn).length) cap_a5,encI x.pr.rn),(.slice ao_a6 ((encI vw).length) cap_a6,encI vw),(.slice ao_a7 ((encI x.pr.rp).length) cap_a7,encI x.pr.rp),(.slice ao_a8 ((baB x.pr.ba).length) cap_a8,baB x.pr.ba),(.slice ao_a9 ((sigB x.pr.sb x.pr.mr).length) cap_a9,sigB x.pr.sb x.pr.mr)] rfl rfl (by intro p hp;simp only [List.mem_cons,List.not_mem_nil,or_false] at hp;rcases hp with rfl|rfl|rfl|rfl|rfl|rfl|rfl<;>first|exact ((HJ.out.mod Cx103.out (fun _ _ h=>h)).mod Cx139.out (fun _ _ h=>h)).rd.1|exact Hx133.out.rd.1|exact Hx134.out.rd.1|exact Hx135.out.rd.1|exact Hx136.out.rd.1|exact Hx137.out.rd.1|exact Hx138.out.rd.1) (by simp) (show flat _=BJ ++ (encI x.pr.ep ++ (encI x.pr.rn ++ (encI vw ++ (encI x.pr.rp ++ (baB x.pr.ba ++ sigB x.pr.sb x.pr.mr))))) from by simp only [flat,List.map_cons,List.map_nil,List.flatten_cons,List.flatten_nil,List.append_nil]) (by have:=HL.out;simp only [List.length_append] at this ⊢; omega)) ?_
   rintro e u19_8a ⟨v_join2,rfl,qjoin2,hm⟩
   have zu19_8a:=hm.size
   refine ⟨_,rfl,hm.mono (fun _ _ h=>h.elim),(fun _=>rfl),?_⟩
   intro u19_8 hr
   have zu19_8:=hr.size
   have Hx140:=hid ((qjoin2.widen (R':=(fun k=>(New u19_7 u19_8a k))) (fun _ h=>h) (Nat.le_refl _)).mod hr (by intro k h1 h2;omega))
   have hmr:=Mod.after hm hr
   have Hx141:=hid (Hx133.out.mod hmr (by intro k h1 h2;omega))
   have Hx142:=hid (Hx134.out.mod hmr (by intro k h1 h2;omega))
   have Hx143:=hid (Hx135.out.mod hmr (by intro k h1 h2;omega))
   have Hx144:=hid (Hx136.out.mod hmr (by intro k h1 h2;omega))
   have Hx145:=hid (Hx137.out.mod hmr (by intro k h1 h2;omega))
   have Hx146:=hid (Hx138.out.mod hmr (by intro k h1 h2;omega))
   have Hx147:=hid (Hx132.out.mod hmr (by intro h2;omega))
   clear Hx133 Hx134 Hx135 Hx136 Hx137 Hx138 Hx132
   clear hmr
   have Cx148:=hid (Cx139.out.go hm hr)
   clear Cx139 hm hr Z act E qjoin2
   refine QChain.nil fun vs hl hzz hrows hne=>?_
   obtain ⟨Z,hYZ,hZb,hV⟩:=hzz
   have f0:=fvi hV hl 0
   have f3:=fvc hV hl 3
   have f6:=fvc hV hl 6
   have f10:=fvc hV hl 10
   have f13:=fvc hV hl 13
   have f16:=fvc hV hl 16
   have f19:=fvc hV hl 19
   have f20:=fvc hV hl 20
   have f21:=fvc hV hl 21
   have f22:=fvc hV hl 22
   rw [show vs=[gw vs 0,gw vs 1,gw vs 2,gw vs 3,gw vs 4,gw vs 5,gw vs 6,gw vs 7,gw vs 8,gw vs 9,gw vs 10,gw vs 11,gw vs 12,gw vs 13,gw vs 14,gw vs 15,gw vs 16,gw vs 17,gw vs 18,gw vs 19,gw vs 20,gw vs 21,gw vs 22] from (Be hl).trans rfl]
   have ha0:=HA0.out
   subst ha0
   clear HA0 hV hYZ hZb hsz0 hrows hne oe4 oe5
   simp only [Au,Act.put,sIB,sCZ,sCS,f0,f3,f6,f10,f13,f16,f19,f20,f21,f22]
   clear hl f0 f3 f6 f10 f13 f16 f19 f20 f21 f22
   have hq:=(Hx140.out.widen (R':=(fun k=>New w u19_8 k)) (by intro k h1;omega) (Nat.le_refl _))
   rw [show BJ ++ (encI x.pr.ep ++ (encI x.pr.rn ++ (encI vw ++ (encI x.pr.rp ++ (baB x.pr.ba ++ sigB x.pr.sb x.pr.mr)))))=Bj x by unfold Bj;rw [HE.out,HBJ.out];simp only [List.append_assoc]] at hq
   have HQ:=Lib.hid hq
   clear hq
   go_wp2_with fail
   go_meet
   case rel=>exact ⟨HQ.out,(((HM0.out.trans Cx31.out (fun _ _ h=>h.elim)).trans Cx103.out (fun _ _ h=>h.elim)).trans Cx148.out (fun _ _ h=>h.elim))⟩
  have K7:=Lib.hid h7
  clear h7
  go_upto_region 17 with (fail)
  refine Aa 227 [88,87] [0,1] (fun a0 HA0=>?_)
  have oe28:=ev HA0 28 rfl
  refine QSeq.pure rfl (.bool false) (fun E=>An rfl (E.v oe28) rfl (Ag _ _ _ _ _ _) (Al _ _ _ Tryz.underlying3) (congrArg Value.bool (Bb K7.out))) ?_
  refine QSeq.pure rfl _ (fun E=>Af rfl (E.d 0 0)) ?_
  refine QSeq.nil (t':=[_,_]) rfl ?_
  obtain rfl:=HA0.out
  clear HA0 oe28
  simp only [pz,Act.put,sIB,sCZ,sCS]
  by_cases h8:x.kd=8
  ·have KK:=Lib.hid h8
   clear h8
   go_upto_region 20 with (fail)
   refine Aa 227 [114,113] [0,1] (fun a0 HA0=>?_)
   have oe28:=ev HA0 28 rfl
   refine QSeq.pure rfl (.bool true) (fun E=>An rfl (E.v oe28) rfl (Ag _ _ _ _ _ _) (Al _ _ _ Tryz.underlying3) (congrArg Value.bool (Bi KK.out))) ?_
   refine QSeq.pure rfl _ (fun E=>Af rfl (E.d 0 0)) ?_
   refine QSeq.nil (t':=[_,_]) rfl ?_
   obtain rfl:=HA0.out
   clear HA0 oe28
   simp only [pz,Act.put,sIB,sCZ,sCS]
   have HE:=hid (show A8 x=bareV x.vt ++ sigB x.vt.sb x.vt.mr by unfold A8;rw [KK.out];exact vt_bare x.vt)
   have HL:=hid (show (BJ ++ (bareV x.vt ++ sigB x.vt.sb x.vt.mr)).length≤900000 by have h:=HL0.out;rw [HE.out,← HBJ.out] at h;exact h)
   go_upto_region 21 with (fail)
   generalize ha0:Act.mk _ _=a0
   have oe1:a0.eval (.tmp 1)=.pointer (some ⟨w.heap.size,0,none⟩):=by rw [← ha0];rfl
   have oe4:a0.eval (.tmp 4)=.slice aoj (BJ.length) capj:=by rw [← ha0];rfl
   have hsz0:a0.tmps.size=227:=by rw [← ha0];rfl
   have HA0:=hid ha0
   clear ha0
   refine A1 227 hsz0 [115,116,117,118,119,120,121,122,123,124,4] [qi (.slice aoj (BJ.length) capj),qi (.pointer (some ⟨w.heap.size,174,none⟩)),qi (.agg (x.vt.cells).toArray),qv 0,qi (.pointer (some ⟨w.heap.size,174,none⟩)),qi (.pointer (some ⟨w.heap.size,210,none⟩)),qi (.agg #[.int .i64 x.vt.sb,.int .i64 x.vt.mr]),qv 1,qv 2,qv 3,qv 3] ⟨Ab,Ab,Ab,Ak,Ab,Ab,Ab,Ak,Ak,Ak,Ak,trivial⟩ [3,7,8,9] ⟨?_,?_,?_,?_,?_,?_,?_,?_,?_,?_,?_,trivial⟩ ?_
   ·exact stq (fun E=>Ai rfl ((E.pre 10 4 rfl (by kernel_rfl)).trans oe4))
   ·exact stq (fun E=>Ad rfl Tryz.underlying61 rfl (by kernel_rfl) (E.v oe1))
   ·exact stq (fun E=>Am rfl Tryz.underlying49 rfl (off:=174) (cs:=(x.vt.cells)) (by rw [Vt.len HOK.out.vt];kernel_rfl) (E.d 1) (Cs.seg ((HB1.out.mod Cx31.out (fun h=>h)).mod E.m.old (by intro h2;omega)) HLN.out 12 rfl rfl))
   ·exact Ah rfl
   ·exact stq (fun E=>Ad rfl Tryz.underlying61 rfl (by kernel_rfl) (E.v oe1))
   ·exact stq (fun E=>Ad rfl Tryz.underlying49 rfl (by kernel_rfl) (E.d 4))
   ·exact stq (fun E=>Am rfl Tryz.underlying27 rfl (off:=210) (cs:=[.int .i64 x.vt.sb,.int .i64 x.vt.mr]) (by kernel_rfl) (E.d 5) (Cs.segA ((HB1.out.mod Cx31.out (fun h=>h)).mod E.m.old (by intro h2;omega)) HLN.out 12 rfl (o:=174) (k:=36) rfl rfl (Vt_sg HOK.out.vt)))
   ·exact Ah rfl
   ·exact Ah rfl
   ·exact Ah rfl
   ·refine Av rfl rfl rfl fun _ _ _ _ _ _ _ _ _ hd _ _=>?_
    have h9:=hd ⟨9,.data⟩ (by simp) rfl _ rfl
    exact Bd rfl (Ac rfl) (Af rfl rfl) QE.refl h9
   intro u21_0 hr
   have zu21_0:=hr.size
   have Cx149:=hid (hr.new (S:=(fun _=>False)))
   clear hr
   refine QChain.go fun Z act E=>?_
   refine Ap (args:=#[.agg (x.vt.cells).toArray]) rfl (Ac rfl) rfl Tryz.func31 (Aw (E.d 2)) (RefBareV_Q (fun _=>False) _ x.vt _ ⟨rfl,HOK.out.vt⟩ (fun _ h=>h.elim) (by have:=HL.out;simp only [List.length_append] at this ⊢; omega)) ?_
   rintro e u21_1a ⟨v_a4,rfl,qa4,hm⟩
   obtain ⟨ao_a4,cap_a4,rfl⟩:=qa4.shape
   have zu21_1a:=hm.size
   refine ⟨_,rfl,hm.mono (fun _ _ h=>h.elim),(fun _=>rfl),?_⟩
   intro u21_1 hr
   have zu21_1:=hr.size
   have Hx150:=hid ((qa4.widen (R':=(fun k=>(New u21_0 u21_1a k))) (fun _ h=>h) (Nat.le_refl _)).mod hr (by intro k h1 h2;omega))
   have Cx151:=hid (Cx149.out.go hm hr)
   clear Cx149 hm hr Z act E qa4
   refine QChain.go fun Z act E=>?_
   refine Ap (args:=#[.agg #[.int .i64 x.vt.sb,.int .i64 x.vt.mr]]) rfl (Ac rfl) rfl Tryz.func27 (Aw (E.d 6)) (RefSig_Q HOK.out.vt.sb HOK.out.vt.mr _) ?_
   rintro e u21_2a ⟨v_a5,rfl,qa5,hm⟩
   obtain ⟨ao_a5,cap_a5,rfl⟩:=qa5.shape
   have zu21_2a:=hm.size
   refine ⟨_,rfl,hm.mono (fun _ _ h=>h.elim),(fun _=>rfl),?_⟩
   intro u21_2 hr
   have zu21_2:=hr.size
   have Hx152:=hid ((qa5.widen (R':=(fun k=>(New u21_1 u21_2a k))) (fun _ h=>h) (Nat.le_refl _)).mod hr (by intro k h1 h2;omega))
   have hmr:=Mod.after hm hr
   have Hx153:=hid (Hx150.out.mod hmr (by intro k h1 h2;omega))
   clear Hx150
   clear hmr
   have Cx154:=hid (Cx151.out.go hm hr)
   clear Cx151 hm hr Z act E qa5
   refine QChain.go fun Z act E=>?_
   have ea115:act.eval (.tmp 115)=.slice aoj (BJ.length) capj:=(E.d 0)
   have ea118:act.eval (.tmp 118)=.slice ao_a4 ((bareV x.vt).length) cap_a4:=(chv (v:=.slice ao_a4 ((bareV x.vt).length) cap_a4) (E.d 3))
   have ea122:act.eval (.tmp 122)=.slice ao_a5 ((sigB x.vt.sb x.vt.mr).length) cap_a5:=(chv (v:=.slice ao_a5 ((sigB x.vt.sb x.vt.mr).length) cap_a5) (E.d 7))
   refine Bl rfl (Ac rfl) rfl Tryz.underlying124 (by decide) (C:=#[.slice aoj (BJ.length) capj,.slice ao_a4 ((bareV x.vt).length) cap_a4,.slice ao_a5 ((sigB x.vt.sb x.vt.mr).length) cap_a5]) (by simp only [List.map_toArray,List.map_cons,List.map_nil,ea115,ea118,ea122];kernel_rfl) ?_
   intro u21_3a qrow8 hm
   have zl21_8:=qrow8.lt
   have zu21_3a:=hm.size
   refine ⟨hm.mono (fun _ _ h=>h.elim),(fun _=>rfl),?_⟩
   intro u21_3 hr
   have zu21_3:=hr.size
   have Hx155:=hid (qrow8.mod hr (by intro h2;omega))
   have hmr:=Mod.after hm hr
   have Hx156:=hid (Hx153.out.mod hmr (by intro k h1 h2;omega))
   have Hx157:=hid (Hx152.out.mod hmr (by intro k h1 h2;omega))
   clear Hx153 Hx152
   clear hmr
   have Cx158:=hid (Cx154.out.go hm hr)
   clear Cx154 hm hr Z act E qrow8 ea115 ea118 ea122
   refine QChain.go fun Z act E=>?_
   refine Ap (args:=#[.slice (some ⟨u21_2.heap.size,0,none⟩) 3 3]) rfl (Ac rfl) rfl Tryz.func21 (Aw (chv (v:=.slice (some ⟨u21_2.heap.size,0,none⟩) 3 3) (E.d 8))) (Join_Q (n:=3)  Hx155.out [(.slice aoj (BJ.length) capj,BJ),(.slice ao_a4 ((bareV x.vt).length) cap_a4,bareV x.vt),(.slice ao_a5 ((sigB x.vt.sb x.vt.mr).length) cap_a5,sigB x.vt.sb x.vt.mr)] rfl rfl (by intro p hp;simp only [List.mem_cons,List.not_mem_nil,or_false] at hp;rcases hp with rfl|rfl|rfl<;>first|exact (HJ.out.mod Cx158.out (fun _ _ h=>h)).rd.1|exact Hx156.out.rd.1|exact Hx157.out.rd.1) (by simp) (show flat _=BJ ++ (bareV x.vt ++ sigB x.vt.sb x.vt.mr) from by simp only [flat,List.map_cons,List.map_nil,List.flatten_cons,List.flatten_nil,List.append_nil]) (by have:=HL.out;simp only [List.length_append] at this ⊢; omega)) ?_
   rintro e u21_4a ⟨v_join2,rfl,qjoin2,hm⟩
   have zu21_4a:=hm.size
   refine ⟨_,rfl,hm.mono (fun _ _ h=>h.elim),(fun _=>rfl),?_⟩
   intro u21_4 hr
   have zu21_4:=hr.size
   have Hx159:=hid ((qjoin2.widen (R':=(fun k=>(New u21_3 u21_4a k))) (fun _ h=>h) (Nat.le_refl _)).mod hr (by intro k h1 h2;omega))
   have hmr:=Mod.after hm hr
   have Hx160:=hid (Hx156.out.mod hmr (by intro k h1 h2;omega))
   have Hx161:=hid (Hx157.out.mod hmr (by intro k h1 h2;omega))
   have Hx162:=hid (Hx155.out.mod hmr (by intro h2;omega))
   clear Hx156 Hx157 Hx155
   clear hmr
   have Cx163:=hid (Cx158.out.go hm hr)
   clear Cx158 hm hr Z act E qjoin2
   refine QChain.nil fun vs hl hzz hrows hne=>?_
   obtain ⟨Z,hYZ,hZb,hV⟩:=hzz
   have f0:=fvi hV hl 0
   have f3:=fvc hV hl 3
   have f7:=fvc hV hl 7
   have f8:=fvc hV hl 8
   have f9:=fvc hV hl 9
   have f10:=fvc hV hl 10
   rw [show vs=[gw vs 0,gw vs 1,gw vs 2,gw vs 3,gw vs 4,gw vs 5,gw vs 6,gw vs 7,gw vs 8,gw vs 9,gw vs 10] from (Be hl).trans rfl]
   have ha0:=HA0.out
   subst ha0
   clear HA0 hV hYZ hZb hsz0 hrows hne oe1 oe4
   simp only [Au,Act.put,sIB,sCZ,sCS,f0,f3,f7,f8,f9,f10]
   clear hl f0 f3 f7 f8 f9 f10
   have hq:=(Hx159.out.widen (R':=(fun k=>New w u21_4 k)) (by intro k h1;omega) (Nat.le_refl _))
   rw [show BJ ++ (bareV x.vt ++ sigB x.vt.sb x.vt.mr)=Bj x by unfold Bj;rw [HE.out,HBJ.out];simp only [List.append_assoc]] at hq
   have HQ:=Lib.hid hq
   clear hq
   go_wp2_with fail
   go_meet
   case rel=>exact ⟨HQ.out,((HM0.out.trans Cx31.out (fun _ _ h=>h.elim)).trans Cx163.out (fun _ _ h=>h.elim))⟩
  have K8:=Lib.hid h8
  clear h8
  go_upto_region 20 with (fail)
  refine Aa 227 [114,113] [0,1] (fun a0 HA0=>?_)
  have oe28:=ev HA0 28 rfl
  refine QSeq.pure rfl (.bool false) (fun E=>An rfl (E.v oe28) rfl (Ag _ _ _ _ _ _) (Al _ _ _ Tryz.underlying3) (congrArg Value.bool (Bb K8.out))) ?_
  refine QSeq.pure rfl _ (fun E=>Af rfl (E.d 0 0)) ?_
  refine QSeq.nil (t':=[_,_]) rfl ?_
  obtain rfl:=HA0.out
  clear HA0 oe28
  simp only [pz,Act.put,sIB,sCZ,sCS]
  by_cases h9:x.kd=9
  ·have KK:=Lib.hid h9
   clear h9
   go_upto_region 22 with (fail)
   refine Aa 227 [126,125] [0,1] (fun a0 HA0=>?_)
   have oe28:=ev HA0 28 rfl
   refine QSeq.pure rfl (.bool true) (fun E=>An rfl (E.v oe28) rfl (Ag _ _ _ _ _ _) (Al _ _ _ Tryz.underlying3) (congrArg Value.bool (Bi KK.out))) ?_
   refine QSeq.pure rfl _ (fun E=>Af rfl (E.d 0 0)) ?_
   refine QSeq.nil (t':=[_,_]) rfl ?_
   obtain rfl:=HA0.out
   clear HA0 oe28
   simp only [pz,Act.put,sIB,sCZ,sCS]
   have HE:=hid (show A8 x=encI x.ix ++ (nameB x.en.cl x.en.sq ++ (x.en.h ++ encN x.en.tm)) by unfold A8;rw [KK.out];exact (rfl:_=encI x.ix ++ enB x.en).trans (by simp only [enB,List.append_assoc]))
   have HL:=hid (show (BJ ++ (encI x.ix ++ (nameB x.en.cl x.en.sq ++ (x.en.h ++ encN x.en.tm)))).length≤900000 by have h:=HL0.out;rw [HE.out,← HBJ.out] at h;exact h)
   go_upto_region 23 with (fail)
   generalize ha0:Act.mk _ _=a0
   have oe1:a0.eval (.tmp 1)=.pointer (some ⟨w.heap.size,0,none⟩):=by rw [← ha0];rfl
   have oe4:a0.eval (.tmp 4)=.slice aoj (BJ.length) capj:=by rw [← ha0];rfl
   have hsz0:a0.tmps.size=227:=by rw [← ha0];rfl
   have HA0:=hid ha0
   clear ha0
   refine A1 227 hsz0 [127,128,129,130,131,132,133,134,135,136,137,138,139,140,141,142,143,4] [qi (.slice aoj (BJ.length) capj),qi (.pointer (some ⟨w.heap.size,212,none⟩)),qi (.int .i64 x.ix),qv 0,qi (.pointer (some ⟨w.heap.size,213,none⟩)),qi (.pointer (some ⟨w.heap.size,213,none⟩)),qi (.agg #[.int .i64 x.en.cl,.int .i64 x.en.sq]),qv 1,qi (.pointer (some ⟨w.heap.size,213,none⟩)),qi (.pointer (some ⟨w.heap.size,215,none⟩)),qi (.slice (some ⟨w.heap.size,215,none⟩) 32 32),qi (.pointer (some ⟨w.heap.size,213,none⟩)),qi (.pointer (some ⟨w.heap.size,247,none⟩)),qi (.int .u64 (x.en.tm:Nat)),qv 2,qv 3,qv 4,qv 4] ⟨Ab,Ab,Ab,Ak,Ab,Ab,Ab,Ak,Ab,Ab,Ab,Ab,Ab,Ab,Ak,Ak,Ak,Ak,trivial⟩ [3,7,14,15,16] ⟨?_,?_,?_,?_,?_,?_,?_,?_,?_,?_,?_,?_,?_,?_,?_,?_,?_,?_,trivial⟩ ?_
   ·exact stq (fun E=>Ai rfl ((E.pre 17 4 rfl (by kernel_rfl)).trans oe4))
   ·exact stq (fun E=>Ad rfl Tryz.underlying61 rfl (by kernel_rfl) (E.v oe1))
   ·exact stq (fun E=>Aj rfl Tryz.underlying3 rfl (E.d 1) (Cs.seg1 ((HB1.out.mod Cx31.out (fun h=>h)).mod E.m.old (by intro h2;omega)) HLN.out 13 rfl (o:=212) (k:=0) rfl rfl rfl))
   ·exact Ah rfl
   ·exact stq (fun E=>Ad rfl Tryz.underlying61 rfl (by kernel_rfl) (E.v oe1))
   ·exact stq (fun E=>Ad rfl Tryz.underlying51 rfl (by kernel_rfl) (E.d 4))
   ·exact stq (fun E=>Am rfl Tryz.underlying23 rfl (off:=213) (cs:=[.int .i64 x.en.cl,.int .i64 x.en.sq]) (by kernel_rfl) (E.d 5) (Cs.segA ((HB1.out.mod Cx31.out (fun h=>h)).mod E.m.old (by intro h2;omega)) HLN.out 14 rfl (o:=213) (k:=0) rfl rfl rfl))
   ·exact Ah rfl
   ·exact stq (fun E=>Ad rfl Tryz.underlying61 rfl (by kernel_rfl) (E.v oe1))
   ·exact stq (fun E=>Ad rfl Tryz.underlying51 rfl (by kernel_rfl) (E.d 8))
   ·exact stq (fun E=>ex_sliceArr rfl Tryz.underlying25 (by kernel_rfl) (E.d 9) (by decide))
   ·exact stq (fun E=>Ad rfl Tryz.underlying61 rfl (by kernel_rfl) (E.v oe1))
   ·exact stq (fun E=>Ad rfl Tryz.underlying51 rfl (by kernel_rfl) (E.d 11))
   ·exact stq (fun E=>Aj rfl Tryz.underlying30 rfl (E.d 12) (Cs.seg1 ((HB1.out.mod Cx31.out (fun h=>h)).mod E.m.old (by intro h2;omega)) HLN.out 14 rfl (o:=213) (k:=34) rfl rfl (En_tm HOK.out.en)))
   ·exact Ah rfl
   ·exact Ah rfl
   ·exact Ah rfl
   ·refine Av rfl rfl rfl fun _ _ _ _ _ _ _ _ _ hd _ _=>?_
    have h16:=hd ⟨16,.data⟩ (by simp) rfl _ rfl
    exact Bd rfl (Ac rfl) (Af rfl rfl) QE.refl h16
   intro u23_0 hr
   have zu23_0:=hr.size
   have Cx164:=hid (hr.new (S:=(fun _=>False)))
   clear hr
   refine QChain.go fun Z act E=>?_
   refine Ap (args:=#[.int .i64 x.ix]) rfl (Ac rfl) rfl Tryz.func22 (Aw (E.d 2)) (A9 _ HOK.out.ix _) ?_
   rintro e u23_1a ⟨v_a4,rfl,qa4,hm⟩
   obtain ⟨ao_a4,cap_a4,rfl⟩:=qa4.shape
   have zu23_1a:=hm.size
   refine ⟨_,rfl,hm.mono (fun _ _ h=>h.elim),(fun _=>rfl),?_⟩
   intro u23_1 hr
   have zu23_1:=hr.size
   have Hx165:=hid ((qa4.widen (R':=(fun k=>(New u23_0 u23_1a k))) (fun _ h=>h) (Nat.le_refl _)).mod hr (by intro k h1 h2;omega))
   have Cx166:=hid (Cx164.out.go hm hr)
   clear Cx164 hm hr Z act E qa4
   refine QChain.go fun Z act E=>?_
   refine Ap (args:=#[.agg #[.int .i64 x.en.cl,.int .i64 x.en.sq]]) rfl (Ac rfl) rfl Tryz.func32 (Aw (E.d 6)) (RefName_Q HOK.out.en.cl HOK.out.en.sq _) ?_
   rintro e u23_2a ⟨v_a5,rfl,qa5,hm⟩
   obtain ⟨ao_a5,cap_a5,rfl⟩:=qa5.shape
   have zu23_2a:=hm.size
   refine ⟨_,rfl,hm.mono (fun _ _ h=>h.elim),(fun _=>rfl),?_⟩
   intro u23_2 hr
   have zu23_2:=hr.size
   have Hx167:=hid ((qa5.widen (R':=(fun k=>(New u23_1 u23_2a k))) (fun _ h=>h) (Nat.le_refl _)).mod hr (by intro k h1 h2;omega))
   have hmr:=Mod.after hm hr
   have Hx168:=hid (Hx165.out.mod hmr (by intro k h1 h2;omega))
   clear Hx165
   clear hmr
   have Cx169:=hid (Cx166.out.go hm hr)
   clear Cx166 hm hr Z act E qa5
   refine QChain.go fun Z act E=>?_
   refine Ap (args:=#[.int .u64 (x.en.tm:Nat)]) rfl (Ac rfl) rfl Tryz.func28 (Aw (E.d 13)) (RefNum_Q _ HOK.out.en.tm _) ?_
   rintro e u23_3a ⟨v_a6,rfl,qa6,hm⟩
   obtain ⟨ao_a6,cap_a6,rfl⟩:=qa6.shape
   have zu23_3a:=hm.size
   refine ⟨_,rfl,hm.mono (fun _ _ h=>h.elim),(fun _=>rfl),?_⟩
   intro u23_3 hr
   have zu23_3:=hr.size
   have Hx170:=hid ((qa6.widen (R':=(fun k=>(New u23_2 u23_3a k))) (fun _ h=>h) (Nat.le_refl _)).mod hr (by intro k h1 h2;omega))
   have hmr:=Mod.after hm hr
   have Hx171:=hid (Hx168.out.mod hmr (by intro k h1 h2;omega))
   have Hx172:=hid (Hx167.out.mod hmr (by intro k h1 h2;omega))
   clear Hx168 Hx167
   clear hmr
   have Cx173:=hid (Cx169.out.go hm hr)
   clear Cx169 hm hr Z act E qa6
   refine QChain.go fun Z act E=>?_
   have ea127:act.eval (.tmp 127)=.slice aoj (BJ.length) capj:=(E.d 0)
   have ea130:act.eval (.tmp 130)=.slice ao_a4 ((encI x.ix).length) cap_a4:=(chv (v:=.slice ao_a4 ((encI x.ix).length) cap_a4) (E.d 3))
   have ea134:act.eval (.tmp 134)=.slice ao_a5 ((nameB x.en.cl x.en.sq).length) cap_a5:=(chv (v:=.slice ao_a5 ((nameB x.en.cl x.en.sq).length) cap_a5) (E.d 7))
   have ea137:act.eval (.tmp 137)=.slice (some ⟨w.heap.size,215,none⟩) 32 32:=(E.d 10)
   have ea141:act.eval (.tmp 141)=.slice ao_a6 ((encN x.en.tm).length) cap_a6:=(chv (v:=.slice ao_a6 ((encN x.en.tm).length) cap_a6) (E.d 14))
   refine Bl rfl (Ac rfl) rfl Tryz.underlying124 (by decide) (C:=#[.slice aoj (BJ.length) capj,.slice ao_a4 ((encI x.ix).length) cap_a4,.slice ao_a5 ((nameB x.en.cl x.en.sq).length) cap_a5,.slice (some ⟨w.heap.size,215,none⟩) 32 32,.slice ao_a6 ((encN x.en.tm).length) cap_a6]) (by simp only [List.map_toArray,List.map_cons,List.map_nil,ea127,ea130,ea134,ea137,ea141];kernel_rfl) ?_
   intro u23_4a qrow15 hm
   have zl23_15:=qrow15.lt
   have zu23_4a:=hm.size
   refine ⟨hm.mono (fun _ _ h=>h.elim),(fun _=>rfl),?_⟩
   intro u23_4 hr
   have zu23_4:=hr.size
   have Hx174:=hid (qrow15.mod hr (by intro h2;omega))
   have hmr:=Mod.after hm hr
   have Hx175:=hid (Hx171.out.mod hmr (by intro k h1 h2;omega))
   have Hx176:=hid (Hx172.out.mod hmr (by intro k h1 h2;omega))
   have Hx177:=hid (Hx170.out.mod hmr (by intro k h1 h2;omega))
   clear Hx171 Hx172 Hx170
   clear hmr
   have Cx178:=hid (Cx173.out.go hm hr)
   clear Cx173 hm hr Z act E qrow15 ea127 ea130 ea134 ea137 ea141
   refine QChain.go fun Z act E=>?_
   refine Ap (args:=#[.slice (some ⟨u23_3.heap.size,0,none⟩) 5 5]) rfl (Ac rfl) rfl Tryz.func21 (Aw (chv (v:=.slice (some ⟨u23_3.heap.size,0,none⟩) 5 5) (E.d 15))) (Join_Q (n:=5)  Hx174.out [(.slice aoj (BJ.length) capj,BJ),(.slice ao_a4 ((encI x.ix).length) cap_a4,encI x.ix),(.slice ao_a5 ((nameB x.en.cl x.en.sq).length) cap_a5,nameB x.en.cl x.en.sq),(.slice (some ⟨w.heap.size,215,none⟩) 32 32,x.en.h),(.slice ao_a6 ((encN x.en.tm).length) cap_a6,encN x.en.tm)] rfl rfl (by intro p hp;simp only [List.mem_cons,List.not_mem_nil,or_false] at hp;rcases hp with rfl|rfl|rfl|rfl|rfl<;>first|exact (HJ.out.mod Cx178.out (fun _ _ h=>h)).rd.1|exact Hx175.out.rd.1|exact Hx176.out.rd.1|exact RdB_arr3 (Cs.segA ((HB1.out.mod Cx31.out (fun h=>h)).mod Cx178.out (fun h=>h)) HLN.out 14 rfl (o:=213) (k:=2) rfl rfl En_hs) HOK.out.en.h|exact Hx177.out.rd.1) (by simp) (show flat _=BJ ++ (encI x.ix ++ (nameB x.en.cl x.en.sq ++ (x.en.h ++ encN x.en.tm))) from by simp only [flat,List.map_cons,List.map_nil,List.flatten_cons,List.flatten_nil,List.append_nil]) (by have:=HL.out;simp only [List.length_append] at this ⊢; omega)) ?_
   rintro e u23_5a ⟨v_join2,rfl,qjoin2,hm⟩
   have zu23_5a:=hm.size
   refine ⟨_,rfl,hm.mono (fun _ _ h=>h.elim),(fun _=>rfl),?_⟩
   intro u23_5 hr
   have zu23_5:=hr.size
   have Hx179:=hid ((qjoin2.widen (R':=(fun k=>(New u23_4 u23_5a k))) (fun _ h=>h) (Nat.le_refl _)).mod hr (by intro k h1 h2;omega))
   have hmr:=Mod.after hm hr
   have Hx180:=hid (Hx175.out.mod hmr (by intro k h1 h2;omega))
   have Hx181:=hid (Hx176.out.mod hmr (by intro k h1 h2;omega))
   have Hx182:=hid (Hx177.out.mod hmr (by intro k h1 h2;omega))
   have Hx183:=hid (Hx174.out.mod hmr (by intro h2;omega))
   clear Hx175 Hx176 Hx177 Hx174
   clear hmr
   have Cx184:=hid (Cx178.out.go hm hr)
   clear Cx178 hm hr Z act E qjoin2
   refine QChain.nil fun vs hl hzz hrows hne=>?_
   obtain ⟨Z,hYZ,hZb,hV⟩:=hzz
   have f0:=fvi hV hl 0
   have f3:=fvc hV hl 3
   have f7:=fvc hV hl 7
   have f14:=fvc hV hl 14
   have f15:=fvc hV hl 15
   have f16:=fvc hV hl 16
   have f17:=fvc hV hl 17
   rw [show vs=[gw vs 0,gw vs 1,gw vs 2,gw vs 3,gw vs 4,gw vs 5,gw vs 6,gw vs 7,gw vs 8,gw vs 9,gw vs 10,gw vs 11,gw vs 12,gw vs 13,gw vs 14,gw vs 15,gw vs 16,gw vs 17] from (Be hl).trans rfl]
   have ha0:=HA0.out
   subst ha0
   clear HA0 hV hYZ hZb hsz0 hrows hne oe1 oe4
   simp only [Au,Act.put,sIB,sCZ,sCS,f0,f3,f7,f14,f15,f16,f17]
   clear hl f0 f3 f7 f14 f15 f16 f17
   have hq:=(Hx179.out.widen (R':=(fun k=>New w u23_5 k)) (by intro k h1;omega) (Nat.le_refl _))
   rw [show BJ ++ (encI x.ix ++ (nameB x.en.cl x.en.sq ++ (x.en.h ++ encN x.en.tm)))=Bj x by unfold Bj;rw [HE.out,HBJ.out];simp only [List.append_assoc]] at hq
   have HQ:=Lib.hid hq
   clear hq
   go_wp2_with fail
   go_meet
   case rel=>exact ⟨HQ.out,((HM0.out.trans Cx31.out (fun _ _ h=>h.elim)).trans Cx184.out (fun _ _ h=>h.elim))⟩
  have K9:=Lib.hid h9
  clear h9
  go_upto_region 22 with (fail)
  refine Aa 227 [126,125] [0,1] (fun a0 HA0=>?_)
  have oe28:=ev HA0 28 rfl
  refine QSeq.pure rfl (.bool false) (fun E=>An rfl (E.v oe28) rfl (Ag _ _ _ _ _ _) (Al _ _ _ Tryz.underlying3) (congrArg Value.bool (Bb K9.out))) ?_
  refine QSeq.pure rfl _ (fun E=>Af rfl (E.d 0 0)) ?_
  refine QSeq.nil (t':=[_,_]) rfl ?_
  obtain rfl:=HA0.out
  clear HA0 oe28
  simp only [pz,Act.put,sIB,sCZ,sCS]
  by_cases h10:x.kd=10
  ·have KK:=Lib.hid h10
   clear h10
   go_upto_region 24 with (fail)
   refine Aa 227 [145,144] [0,1] (fun a0 HA0=>?_)
   have oe28:=ev HA0 28 rfl
   refine QSeq.pure rfl (.bool true) (fun E=>An rfl (E.v oe28) rfl (Ag _ _ _ _ _ _) (Al _ _ _ Tryz.underlying3) (congrArg Value.bool (Bi KK.out))) ?_
   refine QSeq.pure rfl _ (fun E=>Af rfl (E.d 0 0)) ?_
   refine QSeq.nil (t':=[_,_]) rfl ?_
   obtain rfl:=HA0.out
   clear HA0 oe28
   simp only [pz,Act.put,sIB,sCZ,sCS]
   have HE:=hid (show A8 x=opB x.op by unfold A8;rw [KK.out];rfl)
   have HL:=hid (show (BJ ++ (opB x.op)).length≤900000 by have h:=HL0.out;rw [HE.out,← HBJ.out] at h;exact h)
   go_upto_region 25 with (fail)
   refine Aa 227 [146,147,148,149,150,151,4] [0,1,2,3,4,5,6] (fun a0 HA0=>?_)
   have oe1:=ev HA0 1 rfl
   have oe4:=ev HA0 4 rfl
   refine QSeq.pure rfl _ (fun E=>Ai rfl (E.y 6 oe4)) ?_
   refine QSeq.pure rfl (.pointer (some ⟨w.heap.size,248,none⟩)) (fun E=>Ad rfl Tryz.underlying61 rfl (by kernel_rfl) (E.v oe1)) ?_
   refine QSeq.pure rfl _ (fun E=>Am rfl Tryz.underlying54 rfl (off:=248) (cs:=(c15)) (by rw [HC15.out];kernel_rfl) (E.d 1 0) (Cs.seg (HB1.out.mod Cx31.out (fun h=>h)) HLN.out 15 rfl rfl)) ?_
   refine QSeq.call rfl rfl Tryz.func33 (RefOp_Q R2 _ x.op _ (Hx3.out.mod Cx31.out (fun _ _ h=>h)) (by intro k h1;have hb:=HBT.out k h1;omega) (by have:=HL.out;simp only [List.length_append] at this ⊢; omega)) (fun E=>Aw (E.d 2 0)) ?_
   rintro e u25_3 ⟨v_a4,rfl,qa4,hm⟩
   obtain ⟨ao_a4,cap_a4,rfl⟩:=qa4.shape
   refine ⟨_,rfl,?_⟩
   have Hx185:=hid qa4
   have zu25_3:=hm.size
   have Cx186:=hid (show Mod (fun _=>False) u3_5 u25_3 from hm)
   clear hm
   clear qa4
   refine QSeq.go fun act E=>?_
   have ea146:act.eval (.tmp 146)=.slice aoj (BJ.length) capj:=(E.d 0 3)
   have ea149:act.eval (.tmp 149)=.slice ao_a4 ((opB x.op).length) cap_a4:=(E.d 3 0)
   refine Bl rfl (Ac rfl) rfl Tryz.underlying124 (by decide) (C:=#[.slice aoj (BJ.length) capj,.slice ao_a4 ((opB x.op).length) cap_a4]) (by simp only [List.map_toArray,List.map_cons,List.map_nil,ea146,ea149];kernel_rfl) ?_
   intro u25_4 qrow4 hm
   have zl25_4:=qrow4.lt
   have Hx187:=hid qrow4
   have zu25_4:=hm.size
   have HMu25_4:=hid hm
   have Cx188:=hid (Cx186.out.goE hm)
   clear hm Cx186
   clear act E qrow4 ea146 ea149
   refine QSeq.call rfl rfl Tryz.func21 (Join_Q (n:=2)  Hx187.out [(.slice aoj (BJ.length) capj,BJ),(.slice ao_a4 ((opB x.op).length) cap_a4,opB x.op)] rfl rfl (by intro p hp;simp only [List.mem_cons,List.not_mem_nil,or_false] at hp;rcases hp with rfl|rfl<;>first|exact (HJ.out.mod Cx188.out (fun _ _ h=>h)).rd.1|exact (Hx185.out.mod HMu25_4.out (fun _ _ h=>h)).rd.1) (by simp) (show flat _=BJ ++ opB x.op from by simp only [flat,List.map_cons,List.map_nil,List.flatten_cons,List.flatten_nil,List.append_nil]) (by have:=HL.out;simp only [List.length_append] at this ⊢; omega)) (fun E=>Aw (E.d 4 0)) ?_
   rintro e u25_5 ⟨v_join2,rfl,qjoin2,hm⟩
   refine ⟨_,rfl,?_⟩
   have Hx189:=hid qjoin2
   have zu25_5:=hm.size
   have HMu25_5:=hid hm
   have Cx190:=hid (Cx188.out.goE hm)
   clear hm Cx188
   clear qjoin2
   refine QSeq.pure rfl _ (fun E=>Af rfl (E.d 5 0)) ?_
   have Hx191:=hid ((Hx185.out.mod HMu25_4.out (fun _ _ h=>h)).mod HMu25_5.out (fun _ _ h=>h))
   have Hx192:=hid (Hx187.out.mod HMu25_5.out (fun h=>h))
   clear Hx185 Hx187 HMu25_4 HMu25_5
   refine QSeq.nil (t':=[_,_,_,_,_,_,_]) rfl ?_
   obtain rfl:=HA0.out
   clear HA0 oe1 oe4
   simp only [pz,Act.put,sIB,sCZ,sCS]
   have hq:=(Hx189.out.widen (R':=(fun k=>New w u25_5 k)) (by intro k h1;omega) (Nat.le_refl _))
   rw [show BJ ++ opB x.op=Bj x by unfold Bj;rw [HE.out,HBJ.out];simp only [List.append_assoc]] at hq
   have HQ:=Lib.hid hq
   clear hq
   go_wp2_with fail
   go_meet
   case rel=>exact ⟨HQ.out,((HM0.out.trans Cx31.out (fun _ _ h=>h.elim)).trans Cx190.out (fun _ _ h=>h.elim))⟩
  have K10:=Lib.hid h10
  clear h10
  go_upto_region 24 with (fail)
  refine Aa 227 [145,144] [0,1] (fun a0 HA0=>?_)
  have oe28:=ev HA0 28 rfl
  refine QSeq.pure rfl (.bool false) (fun E=>An rfl (E.v oe28) rfl (Ag _ _ _ _ _ _) (Al _ _ _ Tryz.underlying3) (congrArg Value.bool (Bb K10.out))) ?_
  refine QSeq.pure rfl _ (fun E=>Af rfl (E.d 0 0)) ?_
  refine QSeq.nil (t':=[_,_]) rfl ?_
  obtain rfl:=HA0.out
  clear HA0 oe28
  simp only [pz,Act.put,sIB,sCZ,sCS]
  by_cases h11:x.kd=11
  ·have KK:=Lib.hid h11
   clear h11
   go_upto_region 26 with (fail)
   refine Aa 227 [153,152] [0,1] (fun a0 HA0=>?_)
   have oe28:=ev HA0 28 rfl
   refine QSeq.pure rfl (.bool true) (fun E=>An rfl (E.v oe28) rfl (Ag _ _ _ _ _ _) (Al _ _ _ Tryz.underlying3) (congrArg Value.bool (Bi KK.out))) ?_
   refine QSeq.pure rfl _ (fun E=>Af rfl (E.d 0 0)) ?_
   refine QSeq.nil (t':=[_,_]) rfl ?_
   obtain rfl:=HA0.out
   clear HA0 oe28
   simp only [pz,Act.put,sIB,sCZ,sCS]
   have HE:=hid (show A8 x=encI x.ix by unfold A8;rw [KK.out];rfl)
   have HL:=hid (show (BJ ++ (encI x.ix)).length≤900000 by have h:=HL0.out;rw [HE.out,← HBJ.out] at h;exact h)
   go_upto_region 27 with (fail)
   refine Aa 227 [154,155,156,157,158,159,4] [0,1,2,3,4,5,6] (fun a0 HA0=>?_)
   have oe1:=ev HA0 1 rfl
   have oe4:=ev HA0 4 rfl
   refine QSeq.pure rfl _ (fun E=>Ai rfl (E.y 6 oe4)) ?_
   refine QSeq.pure rfl (.pointer (some ⟨w.heap.size,212,none⟩)) (fun E=>Ad rfl Tryz.underlying61 rfl (by kernel_rfl) (E.v oe1)) ?_
   refine QSeq.pure rfl (.int .i64 x.ix) (fun E=>Aj rfl Tryz.underlying3 rfl (E.d 1 0) (Cs.seg1 (HB1.out.mod Cx31.out (fun h=>h)) HLN.out 13 rfl (o:=212) (k:=0) rfl rfl rfl)) ?_
   refine QSeq.call rfl rfl Tryz.func22 (A9 _ HOK.out.ix _) (fun E=>Aw (E.d 2 0)) ?_
   rintro e u27_3 ⟨v_a4,rfl,qa4,hm⟩
   obtain ⟨ao_a4,cap_a4,rfl⟩:=qa4.shape
   refine ⟨_,rfl,?_⟩
   have Hx193:=hid qa4
   have zu27_3:=hm.size
   have Cx194:=hid (show Mod (fun _=>False) u3_5 u27_3 from hm)
   clear hm
   clear qa4
   refine QSeq.go fun act E=>?_
   have ea154:act.eval (.tmp 154)=.slice aoj (BJ.length) capj:=(E.d 0 3)
   have ea157:act.eval (.tmp 157)=.slice ao_a4 ((encI x.ix).length) cap_a4:=(E.d 3 0)
   refine Bl rfl (Ac rfl) rfl Tryz.underlying124 (by decide) (C:=#[.slice aoj (BJ.length) capj,.slice ao_a4 ((encI x.ix).length) cap_a4]) (by simp only [List.map_toArray,List.map_cons,List.map_nil,ea154,ea157];kernel_rfl) ?_
   intro u27_4 qrow4 hm
   have zl27_4:=qrow4.lt
   have Hx195:=hid qrow4
   have zu27_4:=hm.size
   have HMu27_4:=hid hm
   have Cx196:=hid (Cx194.out.goE hm)
   clear hm Cx194
   clear act E qrow4 ea154 ea157
   refine QSeq.call rfl rfl Tryz.func21 (Join_Q (n:=2)  Hx195.out [(.slice aoj (BJ.length) capj,BJ),(.slice ao_a4 ((encI x.ix).length) cap_a4,encI x.ix)] rfl rfl (by intro p hp;simp only [List.mem_cons,List.not_mem_nil,or_false] at hp;rcases hp with rfl|rfl<;>first|exact (HJ.out.mod Cx196.out (fun _ _ h=>h)).rd.1|exact (Hx193.out.mod HMu27_4.out (fun _ _ h=>h)).rd.1) (by simp) (show flat _=BJ ++ encI x.ix from by simp only [flat,List.map_cons,List.map_nil,List.flatten_cons,List.flatten_nil,List.append_nil]) (by have:=HL.out;simp only [List.length_append] at this ⊢; omega)) (fun E=>Aw (E.d 4 0)) ?_
   rintro e u27_5 ⟨v_join2,rfl,qjoin2,hm⟩
   refine ⟨_,rfl,?_⟩
   have Hx197:=hid qjoin2
   have zu27_5:=hm.size
   have HMu27_5:=hid hm
   have Cx198:=hid (Cx196.out.goE hm)
   clear hm Cx196
   clear qjoin2
   refine QSeq.pure rfl _ (fun E=>Af rfl (E.d 5 0)) ?_
   have Hx199:=hid ((Hx193.out.mod HMu27_4.out (fun _ _ h=>h)).mod HMu27_5.out (fun _ _ h=>h))
   have Hx200:=hid (Hx195.out.mod HMu27_5.out (fun h=>h))
   clear Hx193 Hx195 HMu27_4 HMu27_5
   refine QSeq.nil (t':=[_,_,_,_,_,_,_]) rfl ?_
   obtain rfl:=HA0.out
   clear HA0 oe1 oe4
   simp only [pz,Act.put,sIB,sCZ,sCS]
   have hq:=(Hx197.out.widen (R':=(fun k=>New w u27_5 k)) (by intro k h1;omega) (Nat.le_refl _))
   rw [show BJ ++ encI x.ix=Bj x by unfold Bj;rw [HE.out,HBJ.out];simp only [List.append_assoc]] at hq
   have HQ:=Lib.hid hq
   clear hq
   go_wp2_with fail
   go_meet
   case rel=>exact ⟨HQ.out,((HM0.out.trans Cx31.out (fun _ _ h=>h.elim)).trans Cx198.out (fun _ _ h=>h.elim))⟩
  have K11:=Lib.hid h11
  clear h11
  go_upto_region 26 with (fail)
  refine Aa 227 [153,152] [0,1] (fun a0 HA0=>?_)
  have oe28:=ev HA0 28 rfl
  refine QSeq.pure rfl (.bool false) (fun E=>An rfl (E.v oe28) rfl (Ag _ _ _ _ _ _) (Al _ _ _ Tryz.underlying3) (congrArg Value.bool (Bb K11.out))) ?_
  refine QSeq.pure rfl _ (fun E=>Af rfl (E.d 0 0)) ?_
  refine QSeq.nil (t':=[_,_]) rfl ?_
  obtain rfl:=HA0.out
  clear HA0 oe28
  simp only [pz,Act.put,sIB,sCZ,sCS]
  by_cases h12:x.kd=12
  ·have KK:=Lib.hid h12
   clear h12
   go_upto_region 28 with (fail)
   refine Aa 227 [161,160] [0,1] (fun a0 HA0=>?_)
   have oe28:=ev HA0 28 rfl
   refine QSeq.pure rfl (.bool true) (fun E=>An rfl (E.v oe28) rfl (Ag _ _ _ _ _ _) (Al _ _ _ Tryz.underlying3) (congrArg Value.bool (Bi KK.out))) ?_
   refine QSeq.pure rfl _ (fun E=>Af rfl (E.d 0 0)) ?_
   refine QSeq.nil (t':=[_,_]) rfl ?_
   obtain rfl:=HA0.out
   clear HA0 oe28
   simp only [pz,Act.put,sIB,sCZ,sCS]
   have HE:=hid (show A8 x=dnB x.dn by unfold A8;rw [KK.out];rfl)
   have HL:=hid (show (BJ ++ (dnB x.dn)).length≤900000 by have h:=HL0.out;rw [HE.out,← HBJ.out] at h;exact h)
   go_upto_region 29 with (fail)
   refine Aa 227 [162,163,164,165,166,167,4] [0,1,2,3,4,5,6] (fun a0 HA0=>?_)
   have oe1:=ev HA0 1 rfl
   have oe4:=ev HA0 4 rfl
   refine QSeq.pure rfl _ (fun E=>Ai rfl (E.y 6 oe4)) ?_
   refine QSeq.pure rfl (.pointer (some ⟨w.heap.size,282,none⟩)) (fun E=>Ad rfl Tryz.underlying61 rfl (by kernel_rfl) (E.v oe1)) ?_
   refine QSeq.pure rfl _ (fun E=>Am rfl Tryz.underlying56 rfl (off:=282) (cs:=(x.dn.cells)) (by kernel_rfl) (E.d 1 0) (Cs.seg (HB1.out.mod Cx31.out (fun h=>h)) HLN.out 16 rfl rfl)) ?_
   refine QSeq.call rfl rfl Tryz.func34 (RefDn_Q (fun _=>False) _ x.dn _ ⟨rfl,HOK.out.dn⟩ (fun _ h=>h.elim) (by have:=HL.out;simp only [List.length_append] at this ⊢; omega)) (fun E=>Aw (E.d 2 0)) ?_
   rintro e u29_3 ⟨v_a4,rfl,qa4,hm⟩
   obtain ⟨ao_a4,cap_a4,rfl⟩:=qa4.shape
   refine ⟨_,rfl,?_⟩
   have Hx201:=hid qa4
   have zu29_3:=hm.size
   have Cx202:=hid (show Mod (fun _=>False) u3_5 u29_3 from hm)
   clear hm
   clear qa4
   refine QSeq.go fun act E=>?_
   have ea162:act.eval (.tmp 162)=.slice aoj (BJ.length) capj:=(E.d 0 3)
   have ea165:act.eval (.tmp 165)=.slice ao_a4 ((dnB x.dn).length) cap_a4:=(E.d 3 0)
   refine Bl rfl (Ac rfl) rfl Tryz.underlying124 (by decide) (C:=#[.slice aoj (BJ.length) capj,.slice ao_a4 ((dnB x.dn).length) cap_a4]) (by simp only [List.map_toArray,List.map_cons,List.map_nil,ea162,ea165];kernel_rfl) ?_
   intro u29_4 qrow4 hm
   have zl29_4:=qrow4.lt
   have Hx203:=hid qrow4
   have zu29_4:=hm.size
   have HMu29_4:=hid hm
   have Cx204:=hid (Cx202.out.goE hm)
   clear hm Cx202
   clear act E qrow4 ea162 ea165
   refine QSeq.call rfl rfl Tryz.func21 (Join_Q (n:=2)  Hx203.out [(.slice aoj (BJ.length) capj,BJ),(.slice ao_a4 ((dnB x.dn).length) cap_a4,dnB x.dn)] rfl rfl (by intro p hp;simp only [List.mem_cons,List.not_mem_nil,or_false] at hp;rcases hp with rfl|rfl<;>first|exact (HJ.out.mod Cx204.out (fun _ _ h=>h)).rd.1|exact (Hx201.out.mod HMu29_4.out (fun _ _ h=>h)).rd.1) (by simp) (show flat _=BJ ++ dnB x.dn from by simp only [flat,List.map_cons,List.map_nil,List.flatten_cons,List.flatten_nil,List.append_nil]) (by have:=HL.out;simp only [List.length_append] at this ⊢; omega)) (fun E=>Aw (E.d 4 0)) ?_
   rintro e u29_5 ⟨v_join2,rfl,qjoin2,hm⟩
   refine ⟨_,rfl,?_⟩
   have Hx205:=hid qjoin2
   have zu29_5:=hm.size
   have HMu29_5:=hid hm
   have Cx206:=hid (Cx204.out.goE hm)
   clear hm Cx204
   clear qjoin2
   refine QSeq.pure rfl _ (fun E=>Af rfl (E.d 5 0)) ?_
   have Hx207:=hid ((Hx201.out.mod HMu29_4.out (fun _ _ h=>h)).mod HMu29_5.out (fun _ _ h=>h))
   have Hx208:=hid (Hx203.out.mod HMu29_5.out (fun h=>h))
   clear Hx201 Hx203 HMu29_4 HMu29_5
   refine QSeq.nil (t':=[_,_,_,_,_,_,_]) rfl ?_
   obtain rfl:=HA0.out
   clear HA0 oe1 oe4
   simp only [pz,Act.put,sIB,sCZ,sCS]
   have hq:=(Hx205.out.widen (R':=(fun k=>New w u29_5 k)) (by intro k h1;omega) (Nat.le_refl _))
   rw [show BJ ++ dnB x.dn=Bj x by unfold Bj;rw [HE.out,HBJ.out];simp only [List.append_assoc]] at hq
   have HQ:=Lib.hid hq
   clear hq
   go_wp2_with fail
   go_meet
   case rel=>exact ⟨HQ.out,((HM0.out.trans Cx31.out (fun _ _ h=>h.elim)).trans Cx206.out (fun _ _ h=>h.elim))⟩
  have K12:=Lib.hid h12
  clear h12
  go_upto_region 28 with (fail)
  refine Aa 227 [161,160] [0,1] (fun a0 HA0=>?_)
  have oe28:=ev HA0 28 rfl
  refine QSeq.pure rfl (.bool false) (fun E=>An rfl (E.v oe28) rfl (Ag _ _ _ _ _ _) (Al _ _ _ Tryz.underlying3) (congrArg Value.bool (Bb K12.out))) ?_
  refine QSeq.pure rfl _ (fun E=>Af rfl (E.d 0 0)) ?_
  refine QSeq.nil (t':=[_,_]) rfl ?_
  obtain rfl:=HA0.out
  clear HA0 oe28
  simp only [pz,Act.put,sIB,sCZ,sCS]
  by_cases h13:x.kd=13
  ·have KK:=Lib.hid h13
   clear h13
   go_upto_region 30 with (fail)
   refine Aa 227 [169,168] [0,1] (fun a0 HA0=>?_)
   have oe28:=ev HA0 28 rfl
   refine QSeq.pure rfl (.bool true) (fun E=>An rfl (E.v oe28) rfl (Ag _ _ _ _ _ _) (Al _ _ _ Tryz.underlying3) (congrArg Value.bool (Bi KK.out))) ?_
   refine QSeq.pure rfl _ (fun E=>Af rfl (E.d 0 0)) ?_
   refine QSeq.nil (t':=[_,_]) rfl ?_
   obtain rfl:=HA0.out
   clear HA0 oe28
   simp only [pz,Act.put,sIB,sCZ,sCS]
   have HE:=hid (show A8 x=encI x.ix ++ (encN (Bg x.rp).length ++ Bg x.rp) by unfold A8;rw [KK.out];rfl)
   have HL:=hid (show (BJ ++ (encI x.ix ++ (encN (Bg x.rp).length ++ Bg x.rp))).length≤900000 by have h:=HL0.out;rw [HE.out,← HBJ.out] at h;exact h)
   go_upto_region 31 with (fail)
   generalize ha0:Act.mk _ _=a0
   have oe1:a0.eval (.tmp 1)=.pointer (some ⟨w.heap.size,0,none⟩):=by rw [← ha0];rfl
   have oe4:a0.eval (.tmp 4)=.slice aoj (BJ.length) capj:=by rw [← ha0];rfl
   have hsz0:a0.tmps.size=227:=by rw [← ha0];rfl
   have HA0:=hid ha0
   clear ha0
   refine A1 227 hsz0 [170,171,172,173,174,175,176,177,178,179,4] [qi (.slice aoj (BJ.length) capj),qi (.pointer (some ⟨w.heap.size,212,none⟩)),qi (.int .i64 x.ix),qv 0,qi (.pointer (some ⟨w.heap.size,286,none⟩)),qi (.string x.rp),qr u3_5.heap.size (fun _=>False) (fun R w v=>RdR R 1000000 w v (Bg x.rp)),qv 1,qv 2,qv 3,qv 3] ⟨Ab,Ab,Ab,Ak,Ab,Ab,(qr_stable rdR_cells),Ak,Ak,Ak,Ak,trivial⟩ [3,7,8,9] ⟨?_,?_,?_,?_,?_,?_,?_,?_,?_,?_,?_,trivial⟩ ?_
   ·exact stq (fun E=>Ai rfl ((E.pre 10 4 rfl (by kernel_rfl)).trans oe4))
   ·exact stq (fun E=>Ad rfl Tryz.underlying61 rfl (by kernel_rfl) (E.v oe1))
   ·exact stq (fun E=>Aj rfl Tryz.underlying3 rfl (E.d 1) (Cs.seg1 ((HB1.out.mod Cx31.out (fun h=>h)).mod E.m.old (by intro h2;omega)) HLN.out 13 rfl (o:=212) (k:=0) rfl rfl rfl))
   ·exact Ah rfl
   ·exact stq (fun E=>Ad rfl Tryz.underlying61 rfl (by kernel_rfl) (E.v oe1))
   ·exact stq (fun E=>Aj rfl Tryz.underlying9 rfl (E.d 4) (Cs.seg1 ((HB1.out.mod Cx31.out (fun h=>h)).mod E.m.old (by intro h2;omega)) HLN.out 17 rfl (o:=286) (k:=0) rfl rfl rfl))
   ·refine Av rfl rfl rfl fun _ _ _ _ hZ hm _ _ _ hd _ _=>?_
    have h5:=hd ⟨5,.data⟩ (by simp) rfl _ rfl
    exact qe_strB rfl (Ac rfl) rfl h5 (by have:=HL.out;simp only [List.length_append] at this;rw [← bytesOf_len];omega) (by have:=hm.size;omega) (fun j hj=>(hZ j hj).2) (fun _ _ h=>h)
   ·exact Ah rfl
   ·exact Ah rfl
   ·exact Ah rfl
   ·refine Av rfl rfl rfl fun _ _ _ _ _ _ _ _ _ hd _ _=>?_
    have h9:=hd ⟨9,.data⟩ (by simp) rfl _ rfl
    exact Bd rfl (Ac rfl) (Af rfl rfl) QE.refl h9
   intro u31_0 hr
   have zu31_0:=hr.size
   have Cx209:=hid (hr.new (S:=(fun _=>False)))
   clear hr
   refine QChain.go fun Z act E=>?_
   refine Ap (args:=#[.int .i64 x.ix]) rfl (Ac rfl) rfl Tryz.func22 (Aw (E.d 2)) (A9 _ HOK.out.ix _) ?_
   rintro e u31_1a ⟨v_a4,rfl,qa4,hm⟩
   obtain ⟨ao_a4,cap_a4,rfl⟩:=qa4.shape
   have zu31_1a:=hm.size
   refine ⟨_,rfl,hm.mono (fun _ _ h=>h.elim),(fun _=>rfl),?_⟩
   intro u31_1 hr
   have zu31_1:=hr.size
   have Hx210:=hid ((qa4.widen (R':=(fun k=>(New u31_0 u31_1a k))) (fun _ h=>h) (Nat.le_refl _)).mod hr (by intro k h1 h2;omega))
   have Cx211:=hid (Cx209.out.go hm hr)
   clear Cx209 hm hr Z act E qa4
   refine QChain.go fun Z act E=>?_
   have h6q:=E.d 6
   obtain ⟨R2q,hR2,hrd2⟩:=h6q
   refine Ap (args:=#[act.eval (.tmp 176)]) rfl (Ac rfl) rfl Tryz.func35 (Aw rfl) (RefRow_Q hrd2 (by have:=HL.out;simp only [List.length_append] at this ⊢; omega)) ?_
   rintro e u31_2a ⟨v_a5,rfl,qa5,hm⟩
   obtain ⟨ao_a5,cap_a5,rfl⟩:=qa5.shape
   have zu31_2a:=hm.size
   refine ⟨_,rfl,hm.mono (fun _ _ h=>h.elim),(fun _=>rfl),?_⟩
   intro u31_2 hr
   have zu31_2:=hr.size
   have Hx212:=hid ((qa5.widen (R':=(fun k=>(New u31_1 u31_2a k))) (fun _ h=>h) (Nat.le_refl _)).mod hr (by intro k h1 h2;omega))
   have hmr:=Mod.after hm hr
   have Hx213:=hid (Hx210.out.mod hmr (by intro k h1 h2;omega))
   clear Hx210
   clear hmr
   have Cx214:=hid (Cx211.out.go hm hr)
   clear Cx211 hm hr qa5
   refine QChain.go fun Z act E=>?_
   have ea170:act.eval (.tmp 170)=.slice aoj (BJ.length) capj:=(E.d 0)
   have ea173:act.eval (.tmp 173)=.slice ao_a4 ((encI x.ix).length) cap_a4:=(chv (v:=.slice ao_a4 ((encI x.ix).length) cap_a4) (E.d 3))
   have ea177:act.eval (.tmp 177)=.slice ao_a5 (((encN (Bg x.rp).length ++ Bg x.rp)).length) cap_a5:=(chv (v:=.slice ao_a5 (((encN (Bg x.rp).length ++ Bg x.rp)).length) cap_a5) (E.d 7))
   refine Bl rfl (Ac rfl) rfl Tryz.underlying124 (by decide) (C:=#[.slice aoj (BJ.length) capj,.slice ao_a4 ((encI x.ix).length) cap_a4,.slice ao_a5 (((encN (Bg x.rp).length ++ Bg x.rp)).length) cap_a5]) (by simp only [List.map_toArray,List.map_cons,List.map_nil,ea170,ea173,ea177];kernel_rfl) ?_
   intro u31_3a qrow8 hm
   have zl31_8:=qrow8.lt
   have zu31_3a:=hm.size
   refine ⟨hm.mono (fun _ _ h=>h.elim),(fun _=>rfl),?_⟩
   intro u31_3 hr
   have zu31_3:=hr.size
   have Hx215:=hid (qrow8.mod hr (by intro h2;omega))
   have hmr:=Mod.after hm hr
   have Hx216:=hid (Hx213.out.mod hmr (by intro k h1 h2;omega))
   have Hx217:=hid (Hx212.out.mod hmr (by intro k h1 h2;omega))
   clear Hx213 Hx212
   clear hmr
   have Cx218:=hid (Cx214.out.go hm hr)
   clear Cx214 hm hr Z act E qrow8 ea170 ea173 ea177
   refine QChain.go fun Z act E=>?_
   refine Ap (args:=#[.slice (some ⟨u31_2.heap.size,0,none⟩) 3 3]) rfl (Ac rfl) rfl Tryz.func21 (Aw (chv (v:=.slice (some ⟨u31_2.heap.size,0,none⟩) 3 3) (E.d 8))) (Join_Q (n:=3)  Hx215.out [(.slice aoj (BJ.length) capj,BJ),(.slice ao_a4 ((encI x.ix).length) cap_a4,encI x.ix),(.slice ao_a5 (((encN (Bg x.rp).length ++ Bg x.rp)).length) cap_a5,(encN (Bg x.rp).length ++ Bg x.rp))] rfl rfl (by intro p hp;simp only [List.mem_cons,List.not_mem_nil,or_false] at hp;rcases hp with rfl|rfl|rfl<;>first|exact (HJ.out.mod Cx218.out (fun _ _ h=>h)).rd.1|exact Hx216.out.rd.1|exact Hx217.out.rd.1) (by simp) (show flat _=BJ ++ (encI x.ix ++ ((encN (Bg x.rp).length ++ Bg x.rp))) from by simp only [flat,List.map_cons,List.map_nil,List.flatten_cons,List.flatten_nil,List.append_nil]) (by have:=HL.out;simp only [List.length_append] at this ⊢; omega)) ?_
   rintro e u31_4a ⟨v_join2,rfl,qjoin2,hm⟩
   have zu31_4a:=hm.size
   refine ⟨_,rfl,hm.mono (fun _ _ h=>h.elim),(fun _=>rfl),?_⟩
   intro u31_4 hr
   have zu31_4:=hr.size
   have Hx219:=hid ((qjoin2.widen (R':=(fun k=>(New u31_3 u31_4a k))) (fun _ h=>h) (Nat.le_refl _)).mod hr (by intro k h1 h2;omega))
   have hmr:=Mod.after hm hr
   have Hx220:=hid (Hx216.out.mod hmr (by intro k h1 h2;omega))
   have Hx221:=hid (Hx217.out.mod hmr (by intro k h1 h2;omega))
   have Hx222:=hid (Hx215.out.mod hmr (by intro h2;omega))
   clear Hx216 Hx217 Hx215
   clear hmr
   have Cx223:=hid (Cx218.out.go hm hr)
   clear Cx218 hm hr Z act E qjoin2
   refine QChain.nil fun vs hl hzz hrows hne=>?_
   obtain ⟨Z,hYZ,hZb,hV⟩:=hzz
   have f0:=fvi hV hl 0
   have f3:=fvc hV hl 3
   have f7:=fvc hV hl 7
   have f8:=fvc hV hl 8
   have f9:=fvc hV hl 9
   have f10:=fvc hV hl 10
   rw [show vs=[gw vs 0,gw vs 1,gw vs 2,gw vs 3,gw vs 4,gw vs 5,gw vs 6,gw vs 7,gw vs 8,gw vs 9,gw vs 10] from (Be hl).trans rfl]
   have ha0:=HA0.out
   subst ha0
   clear HA0 hV hYZ hZb hsz0 hrows hne oe1 oe4
   simp only [Au,Act.put,sIB,sCZ,sCS,f0,f3,f7,f8,f9,f10]
   clear hl f0 f3 f7 f8 f9 f10
   have hq:=(Hx219.out.widen (R':=(fun k=>New w u31_4 k)) (by intro k h1;omega) (Nat.le_refl _))
   rw [show BJ ++ (encI x.ix ++ ((encN (Bg x.rp).length ++ Bg x.rp)))=Bj x by unfold Bj;rw [HE.out,HBJ.out];simp only [List.append_assoc]] at hq
   have HQ:=Lib.hid hq
   clear hq
   go_wp2_with fail
   go_meet
   case rel=>exact ⟨HQ.out,((HM0.out.trans Cx31.out (fun _ _ h=>h.elim)).trans Cx223.out (fun _ _ h=>h.elim))⟩
  have K13:=Lib.hid h13
  clear h13
  go_upto_region 30 with (fail)
  refine Aa 227 [169,168] [0,1] (fun a0 HA0=>?_)
  have oe28:=ev HA0 28 rfl
  refine QSeq.pure rfl (.bool false) (fun E=>An rfl (E.v oe28) rfl (Ag _ _ _ _ _ _) (Al _ _ _ Tryz.underlying3) (congrArg Value.bool (Bb K13.out))) ?_
  refine QSeq.pure rfl _ (fun E=>Af rfl (E.d 0 0)) ?_
  refine QSeq.nil (t':=[_,_]) rfl ?_
  obtain rfl:=HA0.out
  clear HA0 oe28
  simp only [pz,Act.put,sIB,sCZ,sCS]
  by_cases h14:x.kd=14
  ·have KK:=Lib.hid h14
   clear h14
   go_upto_region 32 with (fail)
   refine Aa 227 [181,180] [0,1] (fun a0 HA0=>?_)
   have oe28:=ev HA0 28 rfl
   refine QSeq.pure rfl (.bool true) (fun E=>An rfl (E.v oe28) rfl (Ag _ _ _ _ _ _) (Al _ _ _ Tryz.underlying3) (congrArg Value.bool (Bi KK.out))) ?_
   refine QSeq.pure rfl _ (fun E=>Af rfl (E.d 0 0)) ?_
   refine QSeq.nil (t':=[_,_]) rfl ?_
   obtain rfl:=HA0.out
   clear HA0 oe28
   simp only [pz,Act.put,sIB,sCZ,sCS]
   have HE:=hid (show A8 x=encI x.dc.ep ++ (encI x.dc.rn ++ (baB x.dc.ba ++ (encI x.dc.l.length ++ (x.dc.l.map vtB).flatten))) by unfold A8;rw [KK.out];exact (rfl:_=encI x.dc.ep ++ encI x.dc.rn ++ baB x.dc.ba ++ listB vtB x.dc.l).trans (by simp only [listB,List.append_assoc]))
   have HL:=hid (show (BJ ++ (encI x.dc.ep ++ (encI x.dc.rn ++ (baB x.dc.ba ++ (encI x.dc.l.length ++ (x.dc.l.map vtB).flatten))))).length≤900000 by have h:=HL0.out;rw [HE.out,← HBJ.out] at h;exact h)
   have HV1:=hid (show ∀ v ∈ [d_ps,d_os,d_ts],v.oneCell'=true from one3 (rdS_one (Hx7.out.mod Cx31.out (fun _ _ h=>h))) (rdS_one (Hx8.out.mod Cx31.out (fun _ _ h=>h))) (rdS_one (Hx9.out.mod Cx31.out (fun _ _ h=>h))))
   go_upto_region 33 with (fail)
   refine Aa 227 [182,183,6,230] [0,1,2,3] (fun a0 HA0=>?_)
   have oe1:=ev HA0 1 rfl
   refine QSeq.pure rfl (.pointer (some ⟨w.heap.size,287,none⟩)) (fun E=>Ad rfl Tryz.underlying61 rfl (by kernel_rfl) (E.v oe1)) ?_
   refine QSeq.pure rfl _ (fun E=>Am rfl Tryz.underlying59 rfl (off:=287) (cs:=(x.dc.cells d_ps d_os d_ts (Value.slice aol x.dc.l.length capl))) (by kernel_rfl) (E.d 0 0) (Cs.seg (HB1.out.mod Cx31.out (fun h=>h)) HLN.out 18 rfl rfl)) ?_
   refine QSeq.go fun act E=>?_
   refine qc_alloc rfl (Ac rfl) rfl (z:=[.int .i64 0,.int .i64 0,.int .i64 0,.int .u64 0,.slice none 0 0,.slice none 0 0,.slice none 0 0,.slice none 0 0]) (by kernel_rfl) ?_
   intro u33_2 qbd hm
   have zl33_2:=qbd.lt
   have Hx224:=hid qbd
   have zu33_2:=hm.size
   have Cx225:=hid (show Mod (fun _=>False) u3_5 u33_2 from hm)
   clear hm
   clear act E qbd
   refine QSeq.go fun act E=>?_
   have hlz:((x.dc.cells d_ps d_os d_ts (Value.slice aol x.dc.l.length capl))).length=List.length ([.int .i64 0,.int .i64 0,.int .i64 0,.int .u64 0,.slice none 0 0,.slice none 0 0,.slice none 0 0,.slice none 0 0]:List Value):=rfl
   refine Aq rfl (Ac rfl) rfl Hx224.out (off:=0) (vs:=(x.dc.cells d_ps d_os d_ts (Value.slice aol x.dc.l.length capl))) (by rw [hlz];kernel_rfl) (by intro u hu;simp only [Dc.cells,List.mem_cons,List.not_mem_nil,or_false] at hu;rcases hu with rfl|rfl|rfl|rfl|rfl|rfl|rfl|rfl<;>first|rfl|exact HV1.out _ (by simp)) (by rw [hlz];exact Nat.le_of_eq (Nat.zero_add _)) (E.d 2 0) (ec (E.d 1 1)) ?_
   intro u33_3 qc0 hm
   have qbd:=qc0.eqv (b:=((x.dc.cells d_ps d_os d_ts (Value.slice aol x.dc.l.length capl)):List Value).toArray) (A5 (#[.int .i64 0,.int .i64 0,.int .i64 0,.int .u64 0,.slice none 0 0,.slice none 0 0,.slice none 0 0,.slice none 0 0]) _ (by rw [hlz];rfl))
   clear qc0 hlz
   have Hx226:=hid qbd
   have zu33_3:=hm.size
   have HMu33_3:=hid hm
   have Cx227:=hid (Mod.goS (S':=(fun _=>False)) Cx225.out hm (fun _ h=>h) (by intro k h0 h2;omega))
   clear hm Cx225
   clear act E qbd Hx224
   clear HMu33_3
   refine QSeq.nil (t':=[_,_,_,_]) rfl ?_
   obtain rfl:=HA0.out
   clear HA0 oe1
   simp only [pz,Act.put,sIB,sCZ,sCS,List.set_nil]
   go_upto_region 34 with (fail)
   generalize ha0:Act.mk _ _=a0
   have oe4:a0.eval (.tmp 4)=.slice aoj (BJ.length) capj:=by rw [← ha0];rfl
   have oe6:a0.eval (.tmp 6)=.pointer (some ⟨u3_5.heap.size,0,none⟩):=by rw [← ha0];rfl
   have hsz0:a0.tmps.size=227:=by rw [← ha0];rfl
   have HA0:=hid ha0
   clear ha0
   refine A1 227 hsz0 [184,185,186,187,188,189,190,191,192,193,194,195,196,197,198,199,4] [qi (.slice aoj (BJ.length) capj),qi (.pointer (some ⟨u3_5.heap.size,0,none⟩)),qi (.int .i64 x.dc.ep),qv 0,qi (.pointer (some ⟨u3_5.heap.size,1,none⟩)),qi (.int .i64 x.dc.rn),qv 1,qi (.pointer (some ⟨u3_5.heap.size,2,none⟩)),qi (.agg #[.int .i64 x.dc.ba.ep,.int .u64 (x.dc.ba.tm:Nat),d_ps,d_os,d_ts]),qv 2,qi (.pointer (some ⟨u3_5.heap.size,7,none⟩)),qi (.slice aol x.dc.l.length capl),qi (.int .i64 x.dc.l.length),qv 3,qv 4,qv 5,qv 5] ⟨Ab,Ab,Ab,Ak,Ab,Ab,Ak,Ab,Ab,Ak,Ab,Ab,Ab,Ak,Ak,Ak,Ak,trivial⟩ [3,6,9,13,14,15] ⟨?_,?_,?_,?_,?_,?_,?_,?_,?_,?_,?_,?_,?_,?_,?_,?_,?_,trivial⟩ ?_
   ·exact stq (fun E=>Ai rfl ((E.pre 16 4 rfl (by kernel_rfl)).trans oe4))
   ·exact stq (fun E=>Ad rfl Tryz.underlying59 rfl (by kernel_rfl) (E.v oe6))
   ·exact stq (fun E=>Aj rfl Tryz.underlying3 rfl (E.d 1) (Cs.lit1 (Hx226.out.mod E.m.old (by intro h2;omega)) rfl))
   ·exact Ah rfl
   ·exact stq (fun E=>Ad rfl Tryz.underlying59 rfl (by kernel_rfl) (E.v oe6))
   ·exact stq (fun E=>Aj rfl Tryz.underlying3 rfl (E.d 4) (Cs.lit1 (Hx226.out.mod E.m.old (by intro h2;omega)) rfl))
   ·exact Ah rfl
   ·exact stq (fun E=>Ad rfl Tryz.underlying59 rfl (by kernel_rfl) (E.v oe6))
   ·exact stq (fun E=>Am rfl Tryz.underlying45 rfl (off:=2) (cs:=[.int .i64 x.dc.ba.ep,.int .u64 (x.dc.ba.tm:Nat),d_ps,d_os,d_ts]) (by kernel_rfl) (E.d 7) (Cs.litA (Hx226.out.mod E.m.old (by intro h2;omega)) rfl))
   ·exact Ah rfl
   ·exact stq (fun E=>Ad rfl Tryz.underlying59 rfl (by kernel_rfl) (E.v oe6))
   ·exact stq (fun E=>Aj rfl Tryz.underlying57 rfl (E.d 10) (Cs.lit1 (Hx226.out.mod E.m.old (by intro h2;omega)) rfl))
   ·exact stq (fun E=>A0 rfl (E.d 11) Tryz.underlying57)
   ·exact Ah rfl
   ·exact Ah rfl
   ·exact Ah rfl
   ·refine Av rfl rfl rfl fun _ _ _ _ _ _ _ _ _ hd _ _=>?_
    have h15:=hd ⟨15,.data⟩ (by simp) rfl _ rfl
    exact Bd rfl (Ac rfl) (Af rfl rfl) QE.refl h15
   intro u34_0 hr
   have zu34_0:=hr.size
   have Cx228:=hid (hr.new (S:=(fun _=>False)))
   clear hr
   refine QChain.go fun Z act E=>?_
   refine Ap (args:=#[.int .i64 x.dc.ep]) rfl (Ac rfl) rfl Tryz.func22 (Aw (E.d 2)) (A9 _ HOD.out.1 _) ?_
   rintro e u34_1a ⟨v_a4,rfl,qa4,hm⟩
   obtain ⟨ao_a4,cap_a4,rfl⟩:=qa4.shape
   have zu34_1a:=hm.size
   refine ⟨_,rfl,hm.mono (fun _ _ h=>h.elim),(fun _=>rfl),?_⟩
   intro u34_1 hr
   have zu34_1:=hr.size
   have Hx229:=hid ((qa4.widen (R':=(fun k=>(New u34_0 u34_1a k))) (fun _ h=>h) (Nat.le_refl _)).mod hr (by intro k h1 h2;omega))
   have Cx230:=hid (Cx228.out.go hm hr)
   clear Cx228 hm hr Z act E qa4
   refine QChain.go fun Z act E=>?_
   refine Ap (args:=#[.int .i64 x.dc.rn]) rfl (Ac rfl) rfl Tryz.func22 (Aw (E.d 5)) (A9 _ HOD.out.2.1 _) ?_
   rintro e u34_2a ⟨v_a5,rfl,qa5,hm⟩
   obtain ⟨ao_a5,cap_a5,rfl⟩:=qa5.shape
   have zu34_2a:=hm.size
   refine ⟨_,rfl,hm.mono (fun _ _ h=>h.elim),(fun _=>rfl),?_⟩
   intro u34_2 hr
   have zu34_2:=hr.size
   have Hx231:=hid ((qa5.widen (R':=(fun k=>(New u34_1 u34_2a k))) (fun _ h=>h) (Nat.le_refl _)).mod hr (by intro k h1 h2;omega))
   have hmr:=Mod.after hm hr
   have Hx232:=hid (Hx229.out.mod hmr (by intro k h1 h2;omega))
   clear Hx229
   clear hmr
   have Cx233:=hid (Cx230.out.go hm hr)
   clear Cx230 hm hr Z act E qa5
   refine QChain.go fun Z act E=>?_
   refine Ap (args:=#[.agg #[.int .i64 x.dc.ba.ep,.int .u64 (x.dc.ba.tm:Nat),d_ps,d_os,d_ts]]) rfl (Ac rfl) rfl Tryz.func30 (Aw (E.d 8)) (RefBa_Q R2 _ x.dc.ba _ ⟨_,_,_,rfl,HOD.out.2.2,(((Hx7.out.mod Cx31.out (fun _ _ h=>h)).mod Cx227.out (fun _ _ h=>h)).mod Cx233.out (fun _ _ h=>h)),(((Hx8.out.mod Cx31.out (fun _ _ h=>h)).mod Cx227.out (fun _ _ h=>h)).mod Cx233.out (fun _ _ h=>h)),(((Hx9.out.mod Cx31.out (fun _ _ h=>h)).mod Cx227.out (fun _ _ h=>h)).mod Cx233.out (fun _ _ h=>h))⟩ (by intro k h1;have hb:=HBT.out k h1;omega) (by have:=HL.out;simp only [List.length_append] at this ⊢; omega)) ?_
   rintro e u34_3a ⟨v_a6,rfl,qa6,hm⟩
   obtain ⟨ao_a6,cap_a6,rfl⟩:=qa6.shape
   have zu34_3a:=hm.size
   refine ⟨_,rfl,hm.mono (fun _ _ h=>h.elim),(fun _=>rfl),?_⟩
   intro u34_3 hr
   have zu34_3:=hr.size
   have Hx234:=hid ((qa6.widen (R':=(fun k=>(New u34_2 u34_3a k))) (fun _ h=>h) (Nat.le_refl _)).mod hr (by intro k h1 h2;omega))
   have hmr:=Mod.after hm hr
   have Hx235:=hid (Hx232.out.mod hmr (by intro k h1 h2;omega))
   have Hx236:=hid (Hx231.out.mod hmr (by intro k h1 h2;omega))
   clear Hx232 Hx231
   clear hmr
   have Cx237:=hid (Cx233.out.go hm hr)
   clear Cx233 hm hr Z act E qa6
   refine QChain.go fun Z act E=>?_
   refine Ap (args:=#[.int .i64 x.dc.l.length]) rfl (Ac rfl) rfl Tryz.func22 (Aw (E.d 12)) (A9 _ HIL.out _) ?_
   rintro e u34_4a ⟨v_a7,rfl,qa7,hm⟩
   obtain ⟨ao_a7,cap_a7,rfl⟩:=qa7.shape
   have zu34_4a:=hm.size
   refine ⟨_,rfl,hm.mono (fun _ _ h=>h.elim),(fun _=>rfl),?_⟩
   intro u34_4 hr
   have zu34_4:=hr.size
   have Hx238:=hid ((qa7.widen (R':=(fun k=>(New u34_3 u34_4a k))) (fun _ h=>h) (Nat.le_refl _)).mod hr (by intro k h1 h2;omega))
   have hmr:=Mod.after hm hr
   have Hx239:=hid (Hx235.out.mod hmr (by intro k h1 h2;omega))
   have Hx240:=hid (Hx236.out.mod hmr (by intro k h1 h2;omega))
   have Hx241:=hid (Hx234.out.mod hmr (by intro k h1 h2;omega))
   clear Hx235 Hx236 Hx234
   clear hmr
   have Cx242:=hid (Cx237.out.go hm hr)
   clear Cx237 hm hr Z act E qa7
   refine QChain.go fun Z act E=>?_
   have ea184:act.eval (.tmp 184)=.slice aoj (BJ.length) capj:=(E.d 0)
   have ea187:act.eval (.tmp 187)=.slice ao_a4 ((encI x.dc.ep).length) cap_a4:=(chv (v:=.slice ao_a4 ((encI x.dc.ep).length) cap_a4) (E.d 3))
   have ea190:act.eval (.tmp 190)=.slice ao_a5 ((encI x.dc.rn).length) cap_a5:=(chv (v:=.slice ao_a5 ((encI x.dc.rn).length) cap_a5) (E.d 6))
   have ea193:act.eval (.tmp 193)=.slice ao_a6 ((baB x.dc.ba).length) cap_a6:=(chv (v:=.slice ao_a6 ((baB x.dc.ba).length) cap_a6) (E.d 9))
   have ea197:act.eval (.tmp 197)=.slice ao_a7 ((encI x.dc.l.length).length) cap_a7:=(chv (v:=.slice ao_a7 ((encI x.dc.l.length).length) cap_a7) (E.d 13))
   refine Bl rfl (Ac rfl) rfl Tryz.underlying124 (by decide) (C:=#[.slice aoj (BJ.length) capj,.slice ao_a4 ((encI x.dc.ep).length) cap_a4,.slice ao_a5 ((encI x.dc.rn).length) cap_a5,.slice ao_a6 ((baB x.dc.ba).length) cap_a6,.slice ao_a7 ((encI x.dc.l.length).length) cap_a7]) (by simp only [List.map_toArray,List.map_cons,List.map_nil,ea184,ea187,ea190,ea193,ea197];kernel_rfl) ?_
   intro u34_5a qrow14 hm
   have zl34_14:=qrow14.lt
   have zu34_5a:=hm.size
   refine ⟨hm.mono (fun _ _ h=>h.elim),(fun _=>rfl),?_⟩
   intro u34_5 hr
   have zu34_5:=hr.size
   have Hx243:=hid (qrow14.mod hr (by intro h2;omega))
   have hmr:=Mod.after hm hr
   have Hx244:=hid (Hx239.out.mod hmr (by intro k h1 h2;omega))
   have Hx245:=hid (Hx240.out.mod hmr (by intro k h1 h2;omega))
   have Hx246:=hid (Hx241.out.mod hmr (by intro k h1 h2;omega))
   have Hx247:=hid (Hx238.out.mod hmr (by intro k h1 h2;omega))
   clear Hx239 Hx240 Hx241 Hx238
   clear hmr
   have Cx248:=hid (Cx242.out.go hm hr)
   clear Cx242 hm hr Z act E qrow14 ea184 ea187 ea190 ea193 ea197
   refine QChain.go fun Z act E=>?_
   refine Ap (args:=#[.slice (some ⟨u34_4.heap.size,0,none⟩) 5 5]) rfl (Ac rfl) rfl Tryz.func21 (Aw (chv (v:=.slice (some ⟨u34_4.heap.size,0,none⟩) 5 5) (E.d 14))) (Join_Q (n:=5)  Hx243.out [(.slice aoj (BJ.length) capj,BJ),(.slice ao_a4 ((encI x.dc.ep).length) cap_a4,encI x.dc.ep),(.slice ao_a5 ((encI x.dc.rn).length) cap_a5,encI x.dc.rn),(.slice ao_a6 ((baB x.dc.ba).length) cap_a6,baB x.dc.ba),(.slice ao_a7 ((encI x.dc.l.length).length) cap_a7,encI x.dc.l.length)] rfl rfl (by intro p hp;simp only [List.mem_cons,List.not_mem_nil,or_false] at hp;rcases hp with rfl|rfl|rfl|rfl|rfl<;>first|exact ((HJ.out.mod Cx227.out (fun _ _ h=>h)).mod Cx248.out (fun _ _ h=>h)).rd.1|exact Hx244.out.rd.1|exact Hx245.out.rd.1|exact Hx246.out.rd.1|exact Hx247.out.rd.1) (by simp) (show flat _=BJ ++ (encI x.dc.ep ++ (encI x.dc.rn ++ (baB x.dc.ba ++ encI x.dc.l.length))) from by simp only [flat,List.map_cons,List.map_nil,List.flatten_cons,List.flatten_nil,List.append_nil]) (by have:=HL.out;simp only [List.length_append] at this ⊢; omega)) ?_
   rintro e u34_6a ⟨v_join2,rfl,qjoin2,hm⟩
   have zu34_6a:=hm.size
   refine ⟨_,rfl,hm.mono (fun _ _ h=>h.elim),(fun _=>rfl),?_⟩
   intro u34_6 hr
   have zu34_6:=hr.size
   have Hx249:=hid ((qjoin2.widen (R':=(fun k=>(New u34_5 u34_6a k))) (fun _ h=>h) (Nat.le_refl _)).mod hr (by intro k h1 h2;omega))
   have hmr:=Mod.after hm hr
   have Hx250:=hid (Hx244.out.mod hmr (by intro k h1 h2;omega))
   have Hx251:=hid (Hx245.out.mod hmr (by intro k h1 h2;omega))
   have Hx252:=hid (Hx246.out.mod hmr (by intro k h1 h2;omega))
   have Hx253:=hid (Hx247.out.mod hmr (by intro k h1 h2;omega))
   have Hx254:=hid (Hx243.out.mod hmr (by intro h2;omega))
   clear Hx244 Hx245 Hx246 Hx247 Hx243
   clear hmr
   have Cx255:=hid (Cx248.out.go hm hr)
   clear Cx248 hm hr Z act E qjoin2
   refine QChain.nil fun vs hl hzz hrows hne=>?_
   obtain ⟨Z,hYZ,hZb,hV⟩:=hzz
   have f0:=fvi hV hl 0
   have f3:=fvc hV hl 3
   have f6:=fvc hV hl 6
   have f9:=fvc hV hl 9
   have f12:=fvi hV hl 12
   have f13:=fvc hV hl 13
   have f14:=fvc hV hl 14
   have f15:=fvc hV hl 15
   have f16:=fvc hV hl 16
   rw [show vs=[gw vs 0,gw vs 1,gw vs 2,gw vs 3,gw vs 4,gw vs 5,gw vs 6,gw vs 7,gw vs 8,gw vs 9,gw vs 10,gw vs 11,gw vs 12,gw vs 13,gw vs 14,gw vs 15,gw vs 16] from (Be hl).trans rfl]
   have ha0:=HA0.out
   subst ha0
   clear HA0 hV hYZ hZb hsz0 hrows hne oe4 oe6
   simp only [Au,Act.put,sIB,sCZ,sCS,f0,f3,f6,f9,f12,f13,f14,f15,f16]
   clear hl f0 f3 f6 f9 f12 f13 f14 f15 f16
   go_upto_region 35 with (fail)
   refine Aa 227 [200,201,202,203] [0,1,2,3] (fun a0 HA0=>?_)
   have oe6:=ev HA0 6 rfl
   refine QSeq.pure rfl (.pointer (some ⟨u3_5.heap.size,7,none⟩)) (fun E=>Ad rfl Tryz.underlying59 rfl (by kernel_rfl) (E.v oe6)) ?_
   refine QSeq.pure rfl _ (fun E=>Aj rfl Tryz.underlying57 rfl (E.d 0 0) (Cs.lit1 (Hx226.out.mod Cx255.out (fun h=>h)) rfl)) ?_
   refine QSeq.pure rfl (.int .i64 x.dc.l.length) (fun E=>A0 rfl (E.d 1 0) Tryz.underlying57) ?_
   refine QSeq.pure rfl (.int .i64 0) (fun E=>Ai rfl rfl) ?_
   refine QSeq.nil (t':=[_,_,_,_]) rfl ?_
   obtain rfl:=HA0.out
   clear HA0 oe6
   simp only [pz,Act.put,sIB,sCZ,sCS]
   clear Hx1
   clear Hx2
   clear Hx3
   clear Hx4
   clear Hx5
   clear Hx6
   clear Hx7
   clear Hx8
   clear Hx9
   clear HJ
   clear HB1
   clear Hx27
   clear Hx28
   clear Hx29
   clear Hx30
   clear Hx250
   clear Hx251
   clear Hx252
   clear Hx253
   clear Hx254
   go_wp2
   go_loopw [4,203] (fun ta ti wr=>∃ k:Nat,ti=.int .i64 (k:Int)∧k≤x.dc.l.length∧u34_6.heap.size≤wr.heap.size∧OwR (fun b=>w1.heap.size≤b∧b < wr.heap.size) 900000 wr ta (BJ ++ (encI x.dc.ep ++ (encI x.dc.rn ++ (baB x.dc.ba ++ encI x.dc.l.length))) ++ ((x.dc.l.take k).map vtB).flatten)∧RdS VtR R2 wr (.slice aol x.dc.l.length capl) x.dc.l∧Cs wr (u3_5.heap.size) ((x.dc.cells d_ps d_os d_ts (Value.slice aol x.dc.l.length capl))).toArray 59∧Mod (fun _=>False) w wr) (fun _ ti _=>x.dc.l.length - (intOf ti).toNat)
   case atStart=>exact ⟨0,rfl,Nat.zero_le _,Nat.le_refl _,by have hq:=(Hx249.out.widen (R':=(fun b=>w1.heap.size≤b∧b < u34_6.heap.size)) (by intro k h1;omega) (Nat.le_refl _));simpa only [List.take_zero,List.map_nil,List.flatten_nil,List.append_nil,List.append_assoc] using hq,(((Hx10.out.mod Cx31.out (fun _ _ h=>h)).mod Cx227.out (fun _ _ h=>h)).mod Cx255.out (fun _ _ h=>h)),(Hx226.out.mod Cx255.out (fun h=>h)),(((HM0.out.trans Cx31.out (fun _ _ h=>h.elim)).trans Cx227.out (fun _ _ h=>h.elim)).trans Cx255.out (fun _ _ h=>h.elim))⟩
   case round=>
    obtain ⟨k1,rfl,hk,hz,ha,hk_0,hk_1,hm⟩:=hrel
    obtain ⟨wl1,rfl⟩:∃ x,x=wr:=⟨_,rfl⟩
    obtain ⟨aol1,capl1,rfl⟩:=ha.shape
    have HAL1:=Lib.hid ha
    have HKL1_0:=Lib.hid hk_0
    have HKL1_1:=Lib.hid hk_1
    have HML1:=Lib.hid hm
    clear ha hm hk_0 hk_1 Hx10 HM0 Hx226 Hx249
    by_cases hlt1:k1 < x.dc.l.length
    ·skip
     have hat:=HKL1_0.out.at hlt1
     obtain ⟨g1,o1,cs1,eao,hrg,hrd,hcs⟩:=hat
     subst eao
     have hcl:cs1.length=38:=VtR.len hrd
     have HCL1:=Lib.hid hcl
     have HAT1:=hid (show CellsAt R2 wl1 g1 (o1+k1 * 38) cs1 from ⟨hrg,hcs⟩)
     have HRD1:=Lib.hid hrd
     clear hcl hcs hrd hrg
     obtain ⟨y1,hy1⟩:∃ y,y=x.dc.l[k1]:=⟨_,rfl⟩
     rw [← hy1] at HRD1
     have HE1:Hid ((BJ ++ (encI x.dc.ep ++ (encI x.dc.rn ++ (baB x.dc.ba ++ encI x.dc.l.length))) ++ ((x.dc.l.take k1).map vtB).flatten) ++ vtB x.dc.l[k1]=BJ ++ (encI x.dc.ep ++ (encI x.dc.rn ++ (baB x.dc.ba ++ encI x.dc.l.length))) ++ ((x.dc.l.take (k1+1)).map vtB).flatten):=hid (by rw [List.take_succ_eq_append_getElem hlt1,List.map_append,List.flatten_append];simp [List.append_assoc])
     have HB1':=hid (show ((BJ ++ (encI x.dc.ep ++ (encI x.dc.rn ++ (baB x.dc.ba ++ encI x.dc.l.length))) ++ ((x.dc.l.take k1).map vtB).flatten) ++ vtB x.dc.l[k1]).length≤900000 by rw [HE1.out];exact acc_len _ _ _ _ (by have:=HL.out;simp only [List.length_append] at this ⊢; omega))
     have HBE1:=hid (show (vtB x.dc.l[k1]).length≤900000 by have:=HB1'.out;simp only [List.length_append] at this ⊢; omega)
     go_upto_region 37 with (fail)
     refine Aa 227 [205,7] [0,1] (fun a0 HA0=>?_)
     have oe203:=ev HA0 203 rfl
     refine QSeq.pure rfl _ (fun E=>Ai rfl (E.v oe203)) ?_
     refine QSeq.pure rfl _ (fun E=>Af rfl (E.d 0 0)) ?_
     refine QSeq.nil (t':=[_,_]) rfl ?_
     obtain rfl:=HA0.out
     clear HA0 oe203
     simp only [pz,Act.put,sIB,sCZ,sCS]
     rw [← hy1] at HE1 HB1' HBE1
     clear hy1
     obtain ⟨rfl,hvk⟩:=HRD1.out
     have HVK:=Lib.hid hvk
     clear hvk HRD1
     have HL':=HL
     clear HL
     have HL:=hid (show ((BJ ++ (encI x.dc.ep ++ (encI x.dc.rn ++ (baB x.dc.ba ++ encI x.dc.l.length))) ++ ((x.dc.l.take k1).map vtB).flatten) ++ (bareV y1 ++ sigB y1.sb y1.mr)).length≤900000 by have h:=HB1'.out;rw [vt_bare] at h;exact h)
     go_upto_region 38 with (fail)
     generalize ha0:Act.mk _ _=a0
     have oe4:a0.eval (.tmp 4)=.slice aol1 ((BJ ++ (encI x.dc.ep ++ (encI x.dc.rn ++ (baB x.dc.ba ++ encI x.dc.l.length))) ++ ((x.dc.l.take k1).map vtB).flatten).length) capl1:=by rw [← ha0];rfl
     have oe6:a0.eval (.tmp 6)=.pointer (some ⟨u3_5.heap.size,0,none⟩):=by rw [← ha0];rfl
     have oe7:a0.eval (.tmp 7)=.int .i64 ((k1:Nat):Int):=by rw [← ha0];rfl
     have hsz0:a0.tmps.size=227:=by rw [← ha0];rfl
     have HA0:=hid ha0
     clear ha0
     refine A1 227 hsz0 [206,207,208,209,210,211,212,213,214,215,216,217,218,219,220,221,4] [qi (.slice aol1 ((BJ ++ (encI x.dc.ep ++ (encI x.dc.rn ++ (baB x.dc.ba ++ encI x.dc.l.length))) ++ ((x.dc.l.take k1).map vtB).flatten).length) capl1),qi (.pointer (some ⟨u3_5.heap.size,7,none⟩)),qi (.slice (some ⟨g1,o1,none⟩) x.dc.l.length capl),qi (.int .i64 ((k1:Nat):Int)),qi (.pointer (some ⟨g1,o1+k1 * 38,none⟩)),qi (.agg y1.cells.toArray),qv 0,qi (.pointer (some ⟨u3_5.heap.size,7,none⟩)),qi (.slice (some ⟨g1,o1,none⟩) x.dc.l.length capl),qi (.int .i64 ((k1:Nat):Int)),qi (.pointer (some ⟨g1,o1+k1 * 38,none⟩)),qi (.pointer (some ⟨g1,o1+k1 * 38+36,none⟩)),qi (.agg #[.int .i64 y1.sb,.int .i64 y1.mr]),qv 1,qv 2,qv 3,qv 3] ⟨Ab,Ab,Ab,Ab,Ab,Ab,Ak,Ab,Ab,Ab,Ab,Ab,Ab,Ak,Ak,Ak,Ak,trivial⟩ [6,13,14,15] ⟨?_,?_,?_,?_,?_,?_,?_,?_,?_,?_,?_,?_,?_,?_,?_,?_,?_,trivial⟩ ?_
     ·exact stq (fun E=>Ai rfl ((E.pre 16 4 rfl (by kernel_rfl)).trans oe4))
     ·exact stq (fun E=>Ad rfl Tryz.underlying59 rfl (by kernel_rfl) (E.v oe6))
     ·exact stq (fun E=>Aj rfl Tryz.underlying57 rfl (E.d 1) (Cs.lit1 (HKL1_1.out.mod E.m.old (by intro h2;omega)) rfl))
     ·exact stq (fun E=>Ai rfl (E.v oe7))
     ·exact stq (fun E=>Bk (i:=k1) (s:=38) rfl Tryz.underlying57 (by kernel_rfl) (E.d 2) (E.d 3) hlt1)
     ·exact stq (fun E=>Am rfl Tryz.underlying49 rfl (off:=o1+k1 * 38) (cs:=y1.cells) (by rw [Vt.len HVK.out];kernel_rfl) (E.d 4) (fun j u hu=>((HAT1.out.mod E.m.old (by intro k h1 h2;have hb:=HBT.out k h1;omega))).2 j u hu))
     ·exact Ah rfl
     ·exact stq (fun E=>Ad rfl Tryz.underlying59 rfl (by kernel_rfl) (E.v oe6))
     ·exact stq (fun E=>Aj rfl Tryz.underlying57 rfl (E.d 7) (Cs.lit1 (HKL1_1.out.mod E.m.old (by intro h2;omega)) rfl))
     ·exact stq (fun E=>Ai rfl (E.v oe7))
     ·exact stq (fun E=>Bk (i:=k1) (s:=38) rfl Tryz.underlying57 (by kernel_rfl) (E.d 8) (E.d 9) hlt1)
     ·exact stq (fun E=>Ad rfl Tryz.underlying49 rfl (by kernel_rfl) (E.d 10))
     ·exact stq (fun E=>Am rfl Tryz.underlying27 rfl (off:=o1+k1 * 38+36) (cs:=[.int .i64 y1.sb,.int .i64 y1.mr]) (by kernel_rfl) (E.d 11) (fun j u hu=>by rw [Nat.add_assoc];exact ((HAT1.out.mod E.m.old (by intro k h1 h2;have hb:=HBT.out k h1;omega))).2 (36+j) u (Vt_sgc HVK.out j u hu)))
     ·exact Ah rfl
     ·exact Ah rfl
     ·exact Ah rfl
     ·refine Av rfl rfl rfl fun _ _ _ _ _ _ _ _ _ hd _ _=>?_
      have h15:=hd ⟨15,.data⟩ (by simp) rfl _ rfl
      exact Bd rfl (Ac rfl) (Af rfl rfl) QE.refl h15
     intro u38_0 hr
     have zu38_0:=hr.size
     have Cx256:=hid (hr.new (S:=(fun _=>False)))
     clear hr
     refine QChain.go fun Z act E=>?_
     refine Ap (args:=#[.agg y1.cells.toArray]) rfl (Ac rfl) rfl Tryz.func31 (Aw (E.d 5)) (RefBareV_Q (fun _=>False) _ y1 _ ⟨rfl,HVK.out⟩ (fun _ h=>h.elim) (by have:=HL.out;simp only [List.length_append] at this ⊢; omega)) ?_
     rintro e u38_1a ⟨v_a8,rfl,qa8,hm⟩
     obtain ⟨ao_a8,cap_a8,rfl⟩:=qa8.shape
     have zu38_1a:=hm.size
     refine ⟨_,rfl,hm.mono (fun _ _ h=>h.elim),(fun _=>rfl),?_⟩
     intro u38_1 hr
     have zu38_1:=hr.size
     have Hx257:=hid ((qa8.widen (R':=(fun k=>(New u38_0 u38_1a k))) (fun _ h=>h) (Nat.le_refl _)).mod hr (by intro k h1 h2;omega))
     have Cx258:=hid (Cx256.out.go hm hr)
     clear Cx256 hm hr Z act E qa8
     refine QChain.go fun Z act E=>?_
     refine Ap (args:=#[.agg #[.int .i64 y1.sb,.int .i64 y1.mr]]) rfl (Ac rfl) rfl Tryz.func27 (Aw (E.d 12)) (RefSig_Q HVK.out.sb HVK.out.mr _) ?_
     rintro e u38_2a ⟨v_a9,rfl,qa9,hm⟩
     obtain ⟨ao_a9,cap_a9,rfl⟩:=qa9.shape
     have zu38_2a:=hm.size
     refine ⟨_,rfl,hm.mono (fun _ _ h=>h.elim),(fun _=>rfl),?_⟩
     intro u38_2 hr
     have zu38_2:=hr.size
     have Hx259:=hid ((qa9.widen (R':=(fun k=>(New u38_1 u38_2a k))) (fun _ h=>h) (Nat.le_refl _)).mod hr (by intro k h1 h2;omega))
     have hmr:=Mod.after hm hr
     have Hx260:=hid (Hx257.out.mod hmr (by intro k h1 h2;omega))
     clear Hx257
     clear hmr
     have Cx261:=hid (Cx258.out.go hm hr)
     clear Cx258 hm hr Z act E qa9
     refine QChain.go fun Z act E=>?_
     have ea206:act.eval (.tmp 206)=.slice aol1 ((BJ ++ (encI x.dc.ep ++ (encI x.dc.rn ++ (baB x.dc.ba ++ encI x.dc.l.length))) ++ ((x.dc.l.take k1).map vtB).flatten).length) capl1:=(E.d 0)
     have ea212:act.eval (.tmp 212)=.slice ao_a8 ((bareV y1).length) cap_a8:=(chv (v:=.slice ao_a8 ((bareV y1).length) cap_a8) (E.d 6))
     have ea219:act.eval (.tmp 219)=.slice ao_a9 ((sigB y1.sb y1.mr).length) cap_a9:=(chv (v:=.slice ao_a9 ((sigB y1.sb y1.mr).length) cap_a9) (E.d 13))
     refine Bl rfl (Ac rfl) rfl Tryz.underlying124 (by decide) (C:=#[.slice aol1 ((BJ ++ (encI x.dc.ep ++ (encI x.dc.rn ++ (baB x.dc.ba ++ encI x.dc.l.length))) ++ ((x.dc.l.take k1).map vtB).flatten).length) capl1,.slice ao_a8 ((bareV y1).length) cap_a8,.slice ao_a9 ((sigB y1.sb y1.mr).length) cap_a9]) (by simp only [List.map_toArray,List.map_cons,List.map_nil,ea206,ea212,ea219];kernel_rfl) ?_
     intro u38_3a qrow14 hm
     have zl38_14:=qrow14.lt
     have zu38_3a:=hm.size
     refine ⟨hm.mono (fun _ _ h=>h.elim),(fun _=>rfl),?_⟩
     intro u38_3 hr
     have zu38_3:=hr.size
     have Hx262:=hid (qrow14.mod hr (by intro h2;omega))
     have hmr:=Mod.after hm hr
     have Hx263:=hid (Hx260.out.mod hmr (by intro k h1 h2;omega))
     have Hx264:=hid (Hx259.out.mod hmr (by intro k h1 h2;omega))
     clear Hx260 Hx259
     clear hmr
     have Cx265:=hid (Cx261.out.go hm hr)
     clear Cx261 hm hr Z act E qrow14 ea206 ea212 ea219
     refine QChain.go fun Z act E=>?_
     refine Ap (args:=#[.slice (some ⟨u38_2.heap.size,0,none⟩) 3 3]) rfl (Ac rfl) rfl Tryz.func21 (Aw (chv (v:=.slice (some ⟨u38_2.heap.size,0,none⟩) 3 3) (E.d 14))) (Join_Q (n:=3)  Hx262.out [(.slice aol1 ((BJ ++ (encI x.dc.ep ++ (encI x.dc.rn ++ (baB x.dc.ba ++ encI x.dc.l.length))) ++ ((x.dc.l.take k1).map vtB).flatten).length) capl1,(BJ ++ (encI x.dc.ep ++ (encI x.dc.rn ++ (baB x.dc.ba ++ encI x.dc.l.length))) ++ ((x.dc.l.take k1).map vtB).flatten)),(.slice ao_a8 ((bareV y1).length) cap_a8,bareV y1),(.slice ao_a9 ((sigB y1.sb y1.mr).length) cap_a9,sigB y1.sb y1.mr)] rfl rfl (by intro p hp;simp only [List.mem_cons,List.not_mem_nil,or_false] at hp;rcases hp with rfl|rfl|rfl<;>first|exact (HAL1.out.mod Cx265.out (fun _ _ h=>h)).rd.1|exact Hx263.out.rd.1|exact Hx264.out.rd.1) (by simp) (show flat _=((BJ ++ (encI x.dc.ep ++ (encI x.dc.rn ++ (baB x.dc.ba ++ encI x.dc.l.length))) ++ ((x.dc.l.take k1).map vtB).flatten)) ++ (bareV y1 ++ sigB y1.sb y1.mr) from by simp only [flat,List.map_cons,List.map_nil,List.flatten_cons,List.flatten_nil,List.append_nil]) (by have:=HL.out;simp only [List.length_append] at this ⊢; omega)) ?_
     rintro e u38_4a ⟨v_join3,rfl,qjoin3,hm⟩
     have zu38_4a:=hm.size
     refine ⟨_,rfl,hm.mono (fun _ _ h=>h.elim),(fun _=>rfl),?_⟩
     intro u38_4 hr
     have zu38_4:=hr.size
     have Hx266:=hid ((qjoin3.widen (R':=(fun k=>(New u38_3 u38_4a k))) (fun _ h=>h) (Nat.le_refl _)).mod hr (by intro k h1 h2;omega))
     have hmr:=Mod.after hm hr
     have Hx267:=hid (Hx263.out.mod hmr (by intro k h1 h2;omega))
     have Hx268:=hid (Hx264.out.mod hmr (by intro k h1 h2;omega))
     have Hx269:=hid (Hx262.out.mod hmr (by intro h2;omega))
     clear Hx263 Hx264 Hx262
     clear hmr
     have Cx270:=hid (Cx265.out.go hm hr)
     clear Cx265 hm hr Z act E qjoin3
     refine QChain.nil fun vs hl hzz hrows hne=>?_
     obtain ⟨Z,hYZ,hZb,hV⟩:=hzz
     have f0:=fvi hV hl 0
     have f3:=fvi hV hl 3
     have f6:=fvc hV hl 6
     have f9:=fvi hV hl 9
     have f13:=fvc hV hl 13
     have f14:=fvc hV hl 14
     have f15:=fvc hV hl 15
     have f16:=fvc hV hl 16
     rw [show vs=[gw vs 0,gw vs 1,gw vs 2,gw vs 3,gw vs 4,gw vs 5,gw vs 6,gw vs 7,gw vs 8,gw vs 9,gw vs 10,gw vs 11,gw vs 12,gw vs 13,gw vs 14,gw vs 15,gw vs 16] from (Be hl).trans rfl]
     have ha0:=HA0.out
     subst ha0
     clear HA0 hV hYZ hZb hsz0 hrows hne oe4 oe6 oe7
     simp only [Au,Act.put,sIB,sCZ,sCS,f0,f3,f6,f9,f13,f14,f15,f16]
     clear hl f0 f3 f6 f9 f13 f14 f15 f16
     have hq:=Hx266.out
     rw [show ((BJ ++ (encI x.dc.ep ++ (encI x.dc.rn ++ (baB x.dc.ba ++ encI x.dc.l.length))) ++ ((x.dc.l.take k1).map vtB).flatten)) ++ (bareV y1 ++ sigB y1.sb y1.mr)=(BJ ++ (encI x.dc.ep ++ (encI x.dc.rn ++ (baB x.dc.ba ++ encI x.dc.l.length))) ++ ((x.dc.l.take k1).map vtB).flatten) ++ vtB y1 by rw [vt_bare]] at hq
     have HQB:=Lib.hid hq
     clear hq
     go_upto_region 39 with (fail)
     refine Aa 227 [222,203] [0,1] (fun a0 HA0=>?_)
     have oe203:=ev HA0 203 rfl
     refine QSeq.pure rfl (.int .i64 (((k1:Nat):Int)+1)) (fun E=>An rfl (E.y 1 oe203) rfl (Ag _ _ _ _ _ _) (run_add_i _ _ Tryz.underlying3) (congrArg (Value.int .i64) (IntWalk.i64_in _ (by have hil:=HIL.out;unfold I64 at hil;omega)))) ?_
     refine QSeq.pure rfl _ (fun E=>Ai rfl (E.d 0 0)) ?_
     refine QSeq.nil (t':=[_,_]) rfl ?_
     obtain rfl:=HA0.out
     clear HA0 oe203
     simp only [pz,Act.put,sIB,sCZ,sCS]
     have hq:=HQB.out
     rw [HE1.out] at hq
     have HQ1:=Lib.hid hq
     clear hq
     go_wp2
     go_roundw
     case rel=>exact ⟨k1+1,by go_num,by omega,by omega,(HQ1.out.widen (by intro b h1;omega) (Nat.le_refl _)),(HKL1_0.out.mod Cx270.out (fun _ _ h=>h)),(HKL1_1.out.mod Cx270.out (fun h=>h)),(HML1.out.trans Cx270.out (fun _ _ h=>h.elim))⟩
     case measure=>simp [intOf];omega
    ·obtain rfl:k1=x.dc.l.length:=by omega
     have hq:=HAL1.out
     rw [List.take_length] at hq
     have HAF1:=Lib.hid hq
     clear hq
     rw [List.take_length]
     have HEQ:=hid (show (BJ ++ (encI x.dc.ep ++ (encI x.dc.rn ++ (baB x.dc.ba ++ encI x.dc.l.length))) ++ (x.dc.l.map vtB).flatten)=Bj x by unfold Bj;rw [HE.out,HBJ.out];simp only [List.append_assoc])
     have HQ:=hid (HAF1.out.widen (R':=(fun k=>New w wl1 k)) (by intro k h1;omega) (Nat.le_refl _))
     go_wp2_with fail
     go_meet
     case rel=>exact ⟨by have h:=HQ.out;rw [HEQ.out] at h ⊢; exact h,HML1.out⟩
  have K14:=Lib.hid h14
  clear h14
  go_upto_region 32 with (fail)
  refine Aa 227 [181,180] [0,1] (fun a0 HA0=>?_)
  have oe28:=ev HA0 28 rfl
  refine QSeq.pure rfl (.bool false) (fun E=>An rfl (E.v oe28) rfl (Ag _ _ _ _ _ _) (Al _ _ _ Tryz.underlying3) (congrArg Value.bool (Bb K14.out))) ?_
  refine QSeq.pure rfl _ (fun E=>Af rfl (E.d 0 0)) ?_
  refine QSeq.nil (t':=[_,_]) rfl ?_
  obtain rfl:=HA0.out
  clear HA0 oe28
  simp only [pz,Act.put,sIB,sCZ,sCS]
  exact absurd (show False by have kk:=HK.out;unfold okKd at kk;rw [decide_eq_true_eq] at kk;have k1:=K1.out;have k2:=K2.out;have k3:=K3.out;have k4:=K4.out;have k5:=K5.out;have k6:=K6.out;have k7:=K7.out;have k8:=K8.out;have k9:=K9.out;have k10:=K10.out;have k11:=K11.out;have k12:=K12.out;have k13:=K13.out;have k14:=K14.out;omega) (fun h=>h)
 case rest=>
  obtain ⟨wq,rfl⟩:∃ x,x=wc:=⟨_,rfl⟩
  obtain ⟨ho,hm⟩:=hcut
  obtain ⟨aoq,capq,rfl⟩:=ho.shape
  have HOW:=Lib.hid ho
  have HMM:=Lib.hid hm
  clear ho hm
  by_cases hn:65536 < (Bj x).length
  ·skip
   go_upto_region 40 with (fail)
   refine Aa 227 [223,224,225] [0,1,2] (fun a0 HA0=>?_)
   have oe4:=ev HA0 4 rfl
   refine QSeq.pure rfl _ (fun E=>Ai rfl (E.v oe4)) ?_
   refine QSeq.pure rfl (.int .i64 ((Bj x).length)) (fun E=>A0 rfl (E.d 0 0) Tryz.underlying52) ?_
   refine QSeq.pure rfl (.bool true) (fun E=>An rfl (E.d 1 0) rfl (Ag _ _ _ _ _ _) (run_gtr_i _ _ _ Tryz.underlying3) (congrArg Value.bool (decide_eq_true (by omega)))) ?_
   refine QSeq.nil (t':=[_,_,_]) rfl ?_
   obtain rfl:=HA0.out
   clear HA0 oe4
   simp only [pz,Act.put,sIB,sCZ,sCS]
   go_upto_region 41 with (fail)
   refine Aa 227 [2,3] [0,1] (fun a0 HA0=>?_)
   refine QSeq.pure rfl (.slice none 0 0) (fun E=>Af rfl rfl) ?_
   refine QSeq.pure rfl (.bool false) (fun E=>Af rfl rfl) ?_
   refine QSeq.nil (t':=[_,_]) rfl ?_
   obtain rfl:=HA0.out
   clear HA0
   simp only [pz,Act.put,sIB,sCZ,sCS]
   have HP:=hid (show packs x=false by unfold packs;rw [HK.out,Bool.true_and,decide_eq_false_iff_not];omega)
   go_wp2
   go_ret2
   exact ⟨.slice none 0 0,by rw [HPK.out,HP.out];rfl,by rw [show RB=[] by rw [HRB.out,HP.out];rfl];exact ⟨Own.nil _ _ _ _,(fun g h=>by cases h),Nat.zero_le _⟩,HMM.out⟩
  go_upto_region 40 with (fail)
  refine Aa 227 [223,224,225] [0,1,2] (fun a0 HA0=>?_)
  have oe4:=ev HA0 4 rfl
  refine QSeq.pure rfl _ (fun E=>Ai rfl (E.v oe4)) ?_
  refine QSeq.pure rfl (.int .i64 ((Bj x).length)) (fun E=>A0 rfl (E.d 0 0) Tryz.underlying52) ?_
  refine QSeq.pure rfl (.bool false) (fun E=>An rfl (E.d 1 0) rfl (Ag _ _ _ _ _ _) (run_gtr_i _ _ _ Tryz.underlying3) (congrArg Value.bool (decide_eq_false (by omega)))) ?_
  refine QSeq.nil (t':=[_,_,_]) rfl ?_
  obtain rfl:=HA0.out
  clear HA0 oe4
  simp only [pz,Act.put,sIB,sCZ,sCS]
  go_upto_region 42 with (fail)
  refine Aa 227 [226,2,3] [0,1,2] (fun a0 HA0=>?_)
  have oe4:=ev HA0 4 rfl
  refine QSeq.pure rfl _ (fun E=>Ai rfl (E.v oe4)) ?_
  refine QSeq.pure rfl _ (fun E=>Af rfl (E.d 0 0)) ?_
  refine QSeq.pure rfl (.bool true) (fun E=>Af rfl rfl) ?_
  refine QSeq.nil (t':=[_,_,_]) rfl ?_
  obtain rfl:=HA0.out
  clear HA0 oe4
  simp only [pz,Act.put,sIB,sCZ,sCS]
  have HP:=hid (show packs x=true by unfold packs;rw [HK.out,Bool.true_and,decide_eq_true_eq];omega)
  go_wp2
  go_ret2
  exact ⟨_,by rw [HPK.out,HP.out];rfl,by rw [show RB=Bj x by rw [HRB.out,HP.out];rfl];exact HOW.out,HMM.out⟩
end Go.Proofs.YtnaoeginonpicaaGreat

/- MsgPacks: the walk. -/
namespace Go.Proofs.YtnaoeginonpicaaGreat
open Go Go.RowKit Go.Gv
theorem callsPQ {P:Program} {F:FuncId} {args:Array Value} {w:World} {b c:Bool} {l m:List Int} (h:c=b) (hl:m=l) (hc:Calls P F args w fun e w'=>∃ v,e=.returned (.tuple #[v,.bool b])∧OwR (New w w') 900000 w' v l∧Mod (fun _=>False) w w'):Calls P F args w fun e w'=>∃ v,e=.returned (.tuple #[v,.bool c])∧OwR (New w w') 900000 w' v m∧Mod (fun _=>False) w w':=by
 subst h hl
 exact hc
set_option maxHeartbeats 8000000 in
theorem LPacks_any (R2:Nat→Prop) (a:Mg) (ca:List Value) (w:World) (ha:MgR.rd R2 w ca a) (hB2:∀ k,R2 k→k < w.heap.size) :
 Calls Tryz.prog 4 #[.agg ca.toArray] w fun e w'=>e=.returned (.bool true)∧Mod (fun _=>False) w w':=by
 have HA:=Lib.hid ha
 have HCA:=hid (show ca.length=295 from MgR.len ha)
 have HBT:=Lib.hid hB2
 clear ha hB2
 go_enter Tryz.func4,Tryz.ntmps4
 go_upto_region 1 with (fail)
 obtain ⟨w1,hw1⟩:∃ zz,zz=(w.alloc (.cells (ca:List Value).toArray 61)):=⟨_,rfl⟩
 change Code.wp _ _ _ _ (w.alloc (.cells (ca:List Value).toArray 61))
 rw [← hw1]
 have HB1:=hid (show Cs w1 (w.heap.size) (ca:List Value).toArray 61 by rw [hw1];exact Cs.new _ _ _)
 have hm:Mod (fun _=>False) w w1:=by rw [hw1];exact (Mod.refl _ _).alloc _
 have HM0:=hid (show Mod (fun _=>False) w w1 from hm.mono (fun _ _ h=>h.elim))
 have hs1:w1.heap.size=w.heap.size+1:=by rw [hw1];simp
 have Hx1:=hid (HA.out.mod hm (fun _ _ h=>h))
 clear HA
 clear hw1 hm
 obtain ⟨m,hm0⟩:∃ z,z=smallM a:=⟨_,rfl⟩
 have HS0:=Lib.hid hm0
 clear hm0
 go_upto_region 1 with (fail)
 refine Aa 37 [7,8,39] [0,1,2] (fun a0 HA0=>?_)
 have oe1:=ev HA0 1 rfl
 refine QSeq.pure rfl _ (fun E=>Am rfl Tryz.underlying61 rfl (off:=0) (cs:=ca) (by rw [HCA.out];kernel_rfl) (E.v oe1) (Cs.whole HB1.out)) ?_
 refine QSeq.call rfl rfl Tryz.func7 (HS0.out.symm▸Small_c R2 a _ _ Hx1.out (by intro k h1;have hb:=HBT.out k h1;omega)) (fun E=>Aw (E.d 0 0)) ?_
 rintro e u1_1 ⟨cp,rfl,qa,hm⟩
 have HNm:=hid (show cp.length=295 from MgR.len qa)
 have HWm:=hid (MgR.one qa)
 refine ⟨_,rfl,?_⟩
 have Hx2:=hid (qa.widen (R':=(fun k=>(R2 k)∨(New w1 u1_1 k))) (fun _ h=>h))
 have zu1_1:=hm.size
 have Cx3:=hid (show Mod (fun _=>False) w1 u1_1 from hm)
 clear hm
 clear qa Hx1
 refine QSeq.go fun act E=>?_
 refine Aq rfl (Ac rfl) rfl (HB1.out.mod Cx3.out (fun h=>h)) (off:=0) (vs:=cp) (by rw [HNm.out];kernel_rfl) HWm.out (by rw [List.size_toArray,HNm.out,HCA.out];decide) (E.v oe1) (ec (E.d 1 0)) ?_
 intro u1_2 qc0 hm
 have qB1:=qc0.eqv (b:=(cp:List Value).toArray) (A5 _ _ (by rw [List.size_toArray,HNm.out,HCA.out]))
 clear qc0
 have Hx4:=hid qB1
 have zu1_2:=hm.size
 have HMu1_2:=hid hm
 have Cx5:=hid (Mod.goS (S':=(fun k=>(k=w.heap.size))) Cx3.out hm (fun _ h=>h.elim) (by intro k h0 h2;exact h2))
 clear hm Cx3
 clear act E qB1 HB1
 have Hx6:=hid (Hx2.out.mod HMu1_2.out (by intro k h1 h2;rcases h1 with h1|h1<;>first|omega|(have hb:=HBT.out k h1;omega)))
 clear Hx2 HMu1_2
 refine QSeq.nil (t':=[_,_,_]) rfl ?_
 obtain rfl:=HA0.out
 clear HA0 oe1
 simp only [pz,Act.put,sIB,sCZ,sCS,List.set_nil]
 have HLE:=hid (show (Bj m).length≤30000 by have h:=Hx6.out;rw [HS0.out] at h ⊢; exact small_len (k:=(smallM a).kd) h)
 have HCM:=hid (show cpMg m by rw [HS0.out];exact cp_small a)
 obtain ⟨rb,hrb⟩:∃ z,z=(if packs m=true then Bj m else []):=⟨_,rfl⟩
 have HRB:=Lib.hid hrb
 obtain ⟨pk,hpk⟩:∃ z,z=packs m:=⟨_,rfl⟩
 have HPK:=Lib.hid hpk
 clear hrb hpk
 obtain ⟨y,hy⟩:∃ z,z=Bf m:=⟨_,rfl⟩
 have HY:=Lib.hid hy
 clear hy
 go_upto_region 2 with (fail)
 refine Aa 37 [10,11,9,12,13,3,4] [0,1,2,3,4,5,6] (fun a0 HA0=>?_)
 have oe1:=ev HA0 1 rfl
 refine QSeq.pure rfl _ (fun E=>Am rfl Tryz.underlying61 rfl (off:=0) (cs:=cp) (by rw [HNm.out];kernel_rfl) (E.v oe1) (Cs.whole Hx4.out)) ?_
 refine QSeq.call rfl rfl Tryz.func16 (callsPQ HPK.out HRB.out (Pack_Q _ _ m _ Hx6.out (by intro k h1;rcases h1 with h1|h1<;>first|omega|(have hb:=HBT.out k h1;omega)) (Nat.le_trans HLE.out (by decide)))) (fun E=>Aw (E.d 0 0)) ?_
 rintro e u2_1 ⟨vb,rfl,qb,hm⟩
 obtain ⟨aob,capb,rfl⟩:=qb.shape
 refine ⟨_,rfl,?_⟩
 have Hx7:=hid qb
 have zu2_1:=hm.size
 have Cx8:=hid (show Mod (fun _=>False) u1_2 u2_1 from hm)
 clear hm
 clear qb
 refine QSeq.pure rfl _ (fun E=>Ai rfl (E.d 1 0)) ?_
 refine QSeq.pure rfl (.slice aob (rb.length) capb) (fun E=>ex_extract rfl (E.d 2 0) rfl) ?_
 refine QSeq.pure rfl (.bool pk) (fun E=>ex_extract rfl (E.d 2 1) rfl) ?_
 refine QSeq.pure rfl _ (fun E=>Af rfl (E.d 3 1)) ?_
 refine QSeq.pure rfl _ (fun E=>Af rfl (E.d 4 1)) ?_
 refine QSeq.nil (t':=[_,_,_,_,_,_,_]) rfl ?_
 obtain rfl:=HA0.out
 clear HA0 oe1
 simp only [pz,Act.put,sIB,sCZ,sCS]
 go_upto_region 3 with (fail)
 refine Aa 37 [15,16,14,17,18,5,6] [0,1,2,3,4,5,6] (fun a0 HA0=>?_)
 have oe1:=ev HA0 1 rfl
 refine QSeq.pure rfl _ (fun E=>Am rfl Tryz.underlying61 rfl (off:=0) (cs:=cp) (by rw [HNm.out];kernel_rfl) (E.v oe1) (Cs.whole (Hx4.out.mod Cx8.out (fun h=>h)))) ?_
 refine QSeq.call rfl rfl Tryz.func6 (callsPQ HPK.out HRB.out (RefPack_Q _ _ m _ (Hx6.out.mod Cx8.out (fun _ _ h=>h)) (by intro k h1;rcases h1 with h1|h1<;>first|omega|(have hb:=HBT.out k h1;omega)) (Nat.le_trans HLE.out (by decide)))) (fun E=>Aw (E.d 0 0)) ?_
 rintro e u3_1 ⟨vc,rfl,qc,hm⟩
 obtain ⟨aoc,capc,rfl⟩:=qc.shape
 refine ⟨_,rfl,?_⟩
 have Hx9:=hid qc
 have zu3_1:=hm.size
 have Cx10:=hid (show Mod (fun _=>False) u2_1 u3_1 from hm)
 clear hm
 clear qc
 refine QSeq.pure rfl _ (fun E=>Ai rfl (E.d 1 0)) ?_
 refine QSeq.pure rfl (.slice aoc (rb.length) capc) (fun E=>ex_extract rfl (E.d 2 0) rfl) ?_
 refine QSeq.pure rfl (.bool pk) (fun E=>ex_extract rfl (E.d 2 1) rfl) ?_
 refine QSeq.pure rfl _ (fun E=>Af rfl (E.d 3 1)) ?_
 refine QSeq.pure rfl _ (fun E=>Af rfl (E.d 4 1)) ?_
 refine QSeq.nil (t':=[_,_,_,_,_,_,_]) rfl ?_
 obtain rfl:=HA0.out
 clear HA0 oe1
 simp only [pz,Act.put,sIB,sCZ,sCS]
 go_upto_region 4 with (fail)
 generalize ha0:Act.mk _ _=a0
 have oe1:a0.eval (.tmp 1)=.pointer (some ⟨w.heap.size,0,none⟩):=by rw [← ha0];rfl
 have oe3:a0.eval (.tmp 3)=.slice aob (rb.length) capb:=by rw [← ha0];rfl
 have oe4:a0.eval (.tmp 4)=.bool pk:=by rw [← ha0];rfl
 have oe5:a0.eval (.tmp 5)=.slice aoc (rb.length) capc:=by rw [← ha0];rfl
 have oe6:a0.eval (.tmp 6)=.bool pk:=by rw [← ha0];rfl
 have hsz0:a0.tmps.size=37:=by rw [← ha0];rfl
 have HA0:=hid ha0
 clear ha0
 refine A1 37 hsz0 [19,20,21,22,23,24,25,26,27,28,29,30,31,32,33,34,35,36,2] [qi (.bool pk),qi (.bool pk),qi (.bool true),qi (.bool true),qi (.slice aob (rb.length) capb),qi (.slice aoc (rb.length) capc),qi (.bool true),qi (.bool true),qi (.bool true),qi (.agg cp.toArray),qv 1,qi (.agg cp.toArray),qv 2,qi (.bool true),qi (.bool true),qi (.bool true),qi (.bool true),qi (.bool true),qi (.bool true)] ⟨Ab,Ab,Ab,Ab,Ab,Ab,Ab,Ab,Ab,Ab,Ak,Ab,Ak,Ab,Ab,Ab,Ab,Ab,Ab,trivial⟩ [6,10,12,13,16] ⟨?_,?_,?_,?_,?_,?_,?_,?_,?_,?_,?_,?_,?_,?_,?_,?_,?_,?_,?_,trivial⟩ ?_
 ·exact stq (fun E=>Ai rfl (E.v oe4))
 ·exact stq (fun E=>Ai rfl (E.v oe6))
 ·exact stq (fun E=>An rfl (E.d 0) (E.d 1) (guard_bools _ _ _ _ _ _) (run_eql_bools _ _ _ Tryz.underlying4) (congrArg Value.bool (beq_self_eq_true _)))
 ·exact stq (fun E=>Ai rfl (E.d 2))
 ·refine Av rfl rfl rfl fun _ _ _ _ _ _ _ hout hsz hd _ _=>?_
  have h3:=hd ⟨3,.guard⟩ (by simp) rfl _ rfl
  refine Bd rfl ((Ae rfl rfl (hsz 22 (by decide)) h3).trans rfl) (Ai rfl ((hout 3 (by decide)).trans oe3)) QE.refl ?_
  rfl
 ·refine Av rfl rfl rfl fun _ _ _ _ _ _ _ hout hsz hd _ _=>?_
  have h3:=hd ⟨3,.guard⟩ (by simp) rfl _ rfl
  refine Bd rfl ((Ae rfl rfl (hsz 22 (by decide)) h3).trans rfl) (Ai rfl ((hout 5 (by decide)).trans oe5)) QE.refl ?_
  rfl
 ·exact Ah rfl
 ·exact stq (fun E=>ex_pick rfl (E.d 3) (E.d 6) rfl)
 ·exact stq (fun E=>Ai rfl (E.d 7))
 ·refine Av rfl rfl rfl fun _ _ _ _ _ hm _ hout hsz hd _ _=>?_
  have h8:=hd ⟨8,.guard⟩ (by simp) rfl _ rfl
  refine Bd rfl ((Ae rfl rfl (hsz 27 (by decide)) h8).trans rfl) (Am rfl Tryz.underlying61 rfl (off:=0) (cs:=cp) (by rw [HNm.out];kernel_rfl) ((hout 1 (by decide)).trans oe1) (Cs.whole (((Hx4.out.mod Cx8.out (fun h=>h)).mod Cx10.out (fun h=>h)).mod hm.old (by intro h2;omega)))) QE.refl ?_
  rfl
 ·exact Ah rfl
 ·refine Av rfl rfl rfl fun _ _ _ _ _ hm _ hout hsz hd _ _=>?_
  have h8:=hd ⟨8,.guard⟩ (by simp) rfl _ rfl
  refine Bd rfl ((Ae rfl rfl (hsz 27 (by decide)) h8).trans rfl) (Am rfl Tryz.underlying61 rfl (off:=0) (cs:=cp) (by rw [HNm.out];kernel_rfl) ((hout 1 (by decide)).trans oe1) (Cs.whole (((Hx4.out.mod Cx8.out (fun h=>h)).mod Cx10.out (fun h=>h)).mod hm.old (by intro h2;omega)))) QE.refl ?_
  rfl
 ·exact Ah rfl
 ·exact Ah rfl
 ·exact stq (fun E=>ex_pick rfl (E.d 8) (E.d 13) rfl)
 ·exact stq (fun E=>Ai rfl (E.d 14))
 ·exact Ah rfl
 ·exact stq (fun E=>ex_pick rfl (E.d 15) (E.d 16) rfl)
 ·exact stq (fun E=>Af rfl (E.d 17))
 intro u4_0 hr
 have zu4_0:=hr.size
 have Cx11:=hid (hr.new (S:=(fun _=>False)))
 clear hr
 refine QChain.go fun Z act E=>?_
 refine Ap (args:=#[.slice aob (rb.length) capb,.slice aoc (rb.length) capc]) rfl ((Ae rfl rfl (E.sz 22 (by decide)) (E.e 3 .chain)).trans rfl) rfl Tryz.func17 (Az (E.d 4) (E.d 5)) (callsB (eqb_rfl rb) (Same_B ((Hx7.out.mod Cx10.out (fun _ _ h=>h)).mod Cx11.out (fun _ _ h=>h)).rd (Hx9.out.mod Cx11.out (fun _ _ h=>h)).rd)) ?_
 rintro e u4_1a ⟨rfl,hm⟩
 have zu4_1a:=hm.size
 refine ⟨_,rfl,hm.mono (fun _ _ h=>h.elim),(fun _=>rfl),?_⟩
 intro u4_1 hr
 have zu4_1:=hr.size
 have Cx12:=hid (Cx11.out.go hm hr)
 clear Cx11 hm hr Z act E
 refine QChain.go fun Z act E=>?_
 refine Ap (args:=#[.agg cp.toArray]) rfl ((Ae rfl rfl (E.sz 27 (by decide)) (E.e 8 .chain)).trans rfl) rfl Tryz.func18 (Aw (E.d 9)) (HY.out.symm▸Only_Q _ m _ _ (((Hx6.out.mod Cx8.out (fun _ _ h=>h)).mod Cx10.out (fun _ _ h=>h)).mod Cx12.out (fun _ _ h=>h)) (by intro k h1;rcases h1 with h1|h1<;>first|omega|(have hb:=HBT.out k h1;omega)) HCM.out) ?_
 rintro e u4_2a ⟨c1,rfl,qo1,hm⟩
 have zu4_2a:=hm.size
 refine ⟨_,rfl,hm.mono (fun _ _ h=>h.elim),(fun _=>rfl),?_⟩
 intro u4_2 hr
 have zu4_2:=hr.size
 have Hx13:=hid ((qo1.widen (R':=(fun k=>(New u4_1 u4_2a k))) (fun _ h=>h)).mod hr (by intro k h1 h2;omega))
 have Cx14:=hid (Cx12.out.go hm hr)
 clear Cx12 hm hr Z act E qo1
 refine QChain.go fun Z act E=>?_
 refine Ap (args:=#[.agg cp.toArray]) rfl ((Ae rfl rfl (E.sz 27 (by decide)) (E.e 8 .guard)).trans rfl) rfl Tryz.func19 (Aw (E.d 11)) (HY.out.symm▸RefOnly_Q _ m _ _ (((Hx6.out.mod Cx8.out (fun _ _ h=>h)).mod Cx10.out (fun _ _ h=>h)).mod Cx14.out (fun _ _ h=>h)) (by intro k h1;rcases h1 with h1|h1<;>first|omega|(have hb:=HBT.out k h1;omega))) ?_
 rintro e u4_3a ⟨c2,rfl,qo2,hm⟩
 have zu4_3a:=hm.size
 refine ⟨_,rfl,hm.mono (fun _ _ h=>h.elim),(fun _=>rfl),?_⟩
 intro u4_3 hr
 have zu4_3:=hr.size
 have Hx15:=hid (qo2.mod hr (by intro k h1 h2;rcases h1 with h1|h1<;>first|omega|(have hb:=HBT.out k h1;omega)))
 have hmr:=Mod.after hm hr
 have Hx16:=hid (Hx13.out.mod hmr (by intro k h1 h2;omega))
 clear Hx13
 clear hmr
 have Cx17:=hid (Cx14.out.go hm hr)
 clear Cx14 hm hr Z act E qo2
 refine QChain.go fun Z act E=>?_
 refine Ap (args:=#[.agg c1.toArray,.agg c2.toArray]) rfl ((Ae rfl rfl (E.sz 27 (by decide)) (E.e 8 .guard)).trans rfl) rfl Tryz.func13 (Az (chv (v:=.agg c1.toArray) (E.d 10)) (chv (v:=.agg c2.toArray) (E.d 12))) (callsB (eqb_rfl y) (Eq_Mg _ _ _ _ y y _ Hx16.out Hx15.out (by intro k h1;omega) (by intro k h1;rcases h1 with h1|h1<;>first|omega|(have hb:=HBT.out k h1;omega)))) ?_
 rintro e u4_4a ⟨rfl,hm⟩
 have zu4_4a:=hm.size
 refine ⟨_,rfl,hm.mono (fun _ _ h=>h.elim),(fun _=>rfl),?_⟩
 intro u4_4 hr
 have zu4_4:=hr.size
 have hmr:=Mod.after hm hr
 have Hx18:=hid (Hx16.out.mod hmr (by intro k h1 h2;omega))
 have Hx19:=hid (Hx15.out.mod hmr (by intro k h1 h2;rcases h1 with h1|h1<;>first|omega|(have hb:=HBT.out k h1;omega)))
 clear Hx16 Hx15
 clear hmr
 have Cx20:=hid (Cx17.out.go hm hr)
 clear Cx17 hm hr Z act E
 refine QChain.go fun Z act E=>?_
 refine Ap (args:=#[]) rfl ((Ae rfl rfl (E.sz 34 (by decide)) (E.e 15 .chain)).trans rfl) rfl Tryz.func15 args0 (wakes06 _) ?_
 rintro e u4_5a ⟨rfl,hm⟩
 have zu4_5a:=hm.size
 refine ⟨_,rfl,hm.mono (fun _ _ h=>h.elim),(fun _=>rfl),?_⟩
 intro u4_5 hr
 have zu4_5:=hr.size
 have hmr:=Mod.after hm hr
 have Hx21:=hid (Hx18.out.mod hmr (by intro k h1 h2;omega))
 have Hx22:=hid (Hx19.out.mod hmr (by intro k h1 h2;rcases h1 with h1|h1<;>first|omega|(have hb:=HBT.out k h1;omega)))
 clear Hx18 Hx19
 clear hmr
 have Cx23:=hid (Cx20.out.go hm hr)
 clear Cx20 hm hr Z act E
 refine QChain.nil fun vs hl hzz hrows hne=>?_
 obtain ⟨Z,hYZ,hZb,hV⟩:=hzz
 have f0:=fvi hV hl 0
 have f1:=fvi hV hl 1
 have f3:=fvi hV hl 3
 have f4:=fvi hV hl 4
 have f5:=fvi hV hl 5
 have f6:=fvi hV hl 6
 have f8:=fvi hV hl 8
 have f10:=fvc hV hl 10
 have f12:=fvc hV hl 12
 have f13:=fvi hV hl 13
 have f15:=fvi hV hl 15
 have f16:=fvi hV hl 16
 have f18:=fvi hV hl 18
 rw [show vs=[gw vs 0,gw vs 1,gw vs 2,gw vs 3,gw vs 4,gw vs 5,gw vs 6,gw vs 7,gw vs 8,gw vs 9,gw vs 10,gw vs 11,gw vs 12,gw vs 13,gw vs 14,gw vs 15,gw vs 16,gw vs 17,gw vs 18] from (Be hl).trans rfl]
 have ha0:=HA0.out
 subst ha0
 clear HA0 hV hYZ hZb hsz0 hrows hne oe1 oe3 oe4 oe5 oe6
 simp only [Au,Act.put,sIB,sCZ,sCS,f0,f1,f3,f4,f5,f6,f8,f10,f12,f13,f15,f16,f18]
 clear hl f0 f1 f3 f4 f5 f6 f8 f10 f12 f13 f15 f16 f18
 go_wp2
 go_ret
 exact ⟨rfl,((((HM0.out.trans Cx5.out (by intro k h1 h2;omega)).trans Cx8.out (fun _ _ h=>h.elim)).trans Cx10.out (fun _ _ h=>h.elim)).trans Cx23.out (fun _ _ h=>h.elim))⟩
end Go.Proofs.YtnaoeginonpicaaGreat

/- Pairs, commitments as arguments. -/
namespace Go.Proofs.YtnaoeginonpicaaGreat
open Go Go.RowKit Go.Gv Go.ChangeShapes Go.WideShapes Go.ChangeAt Go.Deep
section
variable {H:Type} {enc:TypeId × Value→H} {W:World}
theorem trod_pair {t:TypeId} {fs:Array Field} {fuel:Nat} {cs:List Value} {x:DataW H × List MemPlace} (ht:Tryz.prog.underlying t=some (.struct fs)) (hs:fs.size=2) (h0:(fs[0]?).map (fun f=>(f.offset,f.type))=some (0,3)) (h1:(fs[1]?).map (fun f=>(f.offset,f.type))=some (1,3)) (hc:Tryz.prog.cellsOf t=2)
 (h:DataW.trod enc Tryz.prog W 0 (fun _=>true) true fuel t cs=some x):∃ a b:Int,cs=[.int .i64 a,.int .i64 b]∧I64 a∧I64 b:=by
 obtain ⟨xs,n,_,-,hl,hn,hf⟩:=DataW.trod_struct ht h
 rw [hc] at hl
 have hxs:xs.length=2:=hn.trans hs
 obtain ⟨q0,e0,hq0⟩:∃ f,fs[0]? = some f∧(f.offset,f.type)=(0,3):=by
  cases hh:fs[0]? with
  | none=>rw [hh] at h0;cases h0
  | some f=>rw [hh] at h0;exact ⟨f,rfl,Option.some.inj h0⟩
 obtain ⟨q1,e1,hq1⟩:∃ f,fs[1]? = some f∧(f.offset,f.type)=(1,3):=by
  cases hh:fs[1]? with
  | none=>rw [hh] at h1;cases h1
  | some f=>rw [hh] at h1;exact ⟨f,rfl,Option.some.inj h1⟩
 have f0:=hf 0 _ e0
 have f1:=hf 1 _ e1
 rw [show q0.offset=0 from congrArg Prod.fst hq0,show q0.type=3 from congrArg Prod.snd hq0] at f0
 rw [show q1.offset=1 from congrArg Prod.fst hq1,show q1.type=3 from congrArg Prod.snd hq1] at f1
 rw [List.getElem?_eq_getElem (by omega),show Tryz.prog.cellsOf 3=1 from by kernel_rfl] at f0 f1
 match cs,hl with
 | [c0,c1],_=>
  simp only [List.drop_zero,List.drop_succ_cons,List.take_succ_cons,List.take_zero] at f0 f1
  obtain ⟨p0,e0,_,w0⟩:=DataW.trod_int Tryz.underlying3 f0
  obtain ⟨p1,e1,_,w1⟩:=DataW.trod_int Tryz.underlying3 f1
  simp at e0 e1
  subst e0 e1
  exact ⟨p0,p1,rfl,bounds_i64 w0,bounds_i64 w1⟩
theorem cm_cells {fuel:Nat} {cs:List Value} {x:DataW H × List MemPlace} (h:DataW.trod enc Tryz.prog W 0 (fun _=>true) true fuel 29 cs=some x):∃ c:Cm,cs=c.cells∧c.OK:=by
 obtain ⟨xs,n,_,-,hl,hn,hf⟩:=DataW.trod_struct Tryz.underlying29 h
 rw [show Tryz.prog.cellsOf 29=37 from by kernel_rfl] at hl
 have hxs:xs.length=4:=hn
 have f0:DataW.trod enc Tryz.prog W 0 (fun _=>true) true n 23 ((cs.drop 0).take (Tryz.prog.cellsOf 23))=xs[0]?:=hf 0 _ rfl
 have f1:DataW.trod enc Tryz.prog W 0 (fun _=>true) true n 25 ((cs.drop 2).take (Tryz.prog.cellsOf 25))=xs[1]?:=hf 1 _ rfl
 have f2:DataW.trod enc Tryz.prog W 0 (fun _=>true) true n 3 ((cs.drop 34).take (Tryz.prog.cellsOf 3))=xs[2]?:=hf 2 _ rfl
 have f3:DataW.trod enc Tryz.prog W 0 (fun _=>true) true n 27 ((cs.drop 35).take (Tryz.prog.cellsOf 27))=xs[3]?:=hf 3 _ rfl
 rw [List.getElem?_eq_getElem (by omega)] at f0 f1 f2 f3
 obtain ⟨a,b,e0,h1,h2⟩:=trod_pair Tryz.underlying23 rfl rfl rfl (by kernel_rfl) f0
 obtain ⟨hs,e1,hb,hl32⟩:=trod_arr Tryz.underlying25 Tryz.underlying5 (by kernel_rfl) (by kernel_rfl) f1
 obtain ⟨sa,sb,e3,h3,h4⟩:=trod_pair Tryz.underlying27 rfl rfl rfl (by kernel_rfl) f3
 rw [show Tryz.prog.cellsOf 23=2 from by kernel_rfl] at e0
 rw [show Tryz.prog.cellsOf 25=32 from by kernel_rfl] at e1
 rw [show Tryz.prog.cellsOf 3=1 from by kernel_rfl] at f2
 rw [show Tryz.prog.cellsOf 27=2 from by kernel_rfl] at e3
 obtain ⟨q,e2,_,w2⟩:=DataW.trod_int Tryz.underlying3 f2
 refine ⟨⟨a,b,hs,q,sa,sb⟩,?_,⟨h1,h2,bounds_i64 w2,h3,h4⟩,hl32,hb⟩
 have d1:cs=cs.take 2 ++ cs.drop 2:=(List.take_append_drop 2 cs).symm
 have d2:cs.drop 2=(cs.drop 2).take 32 ++ cs.drop 34:=by conv=>lhs;rw [← List.take_append_drop 32 (cs.drop 2)];rw [List.drop_drop]
 have d3:cs.drop 34=(cs.drop 34).take 1 ++ cs.drop 35:=by conv=>lhs;rw [← List.take_append_drop 1 (cs.drop 34)];rw [List.drop_drop]
 have d4:cs.drop 35=(cs.drop 35).take 2:=(List.take_of_length_le (by rw [List.length_drop];omega)).symm
 rw [List.drop_zero] at e0
 rw [d1,d2,d3,d4,e0,e1,e2,e3]
 rfl
end
end Go.Proofs.YtnaoeginonpicaaGreat

/- Things as arguments: whatever a reading gives of them. -/
namespace Go.Proofs.YtnaoeginonpicaaGreat
open Go Go.RowKit Go.Gv Go.ChangeShapes Go.WideShapes Go.ChangeAt Go.Deep
def segs (cs:List Value):Nat→List Nat→List (List Value)
 | _,[]=>[]
 | off,n :: ns=>(cs.drop off).take n :: segs cs (off+n) ns
theorem segs_all (cs:List Value):∀ (ns:List Nat) (off:Nat),cs.length=off+ns.sum→cs.drop off=(segs cs off ns).flatten
 | [],off,h=>by simp at h;simp [segs,List.drop_of_length_le (show cs.length≤off by omega)]
 | n :: ns,off,h=>by
  have ih:=segs_all cs ns (off+n) (by simp at h;omega)
  simp only [segs,List.flatten_cons]
  rw [← ih,← List.drop_drop,List.take_append_drop]
theorem seg_one {cs:List Value} {off:Nat} (h:off < cs.length):∃ v,(cs.drop off).take 1=[v]:=⟨cs[off],by rw [List.drop_eq_getElem_cons h];rfl⟩
/-- whatever reads as a T reads as one of A -/
def Reads {α:Type} (A:Rep α) (T:TypeId):Prop:=∀ (H:Type) (enc:TypeId × Value→H) (W:World) (fuel:Nat) (cs:List Value) (x:DataW H × List MemPlace),DataW.trod enc Tryz.prog W 0 (fun _=>true) true fuel T cs=some x→∃ a,A.rd (fun k=>k < W.heap.size) W cs a
theorem all_list {α:Type} {P:List Value→α→Prop}:∀ (css:List (List Value)),(∀ cs ∈ css,∃ a,P cs a)→∃ l:List α,l.length=css.length∧∀ (i:Nat) cs a,css[i]? = some cs→l[i]? = some a→P cs a
 | [],_=>⟨[],rfl,fun i cs a h=>by simp at h⟩
 | c :: r,h=>by
  obtain ⟨a,ha⟩:=h c (by simp)
  obtain ⟨l,h1,h2⟩:=all_list r fun cs hcs=>h cs (by simp [hcs])
  refine ⟨a :: l,by simp [h1],fun i cs b hi hb=>?_⟩
  cases i with
  | zero=>simp at hi hb;subst hi hb;exact ha
  | succ i=>simp at hi hb;exact h2 i cs b hi hb
theorem trod_slice {α:Type} {A:Rep α} {t e:TypeId} {H:Type} {enc:TypeId × Value→H} {W:World} {fuel:Nat} {v:Value} {x:DataW H × List MemPlace} (hr:Reads A e) (ht:Tryz.prog.underlying t=some (.slice e)) (hce:Tryz.prog.cellsOf e=A.sz)
 (h:DataW.trod enc Tryz.prog W 0 (fun _=>true) true fuel t [v]=some x):∃ l:List α,RdS A (fun k=>k < W.heap.size) W v l:=by
 haveI:Inhabited {cs:List Value // cs.length=A.sz}:=⟨⟨List.replicate A.sz undef,by simp⟩⟩
 have hsh:∃ ao n cap,v=.slice ao n cap∧n≤cap∧cap≤maxLen∧(ao=none→cap=0):=by
  rcases open_slice ht h with ⟨hcs,_⟩|⟨a,len,cap,m,n,D,Pl,hcs,_,hl,hm,hmm,_,hel⟩
  ·simp at hcs;subst hcs;exact ⟨none,0,0,rfl,Nat.le_refl _,Nat.zero_le _,fun _=>rfl⟩
  ·simp at hcs;subst hcs;simp only [if_true] at hmm;subst hmm;exact ⟨some a,len,_,rfl,hl,hm,fun h=>by cases h⟩
 obtain ⟨raws,h1,h2⟩:=trod_list (fun a:{cs:List Value // cs.length=A.sz}=>a.1) (fun a=>∃ y,A.rd (fun k=>k < W.heap.size) W a.1 y) ht hce A.pos (fun a=>a.2)
  (fun fuel cs x hx=>by obtain ⟨a,ha⟩:=hr H enc W fuel cs x hx;exact ⟨⟨cs,A.len ha⟩,rfl,a,ha⟩) h
 obtain ⟨l,hl,hP⟩:=all_list (P:=fun cs a=>A.rd (fun k=>k < W.heap.size) W cs a) (raws.map (·.1)) (fun cs hcs=>by obtain ⟨a,ha,rfl⟩:=List.mem_map.1 hcs;exact h2 a ha)
 have hl':l.length=raws.length:=by simpa using hl
 refine ⟨l,raws.map (·.1),by simp [hl'],hP,?_,?_⟩
 ·have hcl:∀ cs ∈ raws.map (·.1),cs.length=A.sz:=fun cs hcs=>by obtain ⟨a,_,rfl⟩:=List.mem_map.1 hcs;exact a.2
  have hfl:=flat_len hcl
  rcases h1 with ⟨rfl,ao,cap,rfl⟩|⟨g,o,cap,hg,rfl,h0,hc,hm,hcell⟩
  ·obtain ⟨ao',n',cap',e',g1,g2,g3⟩:=hsh
   cases e'
   obtain rfl:l=[]:=List.eq_nil_of_length_eq_zero (by simpa using hl')
   exact Rd.zero _ _ _ _ g2 g3
  ·rw [hl']
   refine Rd.mk hc hm (by rw [hfl];simp) fun j u hu=>?_
   have hj:=(List.getElem?_eq_some_iff.1 hu).1
   rw [hfl] at hj
   simp only [List.length_map] at hj
   have hq:j / A.sz < raws.length:=Nat.div_lt_of_lt_mul (by rw [Nat.mul_comm];exact hj)
   have hmod:=Nat.mod_lt j A.pos
   have hdm:=Nat.div_add_mod j A.sz
   have hgt:=flat_get hcl (j / A.sz) raws[j / A.sz].1 (by simp [List.getElem?_eq_getElem hq]) (j % A.sz) (raws[j / A.sz].1[j % A.sz]'(by rw [raws[j / A.sz].2];exact hmod)) (List.getElem?_eq_getElem _)
   rw [show j / A.sz * A.sz+j % A.sz=j by rw [Nat.mul_comm];exact hdm] at hgt
   rw [hgt] at hu
   have:=hcell (j / A.sz) hq (j % A.sz) u (by rw [List.getElem?_eq_getElem (by rw [raws[j / A.sz].2];exact hmod)];exact hu)
   rw [show o+j / A.sz * A.sz+j % A.sz=o+j by rw [Nat.add_assoc,Nat.mul_comm,hdm]] at this
   exact this
 ·intro h0 g hg
  rcases h1 with ⟨rfl,ao,cap,rfl⟩|⟨g',o,cap,hg',rfl,_⟩
  ·simp at hl';rw [hl'] at h0;simp at h0
  ·simp [Value.ownBlock] at hg;subst hg;exact hg'
theorem reads_arg {α:Type} {A:Rep α} {T:TypeId} (hr:Reads A T) {fs:Array Field} (hu:Tryz.prog.underlying T=some (.struct fs)) {H:Type} {enc:TypeId × Value→H} {W:World} {base:Nat} {v:Value} {d:DataW H} {p:List MemPlace} (hv':Value.okWide Tryz.prog W .any base T v)
 (h:DataW.Trod enc Tryz.prog W 0 (fun _=>true) true T v d p):∃ cs a,v=.agg cs.toArray∧A.rd (fun k=>k < W.heap.size) W cs a:=by
 obtain ⟨fuel,hf⟩:=h
 simp only [Value.okWide,hu] at hv'
 obtain ⟨cs,rfl,-,-⟩:=hv'
 obtain ⟨a,ha⟩:=hr _ _ _ _ _ _ hf
 exact ⟨_,a,(by congr 1),ha⟩
theorem reads_cm:Reads CmR 29:=fun H enc W fuel cs x h=>by obtain ⟨c,e,hok⟩:=cm_cells h;exact ⟨c,e,hok⟩
theorem fm13' {P:Prop} (h:P:=by
 intro H enc W fuel cs x h
 obtain ⟨xs,n,_,-,hl,hn,hf⟩:=DataW.trod_struct va' h
 rw [show Tryz.prog.cellsOf vb'=38 from by kernel_rfl] at hl
 have hxs:xs.length=5:=hn
 have f0:DataW.trod enc Tryz.prog W 0 (fun _=>true) true n 3 ((cs.drop 0).take (Tryz.prog.cellsOf 3))=xs[0]?:=hf 0 _ rfl
 rw [List.getElem?_eq_getElem (by (first|omega|(simp only [vb'] at *;omega))),show Tryz.prog.cellsOf 3=1 from by kernel_rfl] at f0
 have f1:DataW.trod enc Tryz.prog W 0 (fun _=>true) true n 23 ((cs.drop 1).take (Tryz.prog.cellsOf 23))=xs[1]?:=hf 1 _ rfl
 rw [List.getElem?_eq_getElem (by (first|omega|(simp only [vb'] at *;omega))),show Tryz.prog.cellsOf 23=2 from by kernel_rfl] at f1
 have f2:DataW.trod enc Tryz.prog W 0 (fun _=>true) true n 25 ((cs.drop 3).take (Tryz.prog.cellsOf 25))=xs[2]?:=hf 2 _ rfl
 rw [List.getElem?_eq_getElem (by (first|omega|(simp only [vb'] at *;omega))),show Tryz.prog.cellsOf 25=32 from by kernel_rfl] at f2
 have f3:DataW.trod enc Tryz.prog W 0 (fun _=>true) true n 30 ((cs.drop 35).take (Tryz.prog.cellsOf 30))=xs[3]?:=hf 3 _ rfl
 rw [List.getElem?_eq_getElem (by (first|omega|(simp only [vb'] at *;omega))),show Tryz.prog.cellsOf 30=1 from by kernel_rfl] at f3
 have f4:DataW.trod enc Tryz.prog W 0 (fun _=>true) true n 27 ((cs.drop 36).take (Tryz.prog.cellsOf 27))=xs[4]?:=hf 4 _ rfl
 rw [List.getElem?_eq_getElem (by (first|omega|(simp only [vb'] at *;omega))),show Tryz.prog.cellsOf 27=2 from by kernel_rfl] at f4
 obtain ⟨rp,e0,_,w0⟩:=DataW.trod_int Tryz.underlying3 f0
 obtain ⟨cl,sq,e1,w1,w1'⟩:=trod_pair Tryz.underlying23 rfl rfl rfl (by kernel_rfl) f1
 obtain ⟨hh,e2,w2,w2'⟩:=trod_arr Tryz.underlying25 Tryz.underlying5 (by kernel_rfl) (by kernel_rfl) f2
 obtain ⟨tm',e3,_,w3⟩:=DataW.trod_int Tryz.underlying30 f3
 obtain ⟨tm,rfl,w3'⟩:=u64_nat w3
 obtain ⟨sb,mr,e4,w4,w4'⟩:=trod_pair Tryz.underlying27 rfl rfl rfl (by kernel_rfl) f4
 have hcs:=segs_all cs [1,2,32,1,2] 0 (by simpa using hl)
 simp only [List.drop_zero,segs,List.flatten_cons,List.flatten_nil,List.append_nil,Nat.zero_add,Nat.reduceAdd,e0,e1,e2,e3,e4] at hcs
 (try rw [List.drop_zero] at e0)
 (try simp only [e0] at hcs)
 exact ⟨⟨rp,cl,sq,hh,tm,sb,mr⟩,by rw [hcs];rfl,⟨bounds_i64 w0,w1,w1',⟨w2',w2⟩,w3',w4,w4'⟩⟩):P:=h
open Go.Proofs renaming Tryz.underlying32→va' in
open Go.Gv renaming n'32→vb' in
theorem reads_st:Reads StR 32:=
 fm13'
open Go.Proofs renaming Tryz.underlying37→va' in
open Go.Gv renaming n'37→vb' in
theorem reads_ak:Reads StR 37:=
 fm13'
theorem reads_vt:Reads VtR 49:=by
 intro H enc W fuel cs x h
 obtain ⟨xs,n,_,-,hl,hn,hf⟩:=DataW.trod_struct Tryz.underlying49 h
 rw [show Tryz.prog.cellsOf 49=38 from by kernel_rfl] at hl
 have hxs:xs.length=6:=hn
 have f0:DataW.trod enc Tryz.prog W 0 (fun _=>true) true n 3 ((cs.drop 0).take (Tryz.prog.cellsOf 3))=xs[0]?:=hf 0 _ rfl
 rw [List.getElem?_eq_getElem (by omega),show Tryz.prog.cellsOf 3=1 from by kernel_rfl] at f0
 have f1:DataW.trod enc Tryz.prog W 0 (fun _=>true) true n 3 ((cs.drop 1).take (Tryz.prog.cellsOf 3))=xs[1]?:=hf 1 _ rfl
 rw [List.getElem?_eq_getElem (by omega),show Tryz.prog.cellsOf 3=1 from by kernel_rfl] at f1
 have f2:DataW.trod enc Tryz.prog W 0 (fun _=>true) true n 3 ((cs.drop 2).take (Tryz.prog.cellsOf 3))=xs[2]?:=hf 2 _ rfl
 rw [List.getElem?_eq_getElem (by omega),show Tryz.prog.cellsOf 3=1 from by kernel_rfl] at f2
 have f3:DataW.trod enc Tryz.prog W 0 (fun _=>true) true n 3 ((cs.drop 3).take (Tryz.prog.cellsOf 3))=xs[3]?:=hf 3 _ rfl
 rw [List.getElem?_eq_getElem (by omega),show Tryz.prog.cellsOf 3=1 from by kernel_rfl] at f3
 have f4:DataW.trod enc Tryz.prog W 0 (fun _=>true) true n 25 ((cs.drop 4).take (Tryz.prog.cellsOf 25))=xs[4]?:=hf 4 _ rfl
 rw [List.getElem?_eq_getElem (by omega),show Tryz.prog.cellsOf 25=32 from by kernel_rfl] at f4
 have f5:DataW.trod enc Tryz.prog W 0 (fun _=>true) true n 27 ((cs.drop 36).take (Tryz.prog.cellsOf 27))=xs[5]?:=hf 5 _ rfl
 rw [List.getElem?_eq_getElem (by omega),show Tryz.prog.cellsOf 27=2 from by kernel_rfl] at f5
 obtain ⟨kd,e0,_,w0⟩:=DataW.trod_int Tryz.underlying3 f0
 obtain ⟨ep,e1,_,w1⟩:=DataW.trod_int Tryz.underlying3 f1
 obtain ⟨rn,e2,_,w2⟩:=DataW.trod_int Tryz.underlying3 f2
 obtain ⟨rp,e3,_,w3⟩:=DataW.trod_int Tryz.underlying3 f3
 obtain ⟨hh,e4,w4,w4'⟩:=trod_arr Tryz.underlying25 Tryz.underlying5 (by kernel_rfl) (by kernel_rfl) f4
 obtain ⟨sb,mr,e5,w5,w5'⟩:=trod_pair Tryz.underlying27 rfl rfl rfl (by kernel_rfl) f5
 have hcs:=segs_all cs [1,1,1,1,32,2] 0 (by simpa using hl)
 simp only [List.drop_zero,segs,List.flatten_cons,List.flatten_nil,List.append_nil,Nat.zero_add,Nat.reduceAdd,e0,e1,e2,e3,e4,e5] at hcs
 (try rw [List.drop_zero] at e0)
 (try simp only [e0] at hcs)
 exact ⟨⟨kd,ep,rn,rp,hh,sb,mr⟩,by rw [hcs];rfl,⟨bounds_i64 w0,bounds_i64 w1,bounds_i64 w2,bounds_i64 w3,⟨w4',w4⟩,w5,w5'⟩⟩
theorem reads_dn:Reads DnR 56:=by
 intro H enc W fuel cs x h
 obtain ⟨xs,n,_,-,hl,hn,hf⟩:=DataW.trod_struct Tryz.underlying56 h
 rw [show Tryz.prog.cellsOf 56=4 from by kernel_rfl] at hl
 have hxs:xs.length=3:=hn
 have f0:DataW.trod enc Tryz.prog W 0 (fun _=>true) true n 3 ((cs.drop 0).take (Tryz.prog.cellsOf 3))=xs[0]?:=hf 0 _ rfl
 rw [List.getElem?_eq_getElem (by omega),show Tryz.prog.cellsOf 3=1 from by kernel_rfl] at f0
 have f1:DataW.trod enc Tryz.prog W 0 (fun _=>true) true n 3 ((cs.drop 1).take (Tryz.prog.cellsOf 3))=xs[1]?:=hf 1 _ rfl
 rw [List.getElem?_eq_getElem (by omega),show Tryz.prog.cellsOf 3=1 from by kernel_rfl] at f1
 have f2:DataW.trod enc Tryz.prog W 0 (fun _=>true) true n 27 ((cs.drop 2).take (Tryz.prog.cellsOf 27))=xs[2]?:=hf 2 _ rfl
 rw [List.getElem?_eq_getElem (by omega),show Tryz.prog.cellsOf 27=2 from by kernel_rfl] at f2
 obtain ⟨rp,e0,_,w0⟩:=DataW.trod_int Tryz.underlying3 f0
 obtain ⟨ix,e1,_,w1⟩:=DataW.trod_int Tryz.underlying3 f1
 obtain ⟨sb,mr,e2,w2,w2'⟩:=trod_pair Tryz.underlying27 rfl rfl rfl (by kernel_rfl) f2
 have hcs:=segs_all cs [1,1,2] 0 (by simpa using hl)
 simp only [List.drop_zero,segs,List.flatten_cons,List.flatten_nil,List.append_nil,Nat.zero_add,Nat.reduceAdd,e0,e1,e2] at hcs
 (try rw [List.drop_zero] at e0)
 (try simp only [e0] at hcs)
 exact ⟨⟨rp,ix,sb,mr⟩,by rw [hcs];rfl,⟨bounds_i64 w0,bounds_i64 w1,w2,w2'⟩⟩
theorem reads_ce:Reads CeR 35:=by
 intro H enc W fuel cs x h
 obtain ⟨xs,n,_,-,hl,hn,hf⟩:=DataW.trod_struct Tryz.underlying35 h
 rw [show Tryz.prog.cellsOf 35=38 from by kernel_rfl] at hl
 have hxs:xs.length=2:=hn
 have f0:DataW.trod enc Tryz.prog W 0 (fun _=>true) true n 29 ((cs.drop 0).take (Tryz.prog.cellsOf 29))=xs[0]?:=hf 0 _ rfl
 rw [List.getElem?_eq_getElem (by omega),show Tryz.prog.cellsOf 29=37 from by kernel_rfl] at f0
 have f1:DataW.trod enc Tryz.prog W 0 (fun _=>true) true n 33 ((cs.drop 37).take (Tryz.prog.cellsOf 33))=xs[1]?:=hf 1 _ rfl
 rw [List.getElem?_eq_getElem (by omega),show Tryz.prog.cellsOf 33=1 from by kernel_rfl] at f1
 obtain ⟨c,e0,w0⟩:=reads_cm _ _ _ _ _ _ f0
 obtain ⟨v,e1⟩:=seg_one (cs:=cs) (off:=37) (by omega)
 rw [e1] at f1
 obtain ⟨l,w1⟩:=trod_slice reads_st Tryz.underlying33 (by kernel_rfl) f1
 have hcs:=segs_all cs [37,1] 0 (by simpa using hl)
 simp only [List.drop_zero,segs,List.flatten_cons,List.flatten_nil,List.append_nil,Nat.zero_add,Nat.reduceAdd,e0,e1] at hcs
 (try rw [List.drop_zero] at e0)
 (try simp only [e0] at hcs)
 exact ⟨⟨c,l⟩,v,hcs,w0,w1⟩
theorem reads_pm:Reads PmR 40:=by
 intro H enc W fuel cs x h
 obtain ⟨xs,n,_,-,hl,hn,hf⟩:=DataW.trod_struct Tryz.underlying40 h
 rw [show Tryz.prog.cellsOf 40=6 from by kernel_rfl] at hl
 have hxs:xs.length=5:=hn
 have f0:DataW.trod enc Tryz.prog W 0 (fun _=>true) true n 3 ((cs.drop 0).take (Tryz.prog.cellsOf 3))=xs[0]?:=hf 0 _ rfl
 rw [List.getElem?_eq_getElem (by omega),show Tryz.prog.cellsOf 3=1 from by kernel_rfl] at f0
 have f1:DataW.trod enc Tryz.prog W 0 (fun _=>true) true n 3 ((cs.drop 1).take (Tryz.prog.cellsOf 3))=xs[1]?:=hf 1 _ rfl
 rw [List.getElem?_eq_getElem (by omega),show Tryz.prog.cellsOf 3=1 from by kernel_rfl] at f1
 have f2:DataW.trod enc Tryz.prog W 0 (fun _=>true) true n 30 ((cs.drop 2).take (Tryz.prog.cellsOf 30))=xs[2]?:=hf 2 _ rfl
 rw [List.getElem?_eq_getElem (by omega),show Tryz.prog.cellsOf 30=1 from by kernel_rfl] at f2
 have f3:DataW.trod enc Tryz.prog W 0 (fun _=>true) true n 38 ((cs.drop 3).take (Tryz.prog.cellsOf 38))=xs[3]?:=hf 3 _ rfl
 rw [List.getElem?_eq_getElem (by omega),show Tryz.prog.cellsOf 38=1 from by kernel_rfl] at f3
 have f4:DataW.trod enc Tryz.prog W 0 (fun _=>true) true n 27 ((cs.drop 4).take (Tryz.prog.cellsOf 27))=xs[4]?:=hf 4 _ rfl
 rw [List.getElem?_eq_getElem (by omega),show Tryz.prog.cellsOf 27=2 from by kernel_rfl] at f4
 obtain ⟨rp,e0,_,w0⟩:=DataW.trod_int Tryz.underlying3 f0
 obtain ⟨ep,e1,_,w1⟩:=DataW.trod_int Tryz.underlying3 f1
 obtain ⟨fl',e2,_,w2⟩:=DataW.trod_int Tryz.underlying30 f2
 obtain ⟨fl,rfl,w2'⟩:=u64_nat w2
 obtain ⟨v,e3⟩:=seg_one (cs:=cs) (off:=3) (by omega)
 rw [e3] at f3
 obtain ⟨l,w3⟩:=trod_slice reads_ce Tryz.underlying38 (by kernel_rfl) f3
 obtain ⟨sb,mr,e4,w4,w4'⟩:=trod_pair Tryz.underlying27 rfl rfl rfl (by kernel_rfl) f4
 have hcs:=segs_all cs [1,1,1,1,2] 0 (by simpa using hl)
 simp only [List.drop_zero,segs,List.flatten_cons,List.flatten_nil,List.append_nil,Nat.zero_add,Nat.reduceAdd,e0,e1,e2,e3,e4] at hcs
 (try rw [List.drop_zero] at e0)
 (try simp only [e0] at hcs)
 exact ⟨⟨rp,ep,fl,l,sb,mr⟩,v,hcs,⟨bounds_i64 w0,bounds_i64 w1,w2',w4,w4'⟩,w3⟩
theorem reads_op:Reads OpR 54:=by
 intro H enc W fuel cs x h
 obtain ⟨xs,n,_,-,hl,hn,hf⟩:=DataW.trod_struct Tryz.underlying54 h
 rw [show Tryz.prog.cellsOf 54=34 from by kernel_rfl] at hl
 have hxs:xs.length=3:=hn
 have f0:DataW.trod enc Tryz.prog W 0 (fun _=>true) true n 3 ((cs.drop 0).take (Tryz.prog.cellsOf 3))=xs[0]?:=hf 0 _ rfl
 rw [List.getElem?_eq_getElem (by omega),show Tryz.prog.cellsOf 3=1 from by kernel_rfl] at f0
 have f1:DataW.trod enc Tryz.prog W 0 (fun _=>true) true n 52 ((cs.drop 1).take (Tryz.prog.cellsOf 52))=xs[1]?:=hf 1 _ rfl
 rw [List.getElem?_eq_getElem (by omega),show Tryz.prog.cellsOf 52=1 from by kernel_rfl] at f1
 have f2:DataW.trod enc Tryz.prog W 0 (fun _=>true) true n 25 ((cs.drop 2).take (Tryz.prog.cellsOf 25))=xs[2]?:=hf 2 _ rfl
 rw [List.getElem?_eq_getElem (by omega),show Tryz.prog.cellsOf 25=32 from by kernel_rfl] at f2
 obtain ⟨ix,e0,_,w0⟩:=DataW.trod_int Tryz.underlying3 f0
 obtain ⟨v,e1⟩:=seg_one (cs:=cs) (off:=1) (by omega)
 rw [e1] at f1
 obtain ⟨pl,w1⟩:=trod_bytes f1
 obtain ⟨hh,e2,w2,w2'⟩:=trod_arr Tryz.underlying25 Tryz.underlying5 (by kernel_rfl) (by kernel_rfl) f2
 have hcs:=segs_all cs [1,1,32] 0 (by simpa using hl)
 simp only [List.drop_zero,segs,List.flatten_cons,List.flatten_nil,List.append_nil,Nat.zero_add,Nat.reduceAdd,e0,e1,e2] at hcs
 (try rw [List.drop_zero] at e0)
 (try simp only [e0] at hcs)
 exact ⟨⟨ix,pl,hh⟩,v,hcs,⟨bounds_i64 w0,w2',w2⟩,w1⟩
theorem reads_tb:Reads TbR 127:=by
 intro H enc W fuel cs x h
 obtain ⟨xs,n,_,-,hl,hn,hf⟩:=DataW.trod_struct Tryz.underlying127 h
 rw [show Tryz.prog.cellsOf 127=2 from by kernel_rfl] at hl
 have hxs:xs.length=2:=hn
 have f0:DataW.trod enc Tryz.prog W 0 (fun _=>true) true n 3 ((cs.drop 0).take (Tryz.prog.cellsOf 3))=xs[0]?:=hf 0 _ rfl
 rw [List.getElem?_eq_getElem (by omega),show Tryz.prog.cellsOf 3=1 from by kernel_rfl] at f0
 have f1:DataW.trod enc Tryz.prog W 0 (fun _=>true) true n 125 ((cs.drop 1).take (Tryz.prog.cellsOf 125))=xs[1]?:=hf 1 _ rfl
 rw [List.getElem?_eq_getElem (by omega),show Tryz.prog.cellsOf 125=1 from by kernel_rfl] at f1
 obtain ⟨ix,e0,_,w0⟩:=DataW.trod_int Tryz.underlying3 f0
 obtain ⟨v,e1⟩:=seg_one (cs:=cs) (off:=1) (by omega)
 rw [e1] at f1
 obtain ⟨l,w1⟩:=trod_slice reads_dn Tryz.underlying125 (by kernel_rfl) f1
 have hcs:=segs_all cs [1,1] 0 (by simpa using hl)
 simp only [List.drop_zero,segs,List.flatten_cons,List.flatten_nil,List.append_nil,Nat.zero_add,Nat.reduceAdd,e0,e1] at hcs
 (try rw [List.drop_zero] at e0)
 (try simp only [e0] at hcs)
 exact ⟨⟨ix,l⟩,v,hcs,bounds_i64 w0,w1⟩
theorem reads_ba:Reads BaR 45:=by
 intro H enc W fuel cs x h
 obtain ⟨xs,n,_,-,hl,hn,hf⟩:=DataW.trod_struct Tryz.underlying45 h
 rw [show Tryz.prog.cellsOf 45=5 from by kernel_rfl] at hl
 have hxs:xs.length=5:=hn
 have f0:DataW.trod enc Tryz.prog W 0 (fun _=>true) true n 3 ((cs.drop 0).take (Tryz.prog.cellsOf 3))=xs[0]?:=hf 0 _ rfl
 rw [List.getElem?_eq_getElem (by omega),show Tryz.prog.cellsOf 3=1 from by kernel_rfl] at f0
 have f1:DataW.trod enc Tryz.prog W 0 (fun _=>true) true n 30 ((cs.drop 1).take (Tryz.prog.cellsOf 30))=xs[1]?:=hf 1 _ rfl
 rw [List.getElem?_eq_getElem (by omega),show Tryz.prog.cellsOf 30=1 from by kernel_rfl] at f1
 have f2:DataW.trod enc Tryz.prog W 0 (fun _=>true) true n 41 ((cs.drop 2).take (Tryz.prog.cellsOf 41))=xs[2]?:=hf 2 _ rfl
 rw [List.getElem?_eq_getElem (by omega),show Tryz.prog.cellsOf 41=1 from by kernel_rfl] at f2
 have f3:DataW.trod enc Tryz.prog W 0 (fun _=>true) true n 42 ((cs.drop 3).take (Tryz.prog.cellsOf 42))=xs[3]?:=hf 3 _ rfl
 rw [List.getElem?_eq_getElem (by omega),show Tryz.prog.cellsOf 42=1 from by kernel_rfl] at f3
 have f4:DataW.trod enc Tryz.prog W 0 (fun _=>true) true n 43 ((cs.drop 4).take (Tryz.prog.cellsOf 43))=xs[4]?:=hf 4 _ rfl
 rw [List.getElem?_eq_getElem (by omega),show Tryz.prog.cellsOf 43=1 from by kernel_rfl] at f4
 obtain ⟨ep,e0,_,w0⟩:=DataW.trod_int Tryz.underlying3 f0
 obtain ⟨tm',e1,_,w1⟩:=DataW.trod_int Tryz.underlying30 f1
 obtain ⟨tm,rfl,w1'⟩:=u64_nat w1
 obtain ⟨vp,e2⟩:=seg_one (cs:=cs) (off:=2) (by omega)
 rw [e2] at f2
 obtain ⟨ps,w2⟩:=trod_slice reads_pm Tryz.underlying41 (by kernel_rfl) f2
 obtain ⟨vo,e3⟩:=seg_one (cs:=cs) (off:=3) (by omega)
 rw [e3] at f3
 obtain ⟨os,w3⟩:=trod_slice reads_op Tryz.underlying42 (by kernel_rfl) f3
 obtain ⟨vt,e4⟩:=seg_one (cs:=cs) (off:=4) (by omega)
 rw [e4] at f4
 obtain ⟨ts,w4⟩:=trod_slice reads_tb Tryz.underlying43 (by kernel_rfl) f4
 have hcs:=segs_all cs [1,1,1,1,1] 0 (by simpa using hl)
 simp only [List.drop_zero,segs,List.flatten_cons,List.flatten_nil,List.append_nil,Nat.zero_add,Nat.reduceAdd,e0,e1,e2,e3,e4] at hcs
 (try rw [List.drop_zero] at e0)
 (try simp only [e0] at hcs)
 exact ⟨⟨ep,tm,ps,os,ts⟩,vp,vo,vt,hcs,⟨bounds_i64 w0,w1'⟩,w2,w3,w4⟩
end Go.Proofs.YtnaoeginonpicaaGreat

/- Proposals as arguments. -/
namespace Go.Proofs.YtnaoeginonpicaaGreat
open Go Go.RowKit Go.Gv Go.ChangeShapes Go.WideShapes Go.ChangeAt Go.Deep
theorem reads_pr:Reads PrR 47:=by
 intro H enc W fuel cs x h
 obtain ⟨xs,n,_,-,hl,hn,hf⟩:=DataW.trod_struct Tryz.underlying47 h
 rw [show Tryz.prog.cellsOf 47=11 from by kernel_rfl] at hl
 have hxs:xs.length=6:=hn
 have f0:DataW.trod enc Tryz.prog W 0 (fun _=>true) true n 3 ((cs.drop 0).take (Tryz.prog.cellsOf 3))=xs[0]?:=hf 0 _ rfl
 rw [List.getElem?_eq_getElem (by omega),show Tryz.prog.cellsOf 3=1 from by kernel_rfl] at f0
 have f1:DataW.trod enc Tryz.prog W 0 (fun _=>true) true n 3 ((cs.drop 1).take (Tryz.prog.cellsOf 3))=xs[1]?:=hf 1 _ rfl
 rw [List.getElem?_eq_getElem (by omega),show Tryz.prog.cellsOf 3=1 from by kernel_rfl] at f1
 have f2:DataW.trod enc Tryz.prog W 0 (fun _=>true) true n 3 ((cs.drop 2).take (Tryz.prog.cellsOf 3))=xs[2]?:=hf 2 _ rfl
 rw [List.getElem?_eq_getElem (by omega),show Tryz.prog.cellsOf 3=1 from by kernel_rfl] at f2
 have f3:DataW.trod enc Tryz.prog W 0 (fun _=>true) true n 3 ((cs.drop 3).take (Tryz.prog.cellsOf 3))=xs[3]?:=hf 3 _ rfl
 rw [List.getElem?_eq_getElem (by omega),show Tryz.prog.cellsOf 3=1 from by kernel_rfl] at f3
 have f4:DataW.trod enc Tryz.prog W 0 (fun _=>true) true n 45 ((cs.drop 4).take (Tryz.prog.cellsOf 45))=xs[4]?:=hf 4 _ rfl
 rw [List.getElem?_eq_getElem (by omega),show Tryz.prog.cellsOf 45=5 from by kernel_rfl] at f4
 have f5:DataW.trod enc Tryz.prog W 0 (fun _=>true) true n 27 ((cs.drop 9).take (Tryz.prog.cellsOf 27))=xs[5]?:=hf 5 _ rfl
 rw [List.getElem?_eq_getElem (by omega),show Tryz.prog.cellsOf 27=2 from by kernel_rfl] at f5
 obtain ⟨ep,e0,_,w0⟩:=DataW.trod_int Tryz.underlying3 f0
 obtain ⟨rn,e1,_,w1⟩:=DataW.trod_int Tryz.underlying3 f1
 obtain ⟨vl,e2,_,w2⟩:=DataW.trod_int Tryz.underlying3 f2
 obtain ⟨rp,e3,_,w3⟩:=DataW.trod_int Tryz.underlying3 f3
 obtain ⟨ba,w4⟩:=reads_ba _ _ _ _ _ _ f4
 obtain ⟨vp,vo,vt,e4,w4,w4'⟩:=w4
 obtain ⟨sb,mr,e5,w5,w5'⟩:=trod_pair Tryz.underlying27 rfl rfl rfl (by kernel_rfl) f5
 have hcs:=segs_all cs [1,1,1,1,5,2] 0 (by simpa using hl)
 simp only [List.drop_zero,segs,List.flatten_cons,List.flatten_nil,List.append_nil,Nat.zero_add,Nat.reduceAdd,e0,e1,e2,e3,e4,e5] at hcs
 (try rw [List.drop_zero] at e0)
 (try simp only [e0] at hcs)
 exact ⟨⟨ep,rn,vl,rp,ba,sb,mr⟩,vp,vo,vt,hcs,⟨bounds_i64 w0,bounds_i64 w1,bounds_i64 w2,bounds_i64 w3,w4,w5,w5'⟩,w4'⟩
end Go.Proofs.YtnaoeginonpicaaGreat
