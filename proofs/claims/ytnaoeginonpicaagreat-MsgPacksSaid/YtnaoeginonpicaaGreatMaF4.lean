/- Texts that are built one behind the other: XRf3, XSha6, XSha7, XVal5, XSha8, XRf4, XLens, XGp, XRead2, XRead3, XRead4, XRead5, XSeg, XGl, XCo1, XZr, XPt3. No condition. -/
import Derived.Test.YtnaoeginonpicaaGreatMaF3
import Derived.Lib.BytesEntry
import Derived.Laws.Externs
import Derived.Deep.Cut
import Derived.OpenShut
set_option maxRecDepth 100000
set_option linter.unusedVariables false
open List renaming setIfInBounds_toArray → sIB, set_cons_zero → sCZ, set_cons_succ → sCS
/- The reference's bytes of promises and batches. -/
namespace Go.Proofs.YtnaoeginonpicaaGreat
open Go Go.RowKit Go.Gv
set_option maxHeartbeats 4000000 in
theorem RefBareP_Q:Makes PmR 72 bareP:=by
 intro R2 cs x w hx hB2 hl
 obtain ⟨v_l,rfl,hok,hs0⟩:=hx
 obtain ⟨ao_sl_l,cap_sl_l,rfl⟩:=hs0.shape
 have hb0:x.l.length≤maxLen:=hs0.bd
 rw [Ax] at hb0
 have HI0:=hid (show I64 (x.l.length:Int) by unfold I64;omega)
 have HS0:=Lib.hid hs0
 clear hs0
 have HBT:=Lib.hid hB2
 have HOK:=Lib.hid hok
 have HL:=Lib.hid hl
 clear hB2 hl hok
 unfold bareP at HL
 go_enter Tryz.func72,Tryz.ntmps72
 go_upto_region 1 with (fail)
 obtain ⟨w1,hw1⟩:∃ zz,zz=(w.alloc (.cells (x.cells (.slice ao_sl_l x.l.length cap_sl_l):List Value).toArray 40)):=⟨_,rfl⟩
 change Code.wp _ _ _ _ (w.alloc (.cells (x.cells (.slice ao_sl_l x.l.length cap_sl_l):List Value).toArray 40))
 rw [← hw1]
 have HB1:=hid (show Cs w1 (w.heap.size) (x.cells (.slice ao_sl_l x.l.length cap_sl_l):List Value).toArray 40 by rw [hw1];exact Cs.new _ _ _)
 have hm:Mod (fun _=>False) w w1:=by rw [hw1];exact (Mod.refl _ _).alloc _
 have HM0:=hid (show Mod (fun _=>False) w w1 from hm.mono (fun _ _ h=>h.elim))
 have hs1:w1.heap.size=w.heap.size+1:=by rw [hw1];simp
 have Hx1:=hid (HS0.out.mod hm (fun _ _ h=>h))
 clear HS0
 clear hw1 hm
 go_upto_region 1 with (fail)
 generalize ha0:Act.mk _ _=a0
 have oe1:a0.eval (.tmp 1)=.pointer (some ⟨w.heap.size,0,none⟩):=by rw [← ha0];rfl
 have hsz0:a0.tmps.size=36:=by rw [← ha0];rfl
 have HA0:=hid ha0
 clear ha0
 refine A1 36 hsz0 [5,6,7,8,9,10,11,12,13,14,15,16,17,18,19,3] [qi (.pointer (some ⟨w.heap.size,0,none⟩)),qi (.int .i64 x.rp),qv 0,qi (.pointer (some ⟨w.heap.size,1,none⟩)),qi (.int .i64 x.ep),qv 1,qi (.pointer (some ⟨w.heap.size,2,none⟩)),qi (.int .u64 (x.fl:Nat)),qv 2,qi (.pointer (some ⟨w.heap.size,3,none⟩)),qi (.slice ao_sl_l x.l.length cap_sl_l),qi (.int .i64 x.l.length),qv 3,qv 4,qv 5,qv 5] ⟨Ab,Ab,Ak,Ab,Ab,Ak,Ab,Ab,Ak,Ab,Ab,Ab,Ak,Ak,Ak,Ak,trivial⟩ [2,5,8,12,13,14] ⟨?_,?_,?_,?_,?_,?_,?_,?_,?_,?_,?_,?_,?_,?_,?_,?_,trivial⟩ ?_
 ·exact stq (fun E=>Ad rfl Tryz.underlying40 rfl (by kernel_rfl) (E.v oe1))
 ·exact stq (fun E=>Aj rfl Tryz.underlying3 rfl (E.d 0) (Cs.lit1 (HB1.out.mod E.m.old (by intro h2;omega)) rfl))
 ·exact Ah rfl
 ·exact stq (fun E=>Ad rfl Tryz.underlying40 rfl (by kernel_rfl) (E.v oe1))
 ·exact stq (fun E=>Aj rfl Tryz.underlying3 rfl (E.d 3) (Cs.lit1 (HB1.out.mod E.m.old (by intro h2;omega)) rfl))
 ·exact Ah rfl
 ·exact stq (fun E=>Ad rfl Tryz.underlying40 rfl (by kernel_rfl) (E.v oe1))
 ·exact stq (fun E=>Aj rfl Tryz.underlying30 rfl (E.d 6) (Cs.lit1 (HB1.out.mod E.m.old (by intro h2;omega)) rfl))
 ·exact Ah rfl
 ·exact stq (fun E=>Ad rfl Tryz.underlying40 rfl (by kernel_rfl) (E.v oe1))
 ·exact stq (fun E=>Aj rfl Tryz.underlying38 rfl (E.d 9) (Cs.lit1 (HB1.out.mod E.m.old (by intro h2;omega)) rfl))
 ·exact stq (fun E=>A0 rfl (E.d 10) Tryz.underlying38)
 ·exact Ah rfl
 ·exact Ah rfl
 ·exact Ah rfl
 ·refine Av rfl rfl rfl fun _ _ _ _ _ _ _ _ _ hd _ _=>?_
  have h14:=hd ⟨14,.data⟩ (by simp) rfl _ rfl
  exact Bd rfl (Ac rfl) (Af rfl rfl) QE.refl h14
 intro u1_0 hr
 have zu1_0:=hr.size
 have Cx2:=hid (hr.new (S:=(fun _=>False)))
 clear hr
 refine QChain.go fun Z act E=>?_
 refine Ap (args:=#[.int .i64 x.rp]) rfl (Ac rfl) rfl Tryz.func22 (Aw (E.d 1)) (A9 _ HOK.out.1 _) ?_
 rintro e u1_1a ⟨v_a1,rfl,qa1,hm⟩
 obtain ⟨ao_a1,cap_a1,rfl⟩:=qa1.shape
 have zu1_1a:=hm.size
 refine ⟨_,rfl,hm.mono (fun _ _ h=>h.elim),(fun _=>rfl),?_⟩
 intro u1_1 hr
 have zu1_1:=hr.size
 have Hx3:=hid ((qa1.widen (R':=(fun k=>(New u1_0 u1_1a k))) (fun _ h=>h) (Nat.le_refl _)).mod hr (by intro k h1 h2;omega))
 have Cx4:=hid (Cx2.out.go hm hr)
 clear Cx2 hm hr Z act E qa1
 refine QChain.go fun Z act E=>?_
 refine Ap (args:=#[.int .i64 x.ep]) rfl (Ac rfl) rfl Tryz.func22 (Aw (E.d 4)) (A9 _ HOK.out.2.1 _) ?_
 rintro e u1_2a ⟨v_a2,rfl,qa2,hm⟩
 obtain ⟨ao_a2,cap_a2,rfl⟩:=qa2.shape
 have zu1_2a:=hm.size
 refine ⟨_,rfl,hm.mono (fun _ _ h=>h.elim),(fun _=>rfl),?_⟩
 intro u1_2 hr
 have zu1_2:=hr.size
 have Hx5:=hid ((qa2.widen (R':=(fun k=>(New u1_1 u1_2a k))) (fun _ h=>h) (Nat.le_refl _)).mod hr (by intro k h1 h2;omega))
 have hmr:=Mod.after hm hr
 have Hx6:=hid (Hx3.out.mod hmr (by intro k h1 h2;omega))
 clear Hx3
 clear hmr
 have Cx7:=hid (Cx4.out.go hm hr)
 clear Cx4 hm hr Z act E qa2
 refine QChain.go fun Z act E=>?_
 refine Ap (args:=#[.int .u64 (x.fl:Nat)]) rfl (Ac rfl) rfl Tryz.func28 (Aw (E.d 7)) (RefNum_Q _ HOK.out.2.2.1 _) ?_
 rintro e u1_3a ⟨v_a3,rfl,qa3,hm⟩
 obtain ⟨ao_a3,cap_a3,rfl⟩:=qa3.shape
 have zu1_3a:=hm.size
 refine ⟨_,rfl,hm.mono (fun _ _ h=>h.elim),(fun _=>rfl),?_⟩
 intro u1_3 hr
 have zu1_3:=hr.size
 have Hx8:=hid ((qa3.widen (R':=(fun k=>(New u1_2 u1_3a k))) (fun _ h=>h) (Nat.le_refl _)).mod hr (by intro k h1 h2;omega))
 have hmr:=Mod.after hm hr
 have Hx9:=hid (Hx6.out.mod hmr (by intro k h1 h2;omega))
 have Hx10:=hid (Hx5.out.mod hmr (by intro k h1 h2;omega))
 clear Hx6 Hx5
 clear hmr
 have Cx11:=hid (Cx7.out.go hm hr)
 clear Cx7 hm hr Z act E qa3
 refine QChain.go fun Z act E=>?_
 refine Ap (args:=#[.int .i64 x.l.length]) rfl (Ac rfl) rfl Tryz.func22 (Aw (E.d 11)) (A9 _ HI0.out _) ?_
 rintro e u1_4a ⟨v_a4,rfl,qa4,hm⟩
 obtain ⟨ao_a4,cap_a4,rfl⟩:=qa4.shape
 have zu1_4a:=hm.size
 refine ⟨_,rfl,hm.mono (fun _ _ h=>h.elim),(fun _=>rfl),?_⟩
 intro u1_4 hr
 have zu1_4:=hr.size
 have Hx12:=hid ((qa4.widen (R':=(fun k=>(New u1_3 u1_4a k))) (fun _ h=>h) (Nat.le_refl _)).mod hr (by intro k h1 h2;omega))
 have hmr:=Mod.after hm hr
 have Hx13:=hid (Hx9.out.mod hmr (by intro k h1 h2;omega))
 have Hx14:=hid (Hx10.out.mod hmr (by intro k h1 h2;omega))
 have Hx15:=hid (Hx8.out.mod hmr (by intro k h1 h2;omega))
 clear Hx9 Hx10 Hx8
 clear hmr
 have Cx16:=hid (Cx11.out.go hm hr)
 clear Cx11 hm hr Z act E qa4
 refine QChain.go fun Z act E=>?_
 have ea7:act.eval (.tmp 7)=.slice ao_a1 ((encI x.rp).length) cap_a1:=(chv (v:=.slice ao_a1 ((encI x.rp).length) cap_a1) (E.d 2))
 have ea10:act.eval (.tmp 10)=.slice ao_a2 ((encI x.ep).length) cap_a2:=(chv (v:=.slice ao_a2 ((encI x.ep).length) cap_a2) (E.d 5))
 have ea13:act.eval (.tmp 13)=.slice ao_a3 ((encN x.fl).length) cap_a3:=(chv (v:=.slice ao_a3 ((encN x.fl).length) cap_a3) (E.d 8))
 have ea17:act.eval (.tmp 17)=.slice ao_a4 ((encI x.l.length).length) cap_a4:=(chv (v:=.slice ao_a4 ((encI x.l.length).length) cap_a4) (E.d 12))
 refine Bl rfl (Ac rfl) rfl Tryz.underlying124 (by decide) (C:=#[.slice ao_a1 ((encI x.rp).length) cap_a1,.slice ao_a2 ((encI x.ep).length) cap_a2,.slice ao_a3 ((encN x.fl).length) cap_a3,.slice ao_a4 ((encI x.l.length).length) cap_a4]) (by simp only [List.map_toArray,List.map_cons,List.map_nil,ea7,ea10,ea13,ea17];kernel_rfl) ?_
 intro u1_5a qrow13 hm
 have zl1_13:=qrow13.lt
 have zu1_5a:=hm.size
 refine ⟨hm.mono (fun _ _ h=>h.elim),(fun _=>rfl),?_⟩
 intro u1_5 hr
 have zu1_5:=hr.size
 have Hx17:=hid (qrow13.mod hr (by intro h2;omega))
 have hmr:=Mod.after hm hr
 have Hx18:=hid (Hx13.out.mod hmr (by intro k h1 h2;omega))
 have Hx19:=hid (Hx14.out.mod hmr (by intro k h1 h2;omega))
 have Hx20:=hid (Hx15.out.mod hmr (by intro k h1 h2;omega))
 have Hx21:=hid (Hx12.out.mod hmr (by intro k h1 h2;omega))
 clear Hx13 Hx14 Hx15 Hx12
 clear hmr
 have Cx22:=hid (Cx16.out.go hm hr)
 clear Cx16 hm hr Z act E qrow13 ea7 ea10 ea13 ea17
 refine QChain.go fun Z act E=>?_
 refine Ap (args:=#[.slice (some ⟨u1_4.heap.size,0,none⟩) 4 4]) rfl (Ac rfl) rfl Tryz.func21 (Aw (chv (v:=.slice (some ⟨u1_4.heap.size,0,none⟩) 4 4) (E.d 13))) (Join_Q (n:=4)  Hx17.out [(.slice ao_a1 ((encI x.rp).length) cap_a1,encI x.rp),(.slice ao_a2 ((encI x.ep).length) cap_a2,encI x.ep),(.slice ao_a3 ((encN x.fl).length) cap_a3,encN x.fl),(.slice ao_a4 ((encI x.l.length).length) cap_a4,encI x.l.length)] rfl rfl (by intro p hp;simp only [List.mem_cons,List.not_mem_nil,or_false] at hp;rcases hp with rfl|rfl|rfl|rfl<;>first|exact Hx18.out.rd.1|exact Hx19.out.rd.1|exact Hx20.out.rd.1|exact Hx21.out.rd.1) (by simp) (show flat _=encI x.rp ++ (encI x.ep ++ (encN x.fl ++ encI x.l.length)) from by simp only [flat,List.map_cons,List.map_nil,List.flatten_cons,List.flatten_nil,List.append_nil]) (by have:=HL.out;simp only [listB,List.length_append] at this ⊢; omega)) ?_
 rintro e u1_6a ⟨v_join1,rfl,qjoin1,hm⟩
 have zu1_6a:=hm.size
 refine ⟨_,rfl,hm.mono (fun _ _ h=>h.elim),(fun _=>rfl),?_⟩
 intro u1_6 hr
 have zu1_6:=hr.size
 have Hx23:=hid ((qjoin1.widen (R':=(fun k=>(New u1_5 u1_6a k))) (fun _ h=>h) (Nat.le_refl _)).mod hr (by intro k h1 h2;omega))
 have hmr:=Mod.after hm hr
 have Hx24:=hid (Hx18.out.mod hmr (by intro k h1 h2;omega))
 have Hx25:=hid (Hx19.out.mod hmr (by intro k h1 h2;omega))
 have Hx26:=hid (Hx20.out.mod hmr (by intro k h1 h2;omega))
 have Hx27:=hid (Hx21.out.mod hmr (by intro k h1 h2;omega))
 have Hx28:=hid (Hx17.out.mod hmr (by intro h2;omega))
 clear Hx18 Hx19 Hx20 Hx21 Hx17
 clear hmr
 have Cx29:=hid (Cx22.out.go hm hr)
 clear Cx22 hm hr Z act E qjoin1
 refine QChain.nil fun vs hl hzz hrows hne=>?_
 obtain ⟨Z,hYZ,hZb,hV⟩:=hzz
 have f2:=fvc hV hl 2
 have f5:=fvc hV hl 5
 have f8:=fvc hV hl 8
 have f11:=fvi hV hl 11
 have f12:=fvc hV hl 12
 have f13:=fvc hV hl 13
 have f14:=fvc hV hl 14
 have f15:=fvc hV hl 15
 rw [show vs=[gw vs 0,gw vs 1,gw vs 2,gw vs 3,gw vs 4,gw vs 5,gw vs 6,gw vs 7,gw vs 8,gw vs 9,gw vs 10,gw vs 11,gw vs 12,gw vs 13,gw vs 14,gw vs 15] from (Be hl).trans rfl]
 have ha0:=HA0.out
 subst ha0
 clear HA0 hV hYZ hZb hsz0 hrows hne oe1
 simp only [Au,Act.put,sIB,sCZ,sCS,f2,f5,f8,f11,f12,f13,f14,f15]
 clear hl f2 f5 f8 f11 f12 f13 f14 f15
 go_upto_region 2 with (fail)
 refine Aa 36 [20,21,22,23] [0,1,2,3] (fun a0 HA0=>?_)
 have oe1:=ev HA0 1 rfl
 refine QSeq.pure rfl (.pointer (some ⟨w.heap.size,3,none⟩)) (fun E=>Ad rfl Tryz.underlying40 rfl (by kernel_rfl) (E.v oe1)) ?_
 refine QSeq.pure rfl _ (fun E=>Aj rfl Tryz.underlying38 rfl (E.d 0 0) (Cs.lit1 (HB1.out.mod Cx29.out (fun h=>h)) rfl)) ?_
 refine QSeq.pure rfl (.int .i64 x.l.length) (fun E=>A0 rfl (E.d 1 0) Tryz.underlying38) ?_
 refine QSeq.pure rfl (.int .i64 0) (fun E=>Ai rfl rfl) ?_
 refine QSeq.nil (t':=[_,_,_,_]) rfl ?_
 obtain rfl:=HA0.out
 clear HA0 oe1
 simp only [pz,Act.put,sIB,sCZ,sCS]
 go_wp2
 go_loopw [3,23] (fun ta ti wr=>∃ k:Nat,ti=.int .i64 (k:Int)∧k≤x.l.length∧u1_6.heap.size≤wr.heap.size∧OwR (fun b=>w1.heap.size≤b∧b < wr.heap.size) 900000 wr ta ((encI x.rp ++ (encI x.ep ++ (encN x.fl ++ encI x.l.length))) ++ ((x.l.take k).map ceB).flatten)∧RdS CeR R2 wr (.slice ao_sl_l x.l.length cap_sl_l) x.l∧Cs wr (w.heap.size) (x.cells (.slice ao_sl_l x.l.length cap_sl_l):List Value).toArray 40∧Mod (fun _=>False) w wr) (fun _ ti _=>x.l.length - (intOf ti).toNat)
 case atStart=>exact ⟨0,rfl,Nat.zero_le _,Nat.le_refl _,by have hq:=(Hx23.out.widen (R':=(fun b=>w1.heap.size≤b∧b < u1_6.heap.size)) (by intro k h1;omega) (Nat.le_refl _));simpa only [List.take_zero,List.map_nil,List.flatten_nil,List.append_nil,List.append_assoc] using hq,(Hx1.out.mod Cx29.out (fun _ _ h=>h)),(HB1.out.mod Cx29.out (fun h=>h)),(HM0.out.trans Cx29.out (fun _ _ h=>h.elim))⟩
 case round=>
  obtain ⟨k1,rfl,hk,hz,ha,hk_0,hk_1,hm⟩:=hrel
  obtain ⟨wl1,rfl⟩:∃ x,x=wr:=⟨_,rfl⟩
  obtain ⟨aol1,capl1,rfl⟩:=ha.shape
  have HAL1:=Lib.hid ha
  have HKL1_0:=Lib.hid hk_0
  have HKL1_1:=Lib.hid hk_1
  have HML1:=Lib.hid hm
  clear ha hm hk_0 hk_1 Hx1 HB1 HM0 Hx24 Hx25 Hx26 Hx27 Hx28 Hx23
  by_cases hlt1:k1 < x.l.length
  ·skip
   have hat:=HKL1_0.out.at hlt1
   obtain ⟨g1,o1,cs1,eao,hrg,hrd,hcs⟩:=hat
   subst eao
   have hcl:cs1.length=38:=CeR.len hrd
   have HCL1:=Lib.hid hcl
   have HAT1:=hid (show CellsAt R2 wl1 g1 (o1+k1 * 38) cs1 from ⟨hrg,hcs⟩)
   have HRD1:=Lib.hid hrd
   clear hcl hcs hrd hrg
   have HE1:Hid (((encI x.rp ++ (encI x.ep ++ (encN x.fl ++ encI x.l.length))) ++ ((x.l.take k1).map ceB).flatten) ++ ceB x.l[k1]=(encI x.rp ++ (encI x.ep ++ (encN x.fl ++ encI x.l.length))) ++ ((x.l.take (k1+1)).map ceB).flatten):=hid (by rw [List.take_succ_eq_append_getElem hlt1,List.map_append,List.flatten_append];simp [List.append_assoc])
   have HB1':=hid (show (((encI x.rp ++ (encI x.ep ++ (encN x.fl ++ encI x.l.length))) ++ ((x.l.take k1).map ceB).flatten) ++ ceB x.l[k1]).length≤900000 by rw [HE1.out];exact acc_len _ _ _ _ (by have:=HL.out;simp only [listB,List.length_append] at this ⊢; omega))
   have HBE1:=hid (show (ceB x.l[k1]).length≤900000 by have:=HB1'.out;simp only [List.length_append] at this ⊢; omega)
   go_upto_region 4 with (fail)
   refine Aa 36 [25,4] [0,1] (fun a0 HA0=>?_)
   have oe23:=ev HA0 23 rfl
   refine QSeq.pure rfl _ (fun E=>Ai rfl (E.v oe23)) ?_
   refine QSeq.pure rfl _ (fun E=>Af rfl (E.d 0 0)) ?_
   refine QSeq.nil (t':=[_,_]) rfl ?_
   obtain rfl:=HA0.out
   clear HA0 oe23
   simp only [pz,Act.put,sIB,sCZ,sCS]
   go_upto_region 5 with (fail)
   refine Aa 36 [26,27,28,29,30,31,32,33,3] [0,1,2,3,4,5,6,7,8] (fun a0 HA0=>?_)
   have oe1:=ev HA0 1 rfl
   have oe3:=ev HA0 3 rfl
   have oe4:=ev HA0 4 rfl
   refine QSeq.pure rfl _ (fun E=>Ai rfl (E.y 8 oe3)) ?_
   refine QSeq.pure rfl (.pointer (some ⟨w.heap.size,3,none⟩)) (fun E=>Ad rfl Tryz.underlying40 rfl (by kernel_rfl) (E.v oe1)) ?_
   refine QSeq.pure rfl _ (fun E=>Aj rfl Tryz.underlying38 rfl (E.d 1 0) (Cs.lit1 HKL1_1.out rfl)) ?_
   refine QSeq.pure rfl _ (fun E=>Ai rfl (E.v oe4)) ?_
   refine QSeq.pure rfl (.pointer (some ⟨g1,o1+k1 * 38,none⟩)) (fun E=>Bk (i:=k1) (s:=38) rfl Tryz.underlying38 (by kernel_rfl) (E.d 2 1) (E.d 3 0) hlt1) ?_
   refine QSeq.pure rfl _ (fun E=>Am rfl Tryz.underlying35 rfl (off:=o1+k1 * 38) (cs:=cs1) (by rw [HCL1.out];kernel_rfl) (E.d 4 0) (fun j u hu=>(HAT1.out).2 j u hu)) ?_
   refine QSeq.call rfl rfl Tryz.func25 (RefCe_Q _ _ (x.l[k1]) _ HRD1.out (by intro k h1;have hb:=HBT.out k h1;omega) HBE1.out) (fun E=>Aw (E.d 5 0)) ?_
   rintro e u5_6 ⟨v_a5,rfl,qa5,hm⟩
   obtain ⟨ao_a5,cap_a5,rfl⟩:=qa5.shape
   refine ⟨_,rfl,?_⟩
   have Hx30:=hid qa5
   have zu5_6:=hm.size
   have Cx31:=hid (show Mod (fun _=>False) wl1 u5_6 from hm)
   clear hm
   clear qa5
   refine QSeq.go fun act E=>?_
   refine qc_appR rfl (Ac rfl) rfl (E.d 0 6) (E.d 6 0) (HAL1.out.mod Cx31.out (fun _ _ h=>h)) Hx30.out.rd HB1'.out ?_
   intro ao16 cap16 u5_7 qjoin1 hm
   have Hx32:=hid (qjoin1.widen (R':=(fun k=>(New w1 wl1 k)∨(New u5_6 u5_7 k))) (fun _ h=>h) (Nat.le_refl _))
   have zu5_7:=hm.size
   have HMu5_7:=hid hm
   have Cx33:=hid (Mod.goS (S':=(fun k=>(New w1 wl1 k))) Cx31.out hm (fun _ h=>h.elim) (by intro k h0 h2;exact h2))
   clear hm Cx31
   clear act E qjoin1 HAL1
   refine QSeq.pure rfl _ (fun E=>Af rfl (E.d 7 0)) ?_
   have Hx34:=hid (Hx30.out.mod HMu5_7.out (by intro k h1 h2;omega))
   clear Hx30 HMu5_7
   refine QSeq.nil (t':=[_,_,_,_,_,_,_,_,_]) rfl ?_
   obtain rfl:=HA0.out
   clear HA0 oe1 oe3 oe4
   simp only [pz,Act.put,sIB,sCZ,sCS]
   have hq:=Hx32.out
   rw [HE1.out] at hq
   have HQ1:=Lib.hid hq
   clear hq
   go_wp2
   go_roundw
   case rel=>exact ⟨k1+1,by go_num,by omega,by omega,(HQ1.out.widen (by intro b h1;omega) (Nat.le_refl _)),(HKL1_0.out.mod Cx33.out (sN HBT)),(HKL1_1.out.mod Cx33.out (by intro h2;omega)),(HML1.out.trans Cx33.out (by intro k h1 h2;omega))⟩
   case measure=>simp [intOf];omega
  ·obtain rfl:k1=x.l.length:=by omega
   have hq:=HAL1.out
   rw [List.take_length] at hq
   have HAF1:=Lib.hid hq
   clear hq
   rw [List.take_length]
   go_wp2
   go_ret
   have hq:=(HAF1.out.widen (R':=(fun k=>New w wl1 k)) (by intro k h1;omega) (Nat.le_refl _))
   have hb:((encI x.rp ++ (encI x.ep ++ (encN x.fl ++ encI x.l.length))) ++ (x.l.map ceB).flatten)=bareP x:=by simp only [bareP,listB,List.append_assoc]
   rw [hb] at hq
   try rw [hb]
   exact ⟨_,rfl,hq,HML1.out⟩
set_option maxHeartbeats 4000000 in
theorem RefPm_Q:Makes PmR 29 pmB:=by
 intro R2 cs x w hx hB2 hl
 obtain ⟨v_l,rfl,hok,hs0⟩:=hx
 have HS0:=Lib.hid hs0
 clear hs0
 have HBT:=Lib.hid hB2
 have HOK:=Lib.hid hok
 have HL:=Lib.hid hl
 clear hB2 hl hok
 unfold pmB at HL
 go_enter Tryz.func29,Tryz.ntmps29
 go_upto_region 1 with (fail)
 obtain ⟨w1,hw1⟩:∃ zz,zz=(w.alloc (.cells (x.cells v_l:List Value).toArray 40)):=⟨_,rfl⟩
 change Code.wp _ _ _ _ (w.alloc (.cells (x.cells v_l:List Value).toArray 40))
 rw [← hw1]
 have HB1:=hid (show Cs w1 (w.heap.size) (x.cells v_l:List Value).toArray 40 by rw [hw1];exact Cs.new _ _ _)
 have hm:Mod (fun _=>False) w w1:=by rw [hw1];exact (Mod.refl _ _).alloc _
 have HM0:=hid (show Mod (fun _=>False) w w1 from hm.mono (fun _ _ h=>h.elim))
 have hs1:w1.heap.size=w.heap.size+1:=by rw [hw1];simp
 have Hx1:=hid (HS0.out.mod hm (fun _ _ h=>h))
 clear HS0
 clear hw1 hm
 go_upto_region 1 with (fail)
 generalize ha0:Act.mk _ _=a0
 have oe1:a0.eval (.tmp 1)=.pointer (some ⟨w.heap.size,0,none⟩):=by rw [← ha0];rfl
 have hsz0:a0.tmps.size=10:=by rw [← ha0];rfl
 have HA0:=hid ha0
 clear ha0
 refine A1 10 hsz0 [3,4,5,6,7,8,9,2] [qi (.agg (x.cells v_l).toArray),qv 0,qi (.pointer (some ⟨w.heap.size,4,none⟩)),qi (.agg #[.int .i64 x.sb,.int .i64 x.mr]),qv 1,qv 2,qv 3,qv 3] ⟨Ab,Ak,Ab,Ab,Ak,Ak,Ak,Ak,trivial⟩ [1,4,5,6] ⟨?_,?_,?_,?_,?_,?_,?_,?_,trivial⟩ ?_
 ·exact stq (fun E=>Am rfl Tryz.underlying40 rfl (off:=0) (cs:=x.cells v_l) (by kernel_rfl) (E.v oe1) (Cs.whole (HB1.out.mod E.m.old (by intro h2;omega))))
 ·exact Ah rfl
 ·exact stq (fun E=>Ad rfl Tryz.underlying40 rfl (by kernel_rfl) (E.v oe1))
 ·exact stq (fun E=>Am rfl Tryz.underlying27 rfl (off:=4) (cs:=[.int .i64 x.sb,.int .i64 x.mr]) (by kernel_rfl) (E.d 2) (Cs.litA (HB1.out.mod E.m.old (by intro h2;omega)) rfl))
 ·exact Ah rfl
 ·exact Ah rfl
 ·exact Ah rfl
 ·refine Av rfl rfl rfl fun _ _ _ _ _ _ _ _ _ hd _ _=>?_
  have h6:=hd ⟨6,.data⟩ (by simp) rfl _ rfl
  exact Bd rfl (Ac rfl) (Af rfl rfl) QE.refl h6
 intro u1_0 hr
 have zu1_0:=hr.size
 have Cx2:=hid (hr.new (S:=(fun _=>False)))
 clear hr
 refine QChain.go fun Z act E=>?_
 refine Ap (args:=#[.agg (x.cells v_l).toArray]) rfl (Ac rfl) rfl Tryz.func72 (Aw (E.d 0)) (RefBareP_Q _ _ x _ ⟨_,rfl,HOK.out,(Hx1.out.mod Cx2.out (fun _ _ h=>h))⟩ (by intro k h1;have hb:=HBT.out k h1;omega) (by have:=HL.out;unfold bareP;simp only [List.length_append] at this ⊢; omega)) ?_
 rintro e u1_1a ⟨v_a1,rfl,qa1,hm⟩
 obtain ⟨ao_a1,cap_a1,rfl⟩:=qa1.shape
 have zu1_1a:=hm.size
 refine ⟨_,rfl,hm.mono (fun _ _ h=>h.elim),(fun _=>rfl),?_⟩
 intro u1_1 hr
 have zu1_1:=hr.size
 have Hx3:=hid ((qa1.widen (R':=(fun k=>(New u1_0 u1_1a k))) (fun _ h=>h) (Nat.le_refl _)).mod hr (by intro k h1 h2;omega))
 have Cx4:=hid (Cx2.out.go hm hr)
 clear Cx2 hm hr Z act E qa1
 refine QChain.go fun Z act E=>?_
 refine Ap (args:=#[.agg #[.int .i64 x.sb,.int .i64 x.mr]]) rfl (Ac rfl) rfl Tryz.func27 (Aw (E.d 3)) (RefSig_Q HOK.out.2.2.2.1 HOK.out.2.2.2.2 _) ?_
 rintro e u1_2a ⟨v_a2,rfl,qa2,hm⟩
 obtain ⟨ao_a2,cap_a2,rfl⟩:=qa2.shape
 have zu1_2a:=hm.size
 refine ⟨_,rfl,hm.mono (fun _ _ h=>h.elim),(fun _=>rfl),?_⟩
 intro u1_2 hr
 have zu1_2:=hr.size
 have Hx5:=hid ((qa2.widen (R':=(fun k=>(New u1_1 u1_2a k))) (fun _ h=>h) (Nat.le_refl _)).mod hr (by intro k h1 h2;omega))
 have hmr:=Mod.after hm hr
 have Hx6:=hid (Hx3.out.mod hmr (by intro k h1 h2;omega))
 clear Hx3
 clear hmr
 have Cx7:=hid (Cx4.out.go hm hr)
 clear Cx4 hm hr Z act E qa2
 refine QChain.go fun Z act E=>?_
 have ea4:act.eval (.tmp 4)=.slice ao_a1 ((bareP x).length) cap_a1:=(chv (v:=.slice ao_a1 ((bareP x).length) cap_a1) (E.d 1))
 have ea7:act.eval (.tmp 7)=.slice ao_a2 ((sigB x.sb x.mr).length) cap_a2:=(chv (v:=.slice ao_a2 ((sigB x.sb x.mr).length) cap_a2) (E.d 4))
 refine Bl rfl (Ac rfl) rfl Tryz.underlying124 (by decide) (C:=#[.slice ao_a1 ((bareP x).length) cap_a1,.slice ao_a2 ((sigB x.sb x.mr).length) cap_a2]) (by simp only [List.map_toArray,List.map_cons,List.map_nil,ea4,ea7];kernel_rfl) ?_
 intro u1_3a qrow5 hm
 have zl1_5:=qrow5.lt
 have zu1_3a:=hm.size
 refine ⟨hm.mono (fun _ _ h=>h.elim),(fun _=>rfl),?_⟩
 intro u1_3 hr
 have zu1_3:=hr.size
 have Hx8:=hid (qrow5.mod hr (by intro h2;omega))
 have hmr:=Mod.after hm hr
 have Hx9:=hid (Hx6.out.mod hmr (by intro k h1 h2;omega))
 have Hx10:=hid (Hx5.out.mod hmr (by intro k h1 h2;omega))
 clear Hx6 Hx5
 clear hmr
 have Cx11:=hid (Cx7.out.go hm hr)
 clear Cx7 hm hr Z act E qrow5 ea4 ea7
 refine QChain.go fun Z act E=>?_
 refine Ap (args:=#[.slice (some ⟨u1_2.heap.size,0,none⟩) 2 2]) rfl (Ac rfl) rfl Tryz.func21 (Aw (chv (v:=.slice (some ⟨u1_2.heap.size,0,none⟩) 2 2) (E.d 5))) (Join_Q (n:=2)  Hx8.out [(.slice ao_a1 ((bareP x).length) cap_a1,bareP x),(.slice ao_a2 ((sigB x.sb x.mr).length) cap_a2,sigB x.sb x.mr)] rfl rfl (by intro p hp;simp only [List.mem_cons,List.not_mem_nil,or_false] at hp;rcases hp with rfl|rfl<;>first|exact Hx9.out.rd.1|exact Hx10.out.rd.1) (by simp) (show flat _=bareP x ++ sigB x.sb x.mr from by simp only [flat,List.map_cons,List.map_nil,List.flatten_cons,List.flatten_nil,List.append_nil]) (by have:=HL.out;simp only [bareP,List.length_append] at this ⊢; omega)) ?_
 rintro e u1_4a ⟨v_join1,rfl,qjoin1,hm⟩
 have zu1_4a:=hm.size
 refine ⟨_,rfl,hm.mono (fun _ _ h=>h.elim),(fun _=>rfl),?_⟩
 intro u1_4 hr
 have zu1_4:=hr.size
 have Hx12:=hid ((qjoin1.widen (R':=(fun k=>(New u1_3 u1_4a k))) (fun _ h=>h) (Nat.le_refl _)).mod hr (by intro k h1 h2;omega))
 have hmr:=Mod.after hm hr
 have Hx13:=hid (Hx9.out.mod hmr (by intro k h1 h2;omega))
 have Hx14:=hid (Hx10.out.mod hmr (by intro k h1 h2;omega))
 have Hx15:=hid (Hx8.out.mod hmr (by intro h2;omega))
 clear Hx9 Hx10 Hx8
 clear hmr
 have Cx16:=hid (Cx11.out.go hm hr)
 clear Cx11 hm hr Z act E qjoin1
 refine QChain.nil fun vs hl hzz hrows hne=>?_
 obtain ⟨Z,hYZ,hZb,hV⟩:=hzz
 have f1:=fvc hV hl 1
 have f4:=fvc hV hl 4
 have f5:=fvc hV hl 5
 have f6:=fvc hV hl 6
 have f7:=fvc hV hl 7
 rw [show vs=[gw vs 0,gw vs 1,gw vs 2,gw vs 3,gw vs 4,gw vs 5,gw vs 6,gw vs 7] from (Be hl).trans rfl]
 have ha0:=HA0.out
 subst ha0
 clear HA0 hV hYZ hZb hsz0 hrows hne oe1
 simp only [Au,Act.put,sIB,sCZ,sCS,f1,f4,f5,f6,f7]
 clear hl f1 f4 f5 f6 f7
 go_wp2
 go_ret
 have hq:=(Hx12.out.widen (R':=(fun k=>New w u1_4 k)) (by intro k h1;omega) (Nat.le_refl _))
 (try simp only [List.append_assoc] at hq)
 exact ⟨v_join1,rfl,by simpa only [pmB,bareP,List.append_assoc] using hq,(HM0.out.trans Cx16.out (fun _ _ h=>h.elim))⟩
set_option maxHeartbeats 8000000 in
theorem RefBa_Q:Makes BaR 30 baB:=by
 intro R2 cs x w hx hB2 hl
 obtain ⟨v_ps,v_os,v_ts,rfl,hok,hs0,hs1,hs2⟩:=hx
 obtain ⟨ao_sl_ps,cap_sl_ps,rfl⟩:=hs0.shape
 have hb0:x.ps.length≤maxLen:=hs0.bd
 rw [Ax] at hb0
 have HI0:=hid (show I64 (x.ps.length:Int) by unfold I64;omega)
 have HS0:=Lib.hid hs0
 clear hs0
 obtain ⟨ao_sl_os,cap_sl_os,rfl⟩:=hs1.shape
 have hb1:x.os.length≤maxLen:=hs1.bd
 rw [Ax] at hb1
 have HI1:=hid (show I64 (x.os.length:Int) by unfold I64;omega)
 have HS1:=Lib.hid hs1
 clear hs1
 obtain ⟨ao_sl_ts,cap_sl_ts,rfl⟩:=hs2.shape
 have hb2:x.ts.length≤maxLen:=hs2.bd
 rw [Ax] at hb2
 have HI2:=hid (show I64 (x.ts.length:Int) by unfold I64;omega)
 have HS2:=Lib.hid hs2
 clear hs2
 have HBT:=Lib.hid hB2
 have HOK:=Lib.hid hok
 have HL:=Lib.hid hl
 clear hB2 hl hok
 unfold baB at HL
 go_enter Tryz.func30,Tryz.ntmps30
 go_upto_region 1 with (fail)
 obtain ⟨w1,hw1⟩:∃ zz,zz=(w.alloc (.cells (x.cells (.slice ao_sl_ps x.ps.length cap_sl_ps) (.slice ao_sl_os x.os.length cap_sl_os) (.slice ao_sl_ts x.ts.length cap_sl_ts):List Value).toArray 45)):=⟨_,rfl⟩
 change Code.wp _ _ _ _ (w.alloc (.cells (x.cells (.slice ao_sl_ps x.ps.length cap_sl_ps) (.slice ao_sl_os x.os.length cap_sl_os) (.slice ao_sl_ts x.ts.length cap_sl_ts):List Value).toArray 45))
 rw [← hw1]
 have HB1:=hid (show Cs w1 (w.heap.size) (x.cells (.slice ao_sl_ps x.ps.length cap_sl_ps) (.slice ao_sl_os x.os.length cap_sl_os) (.slice ao_sl_ts x.ts.length cap_sl_ts):List Value).toArray 45 by rw [hw1];exact Cs.new _ _ _)
 have hm:Mod (fun _=>False) w w1:=by rw [hw1];exact (Mod.refl _ _).alloc _
 have HM0:=hid (show Mod (fun _=>False) w w1 from hm.mono (fun _ _ h=>h.elim))
 have hs1:w1.heap.size=w.heap.size+1:=by rw [hw1];simp
 have Hx1:=hid (HS0.out.mod hm (fun _ _ h=>h))
 clear HS0
 have Hx2:=hid (HS1.out.mod hm (fun _ _ h=>h))
 clear HS1
 have Hx3:=hid (HS2.out.mod hm (fun _ _ h=>h))
 clear HS2
 clear hw1 hm
 go_upto_region 1 with (fail)
 generalize ha0:Act.mk _ _=a0
 have oe1:a0.eval (.tmp 1)=.pointer (some ⟨w.heap.size,0,none⟩):=by rw [← ha0];rfl
 have hsz0:a0.tmps.size=111:=by rw [← ha0];rfl
 have HA0:=hid ha0
 clear ha0
 refine A1 111 hsz0 [8,9,10,11,12,13,14,15,16,17,18,19,3] [qi (.pointer (some ⟨w.heap.size,0,none⟩)),qi (.int .i64 x.ep),qv 0,qi (.pointer (some ⟨w.heap.size,1,none⟩)),qi (.int .u64 (x.tm:Nat)),qv 1,qi (.pointer (some ⟨w.heap.size,2,none⟩)),qi (.slice ao_sl_ps x.ps.length cap_sl_ps),qi (.int .i64 x.ps.length),qv 2,qv 3,qv 4,qv 4] ⟨Ab,Ab,Ak,Ab,Ab,Ak,Ab,Ab,Ab,Ak,Ak,Ak,Ak,trivial⟩ [2,5,9,10,11] ⟨?_,?_,?_,?_,?_,?_,?_,?_,?_,?_,?_,?_,?_,trivial⟩ ?_
 ·exact stq (fun E=>Ad rfl Tryz.underlying45 rfl (by kernel_rfl) (E.v oe1))
 ·exact stq (fun E=>Aj rfl Tryz.underlying3 rfl (E.d 0) (Cs.lit1 (HB1.out.mod E.m.old (by intro h2;omega)) rfl))
 ·exact Ah rfl
 ·exact stq (fun E=>Ad rfl Tryz.underlying45 rfl (by kernel_rfl) (E.v oe1))
 ·exact stq (fun E=>Aj rfl Tryz.underlying30 rfl (E.d 3) (Cs.lit1 (HB1.out.mod E.m.old (by intro h2;omega)) rfl))
 ·exact Ah rfl
 ·exact stq (fun E=>Ad rfl Tryz.underlying45 rfl (by kernel_rfl) (E.v oe1))
 ·exact stq (fun E=>Aj rfl Tryz.underlying41 rfl (E.d 6) (Cs.lit1 (HB1.out.mod E.m.old (by intro h2;omega)) rfl))
 ·exact stq (fun E=>A0 rfl (E.d 7) Tryz.underlying41)
 ·exact Ah rfl
 ·exact Ah rfl
 ·exact Ah rfl
 ·refine Av rfl rfl rfl fun _ _ _ _ _ _ _ _ _ hd _ _=>?_
  have h11:=hd ⟨11,.data⟩ (by simp) rfl _ rfl
  exact Bd rfl (Ac rfl) (Af rfl rfl) QE.refl h11
 intro u1_0 hr
 have zu1_0:=hr.size
 have Cx4:=hid (hr.new (S:=(fun _=>False)))
 clear hr
 refine QChain.go fun Z act E=>?_
 refine Ap (args:=#[.int .i64 x.ep]) rfl (Ac rfl) rfl Tryz.func22 (Aw (E.d 1)) (A9 _ HOK.out.1 _) ?_
 rintro e u1_1a ⟨v_a1,rfl,qa1,hm⟩
 obtain ⟨ao_a1,cap_a1,rfl⟩:=qa1.shape
 have zu1_1a:=hm.size
 refine ⟨_,rfl,hm.mono (fun _ _ h=>h.elim),(fun _=>rfl),?_⟩
 intro u1_1 hr
 have zu1_1:=hr.size
 have Hx5:=hid ((qa1.widen (R':=(fun k=>(New u1_0 u1_1a k))) (fun _ h=>h) (Nat.le_refl _)).mod hr (by intro k h1 h2;omega))
 have Cx6:=hid (Cx4.out.go hm hr)
 clear Cx4 hm hr Z act E qa1
 refine QChain.go fun Z act E=>?_
 refine Ap (args:=#[.int .u64 (x.tm:Nat)]) rfl (Ac rfl) rfl Tryz.func28 (Aw (E.d 4)) (RefNum_Q _ HOK.out.2 _) ?_
 rintro e u1_2a ⟨v_a2,rfl,qa2,hm⟩
 obtain ⟨ao_a2,cap_a2,rfl⟩:=qa2.shape
 have zu1_2a:=hm.size
 refine ⟨_,rfl,hm.mono (fun _ _ h=>h.elim),(fun _=>rfl),?_⟩
 intro u1_2 hr
 have zu1_2:=hr.size
 have Hx7:=hid ((qa2.widen (R':=(fun k=>(New u1_1 u1_2a k))) (fun _ h=>h) (Nat.le_refl _)).mod hr (by intro k h1 h2;omega))
 have hmr:=Mod.after hm hr
 have Hx8:=hid (Hx5.out.mod hmr (by intro k h1 h2;omega))
 clear Hx5
 clear hmr
 have Cx9:=hid (Cx6.out.go hm hr)
 clear Cx6 hm hr Z act E qa2
 refine QChain.go fun Z act E=>?_
 refine Ap (args:=#[.int .i64 x.ps.length]) rfl (Ac rfl) rfl Tryz.func22 (Aw (E.d 8)) (A9 _ HI0.out _) ?_
 rintro e u1_3a ⟨v_a3,rfl,qa3,hm⟩
 obtain ⟨ao_a3,cap_a3,rfl⟩:=qa3.shape
 have zu1_3a:=hm.size
 refine ⟨_,rfl,hm.mono (fun _ _ h=>h.elim),(fun _=>rfl),?_⟩
 intro u1_3 hr
 have zu1_3:=hr.size
 have Hx10:=hid ((qa3.widen (R':=(fun k=>(New u1_2 u1_3a k))) (fun _ h=>h) (Nat.le_refl _)).mod hr (by intro k h1 h2;omega))
 have hmr:=Mod.after hm hr
 have Hx11:=hid (Hx8.out.mod hmr (by intro k h1 h2;omega))
 have Hx12:=hid (Hx7.out.mod hmr (by intro k h1 h2;omega))
 clear Hx8 Hx7
 clear hmr
 have Cx13:=hid (Cx9.out.go hm hr)
 clear Cx9 hm hr Z act E qa3
 refine QChain.go fun Z act E=>?_
 have ea10:act.eval (.tmp 10)=.slice ao_a1 ((encI x.ep).length) cap_a1:=(chv (v:=.slice ao_a1 ((encI x.ep).length) cap_a1) (E.d 2))
 have ea13:act.eval (.tmp 13)=.slice ao_a2 ((encN x.tm).length) cap_a2:=(chv (v:=.slice ao_a2 ((encN x.tm).length) cap_a2) (E.d 5))
 have ea17:act.eval (.tmp 17)=.slice ao_a3 ((encI x.ps.length).length) cap_a3:=(chv (v:=.slice ao_a3 ((encI x.ps.length).length) cap_a3) (E.d 9))
 refine Bl rfl (Ac rfl) rfl Tryz.underlying124 (by decide) (C:=#[.slice ao_a1 ((encI x.ep).length) cap_a1,.slice ao_a2 ((encN x.tm).length) cap_a2,.slice ao_a3 ((encI x.ps.length).length) cap_a3]) (by simp only [List.map_toArray,List.map_cons,List.map_nil,ea10,ea13,ea17];kernel_rfl) ?_
 intro u1_4a qrow10 hm
 have zl1_10:=qrow10.lt
 have zu1_4a:=hm.size
 refine ⟨hm.mono (fun _ _ h=>h.elim),(fun _=>rfl),?_⟩
 intro u1_4 hr
 have zu1_4:=hr.size
 have Hx14:=hid (qrow10.mod hr (by intro h2;omega))
 have hmr:=Mod.after hm hr
 have Hx15:=hid (Hx11.out.mod hmr (by intro k h1 h2;omega))
 have Hx16:=hid (Hx12.out.mod hmr (by intro k h1 h2;omega))
 have Hx17:=hid (Hx10.out.mod hmr (by intro k h1 h2;omega))
 clear Hx11 Hx12 Hx10
 clear hmr
 have Cx18:=hid (Cx13.out.go hm hr)
 clear Cx13 hm hr Z act E qrow10 ea10 ea13 ea17
 refine QChain.go fun Z act E=>?_
 refine Ap (args:=#[.slice (some ⟨u1_3.heap.size,0,none⟩) 3 3]) rfl (Ac rfl) rfl Tryz.func21 (Aw (chv (v:=.slice (some ⟨u1_3.heap.size,0,none⟩) 3 3) (E.d 10))) (Join_Q (n:=3)  Hx14.out [(.slice ao_a1 ((encI x.ep).length) cap_a1,encI x.ep),(.slice ao_a2 ((encN x.tm).length) cap_a2,encN x.tm),(.slice ao_a3 ((encI x.ps.length).length) cap_a3,encI x.ps.length)] rfl rfl (by intro p hp;simp only [List.mem_cons,List.not_mem_nil,or_false] at hp;rcases hp with rfl|rfl|rfl<;>first|exact Hx15.out.rd.1|exact Hx16.out.rd.1|exact Hx17.out.rd.1) (by simp) (show flat _=encI x.ep ++ (encN x.tm ++ encI x.ps.length) from by simp only [flat,List.map_cons,List.map_nil,List.flatten_cons,List.flatten_nil,List.append_nil]) (by have:=HL.out;simp only [listB,List.length_append] at this ⊢; omega)) ?_
 rintro e u1_5a ⟨v_join1,rfl,qjoin1,hm⟩
 have zu1_5a:=hm.size
 refine ⟨_,rfl,hm.mono (fun _ _ h=>h.elim),(fun _=>rfl),?_⟩
 intro u1_5 hr
 have zu1_5:=hr.size
 have Hx19:=hid ((qjoin1.widen (R':=(fun k=>(New u1_4 u1_5a k))) (fun _ h=>h) (Nat.le_refl _)).mod hr (by intro k h1 h2;omega))
 have hmr:=Mod.after hm hr
 have Hx20:=hid (Hx15.out.mod hmr (by intro k h1 h2;omega))
 have Hx21:=hid (Hx16.out.mod hmr (by intro k h1 h2;omega))
 have Hx22:=hid (Hx17.out.mod hmr (by intro k h1 h2;omega))
 have Hx23:=hid (Hx14.out.mod hmr (by intro h2;omega))
 clear Hx15 Hx16 Hx17 Hx14
 clear hmr
 have Cx24:=hid (Cx18.out.go hm hr)
 clear Cx18 hm hr Z act E qjoin1
 refine QChain.nil fun vs hl hzz hrows hne=>?_
 obtain ⟨Z,hYZ,hZb,hV⟩:=hzz
 have f2:=fvc hV hl 2
 have f5:=fvc hV hl 5
 have f8:=fvi hV hl 8
 have f9:=fvc hV hl 9
 have f10:=fvc hV hl 10
 have f11:=fvc hV hl 11
 have f12:=fvc hV hl 12
 rw [show vs=[gw vs 0,gw vs 1,gw vs 2,gw vs 3,gw vs 4,gw vs 5,gw vs 6,gw vs 7,gw vs 8,gw vs 9,gw vs 10,gw vs 11,gw vs 12] from (Be hl).trans rfl]
 have ha0:=HA0.out
 subst ha0
 clear HA0 hV hYZ hZb hsz0 hrows hne oe1
 simp only [Au,Act.put,sIB,sCZ,sCS,f2,f5,f8,f9,f10,f11,f12]
 clear hl f2 f5 f8 f9 f10 f11 f12
 go_upto_region 2 with (fail)
 refine Aa 111 [20,21,22,23] [0,1,2,3] (fun a0 HA0=>?_)
 have oe1:=ev HA0 1 rfl
 refine QSeq.pure rfl (.pointer (some ⟨w.heap.size,2,none⟩)) (fun E=>Ad rfl Tryz.underlying45 rfl (by kernel_rfl) (E.v oe1)) ?_
 refine QSeq.pure rfl _ (fun E=>Aj rfl Tryz.underlying41 rfl (E.d 0 0) (Cs.lit1 (HB1.out.mod Cx24.out (fun h=>h)) rfl)) ?_
 refine QSeq.pure rfl (.int .i64 x.ps.length) (fun E=>A0 rfl (E.d 1 0) Tryz.underlying41) ?_
 refine QSeq.pure rfl (.int .i64 0) (fun E=>Ai rfl rfl) ?_
 refine QSeq.nil (t':=[_,_,_,_]) rfl ?_
 obtain rfl:=HA0.out
 clear HA0 oe1
 simp only [pz,Act.put,sIB,sCZ,sCS]
 go_wp2
 go_loopw [3,23] (fun ta ti wr=>∃ k:Nat,ti=.int .i64 (k:Int)∧k≤x.ps.length∧u1_5.heap.size≤wr.heap.size∧OwR (fun b=>w1.heap.size≤b∧b < wr.heap.size) 900000 wr ta ((encI x.ep ++ (encN x.tm ++ encI x.ps.length)) ++ ((x.ps.take k).map pmB).flatten)∧RdS PmR R2 wr (.slice ao_sl_ps x.ps.length cap_sl_ps) x.ps∧RdS OpR R2 wr (.slice ao_sl_os x.os.length cap_sl_os) x.os∧RdS TbR R2 wr (.slice ao_sl_ts x.ts.length cap_sl_ts) x.ts∧Cs wr (w.heap.size) (x.cells (.slice ao_sl_ps x.ps.length cap_sl_ps) (.slice ao_sl_os x.os.length cap_sl_os) (.slice ao_sl_ts x.ts.length cap_sl_ts):List Value).toArray 45∧Mod (fun _=>False) w wr) (fun _ ti _=>x.ps.length - (intOf ti).toNat)
 case atStart=>exact ⟨0,rfl,Nat.zero_le _,Nat.le_refl _,by have hq:=(Hx19.out.widen (R':=(fun b=>w1.heap.size≤b∧b < u1_5.heap.size)) (by intro k h1;omega) (Nat.le_refl _));simpa only [List.take_zero,List.map_nil,List.flatten_nil,List.append_nil,List.append_assoc] using hq,(Hx1.out.mod Cx24.out (fun _ _ h=>h)),(Hx2.out.mod Cx24.out (fun _ _ h=>h)),(Hx3.out.mod Cx24.out (fun _ _ h=>h)),(HB1.out.mod Cx24.out (fun h=>h)),(HM0.out.trans Cx24.out (fun _ _ h=>h.elim))⟩
 case round=>
  obtain ⟨k1,rfl,hk,hz,ha,hk_0,hk_1,hk_2,hk_3,hm⟩:=hrel
  obtain ⟨wl1,rfl⟩:∃ x,x=wr:=⟨_,rfl⟩
  obtain ⟨aol1,capl1,rfl⟩:=ha.shape
  have HAL1:=Lib.hid ha
  have HKL1_0:=Lib.hid hk_0
  have HKL1_1:=Lib.hid hk_1
  have HKL1_2:=Lib.hid hk_2
  have HKL1_3:=Lib.hid hk_3
  have HML1:=Lib.hid hm
  clear ha hm hk_0 hk_1 hk_2 hk_3 Hx1 Hx2 Hx3 HB1 HM0 Hx20 Hx21 Hx22 Hx23 Hx19
  by_cases hlt1:k1 < x.ps.length
  ·skip
   have hat:=HKL1_0.out.at hlt1
   obtain ⟨g1,o1,cs1,eao,hrg,hrd,hcs⟩:=hat
   subst eao
   have hcl:cs1.length=6:=PmR.len hrd
   have HCL1:=Lib.hid hcl
   have HAT1:=hid (show CellsAt R2 wl1 g1 (o1+k1 * 6) cs1 from ⟨hrg,hcs⟩)
   have HRD1:=Lib.hid hrd
   clear hcl hcs hrd hrg
   have HE1:Hid (((encI x.ep ++ (encN x.tm ++ encI x.ps.length)) ++ ((x.ps.take k1).map pmB).flatten) ++ pmB x.ps[k1]=(encI x.ep ++ (encN x.tm ++ encI x.ps.length)) ++ ((x.ps.take (k1+1)).map pmB).flatten):=hid (by rw [List.take_succ_eq_append_getElem hlt1,List.map_append,List.flatten_append];simp [List.append_assoc])
   have HB1':=hid (show (((encI x.ep ++ (encN x.tm ++ encI x.ps.length)) ++ ((x.ps.take k1).map pmB).flatten) ++ pmB x.ps[k1]).length≤900000 by rw [HE1.out];exact acc_len _ _ _ _ (by have:=HL.out;simp only [listB,List.length_append] at this ⊢; omega))
   have HBE1:=hid (show (pmB x.ps[k1]).length≤900000 by have:=HB1'.out;simp only [List.length_append] at this ⊢; omega)
   go_upto_region 4 with (fail)
   refine Aa 111 [25,4] [0,1] (fun a0 HA0=>?_)
   have oe23:=ev HA0 23 rfl
   refine QSeq.pure rfl _ (fun E=>Ai rfl (E.v oe23)) ?_
   refine QSeq.pure rfl _ (fun E=>Af rfl (E.d 0 0)) ?_
   refine QSeq.nil (t':=[_,_]) rfl ?_
   obtain rfl:=HA0.out
   clear HA0 oe23
   simp only [pz,Act.put,sIB,sCZ,sCS]
   go_upto_region 5 with (fail)
   refine Aa 111 [26,27,28,29,30,31,32,33,3] [0,1,2,3,4,5,6,7,8] (fun a0 HA0=>?_)
   have oe1:=ev HA0 1 rfl
   have oe3:=ev HA0 3 rfl
   have oe4:=ev HA0 4 rfl
   refine QSeq.pure rfl _ (fun E=>Ai rfl (E.y 8 oe3)) ?_
   refine QSeq.pure rfl (.pointer (some ⟨w.heap.size,2,none⟩)) (fun E=>Ad rfl Tryz.underlying45 rfl (by kernel_rfl) (E.v oe1)) ?_
   refine QSeq.pure rfl _ (fun E=>Aj rfl Tryz.underlying41 rfl (E.d 1 0) (Cs.lit1 HKL1_3.out rfl)) ?_
   refine QSeq.pure rfl _ (fun E=>Ai rfl (E.v oe4)) ?_
   refine QSeq.pure rfl (.pointer (some ⟨g1,o1+k1 * 6,none⟩)) (fun E=>Bk (i:=k1) (s:=6) rfl Tryz.underlying41 (by kernel_rfl) (E.d 2 1) (E.d 3 0) hlt1) ?_
   refine QSeq.pure rfl _ (fun E=>Am rfl Tryz.underlying40 rfl (off:=o1+k1 * 6) (cs:=cs1) (by rw [HCL1.out];kernel_rfl) (E.d 4 0) (fun j u hu=>(HAT1.out).2 j u hu)) ?_
   refine QSeq.call rfl rfl Tryz.func29 (RefPm_Q _ _ (x.ps[k1]) _ HRD1.out (by intro k h1;have hb:=HBT.out k h1;omega) HBE1.out) (fun E=>Aw (E.d 5 0)) ?_
   rintro e u5_6 ⟨v_a4,rfl,qa4,hm⟩
   obtain ⟨ao_a4,cap_a4,rfl⟩:=qa4.shape
   refine ⟨_,rfl,?_⟩
   have Hx25:=hid qa4
   have zu5_6:=hm.size
   have Cx26:=hid (show Mod (fun _=>False) wl1 u5_6 from hm)
   clear hm
   clear qa4
   refine QSeq.go fun act E=>?_
   refine qc_appR rfl (Ac rfl) rfl (E.d 0 6) (E.d 6 0) (HAL1.out.mod Cx26.out (fun _ _ h=>h)) Hx25.out.rd HB1'.out ?_
   intro ao14 cap14 u5_7 qjoin1 hm
   have Hx27:=hid (qjoin1.widen (R':=(fun k=>(New w1 wl1 k)∨(New u5_6 u5_7 k))) (fun _ h=>h) (Nat.le_refl _))
   have zu5_7:=hm.size
   have HMu5_7:=hid hm
   have Cx28:=hid (Mod.goS (S':=(fun k=>(New w1 wl1 k))) Cx26.out hm (fun _ h=>h.elim) (by intro k h0 h2;exact h2))
   clear hm Cx26
   clear act E qjoin1 HAL1
   refine QSeq.pure rfl _ (fun E=>Af rfl (E.d 7 0)) ?_
   have Hx29:=hid (Hx25.out.mod HMu5_7.out (by intro k h1 h2;omega))
   clear Hx25 HMu5_7
   refine QSeq.nil (t':=[_,_,_,_,_,_,_,_,_]) rfl ?_
   obtain rfl:=HA0.out
   clear HA0 oe1 oe3 oe4
   simp only [pz,Act.put,sIB,sCZ,sCS]
   have hq:=Hx27.out
   rw [HE1.out] at hq
   have HQ1:=Lib.hid hq
   clear hq
   go_wp2
   go_roundw
   case rel=>exact ⟨k1+1,by go_num,by omega,by omega,(HQ1.out.widen (by intro b h1;omega) (Nat.le_refl _)),(HKL1_0.out.mod Cx28.out (sN HBT)),(HKL1_1.out.mod Cx28.out (sN HBT)),(HKL1_2.out.mod Cx28.out (sN HBT)),(HKL1_3.out.mod Cx28.out (by intro h2;omega)),(HML1.out.trans Cx28.out (by intro k h1 h2;omega))⟩
   case measure=>simp [intOf];omega
  ·obtain rfl:k1=x.ps.length:=by omega
   have hq:=HAL1.out
   rw [List.take_length] at hq
   have HAF1:=Lib.hid hq
   clear hq
   rw [List.take_length]
   go_upto_region 7 with (fail)
   refine Aa 111 [35,36,37,38,39,40,3] [0,1,2,3,4,5,6] (fun a0 HA0=>?_)
   have oe1:=ev HA0 1 rfl
   have oe3:=ev HA0 3 rfl
   refine QSeq.pure rfl _ (fun E=>Ai rfl (E.y 6 oe3)) ?_
   refine QSeq.pure rfl (.pointer (some ⟨w.heap.size,3,none⟩)) (fun E=>Ad rfl Tryz.underlying45 rfl (by kernel_rfl) (E.v oe1)) ?_
   refine QSeq.pure rfl _ (fun E=>Aj rfl Tryz.underlying42 rfl (E.d 1 0) (Cs.lit1 HKL1_3.out rfl)) ?_
   refine QSeq.pure rfl (.int .i64 x.os.length) (fun E=>A0 rfl (E.d 2 0) Tryz.underlying42) ?_
   refine QSeq.call rfl rfl Tryz.func22 (A9 _ HI1.out _) (fun E=>Aw (E.d 3 0)) ?_
   rintro e u7_4 ⟨v_a5,rfl,qa5,hm⟩
   obtain ⟨ao_a5,cap_a5,rfl⟩:=qa5.shape
   refine ⟨_,rfl,?_⟩
   have Hx30:=hid qa5
   have zu7_4:=hm.size
   have Cx31:=hid (show Mod (fun _=>False) wl1 u7_4 from hm)
   clear hm
   clear qa5
   refine QSeq.go fun act E=>?_
   refine qc_appR rfl (Ac rfl) rfl (E.d 0 4) (E.d 4 0) (HAF1.out.mod Cx31.out (fun _ _ h=>h)) Hx30.out.rd (by have:=HL.out;simp only [listB,List.length_append] at this ⊢; omega) ?_
   intro ao14 cap14 u7_5 qjoin1 hm
   have Hx32:=hid (qjoin1.widen (R':=(fun k=>(New w1 wl1 k)∨(New u7_4 u7_5 k))) (fun _ h=>h) (Nat.le_refl _))
   have zu7_5:=hm.size
   have HMu7_5:=hid hm
   have Cx33:=hid (Mod.goS (S':=(fun k=>(New w1 wl1 k))) Cx31.out hm (fun _ h=>h.elim) (by intro k h0 h2;exact h2))
   clear hm Cx31
   clear act E qjoin1 HAF1
   refine QSeq.pure rfl _ (fun E=>Af rfl (E.d 5 0)) ?_
   have Hx34:=hid (Hx30.out.mod HMu7_5.out (by intro k h1 h2;omega))
   clear Hx30 HMu7_5
   refine QSeq.nil (t':=[_,_,_,_,_,_,_]) rfl ?_
   obtain rfl:=HA0.out
   clear HA0 oe1 oe3
   simp only [pz,Act.put,sIB,sCZ,sCS]
   go_upto_region 8 with (fail)
   refine Aa 111 [41,42,43,44] [0,1,2,3] (fun a0 HA0=>?_)
   have oe1:=ev HA0 1 rfl
   refine QSeq.pure rfl (.pointer (some ⟨w.heap.size,3,none⟩)) (fun E=>Ad rfl Tryz.underlying45 rfl (by kernel_rfl) (E.v oe1)) ?_
   refine QSeq.pure rfl _ (fun E=>Aj rfl Tryz.underlying42 rfl (E.d 0 0) (Cs.lit1 (HKL1_3.out.mod Cx33.out (by intro h2;omega)) rfl)) ?_
   refine QSeq.pure rfl (.int .i64 x.os.length) (fun E=>A0 rfl (E.d 1 0) Tryz.underlying42) ?_
   refine QSeq.pure rfl (.int .i64 0) (fun E=>Ai rfl rfl) ?_
   refine QSeq.nil (t':=[_,_,_,_]) rfl ?_
   obtain rfl:=HA0.out
   clear HA0 oe1
   simp only [pz,Act.put,sIB,sCZ,sCS]
   go_wp2
   go_loopw [3,44] (fun ta ti wr=>∃ k:Nat,ti=.int .i64 (k:Int)∧k≤x.os.length∧u7_5.heap.size≤wr.heap.size∧OwR (fun b=>w1.heap.size≤b∧b < wr.heap.size) 900000 wr ta ((((encI x.ep ++ (encN x.tm ++ encI x.ps.length)) ++ (x.ps.map pmB).flatten) ++ encI x.os.length) ++ ((x.os.take k).map opB).flatten)∧RdS PmR R2 wr (.slice ao_sl_ps x.ps.length cap_sl_ps) x.ps∧RdS OpR R2 wr (.slice ao_sl_os x.os.length cap_sl_os) x.os∧RdS TbR R2 wr (.slice ao_sl_ts x.ts.length cap_sl_ts) x.ts∧Cs wr (w.heap.size) (x.cells (.slice ao_sl_ps x.ps.length cap_sl_ps) (.slice ao_sl_os x.os.length cap_sl_os) (.slice ao_sl_ts x.ts.length cap_sl_ts):List Value).toArray 45∧Mod (fun _=>False) w wr) (fun _ ti _=>x.os.length - (intOf ti).toNat)
   case atStart=>exact ⟨0,rfl,Nat.zero_le _,Nat.le_refl _,by have hq:=(Hx32.out.widen (R':=(fun b=>w1.heap.size≤b∧b < u7_5.heap.size)) (by intro k h1;omega) (Nat.le_refl _));simpa only [List.take_zero,List.map_nil,List.flatten_nil,List.append_nil,List.append_assoc] using hq,(HKL1_0.out.mod Cx33.out (sN HBT)),(HKL1_1.out.mod Cx33.out (sN HBT)),(HKL1_2.out.mod Cx33.out (sN HBT)),(HKL1_3.out.mod Cx33.out (by intro h2;omega)),(HML1.out.trans Cx33.out (by intro k h1 h2;omega))⟩
   case round=>
    obtain ⟨k2,rfl,hk,hz,ha,hk_0,hk_1,hk_2,hk_3,hm⟩:=hrel
    obtain ⟨wl2,rfl⟩:∃ x,x=wr:=⟨_,rfl⟩
    obtain ⟨aol2,capl2,rfl⟩:=ha.shape
    have HAL2:=Lib.hid ha
    have HKL2_0:=Lib.hid hk_0
    have HKL2_1:=Lib.hid hk_1
    have HKL2_2:=Lib.hid hk_2
    have HKL2_3:=Lib.hid hk_3
    have HML2:=Lib.hid hm
    clear ha hm hk_0 hk_1 hk_2 hk_3 HKL1_0 HKL1_1 HKL1_2 HKL1_3 HML1 Hx32 Hx34
    by_cases hlt2:k2 < x.os.length
    ·skip
     have hat:=HKL2_1.out.at hlt2
     obtain ⟨g2,o2,cs2,eao,hrg,hrd,hcs⟩:=hat
     subst eao
     have hcl:cs2.length=34:=OpR.len hrd
     have HCL2:=Lib.hid hcl
     have HAT2:=hid (show CellsAt R2 wl2 g2 (o2+k2 * 34) cs2 from ⟨hrg,hcs⟩)
     have HRD2:=Lib.hid hrd
     clear hcl hcs hrd hrg
     have HE2:Hid (((((encI x.ep ++ (encN x.tm ++ encI x.ps.length)) ++ (x.ps.map pmB).flatten) ++ encI x.os.length) ++ ((x.os.take k2).map opB).flatten) ++ opB x.os[k2]=(((encI x.ep ++ (encN x.tm ++ encI x.ps.length)) ++ (x.ps.map pmB).flatten) ++ encI x.os.length) ++ ((x.os.take (k2+1)).map opB).flatten):=hid (by rw [List.take_succ_eq_append_getElem hlt2,List.map_append,List.flatten_append];simp [List.append_assoc])
     have HB2':=hid (show (((((encI x.ep ++ (encN x.tm ++ encI x.ps.length)) ++ (x.ps.map pmB).flatten) ++ encI x.os.length) ++ ((x.os.take k2).map opB).flatten) ++ opB x.os[k2]).length≤900000 by rw [HE2.out];exact acc_len _ _ _ _ (by have:=HL.out;simp only [listB,List.length_append] at this ⊢; omega))
     have HBE2:=hid (show (opB x.os[k2]).length≤900000 by have:=HB2'.out;simp only [List.length_append] at this ⊢; omega)
     go_upto_region 10 with (fail)
     refine Aa 111 [46,5] [0,1] (fun a0 HA0=>?_)
     have oe44:=ev HA0 44 rfl
     refine QSeq.pure rfl _ (fun E=>Ai rfl (E.v oe44)) ?_
     refine QSeq.pure rfl _ (fun E=>Af rfl (E.d 0 0)) ?_
     refine QSeq.nil (t':=[_,_]) rfl ?_
     obtain rfl:=HA0.out
     clear HA0 oe44
     simp only [pz,Act.put,sIB,sCZ,sCS]
     go_upto_region 11 with (fail)
     refine Aa 111 [47,48,49,50,51,52,53,54,3] [0,1,2,3,4,5,6,7,8] (fun a0 HA0=>?_)
     have oe1:=ev HA0 1 rfl
     have oe3:=ev HA0 3 rfl
     have oe5:=ev HA0 5 rfl
     refine QSeq.pure rfl _ (fun E=>Ai rfl (E.y 8 oe3)) ?_
     refine QSeq.pure rfl (.pointer (some ⟨w.heap.size,3,none⟩)) (fun E=>Ad rfl Tryz.underlying45 rfl (by kernel_rfl) (E.v oe1)) ?_
     refine QSeq.pure rfl _ (fun E=>Aj rfl Tryz.underlying42 rfl (E.d 1 0) (Cs.lit1 HKL2_3.out rfl)) ?_
     refine QSeq.pure rfl _ (fun E=>Ai rfl (E.v oe5)) ?_
     refine QSeq.pure rfl (.pointer (some ⟨g2,o2+k2 * 34,none⟩)) (fun E=>Bk (i:=k2) (s:=34) rfl Tryz.underlying42 (by kernel_rfl) (E.d 2 1) (E.d 3 0) hlt2) ?_
     refine QSeq.pure rfl _ (fun E=>Am rfl Tryz.underlying54 rfl (off:=o2+k2 * 34) (cs:=cs2) (by rw [HCL2.out];kernel_rfl) (E.d 4 0) (fun j u hu=>(HAT2.out).2 j u hu)) ?_
     refine QSeq.call rfl rfl Tryz.func33 (RefOp_Q _ _ (x.os[k2]) _ HRD2.out (by intro k h1;have hb:=HBT.out k h1;omega) HBE2.out) (fun E=>Aw (E.d 5 0)) ?_
     rintro e u11_6 ⟨v_a6,rfl,qa6,hm⟩
     obtain ⟨ao_a6,cap_a6,rfl⟩:=qa6.shape
     refine ⟨_,rfl,?_⟩
     have Hx35:=hid qa6
     have zu11_6:=hm.size
     have Cx36:=hid (show Mod (fun _=>False) wl2 u11_6 from hm)
     clear hm
     clear qa6
     refine QSeq.go fun act E=>?_
     refine qc_appR rfl (Ac rfl) rfl (E.d 0 6) (E.d 6 0) (HAL2.out.mod Cx36.out (fun _ _ h=>h)) Hx35.out.rd HB2'.out ?_
     intro ao17 cap17 u11_7 qjoin1 hm
     have Hx37:=hid (qjoin1.widen (R':=(fun k=>(New w1 wl2 k)∨(New u11_6 u11_7 k))) (fun _ h=>h) (Nat.le_refl _))
     have zu11_7:=hm.size
     have HMu11_7:=hid hm
     have Cx38:=hid (Mod.goS (S':=(fun k=>(New w1 wl2 k))) Cx36.out hm (fun _ h=>h.elim) (by intro k h0 h2;exact h2))
     clear hm Cx36
     clear act E qjoin1 HAL2
     refine QSeq.pure rfl _ (fun E=>Af rfl (E.d 7 0)) ?_
     have Hx39:=hid (Hx35.out.mod HMu11_7.out (by intro k h1 h2;omega))
     clear Hx35 HMu11_7
     refine QSeq.nil (t':=[_,_,_,_,_,_,_,_,_]) rfl ?_
     obtain rfl:=HA0.out
     clear HA0 oe1 oe3 oe5
     simp only [pz,Act.put,sIB,sCZ,sCS]
     have hq:=Hx37.out
     rw [HE2.out] at hq
     have HQ2:=Lib.hid hq
     clear hq
     go_wp2
     go_roundw
     case rel=>exact ⟨k2+1,by go_num,by omega,by omega,(HQ2.out.widen (by intro b h1;omega) (Nat.le_refl _)),(HKL2_0.out.mod Cx38.out (sN HBT)),(HKL2_1.out.mod Cx38.out (sN HBT)),(HKL2_2.out.mod Cx38.out (sN HBT)),(HKL2_3.out.mod Cx38.out (by intro h2;omega)),(HML2.out.trans Cx38.out (by intro k h1 h2;omega))⟩
     case measure=>simp [intOf];omega
    ·obtain rfl:k2=x.os.length:=by omega
     have hq:=HAL2.out
     rw [List.take_length] at hq
     have HAF2:=Lib.hid hq
     clear hq
     rw [List.take_length]
     go_upto_region 13 with (fail)
     refine Aa 111 [56,57,58,59,60,61,3] [0,1,2,3,4,5,6] (fun a0 HA0=>?_)
     have oe1:=ev HA0 1 rfl
     have oe3:=ev HA0 3 rfl
     refine QSeq.pure rfl _ (fun E=>Ai rfl (E.y 6 oe3)) ?_
     refine QSeq.pure rfl (.pointer (some ⟨w.heap.size,4,none⟩)) (fun E=>Ad rfl Tryz.underlying45 rfl (by kernel_rfl) (E.v oe1)) ?_
     refine QSeq.pure rfl _ (fun E=>Aj rfl Tryz.underlying43 rfl (E.d 1 0) (Cs.lit1 HKL2_3.out rfl)) ?_
     refine QSeq.pure rfl (.int .i64 x.ts.length) (fun E=>A0 rfl (E.d 2 0) Tryz.underlying43) ?_
     refine QSeq.call rfl rfl Tryz.func22 (A9 _ HI2.out _) (fun E=>Aw (E.d 3 0)) ?_
     rintro e u13_4 ⟨v_a7,rfl,qa7,hm⟩
     obtain ⟨ao_a7,cap_a7,rfl⟩:=qa7.shape
     refine ⟨_,rfl,?_⟩
     have Hx40:=hid qa7
     have zu13_4:=hm.size
     have Cx41:=hid (show Mod (fun _=>False) wl2 u13_4 from hm)
     clear hm
     clear qa7
     refine QSeq.go fun act E=>?_
     refine qc_appR rfl (Ac rfl) rfl (E.d 0 4) (E.d 4 0) (HAF2.out.mod Cx41.out (fun _ _ h=>h)) Hx40.out.rd (by have:=HL.out;simp only [listB,List.length_append] at this ⊢; omega) ?_
     intro ao17 cap17 u13_5 qjoin1 hm
     have Hx42:=hid (qjoin1.widen (R':=(fun k=>(New w1 wl2 k)∨(New u13_4 u13_5 k))) (fun _ h=>h) (Nat.le_refl _))
     have zu13_5:=hm.size
     have HMu13_5:=hid hm
     have Cx43:=hid (Mod.goS (S':=(fun k=>(New w1 wl2 k))) Cx41.out hm (fun _ h=>h.elim) (by intro k h0 h2;exact h2))
     clear hm Cx41
     clear act E qjoin1 HAF2
     refine QSeq.pure rfl _ (fun E=>Af rfl (E.d 5 0)) ?_
     have Hx44:=hid (Hx40.out.mod HMu13_5.out (by intro k h1 h2;omega))
     clear Hx40 HMu13_5
     refine QSeq.nil (t':=[_,_,_,_,_,_,_]) rfl ?_
     obtain rfl:=HA0.out
     clear HA0 oe1 oe3
     simp only [pz,Act.put,sIB,sCZ,sCS]
     go_upto_region 14 with (fail)
     refine Aa 111 [62,63,64,65] [0,1,2,3] (fun a0 HA0=>?_)
     have oe1:=ev HA0 1 rfl
     refine QSeq.pure rfl (.pointer (some ⟨w.heap.size,4,none⟩)) (fun E=>Ad rfl Tryz.underlying45 rfl (by kernel_rfl) (E.v oe1)) ?_
     refine QSeq.pure rfl _ (fun E=>Aj rfl Tryz.underlying43 rfl (E.d 0 0) (Cs.lit1 (HKL2_3.out.mod Cx43.out (by intro h2;omega)) rfl)) ?_
     refine QSeq.pure rfl (.int .i64 x.ts.length) (fun E=>A0 rfl (E.d 1 0) Tryz.underlying43) ?_
     refine QSeq.pure rfl (.int .i64 0) (fun E=>Ai rfl rfl) ?_
     refine QSeq.nil (t':=[_,_,_,_]) rfl ?_
     obtain rfl:=HA0.out
     clear HA0 oe1
     simp only [pz,Act.put,sIB,sCZ,sCS]
     go_wp2
     go_loopw [3,65] (fun ta ti wr=>∃ k:Nat,ti=.int .i64 (k:Int)∧k≤x.ts.length∧u13_5.heap.size≤wr.heap.size∧OwR (fun b=>w1.heap.size≤b∧b < wr.heap.size) 900000 wr ta ((((((encI x.ep ++ (encN x.tm ++ encI x.ps.length)) ++ (x.ps.map pmB).flatten) ++ encI x.os.length) ++ (x.os.map opB).flatten) ++ encI x.ts.length) ++ ((x.ts.take k).map tbB).flatten)∧RdS PmR R2 wr (.slice ao_sl_ps x.ps.length cap_sl_ps) x.ps∧RdS OpR R2 wr (.slice ao_sl_os x.os.length cap_sl_os) x.os∧RdS TbR R2 wr (.slice ao_sl_ts x.ts.length cap_sl_ts) x.ts∧Cs wr (w.heap.size) (x.cells (.slice ao_sl_ps x.ps.length cap_sl_ps) (.slice ao_sl_os x.os.length cap_sl_os) (.slice ao_sl_ts x.ts.length cap_sl_ts):List Value).toArray 45∧Mod (fun _=>False) w wr) (fun _ ti _=>x.ts.length - (intOf ti).toNat)
     case atStart=>exact ⟨0,rfl,Nat.zero_le _,Nat.le_refl _,by have hq:=(Hx42.out.widen (R':=(fun b=>w1.heap.size≤b∧b < u13_5.heap.size)) (by intro k h1;omega) (Nat.le_refl _));simpa only [List.take_zero,List.map_nil,List.flatten_nil,List.append_nil,List.append_assoc] using hq,(HKL2_0.out.mod Cx43.out (sN HBT)),(HKL2_1.out.mod Cx43.out (sN HBT)),(HKL2_2.out.mod Cx43.out (sN HBT)),(HKL2_3.out.mod Cx43.out (by intro h2;omega)),(HML2.out.trans Cx43.out (by intro k h1 h2;omega))⟩
     case round=>
      obtain ⟨k3,rfl,hk,hz,ha,hk_0,hk_1,hk_2,hk_3,hm⟩:=hrel
      obtain ⟨wl3,rfl⟩:∃ x,x=wr:=⟨_,rfl⟩
      obtain ⟨aol3,capl3,rfl⟩:=ha.shape
      have HAL3:=Lib.hid ha
      have HKL3_0:=Lib.hid hk_0
      have HKL3_1:=Lib.hid hk_1
      have HKL3_2:=Lib.hid hk_2
      have HKL3_3:=Lib.hid hk_3
      have HML3:=Lib.hid hm
      clear ha hm hk_0 hk_1 hk_2 hk_3 HKL2_0 HKL2_1 HKL2_2 HKL2_3 HML2 Hx42 Hx44
      by_cases hlt3:k3 < x.ts.length
      ·skip
       have hat:=HKL3_2.out.at hlt3
       obtain ⟨g3,o3,cs3,eao,hrg,hrd,hcs⟩:=hat
       subst eao
       have hcl:cs3.length=2:=TbR.len hrd
       have HCL3:=Lib.hid hcl
       have HAT3:=hid (show CellsAt R2 wl3 g3 (o3+k3 * 2) cs3 from ⟨hrg,hcs⟩)
       have HRD3:=Lib.hid hrd
       clear hcl hcs hrd hrg
       obtain ⟨y3,hy3⟩:∃ y,y=x.ts[k3]:=⟨_,rfl⟩
       rw [← hy3] at HRD3
       have HE3:Hid (((((((encI x.ep ++ (encN x.tm ++ encI x.ps.length)) ++ (x.ps.map pmB).flatten) ++ encI x.os.length) ++ (x.os.map opB).flatten) ++ encI x.ts.length) ++ ((x.ts.take k3).map tbB).flatten) ++ tbB x.ts[k3]=(((((encI x.ep ++ (encN x.tm ++ encI x.ps.length)) ++ (x.ps.map pmB).flatten) ++ encI x.os.length) ++ (x.os.map opB).flatten) ++ encI x.ts.length) ++ ((x.ts.take (k3+1)).map tbB).flatten):=hid (by rw [List.take_succ_eq_append_getElem hlt3,List.map_append,List.flatten_append];simp [List.append_assoc])
       have HB3':=hid (show (((((((encI x.ep ++ (encN x.tm ++ encI x.ps.length)) ++ (x.ps.map pmB).flatten) ++ encI x.os.length) ++ (x.os.map opB).flatten) ++ encI x.ts.length) ++ ((x.ts.take k3).map tbB).flatten) ++ tbB x.ts[k3]).length≤900000 by rw [HE3.out];exact acc_len _ _ _ _ (by have:=HL.out;simp only [listB,tbB,List.length_append] at this ⊢; omega))
       have HBE3:=hid (show (tbB x.ts[k3]).length≤900000 by have:=HB3'.out;simp only [List.length_append] at this ⊢; omega)
       go_upto_region 16 with (fail)
       refine Aa 111 [67,6] [0,1] (fun a0 HA0=>?_)
       have oe65:=ev HA0 65 rfl
       refine QSeq.pure rfl _ (fun E=>Ai rfl (E.v oe65)) ?_
       refine QSeq.pure rfl _ (fun E=>Af rfl (E.d 0 0)) ?_
       refine QSeq.nil (t':=[_,_]) rfl ?_
       obtain rfl:=HA0.out
       clear HA0 oe65
       simp only [pz,Act.put,sIB,sCZ,sCS]
       rw [← hy3] at HE3 HB3' HBE3
       clear hy3
       obtain ⟨v_t,rfl,htk,hts⟩:=HRD3.out
       obtain ⟨aot,cat,rfl⟩:=hts.shape
       have htb:y3.l.length≤maxLen:=hts.bd
       rw [Ax] at htb
       have HTI:=hid (show I64 (y3.l.length:Int) by unfold I64;omega)
       have HTK:=Lib.hid htk
       have HTS:=Lib.hid hts
       clear hts htk HRD3
       go_upto_region 17 with (fail)
       generalize ha0:Act.mk _ _=a0
       have oe1:a0.eval (.tmp 1)=.pointer (some ⟨w.heap.size,0,none⟩):=by rw [← ha0];rfl
       have oe3:a0.eval (.tmp 3)=.slice aol3 (((((((encI x.ep ++ (encN x.tm ++ encI x.ps.length)) ++ (x.ps.map pmB).flatten) ++ encI x.os.length) ++ (x.os.map opB).flatten) ++ encI x.ts.length) ++ ((x.ts.take k3).map tbB).flatten).length) capl3:=by rw [← ha0];rfl
       have oe6:a0.eval (.tmp 6)=.int .i64 ((k3:Nat):Int):=by rw [← ha0];rfl
       have hsz0:a0.tmps.size=111:=by rw [← ha0];rfl
       have HA0:=hid ha0
       clear ha0
       refine A1 111 hsz0 [68,69,70,71,72,73,74,75,76,77,78,79,80,81,82,83,84,85,3] [qi (.slice aol3 (((((((encI x.ep ++ (encN x.tm ++ encI x.ps.length)) ++ (x.ps.map pmB).flatten) ++ encI x.os.length) ++ (x.os.map opB).flatten) ++ encI x.ts.length) ++ ((x.ts.take k3).map tbB).flatten).length) capl3),qi (.pointer (some ⟨w.heap.size,4,none⟩)),qi (.slice (some ⟨g3,o3,none⟩) x.ts.length cap_sl_ts),qi (.int .i64 ((k3:Nat):Int)),qi (.pointer (some ⟨g3,o3+k3 * 2,none⟩)),qi (.pointer (some ⟨g3,o3+k3 * 2,none⟩)),qi (.int .i64 y3.ix),qv 0,qi (.pointer (some ⟨w.heap.size,4,none⟩)),qi (.slice (some ⟨g3,o3,none⟩) x.ts.length cap_sl_ts),qi (.int .i64 ((k3:Nat):Int)),qi (.pointer (some ⟨g3,o3+k3 * 2,none⟩)),qi (.pointer (some ⟨g3,o3+k3 * 2+1,none⟩)),qi (.slice aot y3.l.length cat),qi (.int .i64 y3.l.length),qv 1,qv 2,qv 3,qv 3] ⟨Ab,Ab,Ab,Ab,Ab,Ab,Ab,Ak,Ab,Ab,Ab,Ab,Ab,Ab,Ab,Ak,Ak,Ak,Ak,trivial⟩ [7,15,16,17] ⟨?_,?_,?_,?_,?_,?_,?_,?_,?_,?_,?_,?_,?_,?_,?_,?_,?_,?_,?_,trivial⟩ ?_
       ·exact stq (fun E=>Ai rfl ((E.pre 18 3 rfl (by kernel_rfl)).trans oe3))
       ·exact stq (fun E=>Ad rfl Tryz.underlying45 rfl (by kernel_rfl) (E.v oe1))
       ·exact stq (fun E=>Aj rfl Tryz.underlying43 rfl (E.d 1) (Cs.lit1 (HKL3_3.out.mod E.m.old (by intro h2;omega)) rfl))
       ·exact stq (fun E=>Ai rfl (E.v oe6))
       ·exact stq (fun E=>Bk (i:=k3) (s:=2) rfl Tryz.underlying43 (by kernel_rfl) (E.d 2) (E.d 3) hlt3)
       ·exact stq (fun E=>Ad rfl Tryz.underlying127 rfl (by kernel_rfl) (E.d 4))
       ·exact stq (fun E=>Aj rfl Tryz.underlying3 rfl (E.d 5) (((HAT3.out.mod E.m.old (by intro k h1 h2;have hb:=HBT.out k h1;omega))).2 0 _ rfl))
       ·exact Ah rfl
       ·exact stq (fun E=>Ad rfl Tryz.underlying45 rfl (by kernel_rfl) (E.v oe1))
       ·exact stq (fun E=>Aj rfl Tryz.underlying43 rfl (E.d 8) (Cs.lit1 (HKL3_3.out.mod E.m.old (by intro h2;omega)) rfl))
       ·exact stq (fun E=>Ai rfl (E.v oe6))
       ·exact stq (fun E=>Bk (i:=k3) (s:=2) rfl Tryz.underlying43 (by kernel_rfl) (E.d 9) (E.d 10) hlt3)
       ·exact stq (fun E=>Ad rfl Tryz.underlying127 rfl (by kernel_rfl) (E.d 11))
       ·exact stq (fun E=>Aj rfl Tryz.underlying125 rfl (E.d 12) (((HAT3.out.mod E.m.old (by intro k h1 h2;have hb:=HBT.out k h1;omega))).2 1 _ rfl))
       ·exact stq (fun E=>A0 rfl (E.d 13) Tryz.underlying125)
       ·exact Ah rfl
       ·exact Ah rfl
       ·exact Ah rfl
       ·refine Av rfl rfl rfl fun _ _ _ _ _ _ _ _ _ hd _ _=>?_
        have h17:=hd ⟨17,.data⟩ (by simp) rfl _ rfl
        exact Bd rfl (Ac rfl) (Af rfl rfl) QE.refl h17
       intro u17_0 hr
       have zu17_0:=hr.size
       have Cx45:=hid (hr.new (S:=(fun _=>False)))
       clear hr
       refine QChain.go fun Z act E=>?_
       refine Ap (args:=#[.int .i64 y3.ix]) rfl (Ac rfl) rfl Tryz.func22 (Aw (E.d 6)) (A9 _ HTK.out _) ?_
       rintro e u17_1a ⟨v_a8,rfl,qa8,hm⟩
       obtain ⟨ao_a8,cap_a8,rfl⟩:=qa8.shape
       have zu17_1a:=hm.size
       refine ⟨_,rfl,hm.mono (fun _ _ h=>h.elim),(fun _=>rfl),?_⟩
       intro u17_1 hr
       have zu17_1:=hr.size
       have Hx46:=hid ((qa8.widen (R':=(fun k=>(New u17_0 u17_1a k))) (fun _ h=>h) (Nat.le_refl _)).mod hr (by intro k h1 h2;omega))
       have Cx47:=hid (Cx45.out.go hm hr)
       clear Cx45 hm hr Z act E qa8
       refine QChain.go fun Z act E=>?_
       refine Ap (args:=#[.int .i64 y3.l.length]) rfl (Ac rfl) rfl Tryz.func22 (Aw (E.d 14)) (A9 _ HTI.out _) ?_
       rintro e u17_2a ⟨v_a9,rfl,qa9,hm⟩
       obtain ⟨ao_a9,cap_a9,rfl⟩:=qa9.shape
       have zu17_2a:=hm.size
       refine ⟨_,rfl,hm.mono (fun _ _ h=>h.elim),(fun _=>rfl),?_⟩
       intro u17_2 hr
       have zu17_2:=hr.size
       have Hx48:=hid ((qa9.widen (R':=(fun k=>(New u17_1 u17_2a k))) (fun _ h=>h) (Nat.le_refl _)).mod hr (by intro k h1 h2;omega))
       have hmr:=Mod.after hm hr
       have Hx49:=hid (Hx46.out.mod hmr (by intro k h1 h2;omega))
       clear Hx46
       clear hmr
       have Cx50:=hid (Cx47.out.go hm hr)
       clear Cx47 hm hr Z act E qa9
       refine QChain.go fun Z act E=>?_
       have ea68:act.eval (.tmp 68)=.slice aol3 (((((((encI x.ep ++ (encN x.tm ++ encI x.ps.length)) ++ (x.ps.map pmB).flatten) ++ encI x.os.length) ++ (x.os.map opB).flatten) ++ encI x.ts.length) ++ ((x.ts.take k3).map tbB).flatten).length) capl3:=(E.d 0)
       have ea75:act.eval (.tmp 75)=.slice ao_a8 ((encI y3.ix).length) cap_a8:=(chv (v:=.slice ao_a8 ((encI y3.ix).length) cap_a8) (E.d 7))
       have ea83:act.eval (.tmp 83)=.slice ao_a9 ((encI y3.l.length).length) cap_a9:=(chv (v:=.slice ao_a9 ((encI y3.l.length).length) cap_a9) (E.d 15))
       refine Bl rfl (Ac rfl) rfl Tryz.underlying124 (by decide) (C:=#[.slice aol3 (((((((encI x.ep ++ (encN x.tm ++ encI x.ps.length)) ++ (x.ps.map pmB).flatten) ++ encI x.os.length) ++ (x.os.map opB).flatten) ++ encI x.ts.length) ++ ((x.ts.take k3).map tbB).flatten).length) capl3,.slice ao_a8 ((encI y3.ix).length) cap_a8,.slice ao_a9 ((encI y3.l.length).length) cap_a9]) (by simp only [List.map_toArray,List.map_cons,List.map_nil,ea68,ea75,ea83];kernel_rfl) ?_
       intro u17_3a qrow16 hm
       have zl17_16:=qrow16.lt
       have zu17_3a:=hm.size
       refine ⟨hm.mono (fun _ _ h=>h.elim),(fun _=>rfl),?_⟩
       intro u17_3 hr
       have zu17_3:=hr.size
       have Hx51:=hid (qrow16.mod hr (by intro h2;omega))
       have hmr:=Mod.after hm hr
       have Hx52:=hid (Hx49.out.mod hmr (by intro k h1 h2;omega))
       have Hx53:=hid (Hx48.out.mod hmr (by intro k h1 h2;omega))
       clear Hx49 Hx48
       clear hmr
       have Cx54:=hid (Cx50.out.go hm hr)
       clear Cx50 hm hr Z act E qrow16 ea68 ea75 ea83
       refine QChain.go fun Z act E=>?_
       refine Ap (args:=#[.slice (some ⟨u17_2.heap.size,0,none⟩) 3 3]) rfl (Ac rfl) rfl Tryz.func21 (Aw (chv (v:=.slice (some ⟨u17_2.heap.size,0,none⟩) 3 3) (E.d 16))) (Join_Q (n:=3)  Hx51.out [(.slice aol3 (((((((encI x.ep ++ (encN x.tm ++ encI x.ps.length)) ++ (x.ps.map pmB).flatten) ++ encI x.os.length) ++ (x.os.map opB).flatten) ++ encI x.ts.length) ++ ((x.ts.take k3).map tbB).flatten).length) capl3,((((((encI x.ep ++ (encN x.tm ++ encI x.ps.length)) ++ (x.ps.map pmB).flatten) ++ encI x.os.length) ++ (x.os.map opB).flatten) ++ encI x.ts.length) ++ ((x.ts.take k3).map tbB).flatten)),(.slice ao_a8 ((encI y3.ix).length) cap_a8,encI y3.ix),(.slice ao_a9 ((encI y3.l.length).length) cap_a9,encI y3.l.length)] rfl rfl (by intro p hp;simp only [List.mem_cons,List.not_mem_nil,or_false] at hp;rcases hp with rfl|rfl|rfl<;>first|exact (HAL3.out.mod Cx54.out (fun _ _ h=>h)).rd.1|exact Hx52.out.rd.1|exact Hx53.out.rd.1) (by simp) (show flat _=(((((((encI x.ep ++ (encN x.tm ++ encI x.ps.length)) ++ (x.ps.map pmB).flatten) ++ encI x.os.length) ++ (x.os.map opB).flatten) ++ encI x.ts.length) ++ ((x.ts.take k3).map tbB).flatten)) ++ (encI y3.ix ++ encI y3.l.length) from by simp only [flat,List.map_cons,List.map_nil,List.flatten_cons,List.flatten_nil,List.append_nil]) (by have:=HB3'.out;simp only [tbB,listB,List.length_append] at this ⊢; omega)) ?_
       rintro e u17_4a ⟨v_join2,rfl,qjoin2,hm⟩
       have zu17_4a:=hm.size
       refine ⟨_,rfl,hm.mono (fun _ _ h=>h.elim),(fun _=>rfl),?_⟩
       intro u17_4 hr
       have zu17_4:=hr.size
       have Hx55:=hid ((qjoin2.widen (R':=(fun k=>(New u17_3 u17_4a k))) (fun _ h=>h) (Nat.le_refl _)).mod hr (by intro k h1 h2;omega))
       have hmr:=Mod.after hm hr
       have Hx56:=hid (Hx52.out.mod hmr (by intro k h1 h2;omega))
       have Hx57:=hid (Hx53.out.mod hmr (by intro k h1 h2;omega))
       have Hx58:=hid (Hx51.out.mod hmr (by intro h2;omega))
       clear Hx52 Hx53 Hx51
       clear hmr
       have Cx59:=hid (Cx54.out.go hm hr)
       clear Cx54 hm hr Z act E qjoin2
       refine QChain.nil fun vs hl hzz hrows hne=>?_
       obtain ⟨Z,hYZ,hZb,hV⟩:=hzz
       have f0:=fvi hV hl 0
       have f3:=fvi hV hl 3
       have f7:=fvc hV hl 7
       have f10:=fvi hV hl 10
       have f14:=fvi hV hl 14
       have f15:=fvc hV hl 15
       have f16:=fvc hV hl 16
       have f17:=fvc hV hl 17
       have f18:=fvc hV hl 18
       rw [show vs=[gw vs 0,gw vs 1,gw vs 2,gw vs 3,gw vs 4,gw vs 5,gw vs 6,gw vs 7,gw vs 8,gw vs 9,gw vs 10,gw vs 11,gw vs 12,gw vs 13,gw vs 14,gw vs 15,gw vs 16,gw vs 17,gw vs 18] from (Be hl).trans rfl]
       have ha0:=HA0.out
       subst ha0
       clear HA0 hV hYZ hZb hsz0 hrows hne oe1 oe3 oe6
       simp only [Au,Act.put,sIB,sCZ,sCS,f0,f3,f7,f10,f14,f15,f16,f17,f18]
       clear hl f0 f3 f7 f10 f14 f15 f16 f17 f18
       go_upto_region 18 with (fail)
       refine Aa 111 [86,87,88,89,90,91,92,93] [0,1,2,3,4,5,6,7] (fun a0 HA0=>?_)
       have oe1:=ev HA0 1 rfl
       have oe6:=ev HA0 6 rfl
       refine QSeq.pure rfl (.pointer (some ⟨w.heap.size,4,none⟩)) (fun E=>Ad rfl Tryz.underlying45 rfl (by kernel_rfl) (E.v oe1)) ?_
       refine QSeq.pure rfl _ (fun E=>Aj rfl Tryz.underlying43 rfl (E.d 0 0) (Cs.lit1 (HKL3_3.out.mod Cx59.out (fun h=>h)) rfl)) ?_
       refine QSeq.pure rfl _ (fun E=>Ai rfl (E.v oe6)) ?_
       refine QSeq.pure rfl (.pointer (some ⟨g3,o3+k3 * 2,none⟩)) (fun E=>Bk (i:=k3) (s:=2) rfl Tryz.underlying43 (by kernel_rfl) (E.d 1 1) (E.d 2 0) hlt3) ?_
       refine QSeq.pure rfl (.pointer (some ⟨g3,o3+k3 * 2+1,none⟩)) (fun E=>Ad rfl Tryz.underlying127 rfl (by kernel_rfl) (E.d 3 0)) ?_
       refine QSeq.pure rfl (.slice aot y3.l.length cat) (fun E=>Aj rfl Tryz.underlying125 rfl (E.d 4 0) (((HAT3.out.mod Cx59.out (fun _ _ h=>h))).2 1 _ rfl)) ?_
       refine QSeq.pure rfl (.int .i64 y3.l.length) (fun E=>A0 rfl (E.d 5 0) Tryz.underlying125) ?_
       refine QSeq.pure rfl (.int .i64 0) (fun E=>Ai rfl rfl) ?_
       refine QSeq.nil (t':=[_,_,_,_,_,_,_,_]) rfl ?_
       obtain rfl:=HA0.out
       clear HA0 oe1 oe6
       simp only [pz,Act.put,sIB,sCZ,sCS]
       go_wp2
       go_loopw [3,93] (fun ta ti wr=>∃ k:Nat,ti=.int .i64 (k:Int)∧k≤y3.l.length∧u17_4.heap.size≤wr.heap.size∧OwR (fun b=>w1.heap.size≤b∧b < wr.heap.size) 900000 wr ta ((((((((encI x.ep ++ (encN x.tm ++ encI x.ps.length)) ++ (x.ps.map pmB).flatten) ++ encI x.os.length) ++ (x.os.map opB).flatten) ++ encI x.ts.length) ++ ((x.ts.take k3).map tbB).flatten) ++ (encI y3.ix ++ encI y3.l.length)) ++ ((y3.l.take k).map dnB).flatten)∧RdS PmR R2 wr (.slice ao_sl_ps x.ps.length cap_sl_ps) x.ps∧RdS OpR R2 wr (.slice ao_sl_os x.os.length cap_sl_os) x.os∧RdS TbR R2 wr (.slice (some ⟨g3,o3,none⟩) x.ts.length cap_sl_ts) x.ts∧Cs wr (w.heap.size) (x.cells (.slice ao_sl_ps x.ps.length cap_sl_ps) (.slice ao_sl_os x.os.length cap_sl_os) (.slice (some ⟨g3,o3,none⟩) x.ts.length cap_sl_ts):List Value).toArray 45∧CellsAt R2 wr g3 (o3+k3 * 2) (y3.cells (.slice aot y3.l.length cat))∧RdS DnR R2 wr (.slice aot y3.l.length cat) y3.l∧Mod (fun _=>False) w wr) (fun _ ti _=>y3.l.length - (intOf ti).toNat)
       case atStart=>exact ⟨0,rfl,Nat.zero_le _,Nat.le_refl _,by have hq:=(Hx55.out.widen (R':=(fun b=>w1.heap.size≤b∧b < u17_4.heap.size)) (by intro k h1;omega) (Nat.le_refl _));simpa only [List.take_zero,List.map_nil,List.flatten_nil,List.append_nil,List.append_assoc] using hq,(HKL3_0.out.mod Cx59.out (fun _ _ h=>h)),(HKL3_1.out.mod Cx59.out (fun _ _ h=>h)),(HKL3_2.out.mod Cx59.out (fun _ _ h=>h)),(HKL3_3.out.mod Cx59.out (fun h=>h)),(HAT3.out.mod Cx59.out (fun _ _ h=>h)),(HTS.out.mod Cx59.out (fun _ _ h=>h)),(HML3.out.trans Cx59.out (fun _ _ h=>h.elim))⟩
       case round=>
        obtain ⟨k4,rfl,hk,hz,ha,hk_0,hk_1,hk_2,hk_3,hk_4,hk_5,hm⟩:=hrel
        obtain ⟨wl4,rfl⟩:∃ x,x=wr:=⟨_,rfl⟩
        obtain ⟨aol4,capl4,rfl⟩:=ha.shape
        have HAL4:=Lib.hid ha
        have HKL4_0:=Lib.hid hk_0
        have HKL4_1:=Lib.hid hk_1
        have HKL4_2:=Lib.hid hk_2
        have HKL4_3:=Lib.hid hk_3
        have HKL4_4:=Lib.hid hk_4
        have HKL4_5:=Lib.hid hk_5
        have HML4:=Lib.hid hm
        clear ha hm hk_0 hk_1 hk_2 hk_3 hk_4 hk_5 HKL3_0 HKL3_1 HKL3_2 HKL3_3 HML3 HAL3 HAT3 HTS Hx56 Hx57 Hx58 Hx55
        by_cases hlt4:k4 < y3.l.length
        ·skip
         have hat:=HKL4_5.out.at hlt4
         obtain ⟨g4,o4,cs4,eao,hrg,hrd,hcs⟩:=hat
         subst eao
         have hcl:cs4.length=4:=DnR.len hrd
         have HCL4:=Lib.hid hcl
         have HAT4:=hid (show CellsAt R2 wl4 g4 (o4+k4 * 4) cs4 from ⟨hrg,hcs⟩)
         have HRD4:=Lib.hid hrd
         clear hcl hcs hrd hrg
         have HE4:Hid (((((((((encI x.ep ++ (encN x.tm ++ encI x.ps.length)) ++ (x.ps.map pmB).flatten) ++ encI x.os.length) ++ (x.os.map opB).flatten) ++ encI x.ts.length) ++ ((x.ts.take k3).map tbB).flatten) ++ (encI y3.ix ++ encI y3.l.length)) ++ ((y3.l.take k4).map dnB).flatten) ++ dnB y3.l[k4]=(((((((encI x.ep ++ (encN x.tm ++ encI x.ps.length)) ++ (x.ps.map pmB).flatten) ++ encI x.os.length) ++ (x.os.map opB).flatten) ++ encI x.ts.length) ++ ((x.ts.take k3).map tbB).flatten) ++ (encI y3.ix ++ encI y3.l.length)) ++ ((y3.l.take (k4+1)).map dnB).flatten):=hid (by rw [List.take_succ_eq_append_getElem hlt4,List.map_append,List.flatten_append];simp [List.append_assoc])
         have HB4':=hid (show (((((((((encI x.ep ++ (encN x.tm ++ encI x.ps.length)) ++ (x.ps.map pmB).flatten) ++ encI x.os.length) ++ (x.os.map opB).flatten) ++ encI x.ts.length) ++ ((x.ts.take k3).map tbB).flatten) ++ (encI y3.ix ++ encI y3.l.length)) ++ ((y3.l.take k4).map dnB).flatten) ++ dnB y3.l[k4]).length≤900000 by rw [HE4.out];exact acc_len _ _ _ _ (by have:=HB3'.out;simp only [listB,tbB,List.length_append] at this ⊢; omega))
         have HBE4:=hid (show (dnB y3.l[k4]).length≤900000 by have:=HB4'.out;simp only [List.length_append] at this ⊢; omega)
         go_upto_region 20 with (fail)
         refine Aa 111 [95,7] [0,1] (fun a0 HA0=>?_)
         have oe93:=ev HA0 93 rfl
         refine QSeq.pure rfl _ (fun E=>Ai rfl (E.v oe93)) ?_
         refine QSeq.pure rfl _ (fun E=>Af rfl (E.d 0 0)) ?_
         refine QSeq.nil (t':=[_,_]) rfl ?_
         obtain rfl:=HA0.out
         clear HA0 oe93
         simp only [pz,Act.put,sIB,sCZ,sCS]
         go_upto_region 21 with (fail)
         refine Aa 111 [96,97,98,99,100,101,102,103,104,105,106,107,3] [0,1,2,3,4,5,6,7,8,9,10,11,12] (fun a0 HA0=>?_)
         have oe1:=ev HA0 1 rfl
         have oe3:=ev HA0 3 rfl
         have oe6:=ev HA0 6 rfl
         have oe7:=ev HA0 7 rfl
         refine QSeq.pure rfl _ (fun E=>Ai rfl (E.y 12 oe3)) ?_
         refine QSeq.pure rfl (.pointer (some ⟨w.heap.size,4,none⟩)) (fun E=>Ad rfl Tryz.underlying45 rfl (by kernel_rfl) (E.v oe1)) ?_
         refine QSeq.pure rfl _ (fun E=>Aj rfl Tryz.underlying43 rfl (E.d 1 0) (Cs.lit1 HKL4_3.out rfl)) ?_
         refine QSeq.pure rfl _ (fun E=>Ai rfl (E.v oe6)) ?_
         refine QSeq.pure rfl (.pointer (some ⟨g3,o3+k3 * 2,none⟩)) (fun E=>Bk (i:=k3) (s:=2) rfl Tryz.underlying43 (by kernel_rfl) (E.d 2 1) (E.d 3 0) hlt3) ?_
         refine QSeq.pure rfl (.pointer (some ⟨g3,o3+k3 * 2+1,none⟩)) (fun E=>Ad rfl Tryz.underlying127 rfl (by kernel_rfl) (E.d 4 0)) ?_
         refine QSeq.pure rfl (.slice (some ⟨g4,o4,none⟩) y3.l.length cat) (fun E=>Aj rfl Tryz.underlying125 rfl (E.d 5 0) ((HKL4_4.out).2 1 _ rfl)) ?_
         refine QSeq.pure rfl _ (fun E=>Ai rfl (E.v oe7)) ?_
         refine QSeq.pure rfl (.pointer (some ⟨g4,o4+k4 * 4,none⟩)) (fun E=>Bk (i:=k4) (s:=4) rfl Tryz.underlying125 (by kernel_rfl) (E.d 6 1) (E.d 7 0) hlt4) ?_
         refine QSeq.pure rfl _ (fun E=>Am rfl Tryz.underlying56 rfl (off:=o4+k4 * 4) (cs:=cs4) (by rw [HCL4.out];kernel_rfl) (E.d 8 0) (fun j u hu=>(HAT4.out).2 j u hu)) ?_
         refine QSeq.call rfl rfl Tryz.func34 (RefDn_Q _ _ (y3.l[k4]) _ HRD4.out (by intro k h1;have hb:=HBT.out k h1;omega) HBE4.out) (fun E=>Aw (E.d 9 0)) ?_
         rintro e u21_10 ⟨v_a10,rfl,qa10,hm⟩
         obtain ⟨ao_a10,cap_a10,rfl⟩:=qa10.shape
         refine ⟨_,rfl,?_⟩
         have Hx60:=hid qa10
         have zu21_10:=hm.size
         have Cx61:=hid (show Mod (fun _=>False) wl4 u21_10 from hm)
         clear hm
         clear qa10
         refine QSeq.go fun act E=>?_
         refine qc_appR rfl (Ac rfl) rfl (E.d 0 10) (E.d 10 0) (HAL4.out.mod Cx61.out (fun _ _ h=>h)) Hx60.out.rd HB4'.out ?_
         intro ao30 cap30 u21_11 qjoin2 hm
         have Hx62:=hid (qjoin2.widen (R':=(fun k=>(New w1 wl4 k)∨(New u21_10 u21_11 k))) (fun _ h=>h) (Nat.le_refl _))
         have zu21_11:=hm.size
         have HMu21_11:=hid hm
         have Cx63:=hid (Mod.goS (S':=(fun k=>(New w1 wl4 k))) Cx61.out hm (fun _ h=>h.elim) (by intro k h0 h2;exact h2))
         clear hm Cx61
         clear act E qjoin2 HAL4
         refine QSeq.pure rfl _ (fun E=>Af rfl (E.d 11 0)) ?_
         have Hx64:=hid (Hx60.out.mod HMu21_11.out (by intro k h1 h2;omega))
         clear Hx60 HMu21_11
         refine QSeq.nil (t':=[_,_,_,_,_,_,_,_,_,_,_,_,_]) rfl ?_
         obtain rfl:=HA0.out
         clear HA0 oe1 oe3 oe6 oe7
         simp only [pz,Act.put,sIB,sCZ,sCS]
         have hq:=Hx62.out
         rw [HE4.out] at hq
         have HQ4:=Lib.hid hq
         clear hq
         go_wp2
         go_roundw
         case rel=>exact ⟨k4+1,by go_num,by omega,by omega,(HQ4.out.widen (by intro b h1;omega) (Nat.le_refl _)),(HKL4_0.out.mod Cx63.out (sN HBT)),(HKL4_1.out.mod Cx63.out (sN HBT)),(HKL4_2.out.mod Cx63.out (sN HBT)),(HKL4_3.out.mod Cx63.out (by intro h2;omega)),(HKL4_4.out.mod Cx63.out (sN HBT)),(HKL4_5.out.mod Cx63.out (sN HBT)),(HML4.out.trans Cx63.out (by intro k h1 h2;omega))⟩
         case measure=>simp [intOf];omega
        ·obtain rfl:k4=y3.l.length:=by omega
         have hq:=HAL4.out
         rw [List.take_length] at hq
         have HAF4:=Lib.hid hq
         clear hq
         rw [List.take_length]
         have hq:=HAF4.out
         have hb:(((((((encI x.ep ++ (encN x.tm ++ encI x.ps.length)) ++ (x.ps.map pmB).flatten) ++ encI x.os.length) ++ (x.os.map opB).flatten) ++ encI x.ts.length) ++ ((x.ts.take k3).map tbB).flatten) ++ (encI y3.ix ++ encI y3.l.length)) ++ (y3.l.map dnB).flatten=((((((encI x.ep ++ (encN x.tm ++ encI x.ps.length)) ++ (x.ps.map pmB).flatten) ++ encI x.os.length) ++ (x.os.map opB).flatten) ++ encI x.ts.length) ++ ((x.ts.take k3).map tbB).flatten) ++ tbB y3:=by simp only [tbB,listB,List.append_assoc]
         rw [hb] at hq
         have HQB:=Lib.hid hq
         clear hq
         rw [hb,HE3.out]
         have hq:=HQB.out
         rw [HE3.out] at hq
         have HQ3:=Lib.hid hq
         clear hq
         go_wp2
         go_roundw
         case rel=>exact ⟨k3+1,by go_num,by omega,by omega,(HQ3.out.widen (by intro b h1;omega) (Nat.le_refl _)),HKL4_0.out,HKL4_1.out,HKL4_2.out,HKL4_3.out,HML4.out⟩
         case measure=>simp [intOf];omega
      ·obtain rfl:k3=x.ts.length:=by omega
       have hq:=HAL3.out
       rw [List.take_length] at hq
       have HAF3:=Lib.hid hq
       clear hq
       rw [List.take_length]
       go_wp2
       go_ret
       have hq:=(HAF3.out.widen (R':=(fun k=>New w wl3 k)) (by intro k h1;omega) (Nat.le_refl _))
       have hb:((((((encI x.ep ++ (encN x.tm ++ encI x.ps.length)) ++ (x.ps.map pmB).flatten) ++ encI x.os.length) ++ (x.os.map opB).flatten) ++ encI x.ts.length) ++ (x.ts.map tbB).flatten)=baB x:=by simp only [baB,listB,List.append_assoc]
       rw [hb] at hq
       try rw [hb]
       exact ⟨_,rfl,hq,HML3.out⟩
end Go.Proofs.YtnaoeginonpicaaGreat

/- gavellaw02.wakes; bytes.Compare; sha.Less. -/
namespace Go.Proofs.YtnaoeginonpicaaGreat
open Go Go.RowKit Go.Gv
end Go.Proofs.YtnaoeginonpicaaGreat

/- gavelref01.turn; gavelref01.Sum: the same plain sum. -/
namespace Go.Proofs.YtnaoeginonpicaaGreat
open Go Go.RowKit Go.Gv
end Go.Proofs.YtnaoeginonpicaaGreat

/- As XVal3; besides: a slot that an operation reads ahead of the one that writes it. No program here. -/
namespace Go.Gv
open Go Go.RowKit
section
variable {P:Program} {ops:Array Oper} {Q:Exit→Act→World→Prop}
end
end Go.Gv

/- gavelref01.Sum: the same plain sum. -/
namespace Go.Proofs.YtnaoeginonpicaaGreat
open Go Go.RowKit Go.Gv
end Go.Proofs.YtnaoeginonpicaaGreat

/- The reference's hash of a batch, text of a proposal. -/
namespace Go.Proofs.YtnaoeginonpicaaGreat
open Go Go.RowKit Go.Gv
end Go.Proofs.YtnaoeginonpicaaGreat

/- How long bytes are; lists of values. -/
namespace Go.Proofs.YtnaoeginonpicaaGreat
open Go Go.RowKit Go.Gv
theorem RdS_mem {α:Type} {A:Rep α} {R:Nat→Prop} {w:World} {v:Value} {l:List α} (h:RdS A R w v l):∀ a ∈ l,∃ cs,A.rd R w cs a:=by
 obtain ⟨css,h1,h2,-⟩:=h
 intro a ha
 obtain ⟨i,hi,rfl⟩:=List.getElem_of_mem ha
 exact ⟨css[i],h2 i _ _ (List.getElem?_eq_getElem (by omega)) (List.getElem?_eq_getElem hi)⟩
theorem flatB_le {α:Type} (f:α→List Int) (N:Nat):∀ l:List α,(∀ a ∈ l,(f a).length≤N)→((l.map f).flatten).length≤l.length * N
 | [],_=>by simp
 | a :: r,h=>by
  have h1:=h a (by simp)
  have h2:=flatB_le f N r (fun b hb=>h b (by simp [hb]))
  simp only [List.map_cons,List.flatten_cons,List.length_append,List.length_cons,Nat.add_mul]
  omega
theorem listB_len {α:Type} (f:α→List Int) {N M:Nat} {l:List α} (hl:l.length≤M) (hM:M≤1000000) (h:∀ a ∈ l,(f a).length≤N):(listB f l).length≤10+M * N:=by
 have h1:=flatB_le f N l h
 have h2:=Ay (l.length:Int) (by unfold I64;omega)
 have h3:=Nat.mul_le_mul_right N hl
 simp only [listB,List.length_append]
 omega
theorem stB_len {x:St} (h:x.OK):(stB x).length≤92:=by
 have h1:=Ay _ h.rp;have h2:=Ay _ h.cl;have h3:=Ay _ h.sq;have h4:=(Bq h.tm).2;have h5:=Ay _ h.sb;have h6:=Ay _ h.mr;have h7:=h.h.1
 simp only [stB,nameB,sigB,List.length_append];omega
theorem cmB_len {x:Cm} (h:x.OK):(cmB x).length≤82:=by
 obtain ⟨⟨a,b,c,d,e⟩,f⟩:=h
 have h1:=Ay _ a;have h2:=Ay _ b;have h3:=Ay _ c;have h4:=Ay _ d;have h5:=Ay _ e;have h7:=f.1
 simp only [cmB,nameB,sigB,List.length_append];omega
theorem ceB_len {R:Nat→Prop} {w:World} {cs:List Value} {x:Ce} (h:CeR.rd R w cs x) (hl:x.l.length≤5):(ceB x).length≤552:=by
 obtain ⟨_,rfl,hok,hs⟩:=h
 have h1:=listB_len stB hl (by decide) (fun a ha=>by obtain ⟨cs,e,hk⟩:=RdS_mem hs a ha;exact stB_len hk)
 have h2:=cmB_len hok
 simp only [ceB,List.length_append];omega
theorem pmB_len {R:Nat→Prop} {w:World} {cs:List Value} {x:Pm} (h:PmR.rd R w cs x) (hl:∃ y,x=cutPm y):(pmB x).length≤1800:=by
 obtain ⟨y,rfl⟩:=hl
 obtain ⟨_,rfl,⟨a,b,c,d,e⟩,hs⟩:=h
 have h1:=Ay _ a;have h2:=Ay _ b;have h3:=(Bq c).2;have h4:=Ay _ d;have h5:=Ay _ e
 have h6:=listB_len ceB (M:=3) (show (cutPm y).l.length≤3 by simp [cutPm];omega) (by decide) (fun z hz=>by
  obtain ⟨cs,hc⟩:=RdS_mem hs z hz
  refine ceB_len hc ?_
  obtain ⟨u,-,rfl⟩:=List.mem_map.1 hz
  simp [cutCe];omega)
 simp only [pmB,sigB,List.length_append];omega
theorem opB_len {R:Nat→Prop} {w:World} {cs:List Value} {x:Op} (h:OpR.rd R w cs x) (hl:x.pl.length≤260):(opB x).length≤312:=by
 obtain ⟨_,rfl,⟨a,b⟩,hs⟩:=h
 have h1:=Ay _ a;have h2:=(Bq (n:=x.pl.length) (by unfold U64;omega)).2;have h3:=b.1
 simp only [opB,List.length_append];omega
theorem dnB_len {x:Dn} (h:x.OK):(dnB x).length≤40:=by
 have h1:=Ay _ h.rp;have h2:=Ay _ h.ix;have h5:=Ay _ h.sb;have h6:=Ay _ h.mr
 simp only [dnB,sigB,List.length_append];omega
theorem tbB_len {R:Nat→Prop} {w:World} {cs:List Value} {x:Tb} (h:TbR.rd R w cs x) (hl:x.l.length≤5):(tbB x).length≤220:=by
 obtain ⟨_,rfl,a,hs⟩:=h
 have h1:=Ay _ a
 have h2:=listB_len dnB hl (by decide) (fun z hz=>by obtain ⟨cs,e,hk⟩:=RdS_mem hs z hz;exact dnB_len hk)
 simp only [tbB,List.length_append];omega
end Go.Proofs.YtnaoeginonpicaaGreat

/- What the readers of parts answer, in plain words; that what was put is read as it was, and that what is read was put so. -/
namespace Go.Proofs.YtnaoeginonpicaaGreat
open Go Go.RowKit Go.Gv
/-- one read behind the other -/
def gb {α β:Type} (g:RSt→α × RSt) (k:α→RSt→β × RSt) (s:RSt):β × RSt:=k (g s).1 (g s).2
/-- a number up to 2^40 -/
def gI (s:RSt):Int × RSt:=(((rInt 1099511627776 s).1:Nat),(rInt 1099511627776 s).2)
/-- what is read was put so -/
def De {α:Type} (g:RSt→α × RSt) (Q:α→List Int→List Int→Prop):Prop:=∀ s r,(g s).2=some r→∃ l,s=some l∧(Bytes l→Q (g s).1 l r)
def Was {α:Type} (put:α→List Int) (ok:α→Prop) (x:α) (l r:List Int):Prop:=l=put x ++ r∧ok x
theorem De.bind {α β:Type} {g:RSt→α × RSt} {k:α→RSt→β × RSt} {put:α→List Int} {ok:α→Prop} {Q:α→β→List Int→List Int→Prop} (hg:De g (Was put ok)) (hk:∀ a,De (k a) (Q a)) :
 De (gb g k) (fun y l r=>∃ a l1,ok a∧l=put a ++ l1∧Q a y l1 r):=by
 intro s r h
 obtain ⟨l1,e1,h1⟩:=hk _ _ _ h
 obtain ⟨l,rfl,h2⟩:=hg _ _ e1
 refine ⟨l,rfl,fun hb=>?_⟩
 obtain ⟨h3,h4⟩:=h2 hb
 refine ⟨_,l1,h4,h3,h1 (fun x hx=>hb x ?_)⟩
 rw [h3]
 exact List.mem_append_right _ hx
theorem De.pure {β:Type} (y:β):De (fun s=>(y,s)) (fun y' l r=>y'=y∧l=r):=by
 intro s r h
 exact ⟨r,h,fun _=>⟨rfl,rfl⟩⟩
theorem De.mono {β:Type} {g:RSt→β × RSt} {Q Q':β→List Int→List Int→Prop} (h:De g Q) (hq:∀ y l r,Q y l r→Q' y l r):De g Q':=by
 intro s r hr
 obtain ⟨l,e,h2⟩:=h s r hr
 exact ⟨l,e,fun hb=>hq _ _ _ (h2 hb)⟩
theorem De.none {α:Type} {g:RSt→α × RSt} {Q:α→List Int→List Int→Prop} (h:De g Q):∀ s,s=none→(g s).2=none:=by
 intro s e
 cases hq:(g s).2 with
 | none=>rfl
 | some r=>obtain ⟨l,e2,-⟩:=h s r hq;rw [e] at e2;cases e2
/-! printed -/
end Go.Proofs.YtnaoeginonpicaaGreat

/- gavelref01.Reader: numbers, rows, hashes as the document reads them; code.Reader.Row for any bound. -/
namespace Go.Proofs.YtnaoeginonpicaaGreat
open Go Go.RowKit Go.Gv
end Go.Proofs.YtnaoeginonpicaaGreat

/- gavelref01.Reader: rows. -/
namespace Go.Proofs.YtnaoeginonpicaaGreat
open Go Go.RowKit Go.Gv
end Go.Proofs.YtnaoeginonpicaaGreat

/- gavelref01.Reader: hashes. -/
namespace Go.Proofs.YtnaoeginonpicaaGreat
open Go Go.RowKit Go.Gv
section
variable {R:Nat→Prop} {r:Nat} {s:RSt} {w:World}
end
end Go.Proofs.YtnaoeginonpicaaGreat

/- code.Reader.Row with any bound, over a text that is not long. -/
namespace Go.Proofs.YtnaoeginonpicaaGreat
open Go Go.RowKit Go.Gv
end Go.Proofs.YtnaoeginonpicaaGreat

/- A block's cells as parts, one behind the other: what lies at a part, what is laid over one, what a struct is built of. No program here. -/
namespace Go.Gv
open Go Go.RowKit
theorem seg_get:∀ (segs:List (List Value)) (i:Nat) {seg:List Value} (hs:segs[i]? = some seg) (j:Nat) (u:Value),seg[j]? = some u→segs.flatten[((segs.map List.length).take i).sum+j]? = some u
 | [],i,seg,hs,j,u,hu=>by simp at hs
 | a :: r,0,seg,hs,j,u,hu=>by
  simp only [List.getElem?_cons_zero,Option.some.injEq] at hs
  subst hs
  rw [List.take_zero,List.sum_nil,Nat.zero_add,List.flatten_cons,List.getElem?_append_left (List.getElem?_eq_some_iff.1 hu).1]
  exact hu
 | a :: r,i+1,seg,hs,j,u,hu=>by
  rw [List.getElem?_cons_succ] at hs
  rw [List.map_cons,List.take_succ_cons,List.sum_cons,List.flatten_cons,List.getElem?_append_right (by omega),show a.length+((r.map List.length).take i).sum+j - a.length=((r.map List.length).take i).sum+j by omega]
  exact seg_get r i hs j u hu
theorem Cs.seg {w:World} {g:Nat} {T:TypeId} {segs:List (List Value)} (h:Cs w g segs.flatten.toArray T) {ns:List Nat} (hn:segs.map List.length=ns) (i:Nat) {seg:List Value} (hs:segs[i]? = some seg) {off:Nat} (ho:(ns.take i).sum=off):∀ j u,seg[j]? = some u→w.cell? ⟨g,off+j,none⟩=some u:=by
 intro j u hu
 rw [h.cell,← ho,← hn]
 simpa using seg_get segs i hs j u hu
theorem Cs.seg1 {w:World} {g:Nat} {T:TypeId} {segs:List (List Value)} (h:Cs w g segs.flatten.toArray T) {ns:List Nat} (hn:segs.map List.length=ns) (i:Nat) {seg:List Value} (hs:segs[i]? = some seg) {off o k:Nat} (ho:(ns.take i).sum=o) (hk:off=o+k) {u:Value} (hu:seg[k]? = some u):w.cell? ⟨g,off,none⟩=some u:=by
 subst hk
 exact h.seg hn i hs ho k u hu
theorem lay_mid (a m b:List Value) (vs:List Value) (h:vs.length=m.length):lay (a ++ (m ++ b)).toArray a.length vs=(a ++ (vs ++ b)).toArray:=by
 unfold lay
 congr 1
 simp [h]
theorem seg_split:∀ (segs:List (List Value)) (i:Nat) {seg:List Value} (hs:segs[i]? = some seg),∃ a b,segs.flatten=a ++ (seg ++ b)∧a.length=((segs.map List.length).take i).sum∧∀ v:List Value,(segs.set i v).flatten=a ++ (v ++ b)
 | [],i,seg,hs=>by simp at hs
 | x :: r,0,seg,hs=>by
  simp only [List.getElem?_cons_zero,Option.some.injEq] at hs
  subst hs
  exact ⟨[],r.flatten,rfl,rfl,fun v=>rfl⟩
 | x :: r,i+1,seg,hs=>by
  rw [List.getElem?_cons_succ] at hs
  obtain ⟨a,b,h1,h2,h3⟩:=seg_split r i hs
  refine ⟨x ++ a,b,by rw [List.flatten_cons,h1,List.append_assoc],by simp [h2],fun v=>?_⟩
  rw [sCS,List.flatten_cons,h3,List.append_assoc]
theorem Bc {segs:List (List Value)} {ns:List Nat} (hn:segs.map List.length=ns) (i:Nat) {vs:List Value} (hv:ns[i]? = some vs.length) {off:Nat} (ho:(ns.take i).sum=off):lay segs.flatten.toArray off vs=((segs.set i vs).flatten).toArray:=by
 subst hn
 rw [List.getElem?_map] at hv
 cases hs:segs[i]? with
 | none=>rw [hs] at hv;cases hv
 | some seg=>
  rw [hs] at hv
  simp only [Option.map_some,Option.some.injEq] at hv
  obtain ⟨a,b,h1,h2,h3⟩:=seg_split segs i hs
  rw [h1,h3,← ho,← h2]
  exact lay_mid a seg b vs hv.symm
/-- where parts of such lengths lie -/
def offs:Nat→List Nat→List (Nat × Nat)
 | _,[]=>[]
 | o,n :: ns=>(o,n) :: offs (o+n) ns
theorem offs_get:∀ (ns:List Nat) (o i:Nat),(offs o ns)[i]? = (ns[i]?).map fun n=>(o+(ns.take i).sum,n)
 | [],o,i=>by simp [offs]
 | n :: ns,o,0=>by simp [offs]
 | n :: ns,o,i+1=>by
  simp only [offs,List.getElem?_cons_succ,offs_get ns (o+n) i,List.take_succ_cons,List.sum_cons]
  congr 1
  funext m
  rw [Nat.add_assoc]
/-- parts, each where it belongs -/
def setAll:List (List Value)→List (Nat × Value)→List (List Value)
 | segs,[]=>segs
 | segs,(i,v) :: ps=>setAll (segs.set i v.cells.toList) ps
def PartsOk (ns:List Nat):List (Nat × Value)→Prop
 | []=>True
 | (i,v) :: ps=>ns[i]? = some v.cells.size∧PartsOk ns ps
theorem set_lens {segs:List (List Value)} {ns:List Nat} (hn:segs.map List.length=ns) (i:Nat) {vs:List Value} (hv:ns[i]? = some vs.length):(segs.set i vs).map List.length=ns:=by
 subst hn
 rw [List.map_set]
 exact List.ext_getElem? fun j=>by
  rcases Nat.lt_trichotomy i j with h|h|h
  ·rw [List.getElem?_set_ne (by omega)]
  ·subst h
   rw [List.getElem?_set_self (List.getElem?_eq_some_iff.1 hv).1,hv]
  ·rw [List.getElem?_set_ne (by omega)]
theorem laid_segs {places:List (Nat × Nat)} {ns:List Nat} (hp:places=offs 0 ns):∀ (parts:List (Nat × Value)) (segs:List (List Value)),segs.map List.length=ns→PartsOk ns parts→laid places segs.flatten parts=some (setAll segs parts).flatten
 | [],segs,_,_=>by unfold laid setAll;rfl
 | (i,v) :: ps,segs,hn,h=>by
  obtain ⟨h1,h2⟩:=h
  have h1':ns[i]? = some v.cells.toList.length:=by simpa using h1
  have hl:=Bc hn i h1' rfl
  unfold laid setAll
  rw [hp,offs_get,h1]
  simp only [Option.map_some,Nat.zero_add]
  have hlen:(ns.take i).sum+v.cells.size≤segs.flatten.length:=by
   subst hn
   rw [List.getElem?_map] at h1
   cases hs:segs[i]? with
   | none=>rw [hs] at h1;cases h1
   | some seg=>
    rw [hs] at h1
    simp only [Option.map_some,Option.some.injEq] at h1
    obtain ⟨a,b,e1,e2,-⟩:=seg_split segs i hs
    rw [e1,← e2,← h1]
    simp
  rw [if_neg (by omega)]
  have e:(segs.flatten.take (ns.take i).sum ++ v.cells.toList ++ segs.flatten.drop ((ns.take i).sum+v.cells.size))=(segs.set i v.cells.toList).flatten:=by
   have:=congrArg Array.toList hl
   simpa [lay] using this
  simp only [e] at *
  rw [← hp]
  exact laid_segs hp ps _ (set_lens hn i h1') h2
end Go.Gv

/- Readers of parts: what they leave of a text, whether what they read is a thing of its kind; contracts. -/
namespace Go.Proofs.YtnaoeginonpicaaGreat
open Go Go.RowKit Go.Gv
/-- what is left is an end of what there was -/
def Suf {α:Type} (g:RSt→α × RSt):Prop:=∀ s,(g s).2=none∨∃ l k,s=some l∧(g s).2=some (l.drop k)
theorem Suf.no {α:Type} {g:RSt→α × RSt} (h:Suf g):(g none).2=none:=by
 rcases h none with h|⟨l,k,e,-⟩
 ·exact h
 ·cases e
theorem Suf.bytes {α:Type} {g:RSt→α × RSt} (h:Suf g) {s:RSt} (hb:Bytes (s.getD [])):Bytes ((g s).2.getD []):=by
 rcases h s with e|⟨l,k,rfl,e⟩
 ·rw [e];exact Bytes.nil
 ·rw [e];exact Bytes.drop hb k
theorem Suf.len {α:Type} {g:RSt→α × RSt} (h:Suf g) (s:RSt):((g s).2.getD []).length≤(s.getD []).length:=by
 rcases h s with e|⟨l,k,rfl,e⟩
 ·rw [e];simp
 ·rw [e];simp
/-! what is read is a thing -/
theorem gI_I64 (s:RSt):I64 (gI s).1:=by
 have:=rInt_le 1099511627776 s
 unfold gI I64
 simp only
 omega
theorem RrR.bytes {T:TypeId} {R:Nat→Prop} {w:World} {r:Nat} {s:RSt} (h:RrR T R w r s):Bytes (s.getD []):=by
 obtain ⟨v,h1,-⟩:=h
 exact h1.2.1.1
/-! contracts -/
/-- a flat thing is read -/
def GetsF {α:Type} (T:TypeId) (F:FuncId) (cells:α→List Value) (g:RSt→α × RSt):Prop:=∀ (R:Nat→Prop) (r:Nat) (s:RSt) (w:World),RrR T R w r s→(∀ k,R k→k < w.heap.size)→
 Calls Tryz.prog F #[.pointer (some ⟨r,0,none⟩)] w fun e w'=>e=.returned (.agg (cells (g s).1).toArray)∧RrR T R w' r (g s).2∧Mod R w w'
/-- a thing is read -/
def Gets {α:Type} (A:Rep α) (T:TypeId) (F:FuncId) (g:RSt→α × RSt):Prop:=∀ (R:Nat→Prop) (r:Nat) (s:RSt) (w:World),RrR T R w r s→(∀ k,R k→k < w.heap.size)→(s.getD []).length≤900000→
 Calls Tryz.prog F #[.pointer (some ⟨r,0,none⟩)] w fun e w'=>∃ cs,e=.returned (.agg cs.toArray)∧A.rd (New w w') w' cs (g s).1∧RrR T R w' r (g s).2∧Mod R w w'
theorem Gets.to {α:Type} {A:Rep α} {T:TypeId} {F:FuncId} {g:RSt→α × RSt} (h:Gets A T F g) {s s':RSt} {x:α} (hx:(g s).1=x) (hs:(g s).2=s') {R:Nat→Prop} {r:Nat} {w:World} (h1:RrR T R w r s) (h2:∀ k,R k→k < w.heap.size) (h3:(s.getD []).length≤900000) :
 Calls Tryz.prog F #[.pointer (some ⟨r,0,none⟩)] w fun e w'=>∃ cs,e=.returned (.agg cs.toArray)∧A.rd (New w w') w' cs x∧RrR T R w' r s'∧Mod R w w':=by
 subst hx hs
 exact h R r s w h1 h2 h3
theorem GetsF.to {α:Type} {cells:α→List Value} {T:TypeId} {F:FuncId} {g:RSt→α × RSt} (h:GetsF T F cells g) {A:Rep α} (hA:∀ (R:Nat→Prop) (w:World) (s:RSt),Bytes (s.getD [])→A.rd R w (cells (g s).1) (g s).1):Gets A T F g:=by
 intro R r s w h1 h2 h3
 exact (h R r s w h1 h2).mono fun e w' ⟨he,h4,h5⟩=>⟨_,he,hA _ _ s h1.bytes,h4,h5⟩
section
variable {R:Nat→Prop} {r:Nat} {s:RSt} {w:World}
theorem cI_Q (h:RrR 132 R w r s):Calls Tryz.prog 42 #[.pointer (some ⟨r,0,none⟩),.int .i64 1099511627776] w fun e w'=>e=.returned (.int .i64 (gI s).1)∧RrR 132 R w' r (gI s).2∧Mod R w w':=RInt_R h (by decide)
end
end Go.Proofs.YtnaoeginonpicaaGreat

/- Things anew, as they are (package msgs). -/
namespace Go.Proofs.YtnaoeginonpicaaGreat
open Go Go.RowKit Go.Gv
/-- a function that gives a thing anew, as it is, in blocks of its own; P: what is asked of the thing -/
def CopR {α:Type} (A:Rep α) (P:α→Prop) (F:FuncId):Prop:=∀ (R2:Nat→Prop) (x:α) (cs:List Value) (w:World),A.rd R2 w cs x→(∀ k,R2 k→k < w.heap.size)→P x→
 Calls Tryz.prog F #[.agg cs.toArray] w fun e w'=>∃ cs',e=.returned (.agg cs'.toArray)∧A.rd (New w w') w' cs' x∧Mod (fun _=>False) w w'
/-- the same for a list of them -/
def CopL {α:Type} (A:Rep α) (P:α→Prop) (F Fe:FuncId):Prop:=∀ (R2:Nat→Prop) (l:List α) (v:Value) (w:World),RdS A R2 w v l→(∀ k,R2 k→k < w.heap.size)→l.length≤1000→(∀ x ∈ l,P x)→
 Calls Tryz.prog F #[v,.func (.func Fe) #[] #[]] w fun e w'=>∃ v',e=.returned v'∧RdS A (New w w') w' v' l∧Mod (fun _=>False) w w'
def cpNo {α:Type} (x:α):Prop:=True
def cpCe (x:Ce):Prop:=x.l.length≤1000
def cpPm (x:Pm):Prop:=x.l.length≤1000∧∀ y ∈ x.l,cpCe y
def cpOp (x:Op):Prop:=x.pl.length≤900000
def cpTb (x:Tb):Prop:=x.l.length≤1000
def cpBa (x:Ba):Prop:=(x.ps.length≤1000∧∀ y ∈ x.ps,cpPm y)∧(x.os.length≤1000∧∀ y ∈ x.os,cpOp y)∧(x.ts.length≤1000∧∀ y ∈ x.ts,cpTb y)
theorem info_VtC:(Tryz.prog.info? 49).map (fun i=>(i.zero,i.size,i.bytes))=some (some (.agg #[.int .i64 0,.int .i64 0,.int .i64 0,.int .i64 0,.int .u8 0,.int .u8 0,.int .u8 0,.int .u8 0,.int .u8 0,.int .u8 0,.int .u8 0,.int .u8 0,.int .u8 0,.int .u8 0,.int .u8 0,.int .u8 0,.int .u8 0,.int .u8 0,.int .u8 0,.int .u8 0,.int .u8 0,.int .u8 0,.int .u8 0,.int .u8 0,.int .u8 0,.int .u8 0,.int .u8 0,.int .u8 0,.int .u8 0,.int .u8 0,.int .u8 0,.int .u8 0,.int .u8 0,.int .u8 0,.int .u8 0,.int .u8 0,.int .i64 0,.int .i64 0]),38,80):=by kernel_rfl
theorem fm10' {P:Prop} (h:P:=by
 intro R2 x cs w hx hB2 hP
 obtain ⟨rfl,hok⟩:=hx
 have HOK:=Lib.hid hok
 clear hok hB2 hP
 go_enter va',vb'
 go_upto_region 1 with (fail)
 obtain ⟨w1,hw1⟩:∃ zz,zz=((w.alloc (.cells (x.cells:List Value).toArray vc')).alloc (.cells vd' vc')):=⟨_,rfl⟩
 change Code.wp _ _ _ _ ((w.alloc (.cells (x.cells:List Value).toArray vc')).alloc (.cells vd' vc'))
 rw [← hw1]
 have HB1:=hid (show Cs w1 (w.heap.size) (x.cells:List Value).toArray vc' by rw [hw1];exact (Cs.new _ _ _).alloc _)
 have HB2:=hid (show Cs w1 (w.heap.size+1) vd' vc' by rw [hw1];exact Cs_newN _ _ _ (by simp))
 have hm:Mod (fun _=>False) w w1:=by rw [hw1];exact ((Mod.refl _ _).alloc _).alloc _
 have HM0:=hid (show Mod (fun _=>False) w w1 from hm.mono (fun _ _ h=>h.elim))
 have hs1:w1.heap.size=w.heap.size+2:=by rw [hw1];simp
 clear hw1 hm
 go_upto_region 1 with (fail)
 refine Aa 4 [3,5] [0,1] (fun a0 HA0=>?_)
 have oe1:=ev HA0 1 rfl
 have oe2:=ev HA0 2 rfl
 refine QSeq.pure rfl _ (fun E=>Am rfl ve' rfl (off:=0) (cs:=x.cells) (by rw [vf' HOK.out];kernel_rfl) (E.v oe1) (Cs.whole HB1.out)) ?_
 refine QSeq.go fun act E=>?_
 refine Aq rfl (Ac rfl) rfl HB2.out (off:=0) (vs:=x.cells) (by rw [vf' HOK.out];kernel_rfl) (vg' _) (by rw [vf' HOK.out];decide) (E.v oe2) (ec (E.d 0 0)) ?_
 intro u1_1 qc0 hm
 have qB2:=qc0.eqv (b:=(x.cells:List Value).toArray) (A5 _ _ (by rw [vf' HOK.out];rfl))
 clear qc0
 have Hx1:=hid qB2
 have zu1_1:=hm.size
 have Cx2:=hid (show Mod (fun k=>(k=w.heap.size+1)) w1 u1_1 from hm)
 clear hm
 clear act E qB2 HB2
 refine QSeq.nil (t':=[_,_]) rfl ?_
 obtain rfl:=HA0.out
 clear HA0 oe1 oe2
 simp only [pz,Act.put,sIB,sCZ,sCS,List.set_nil]
 go_wp2
 exact bodyPost_ret (A7 rfl _ _ (w.heap.size+1) x.cells rfl (fun k u hu=>by rw [Hx1.out.cell];simpa using hu) ve' rfl (by rw [vf' HOK.out];kernel_rfl)) rfl ⟨_,rfl,⟨rfl,HOK.out⟩,(HM0.out.trans Cx2.out (by intro k h1 h2;(first|omega|(simp only [vc',vd'] at *;omega))))⟩):P:=h
open Go.Proofs renaming Tryz.func139→va',Tryz.ntmps139→vb',Tryz.underlying32→ve' in
open Go.Gv renaming n'32→vc',z'1→vd' in
open Go.Proofs.YtnaoeginonpicaaGreat renaming St.len→vf',St.one→vg' in
set_option maxHeartbeats 1000000 in
theorem same_St:CopR StR cpNo 139:=
 fm10'
set_option maxHeartbeats 1000000 in
theorem same_Dn:CopR DnR cpNo 148:=by
 intro R2 x cs w hx hB2 hP
 obtain ⟨rfl,hok⟩:=hx
 have HOK:=Lib.hid hok
 clear hok hB2 hP
 go_enter Tryz.func148,Tryz.ntmps148
 go_upto_region 1 with (fail)
 obtain ⟨w1,hw1⟩:∃ zz,zz=((w.alloc (.cells (x.cells:List Value).toArray 56)).alloc (.cells #[.int .i64 0,.int .i64 0,.int .i64 0,.int .i64 0] 56)):=⟨_,rfl⟩
 change Code.wp _ _ _ _ ((w.alloc (.cells (x.cells:List Value).toArray 56)).alloc (.cells #[.int .i64 0,.int .i64 0,.int .i64 0,.int .i64 0] 56))
 rw [← hw1]
 have HB1:=hid (show Cs w1 (w.heap.size) (x.cells:List Value).toArray 56 by rw [hw1];exact (Cs.new _ _ _).alloc _)
 have HB2:=hid (show Cs w1 (w.heap.size+1) #[.int .i64 0,.int .i64 0,.int .i64 0,.int .i64 0] 56 by rw [hw1];exact Cs_newN _ _ _ (by simp))
 have hm:Mod (fun _=>False) w w1:=by rw [hw1];exact ((Mod.refl _ _).alloc _).alloc _
 have HM0:=hid (show Mod (fun _=>False) w w1 from hm.mono (fun _ _ h=>h.elim))
 have hs1:w1.heap.size=w.heap.size+2:=by rw [hw1];simp
 clear hw1 hm
 go_upto_region 1 with (fail)
 refine Aa 4 [3,5] [0,1] (fun a0 HA0=>?_)
 have oe1:=ev HA0 1 rfl
 have oe2:=ev HA0 2 rfl
 refine QSeq.pure rfl _ (fun E=>Am rfl Tryz.underlying56 rfl (off:=0) (cs:=x.cells) (by kernel_rfl) (E.v oe1) (Cs.whole HB1.out)) ?_
 refine QSeq.go fun act E=>?_
 refine Aq rfl (Ac rfl) rfl HB2.out (off:=0) (vs:=x.cells) (by kernel_rfl) (Dn.one _) (by show 0+4≤4;decide) (E.v oe2) (ec (E.d 0 0)) ?_
 intro u1_1 qc0 hm
 have qB2:=qc0.eqv (b:=(x.cells:List Value).toArray) (A5 _ _ rfl)
 clear qc0
 have Hx1:=hid qB2
 have zu1_1:=hm.size
 have Cx2:=hid (show Mod (fun k=>(k=w.heap.size+1)) w1 u1_1 from hm)
 clear hm
 clear act E qB2 HB2
 refine QSeq.nil (t':=[_,_]) rfl ?_
 obtain rfl:=HA0.out
 clear HA0 oe1 oe2
 simp only [pz,Act.put,sIB,sCZ,sCS,List.set_nil]
 go_wp2
 exact bodyPost_ret (A7 rfl _ _ (w.heap.size+1) x.cells rfl (fun k u hu=>by rw [Hx1.out.cell];simpa using hu) Tryz.underlying56 rfl (by kernel_rfl)) rfl ⟨_,rfl,⟨rfl,HOK.out⟩,(HM0.out.trans Cx2.out (by intro k h1 h2;omega))⟩
open Go.Proofs renaming Tryz.func115→va',Tryz.ntmps115→vb',Tryz.underlying49→ve' in
open Go.Gv renaming n'49→vc',z'5→vd' in
open Go.Proofs.YtnaoeginonpicaaGreat renaming Vt.len→vf',Vt.one→vg' in
set_option maxHeartbeats 1000000 in
theorem same_Vt:CopR VtR cpNo 115:=
 fm10'
theorem fm11' {P:Prop} (h:P:=by
 intro R2 l v w hs hB2 hl hP
 obtain ⟨ao,cap,rfl⟩:=hs.shape
 have HS:=Lib.hid hs
 have HBT:=Lib.hid hB2
 have HL:=Lib.hid hl
 have HP:=Lib.hid hP
 clear hs hB2 hl hP
 go_enter va',vb'
 go_upto_region 2 with (fail)
 have HM0:=hid (Mod.refl (fun _=>False) w)
 go_upto_region 2 with (fail)
 refine Aa 22 [8,9,10] [0,1,2] (fun a0 HA0=>?_)
 have oe0:=ev HA0 0 rfl
 refine QSeq.pure rfl _ (fun E=>Ai rfl (E.v oe0)) ?_
 refine QSeq.pure rfl (.int .i64 l.length) (fun E=>A0 rfl (E.d 0 0) vc') ?_
 refine QSeq.pure rfl (.int .i64 0) (fun E=>Ai rfl rfl) ?_
 refine QSeq.nil (t':=[_,_,_]) rfl ?_
 obtain rfl:=HA0.out
 clear HA0 oe0
 simp only [pz,Act.put,sIB,sCZ,sCS]
 go_wp2
 go_loopw [5,10] (fun ta ti wr=>∃ k:Nat,ti=.int .i64 (k:Int)∧k≤l.length∧w.heap.size≤wr.heap.size∧OwS vd' ve' (fun b=>w.heap.size≤b∧b < wr.heap.size) (fun b=>w.heap.size≤b∧b < wr.heap.size) wr ta (l.take k)∧RdS vd' R2 wr (.slice ao l.length cap) l∧Mod (fun _=>False) w wr) (fun _ ti _=>l.length - (intOf ti).toNat)
 case atStart=>exact ⟨0,rfl,Nat.zero_le _,Nat.le_refl _,OwS.nil _ _ _ _ _,HS.out,HM0.out⟩
 case round=>
  obtain ⟨k,rfl,hk,hz,ha,hs,hm⟩:=hrel
  obtain ⟨wl,rfl⟩:∃ x,x=wr:=⟨_,rfl⟩
  obtain ⟨aol,capl,rfl⟩:=ha.shape
  have HAL:=Lib.hid ha
  have HSL:=Lib.hid hs
  have HML:=Lib.hid hm
  clear ha hs hm HS HM0
  by_cases hlt:k < l.length
  ·skip
   go_upto_region 3 with (fail)
   refine Aa 22 [11] [0] (fun a0 HA0=>?_)
   have oe9:=ev HA0 9 rfl
   have oe10:=ev HA0 10 rfl
   refine QSeq.pure rfl (.bool true) (fun E=>An rfl (E.v oe10) (E.v oe9) (Ag _ _ _ _ _ _) (A6 _ _ _ Tryz.underlying3) (congrArg Value.bool (decide_eq_true (by (first|omega|(simp only [ve',vf',vh',vi',vl'] at *;omega)))))) ?_
   refine QSeq.nil (t':=[_]) rfl ?_
   obtain rfl:=HA0.out
   clear HA0 oe9 oe10
   simp only [pz,Act.put,sIB,sCZ,sCS]
   obtain ⟨g0,o0,cs,eao,hrg,hrd,hcs⟩:=HSL.out.at hlt
   subst eao
   have HCL:=hid (show cs.length=vf' from vd'.len hrd)
   have HAT:=hid (show CellsAt R2 wl g0 (o0+k * vf') cs from ⟨hrg,hcs⟩)
   have HRD:=Lib.hid hrd
   have HOC:=hid (vd'.one hrd)
   have HPK:=hid (HP.out _ (List.getElem_mem hlt))
   clear hrg hrd hcs
   go_upto_region 4 with (fail)
   refine Aa 22 [12,13,7,25] [0,1,2,3] (fun a0 HA0=>?_)
   have oe8:=ev HA0 8 rfl
   have oe10:=ev HA0 10 rfl
   refine QSeq.pure rfl (.pointer (some ⟨g0,o0+k * vf',none⟩)) (fun E=>Bk (i:=k) (s:=vf') rfl vc' (by kernel_rfl) (E.v oe8) (E.v oe10) (by (first|omega|(simp only [ve',vf',vh',vi',vl'] at *;omega)))) ?_
   refine QSeq.pure rfl _ (fun E=>Am rfl vg' rfl (off:=o0+k * vf') (cs:=cs) (by rw [HCL.out];kernel_rfl) (E.d 0 0) (fun j u hu=>(HAT.out).2 j u hu)) ?_
   refine QSeq.go fun act E=>?_
   refine qc_alloc rfl (Ac rfl) rfl (z:=vh') (by kernel_rfl) ?_
   intro u4_2 qq hm
   have zl4_2:=qq.lt
   have Hx1:=hid qq
   have zu4_2:=hm.size
   have Cx2:=hid (show Mod (fun _=>False) wl u4_2 from hm)
   clear hm
   clear act E qq
   refine QSeq.go fun act E=>?_
   have hlz:(cs).length=List.length (vh':List Value):=(by rw [HCL.out];rfl)
   refine Aq rfl (Ac rfl) rfl Hx1.out (off:=0) (vs:=cs) (by rw [hlz];kernel_rfl) HOC.out (by rw [hlz];exact Nat.le_of_eq (Nat.zero_add _)) (E.d 2 0) (ec (E.d 1 1)) ?_
   intro u4_3 qc0 hm
   have qq:=qc0.eqv (b:=(cs:List Value).toArray) (A5 vi' _ (by rw [hlz];rfl))
   clear qc0 hlz
   have Hx3:=hid qq
   have zu4_3:=hm.size
   have HMu4_3:=hid hm
   have Cx4:=hid (Mod.goS (S':=(fun _=>False)) Cx2.out hm (fun _ h=>h) (by intro k h0 h2;(first|omega|(simp only [ve',vf',vh',vi',vl'] at *;omega))))
   clear hm Cx2
   clear act E qq Hx1
   clear HMu4_3
   refine QSeq.nil (t':=[_,_,_,_]) rfl ?_
   obtain rfl:=HA0.out
   clear HA0 oe8 oe10
   simp only [pz,Act.put,sIB,sCZ,sCS,List.set_nil]
   go_upto_region 5 with (fail)
   refine Aa 22 [14,15,16,17,18,19,5] [0,1,2,3,4,5,6] (fun a0 HA0=>?_)
   have oe1:=ev HA0 1 rfl
   have oe5:=ev HA0 5 rfl
   have oe7:=ev HA0 7 rfl
   refine QSeq.pure rfl _ (fun E=>Ai rfl (E.y 6 oe5)) ?_
   refine QSeq.pure rfl _ (fun E=>Ai rfl (E.v oe1)) ?_
   refine QSeq.pure rfl _ (fun E=>Am rfl vg' rfl (off:=0) (cs:=cs) (by rw [HCL.out];kernel_rfl) (E.v oe7) (Cs.whole Hx3.out)) ?_
   refine QSeq.go fun act E=>?_
   have ea16:act.eval (.tmp 16)=.agg cs.toArray:=(E.d 2 0)
   refine qc_call (args:=#[.agg cs.toArray]) rfl (Ac rfl) (by rw [ex_callV rfl (E.d 1 1) vj' (by kernel_rfl) (by kernel_rfl)];exact congrArg (fun z=>Result.ok (Next.enter _ z) _) (by simp only [List.map_toArray,List.map_cons,List.map_nil,ea16];try rfl)) (vk' _ _ _ _ (HRD.out.mod Cx4.out (fun _ _ h=>h)) (by intro k h1;have hb:=HBT.out k h1;(first|omega|(simp only [ve',vf',vh',vi',vl'] at *;omega))) HPK.out) ?_
   rintro e u5_3 ⟨cn,rfl,qnw,hm⟩
   have HCN:=hid (vd'.len qnw)
   refine ⟨_,rfl,?_⟩
   have Hx5:=hid qnw
   have zu5_3:=hm.size
   have Cx6:=hid (show Mod (fun _=>False) u4_3 u5_3 from hm)
   clear hm
   clear act E qnw ea16
   refine QSeq.go fun act E=>?_
   refine qc_buildS (e:=ve') (cs:=cn) (zc:=vh') (sz:=vf') rfl (Ac rfl) rfl vc' (by kernel_rfl) rfl (by decide) (by decide) (E.d 3 0) (vd'.len Hx5.out) ?_
   intro u5_4 qrow hm
   have zl5_4:=qrow.lt
   have Hx7:=hid qrow
   have zu5_4:=hm.size
   have HMu5_4:=hid hm
   have Cx8:=hid (Cx6.out.goE hm)
   clear hm Cx6
   clear act E qrow
   refine QSeq.go fun act E=>?_
   refine qc_appS (A:=vd') (e:=ve') rfl (Ac rfl) rfl (.agg vi') vl' vc' vm' (by rfl) (of_decide_eq_true (by kernel_rfl)) (E.d 0 4) (E.d 4 0) (((HAL.out.mod Cx4.out (fun _ _ h=>h) (fun _ _ h=>h)).mod Cx8.out (fun _ _ h=>h) (fun _ _ h=>h))) (RdS.single (R:=(fun k=>(New u4_3 u5_3 k)∨(k=u5_3.heap.size))) Hx7.out ((Hx5.out.mod HMu5_4.out (fun _ _ h=>h)).widen (by intro k h1;first|(first|omega|(simp only [ve',vf',vh',vi',vl'] at *;omega))|exact h1.elim|exact Or.inl h1|exact Or.inr (h1))) (by right;rfl)) (by intro k h1 h2;(first|omega|(simp only [ve',vf',vh',vi',vl'] at *;omega))) (by have h9:=HL.out;rw [List.length_take];simp only [List.length_cons,List.length_nil];(first|omega|(simp only [ve',vf',vh',vi',vl'] at *;omega))) (by have h9:=HL.out;rw [List.length_take];simp only [List.length_cons,List.length_nil];rw [Ax];(first|omega|(simp only [ve',vf',vh',vi',vl'] at *;omega))) ?_
   intro ao5 cap5 u5_5 qout hm
   have Hx9:=hid (qout.widen (R':=(fun k=>(New w wl k)∨(New u5_4 u5_5 k))) (E':=(fun k=>(New w wl k)∨(New u4_3 u5_3 k)∨(k=u5_3.heap.size))) (fun _ h=>h) (by intro k h1;rcases h1 with h1|(h1|h1)<;>first|(first|omega|(simp only [ve',vf',vh',vi',vl'] at *;omega))|exact h1.elim|exact Or.inl h1|exact Or.inr (Or.inl h1)|exact Or.inr (Or.inr (h1))))
   have zu5_5:=hm.size
   have HMu5_5:=hid hm
   have Cx10:=hid (Mod.goS (S':=(fun k=>(New w wl k))) Cx8.out hm (fun _ h=>h.elim) (by intro k h0 h2;exact h2))
   clear hm Cx8
   clear act E qout HAL
   refine QSeq.pure rfl _ (fun E=>Af rfl (E.d 5 0)) ?_
   have Hx11:=hid ((Hx5.out.mod HMu5_4.out (fun _ _ h=>h)).mod HMu5_5.out (by intro k h1 h2;(first|omega|(simp only [ve',vf',vh',vi',vl'] at *;omega))))
   have Hx12:=hid (Hx7.out.mod HMu5_5.out (by intro h2;(first|omega|(simp only [ve',vf',vh',vi',vl'] at *;omega))))
   clear Hx5 Hx7 HMu5_4 HMu5_5
   refine QSeq.nil (t':=[_,_,_,_,_,_,_]) rfl ?_
   obtain rfl:=HA0.out
   clear HA0 oe1 oe5 oe7
   simp only [pz,Act.put,sIB,sCZ,sCS]
   have hq:=Hx9.out
   rw [show l.take k ++ [l[k]]=l.take (k+1) from (List.take_succ_eq_append_getElem hlt).symm] at hq
   have HQ:=Lib.hid hq
   clear hq
   go_upto_region 6 with (fail)
   refine Aa 22 [20,10] [0,1] (fun a0 HA0=>?_)
   have oe10:=ev HA0 10 rfl
   refine QSeq.pure rfl (.int .i64 (((k:Nat):Int)+1)) (fun E=>An rfl (E.y 1 oe10) rfl (Ag _ _ _ _ _ _) (run_add_i _ _ Tryz.underlying3) (congrArg (Value.int .i64) (IntWalk.i64_in _ (by have h9:=HL.out;(first|omega|(simp only [ve',vf',vh',vi',vl'] at *;omega)))))) ?_
   refine QSeq.pure rfl _ (fun E=>Ai rfl (E.d 0 0)) ?_
   refine QSeq.nil (t':=[_,_]) rfl ?_
   obtain rfl:=HA0.out
   clear HA0 oe10
   simp only [pz,Act.put,sIB,sCZ,sCS]
   go_wp2
   go_roundw
   case rel=>exact ⟨k+1,by go_num,by (first|omega|(simp only [ve',vf',vh',vi',vl'] at *;omega)),by (first|omega|(simp only [ve',vf',vh',vi',vl'] at *;omega)),HQ.out.widen (by intro b h1;(try dsimp only at h1 ⊢);(first|omega|(simp only [ve',vf',vh',vi',vl'] at *;omega))) (by intro b h1;(try dsimp only at h1 ⊢);(first|omega|(simp only [ve',vf',vh',vi',vl'] at *;omega))),((HSL.out.mod Cx4.out (fun _ _ h=>h)).mod Cx10.out (sN HBT)),((HML.out.trans Cx4.out (fun _ _ h=>h.elim)).trans Cx10.out (by intro k h1 h2;(first|omega|(simp only [ve',vf',vh',vi',vl'] at *;omega))))⟩
   case measure=>simp [intOf];(first|omega|(simp only [ve',vf',vh',vi',vl'] at *;omega))
  ·obtain rfl:l.length=k:=by (first|omega|(simp only [ve',vf',vh',vi',vl'] at *;omega))
   have hq:=HAL.out
   rw [List.take_length] at hq
   have HQ:=Lib.hid hq
   clear hq
   go_upto_region 3 with (fail)
   refine Aa 22 [11] [0] (fun a0 HA0=>?_)
   have oe9:=ev HA0 9 rfl
   have oe10:=ev HA0 10 rfl
   refine QSeq.pure rfl (.bool false) (fun E=>An rfl (E.v oe10) (E.v oe9) (Ag _ _ _ _ _ _) (A6 _ _ _ Tryz.underlying3) (congrArg Value.bool (decide_eq_false (by (first|omega|(simp only [ve',vf',vh',vi',vl'] at *;omega)))))) ?_
   refine QSeq.nil (t':=[_]) rfl ?_
   obtain rfl:=HA0.out
   clear HA0 oe9 oe10
   simp only [pz,Act.put,sIB,sCZ,sCS]
   go_upto_region 7 with (fail)
   refine Aa 22 [21,4] [0,1] (fun a0 HA0=>?_)
   have oe5:=ev HA0 5 rfl
   refine QSeq.pure rfl _ (fun E=>Ai rfl (E.v oe5)) ?_
   refine QSeq.pure rfl _ (fun E=>Af rfl (E.d 0 0)) ?_
   refine QSeq.nil (t':=[_,_]) rfl ?_
   obtain rfl:=HA0.out
   clear HA0 oe5
   simp only [pz,Act.put,sIB,sCZ,sCS]
   go_wp2
   go_ret
   exact ⟨_,rfl,by rw [List.take_length];exact HQ.out.rd.widen (by intro b h1;(try dsimp only at h1 ⊢);(first|omega|(simp only [ve',vf',vh',vi',vl'] at *;omega))),HML.out⟩):P:=h
open Go.Proofs renaming Tryz.func138→va',Tryz.ntmps138→vb',Tryz.underlying33→vc',Tryz.underlying32→vg',Tryz.func139→vj' in
open Go.Proofs.YtnaoeginonpicaaGreat renaming StR→vd',same_St→vk',info_St→vm' in
open Go.Gv renaming n'32→ve',n'38→vf',z'0→vh',z'1→vi',n'80→vl' in
set_option maxHeartbeats 4000000 in
theorem copied_St:CopL StR cpNo 138 139:=
 fm11'
open Go.Proofs renaming Tryz.func147→va',Tryz.ntmps147→vb',Tryz.underlying125→vc',Tryz.underlying56→vg',Tryz.func148→vj' in
open Go.Proofs.YtnaoeginonpicaaGreat renaming DnR→vd',same_Dn→vk',info_Dn→vm' in
open Go.Gv renaming n'56→ve',n'4→vf',z'15→vh',z'9→vi',n'32→vl' in
set_option maxHeartbeats 4000000 in
theorem copied_Dn:CopL DnR cpNo 147 148:=
 fm11'
open Go.Proofs renaming Tryz.func114→va',Tryz.ntmps114→vb',Tryz.underlying57→vc',Tryz.underlying49→vg',Tryz.func115→vj' in
open Go.Proofs.YtnaoeginonpicaaGreat renaming VtR→vd',same_Vt→vk',info_VtC→vm' in
open Go.Gv renaming n'49→ve',n'38→vf',z'4→vh',z'5→vi',n'80→vl' in
set_option maxHeartbeats 4000000 in
theorem copied_Vt:CopL VtR cpNo 114 115:=
 fm11'
set_option maxHeartbeats 4000000 in
theorem cop_Ce:CopR CeR cpCe 110:=by
 intro R2 x cs w hx hB2 hP
 obtain ⟨v_l,rfl,hok,hs0⟩:=hx
 obtain ⟨ao,cap,rfl⟩:=hs0.shape
 have HS:=Lib.hid hs0
 have HBT:=Lib.hid hB2
 have HOK:=Lib.hid hok
 have HP:=Lib.hid hP
 clear hs0 hB2 hok hP
 go_enter Tryz.func110,Tryz.ntmps110
 go_upto_region 1 with (fail)
 obtain ⟨w1,hw1⟩:∃ zz,zz=((w.alloc (.cells (x.cells (.slice ao x.l.length cap):List Value).toArray 35)).alloc (.cells #[.int .i64 0,.int .i64 0,.int .u8 0,.int .u8 0,.int .u8 0,.int .u8 0,.int .u8 0,.int .u8 0,.int .u8 0,.int .u8 0,.int .u8 0,.int .u8 0,.int .u8 0,.int .u8 0,.int .u8 0,.int .u8 0,.int .u8 0,.int .u8 0,.int .u8 0,.int .u8 0,.int .u8 0,.int .u8 0,.int .u8 0,.int .u8 0,.int .u8 0,.int .u8 0,.int .u8 0,.int .u8 0,.int .u8 0,.int .u8 0,.int .u8 0,.int .u8 0,.int .u8 0,.int .u8 0,.int .i64 0,.int .i64 0,.int .i64 0,.slice none 0 0] 35)):=⟨_,rfl⟩
 change Code.wp _ _ _ _ ((w.alloc (.cells (x.cells (.slice ao x.l.length cap):List Value).toArray 35)).alloc (.cells #[.int .i64 0,.int .i64 0,.int .u8 0,.int .u8 0,.int .u8 0,.int .u8 0,.int .u8 0,.int .u8 0,.int .u8 0,.int .u8 0,.int .u8 0,.int .u8 0,.int .u8 0,.int .u8 0,.int .u8 0,.int .u8 0,.int .u8 0,.int .u8 0,.int .u8 0,.int .u8 0,.int .u8 0,.int .u8 0,.int .u8 0,.int .u8 0,.int .u8 0,.int .u8 0,.int .u8 0,.int .u8 0,.int .u8 0,.int .u8 0,.int .u8 0,.int .u8 0,.int .u8 0,.int .u8 0,.int .i64 0,.int .i64 0,.int .i64 0,.slice none 0 0] 35))
 rw [← hw1]
 have HB1:=hid (show Cs w1 (w.heap.size) (x.cells (.slice ao x.l.length cap):List Value).toArray 35 by rw [hw1];exact (Cs.new _ _ _).alloc _)
 have HB2:=hid (show Cs w1 (w.heap.size+1) #[.int .i64 0,.int .i64 0,.int .u8 0,.int .u8 0,.int .u8 0,.int .u8 0,.int .u8 0,.int .u8 0,.int .u8 0,.int .u8 0,.int .u8 0,.int .u8 0,.int .u8 0,.int .u8 0,.int .u8 0,.int .u8 0,.int .u8 0,.int .u8 0,.int .u8 0,.int .u8 0,.int .u8 0,.int .u8 0,.int .u8 0,.int .u8 0,.int .u8 0,.int .u8 0,.int .u8 0,.int .u8 0,.int .u8 0,.int .u8 0,.int .u8 0,.int .u8 0,.int .u8 0,.int .u8 0,.int .i64 0,.int .i64 0,.int .i64 0,.slice none 0 0] 35 by rw [hw1];exact Cs_newN _ _ _ (by simp))
 have hm:Mod (fun _=>False) w w1:=by rw [hw1];exact ((Mod.refl _ _).alloc _).alloc _
 have HM0:=hid (show Mod (fun _=>False) w w1 from hm.mono (fun _ _ h=>h.elim))
 have hs1:w1.heap.size=w.heap.size+2:=by rw [hw1];simp
 have Hx1:=hid (HS.out.mod hm (fun _ _ h=>h))
 clear HS
 clear hw1 hm
 go_upto_region 1 with (fail)
 refine Aa 8 [3,4,5,6,12] [0,1,2,3,4] (fun a0 HA0=>?_)
 have oe1:=ev HA0 1 rfl
 refine QSeq.pure rfl (.pointer (some ⟨w.heap.size,37,none⟩)) (fun E=>Ad rfl Tryz.underlying35 rfl (by kernel_rfl) (E.v oe1)) ?_
 refine QSeq.pure rfl _ (fun E=>Aj rfl Tryz.underlying33 rfl (E.d 0 0) (Cs.post1 (pre:=[]) (mid:=x.c.cells) (post:=[.slice ao x.l.length cap]) (m:=37) (k:=0) HB1.out (Cm.len HOK.out.2.1) rfl rfl)) ?_
 refine QSeq.call rfl rfl Tryz.func138 (copied_St _ x.l _ _ Hx1.out (by intro k h1;have hb:=HBT.out k h1;omega) HP.out (fun _ _=>trivial)) (fun E=>Az (E.d 1 0) rfl) ?_
 rintro e u1_2 ⟨vo,rfl,qo,hm⟩
 obtain ⟨ao_o,cap_o,rfl⟩:=qo.shape
 refine ⟨_,rfl,?_⟩
 have Hx2:=hid qo
 have zu1_2:=hm.size
 have Cx3:=hid (show Mod (fun _=>False) w1 u1_2 from hm)
 clear hm
 clear qo
 refine QSeq.pure rfl (.pointer (some ⟨w.heap.size,37,none⟩)) (fun E=>Ad rfl Tryz.underlying35 rfl (by kernel_rfl) (E.v oe1)) ?_
 refine QSeq.go fun act E=>?_
 refine Aq rfl (Ac rfl) rfl (HB1.out.mod Cx3.out (fun h=>h)) (off:=37) (vs:=[Value.slice ao_o x.l.length cap_o]) (by kernel_rfl) one1 (by simp [Ce.cells,Cm.len HOK.out.2.1]) (E.d 3 0) (ec (E.d 2 1)) ?_
 intro u1_4 qc0 hm
 have qB1:=qc0.eqv (b:=((x.c.cells ++ [Value.slice ao_o x.l.length cap_o]):List Value).toArray) (lay_l x.c _ _ HOK.out.2.1)
 clear qc0
 have Hx4:=hid qB1
 have zu1_4:=hm.size
 have HMu1_4:=hid hm
 have Cx5:=hid (Mod.goS (S':=(fun k=>(k=w.heap.size))) Cx3.out hm (fun _ h=>h.elim) (by intro k h0 h2;exact h2))
 clear hm Cx3
 clear act E qB1 HB1
 have Hx6:=hid (Hx2.out.mod HMu1_4.out (by intro k h1 h2;omega))
 clear Hx2 HMu1_4
 refine QSeq.nil (t':=[_,_,_,_,_]) rfl ?_
 obtain rfl:=HA0.out
 clear HA0 oe1
 simp only [pz,Act.put,sIB,sCZ,sCS,List.set_nil]
 go_upto_region 2 with (fail)
 refine Aa 8 [7,9] [0,1] (fun a0 HA0=>?_)
 have oe1:=ev HA0 1 rfl
 have oe2:=ev HA0 2 rfl
 refine QSeq.pure rfl _ (fun E=>Am rfl Tryz.underlying35 rfl (off:=0) (cs:=(x.c.cells ++ [Value.slice ao_o x.l.length cap_o])) (by rw [List.length_append,Cm.len HOK.out.2.1];exact size_ce) (E.v oe1) (Cs.whole Hx4.out)) ?_
 refine QSeq.go fun act E=>?_
 refine Aq rfl (Ac rfl) rfl (HB2.out.mod Cx5.out (by intro h2;omega)) (off:=0) (vs:=(x.c.cells ++ [Value.slice ao_o x.l.length cap_o])) (by rw [List.length_append,Cm.len HOK.out.2.1];exact size_ce) (one_ce _ _ rfl) (by simp [Cm.len HOK.out.2.1]) (E.v oe2) (ec (E.d 0 0)) ?_
 intro u2_1 qc0 hm
 have qB2:=qc0.eqv (b:=((x.c.cells ++ [Value.slice ao_o x.l.length cap_o]):List Value).toArray) (A5 _ _ (by simp [Cm.len HOK.out.2.1]))
 clear qc0
 have Hx7:=hid qB2
 have zu2_1:=hm.size
 have Cx8:=hid (show Mod (fun k=>(k=w.heap.size+1)) u1_4 u2_1 from hm)
 clear hm
 clear act E qB2 HB2
 refine QSeq.nil (t':=[_,_]) rfl ?_
 obtain rfl:=HA0.out
 clear HA0 oe1 oe2
 simp only [pz,Act.put,sIB,sCZ,sCS,List.set_nil]
 go_wp2
 exact bodyPost_ret (A7 rfl _ _ (w.heap.size+1) (x.c.cells ++ [Value.slice ao_o x.l.length cap_o]) rfl (fun k u hu=>by rw [Hx7.out.cell];simpa using hu) Tryz.underlying35 rfl (by rw [List.length_append,Cm.len HOK.out.2.1];exact size_ce)) rfl ⟨_,rfl,⟨_,rfl,HOK.out,(Hx6.out.mod Cx8.out (by intro k h1 h2;omega)).widen (by intro k h1;omega)⟩,((HM0.out.trans Cx5.out (by intro k h1 h2;omega)).trans Cx8.out (by intro k h1 h2;omega))⟩
open Go.Proofs renaming Tryz.func140→va',Tryz.ntmps140→vb',Tryz.underlying38→vc',Tryz.underlying35→vg',Tryz.func110→vj' in
open Go.Proofs.YtnaoeginonpicaaGreat renaming CeR→vd',cop_Ce→vk',info_Ce→vm' in
open Go.Gv renaming n'35→ve',n'38→vf',z'2→vh',z'3→vi',n'96→vl' in
set_option maxHeartbeats 4000000 in
theorem copied_Ce:CopL CeR cpCe 140 110:=
 fm11'
set_option maxHeartbeats 4000000 in
theorem cop_Pm:CopR PmR cpPm 111:=by
 intro R2 x cs w hx hB2 hP
 obtain ⟨v_l,rfl,hok,hs0⟩:=hx
 obtain ⟨ao,cap,rfl⟩:=hs0.shape
 have HS:=Lib.hid hs0
 have HBT:=Lib.hid hB2
 have HOK:=Lib.hid hok
 have HP:=Lib.hid hP
 clear hs0 hB2 hok hP
 go_enter Tryz.func111,Tryz.ntmps111
 go_upto_region 1 with (fail)
 obtain ⟨w1,hw1⟩:∃ zz,zz=((w.alloc (.cells (x.cells (.slice ao x.l.length cap):List Value).toArray 40)).alloc (.cells #[.int .i64 0,.int .i64 0,.int .u64 0,.slice none 0 0,.int .i64 0,.int .i64 0] 40)):=⟨_,rfl⟩
 change Code.wp _ _ _ _ ((w.alloc (.cells (x.cells (.slice ao x.l.length cap):List Value).toArray 40)).alloc (.cells #[.int .i64 0,.int .i64 0,.int .u64 0,.slice none 0 0,.int .i64 0,.int .i64 0] 40))
 rw [← hw1]
 have HB1:=hid (show Cs w1 (w.heap.size) (x.cells (.slice ao x.l.length cap):List Value).toArray 40 by rw [hw1];exact (Cs.new _ _ _).alloc _)
 have HB2:=hid (show Cs w1 (w.heap.size+1) #[.int .i64 0,.int .i64 0,.int .u64 0,.slice none 0 0,.int .i64 0,.int .i64 0] 40 by rw [hw1];exact Cs_newN _ _ _ (by simp))
 have hm:Mod (fun _=>False) w w1:=by rw [hw1];exact ((Mod.refl _ _).alloc _).alloc _
 have HM0:=hid (show Mod (fun _=>False) w w1 from hm.mono (fun _ _ h=>h.elim))
 have hs1:w1.heap.size=w.heap.size+2:=by rw [hw1];simp
 have Hx1:=hid (HS.out.mod hm (fun _ _ h=>h))
 clear HS
 clear hw1 hm
 go_upto_region 1 with (fail)
 refine Aa 8 [3,4,5,6,12] [0,1,2,3,4] (fun a0 HA0=>?_)
 have oe1:=ev HA0 1 rfl
 refine QSeq.pure rfl (.pointer (some ⟨w.heap.size,3,none⟩)) (fun E=>Ad rfl Tryz.underlying40 rfl (by kernel_rfl) (E.v oe1)) ?_
 refine QSeq.pure rfl _ (fun E=>Aj rfl Tryz.underlying38 rfl (E.d 0 0) (Cs.lit1 HB1.out rfl)) ?_
 refine QSeq.call rfl rfl Tryz.func140 (copied_Ce _ x.l _ _ Hx1.out (by intro k h1;have hb:=HBT.out k h1;omega) HP.out.1 HP.out.2) (fun E=>Az (E.d 1 0) rfl) ?_
 rintro e u1_2 ⟨vo,rfl,qo,hm⟩
 obtain ⟨ao_o,cap_o,rfl⟩:=qo.shape
 refine ⟨_,rfl,?_⟩
 have Hx2:=hid qo
 have zu1_2:=hm.size
 have Cx3:=hid (show Mod (fun _=>False) w1 u1_2 from hm)
 clear hm
 clear qo
 refine QSeq.pure rfl (.pointer (some ⟨w.heap.size,3,none⟩)) (fun E=>Ad rfl Tryz.underlying40 rfl (by kernel_rfl) (E.v oe1)) ?_
 refine QSeq.go fun act E=>?_
 refine Aq rfl (Ac rfl) rfl (HB1.out.mod Cx3.out (fun h=>h)) (off:=3) (vs:=[Value.slice ao_o x.l.length cap_o]) (by kernel_rfl) one1 (by show 3+1≤6;decide) (E.d 3 0) (ec (E.d 2 1)) ?_
 intro u1_4 qc0 hm
 have qB1:=qc0.eqv (b:=(([.int .i64 x.rp,.int .i64 x.ep,.int .u64 (x.fl:Nat),Value.slice ao_o x.l.length cap_o,.int .i64 x.sb,.int .i64 x.mr]):List Value).toArray) rfl
 clear qc0
 have Hx4:=hid qB1
 have zu1_4:=hm.size
 have HMu1_4:=hid hm
 have Cx5:=hid (Mod.goS (S':=(fun k=>(k=w.heap.size))) Cx3.out hm (fun _ h=>h.elim) (by intro k h0 h2;exact h2))
 clear hm Cx3
 clear act E qB1 HB1
 have Hx6:=hid (Hx2.out.mod HMu1_4.out (by intro k h1 h2;omega))
 clear Hx2 HMu1_4
 refine QSeq.nil (t':=[_,_,_,_,_]) rfl ?_
 obtain rfl:=HA0.out
 clear HA0 oe1
 simp only [pz,Act.put,sIB,sCZ,sCS,List.set_nil]
 go_upto_region 2 with (fail)
 refine Aa 8 [7,9] [0,1] (fun a0 HA0=>?_)
 have oe1:=ev HA0 1 rfl
 have oe2:=ev HA0 2 rfl
 refine QSeq.pure rfl _ (fun E=>Am rfl Tryz.underlying40 rfl (off:=0) (cs:=([.int .i64 x.rp,.int .i64 x.ep,.int .u64 (x.fl:Nat),Value.slice ao_o x.l.length cap_o,.int .i64 x.sb,.int .i64 x.mr])) (by kernel_rfl) (E.v oe1) (Cs.whole Hx4.out)) ?_
 refine QSeq.go fun act E=>?_
 refine Aq rfl (Ac rfl) rfl (HB2.out.mod Cx5.out (by intro h2;omega)) (off:=0) (vs:=([.int .i64 x.rp,.int .i64 x.ep,.int .u64 (x.fl:Nat),Value.slice ao_o x.l.length cap_o,.int .i64 x.sb,.int .i64 x.mr])) (by kernel_rfl) (by intro u hu;simp only [List.mem_cons,List.not_mem_nil,or_false] at hu;rcases hu with rfl|rfl|rfl|rfl|rfl|rfl<;>rfl) (by show 0+6≤6;decide) (E.v oe2) (ec (E.d 0 0)) ?_
 intro u2_1 qc0 hm
 have qB2:=qc0.eqv (b:=(([.int .i64 x.rp,.int .i64 x.ep,.int .u64 (x.fl:Nat),Value.slice ao_o x.l.length cap_o,.int .i64 x.sb,.int .i64 x.mr]):List Value).toArray) (A5 _ _ rfl)
 clear qc0
 have Hx7:=hid qB2
 have zu2_1:=hm.size
 have Cx8:=hid (show Mod (fun k=>(k=w.heap.size+1)) u1_4 u2_1 from hm)
 clear hm
 clear act E qB2 HB2
 refine QSeq.nil (t':=[_,_]) rfl ?_
 obtain rfl:=HA0.out
 clear HA0 oe1 oe2
 simp only [pz,Act.put,sIB,sCZ,sCS,List.set_nil]
 go_wp2
 exact bodyPost_ret (A7 rfl _ _ (w.heap.size+1) ([.int .i64 x.rp,.int .i64 x.ep,.int .u64 (x.fl:Nat),Value.slice ao_o x.l.length cap_o,.int .i64 x.sb,.int .i64 x.mr]) rfl (fun k u hu=>by rw [Hx7.out.cell];simpa using hu) Tryz.underlying40 rfl (by kernel_rfl)) rfl ⟨_,rfl,⟨_,rfl,HOK.out,(Hx6.out.mod Cx8.out (by intro k h1 h2;omega)).widen (by intro k h1;omega)⟩,((HM0.out.trans Cx5.out (by intro k h1 h2;omega)).trans Cx8.out (by intro k h1 h2;omega))⟩
open Go.Proofs renaming Tryz.func141→va',Tryz.ntmps141→vb',Tryz.underlying41→vc',Tryz.underlying40→vg',Tryz.func111→vj' in
open Go.Proofs.YtnaoeginonpicaaGreat renaming PmR→vd',cop_Pm→vk',info_Pm→vm' in
open Go.Gv renaming n'40→ve',n'6→vf',z'20→vh',z'21→vi',n'64→vl' in
set_option maxHeartbeats 4000000 in
theorem copied_Pm:CopL PmR cpPm 141 111:=
 fm11'
set_option maxHeartbeats 4000000 in
theorem cop_Tb:CopR TbR cpTb 144:=by
 intro R2 x cs w hx hB2 hP
 obtain ⟨v_l,rfl,hok,hs0⟩:=hx
 obtain ⟨ao,cap,rfl⟩:=hs0.shape
 have HS:=Lib.hid hs0
 have HBT:=Lib.hid hB2
 have HOK:=Lib.hid hok
 have HP:=Lib.hid hP
 clear hs0 hB2 hok hP
 go_enter Tryz.func144,Tryz.ntmps144
 go_upto_region 1 with (fail)
 obtain ⟨w1,hw1⟩:∃ zz,zz=((w.alloc (.cells (x.cells (.slice ao x.l.length cap):List Value).toArray 127)).alloc (.cells #[.int .i64 0,.slice none 0 0] 127)):=⟨_,rfl⟩
 change Code.wp _ _ _ _ ((w.alloc (.cells (x.cells (.slice ao x.l.length cap):List Value).toArray 127)).alloc (.cells #[.int .i64 0,.slice none 0 0] 127))
 rw [← hw1]
 have HB1:=hid (show Cs w1 (w.heap.size) (x.cells (.slice ao x.l.length cap):List Value).toArray 127 by rw [hw1];exact (Cs.new _ _ _).alloc _)
 have HB2:=hid (show Cs w1 (w.heap.size+1) #[.int .i64 0,.slice none 0 0] 127 by rw [hw1];exact Cs_newN _ _ _ (by simp))
 have hm:Mod (fun _=>False) w w1:=by rw [hw1];exact ((Mod.refl _ _).alloc _).alloc _
 have HM0:=hid (show Mod (fun _=>False) w w1 from hm.mono (fun _ _ h=>h.elim))
 have hs1:w1.heap.size=w.heap.size+2:=by rw [hw1];simp
 have Hx1:=hid (HS.out.mod hm (fun _ _ h=>h))
 clear HS
 clear hw1 hm
 go_upto_region 1 with (fail)
 refine Aa 8 [3,4,5,6,12] [0,1,2,3,4] (fun a0 HA0=>?_)
 have oe1:=ev HA0 1 rfl
 refine QSeq.pure rfl (.pointer (some ⟨w.heap.size,1,none⟩)) (fun E=>Ad rfl Tryz.underlying127 rfl (by kernel_rfl) (E.v oe1)) ?_
 refine QSeq.pure rfl _ (fun E=>Aj rfl Tryz.underlying125 rfl (E.d 0 0) (Cs.lit1 HB1.out rfl)) ?_
 refine QSeq.call rfl rfl Tryz.func147 (copied_Dn _ x.l _ _ Hx1.out (by intro k h1;have hb:=HBT.out k h1;omega) HP.out (fun _ _=>trivial)) (fun E=>Az (E.d 1 0) rfl) ?_
 rintro e u1_2 ⟨vo,rfl,qo,hm⟩
 obtain ⟨ao_o,cap_o,rfl⟩:=qo.shape
 refine ⟨_,rfl,?_⟩
 have Hx2:=hid qo
 have zu1_2:=hm.size
 have Cx3:=hid (show Mod (fun _=>False) w1 u1_2 from hm)
 clear hm
 clear qo
 refine QSeq.pure rfl (.pointer (some ⟨w.heap.size,1,none⟩)) (fun E=>Ad rfl Tryz.underlying127 rfl (by kernel_rfl) (E.v oe1)) ?_
 refine QSeq.go fun act E=>?_
 refine Aq rfl (Ac rfl) rfl (HB1.out.mod Cx3.out (fun h=>h)) (off:=1) (vs:=[Value.slice ao_o x.l.length cap_o]) (by kernel_rfl) one1 (by show 1+1≤2;decide) (E.d 3 0) (ec (E.d 2 1)) ?_
 intro u1_4 qc0 hm
 have qB1:=qc0.eqv (b:=(([.int .i64 x.ix,Value.slice ao_o x.l.length cap_o]):List Value).toArray) rfl
 clear qc0
 have Hx4:=hid qB1
 have zu1_4:=hm.size
 have HMu1_4:=hid hm
 have Cx5:=hid (Mod.goS (S':=(fun k=>(k=w.heap.size))) Cx3.out hm (fun _ h=>h.elim) (by intro k h0 h2;exact h2))
 clear hm Cx3
 clear act E qB1 HB1
 have Hx6:=hid (Hx2.out.mod HMu1_4.out (by intro k h1 h2;omega))
 clear Hx2 HMu1_4
 refine QSeq.nil (t':=[_,_,_,_,_]) rfl ?_
 obtain rfl:=HA0.out
 clear HA0 oe1
 simp only [pz,Act.put,sIB,sCZ,sCS,List.set_nil]
 go_upto_region 2 with (fail)
 refine Aa 8 [7,9] [0,1] (fun a0 HA0=>?_)
 have oe1:=ev HA0 1 rfl
 have oe2:=ev HA0 2 rfl
 refine QSeq.pure rfl _ (fun E=>Am rfl Tryz.underlying127 rfl (off:=0) (cs:=([.int .i64 x.ix,Value.slice ao_o x.l.length cap_o])) (by kernel_rfl) (E.v oe1) (Cs.whole Hx4.out)) ?_
 refine QSeq.go fun act E=>?_
 refine Aq rfl (Ac rfl) rfl (HB2.out.mod Cx5.out (by intro h2;omega)) (off:=0) (vs:=([.int .i64 x.ix,Value.slice ao_o x.l.length cap_o])) (by kernel_rfl) (by intro u hu;simp only [List.mem_cons,List.not_mem_nil,or_false] at hu;rcases hu with rfl|rfl<;>rfl) (by show 0+2≤2;decide) (E.v oe2) (ec (E.d 0 0)) ?_
 intro u2_1 qc0 hm
 have qB2:=qc0.eqv (b:=(([.int .i64 x.ix,Value.slice ao_o x.l.length cap_o]):List Value).toArray) (A5 _ _ rfl)
 clear qc0
 have Hx7:=hid qB2
 have zu2_1:=hm.size
 have Cx8:=hid (show Mod (fun k=>(k=w.heap.size+1)) u1_4 u2_1 from hm)
 clear hm
 clear act E qB2 HB2
 refine QSeq.nil (t':=[_,_]) rfl ?_
 obtain rfl:=HA0.out
 clear HA0 oe1 oe2
 simp only [pz,Act.put,sIB,sCZ,sCS,List.set_nil]
 go_wp2
 exact bodyPost_ret (A7 rfl _ _ (w.heap.size+1) ([.int .i64 x.ix,Value.slice ao_o x.l.length cap_o]) rfl (fun k u hu=>by rw [Hx7.out.cell];simpa using hu) Tryz.underlying127 rfl (by kernel_rfl)) rfl ⟨_,rfl,⟨_,rfl,HOK.out,(Hx6.out.mod Cx8.out (by intro k h1 h2;omega)).widen (by intro k h1;omega)⟩,((HM0.out.trans Cx5.out (by intro k h1 h2;omega)).trans Cx8.out (by intro k h1 h2;omega))⟩
set_option maxHeartbeats 4000000 in
theorem copied_Tb:CopL TbR cpTb 143 144:=by
 intro R2 l v w hs hB2 hl hP
 obtain ⟨ao,cap,rfl⟩:=hs.shape
 have HS:=Lib.hid hs
 have HBT:=Lib.hid hB2
 have HL:=Lib.hid hl
 have HP:=Lib.hid hP
 clear hs hB2 hl hP
 go_enter Tryz.func143,Tryz.ntmps143
 go_upto_region 2 with (fail)
 have HM0:=hid (Mod.refl (fun _=>False) w)
 go_upto_region 2 with (fail)
 refine Aa 22 [8,9,10] [0,1,2] (fun a0 HA0=>?_)
 have oe0:=ev HA0 0 rfl
 refine QSeq.pure rfl _ (fun E=>Ai rfl (E.v oe0)) ?_
 refine QSeq.pure rfl (.int .i64 l.length) (fun E=>A0 rfl (E.d 0 0) Tryz.underlying43) ?_
 refine QSeq.pure rfl (.int .i64 0) (fun E=>Ai rfl rfl) ?_
 refine QSeq.nil (t':=[_,_,_]) rfl ?_
 obtain rfl:=HA0.out
 clear HA0 oe0
 simp only [pz,Act.put,sIB,sCZ,sCS]
 go_wp2
 go_loopw [5,10] (fun ta ti wr=>∃ k:Nat,ti=.int .i64 (k:Int)∧k≤l.length∧w.heap.size≤wr.heap.size∧OwS TbR 127 (fun b=>w.heap.size≤b∧b < wr.heap.size) (fun b=>w.heap.size≤b∧b < wr.heap.size) wr ta (l.take k)∧RdS TbR R2 wr (.slice ao l.length cap) l∧Mod (fun _=>False) w wr) (fun _ ti _=>l.length - (intOf ti).toNat)
 case atStart=>exact ⟨0,rfl,Nat.zero_le _,Nat.le_refl _,OwS.nil _ _ _ _ _,HS.out,HM0.out⟩
 case round=>
  obtain ⟨k,rfl,hk,hz,ha,hs,hm⟩:=hrel
  obtain ⟨wl,rfl⟩:∃ x,x=wr:=⟨_,rfl⟩
  obtain ⟨aol,capl,rfl⟩:=ha.shape
  have HAL:=Lib.hid ha
  have HSL:=Lib.hid hs
  have HML:=Lib.hid hm
  clear ha hs hm HS HM0
  by_cases hlt:k < l.length
  ·skip
   go_upto_region 3 with (fail)
   refine Aa 22 [11] [0] (fun a0 HA0=>?_)
   have oe9:=ev HA0 9 rfl
   have oe10:=ev HA0 10 rfl
   refine QSeq.pure rfl (.bool true) (fun E=>An rfl (E.v oe10) (E.v oe9) (Ag _ _ _ _ _ _) (A6 _ _ _ Tryz.underlying3) (congrArg Value.bool (decide_eq_true (by omega)))) ?_
   refine QSeq.nil (t':=[_]) rfl ?_
   obtain rfl:=HA0.out
   clear HA0 oe9 oe10
   simp only [pz,Act.put,sIB,sCZ,sCS]
   obtain ⟨g0,o0,cs,eao,hrg,hrd,hcs⟩:=HSL.out.at hlt
   subst eao
   have HCL:=hid (show cs.length=2 from TbR.len hrd)
   have HAT:=hid (show CellsAt R2 wl g0 (o0+k * 2) cs from ⟨hrg,hcs⟩)
   have HRD:=Lib.hid hrd
   have HOC:=hid (TbR.one hrd)
   have HPK:=hid (HP.out _ (List.getElem_mem hlt))
   clear hrg hrd hcs
   go_upto_region 4 with (fail)
   refine Aa 22 [12,13,7,25] [0,1,2,3] (fun a0 HA0=>?_)
   have oe8:=ev HA0 8 rfl
   have oe10:=ev HA0 10 rfl
   refine QSeq.pure rfl (.pointer (some ⟨g0,o0+k * 2,none⟩)) (fun E=>Bk (i:=k) (s:=2) rfl Tryz.underlying43 (by kernel_rfl) (E.v oe8) (E.v oe10) (by omega)) ?_
   refine QSeq.pure rfl _ (fun E=>Am rfl Tryz.underlying127 rfl (off:=o0+k * 2) (cs:=cs) (by rw [HCL.out];kernel_rfl) (E.d 0 0) (fun j u hu=>(HAT.out).2 j u hu)) ?_
   refine QSeq.go fun act E=>?_
   refine qc_alloc rfl (Ac rfl) rfl (z:=[.int .i64 0,.slice none 0 0]) (by kernel_rfl) ?_
   intro u4_2 qq hm
   have zl4_2:=qq.lt
   have Hx1:=hid qq
   have zu4_2:=hm.size
   have Cx2:=hid (show Mod (fun _=>False) wl u4_2 from hm)
   clear hm
   clear act E qq
   refine QSeq.go fun act E=>?_
   have hlz:(cs).length=List.length ([.int .i64 0,.slice none 0 0]:List Value):=(by rw [HCL.out];rfl)
   refine Aq rfl (Ac rfl) rfl Hx1.out (off:=0) (vs:=cs) (by rw [hlz];kernel_rfl) HOC.out (by rw [hlz];exact Nat.le_of_eq (Nat.zero_add _)) (E.d 2 0) (ec (E.d 1 1)) ?_
   intro u4_3 qc0 hm
   have qq:=qc0.eqv (b:=(cs:List Value).toArray) (A5 #[.int .i64 0,.slice none 0 0] _ (by rw [hlz];rfl))
   clear qc0 hlz
   have Hx3:=hid qq
   have zu4_3:=hm.size
   have HMu4_3:=hid hm
   have Cx4:=hid (Mod.goS (S':=(fun _=>False)) Cx2.out hm (fun _ h=>h) (by intro k h0 h2;omega))
   clear hm Cx2
   clear act E qq Hx1
   clear HMu4_3
   refine QSeq.nil (t':=[_,_,_,_]) rfl ?_
   obtain rfl:=HA0.out
   clear HA0 oe8 oe10
   simp only [pz,Act.put,sIB,sCZ,sCS,List.set_nil]
   go_upto_region 5 with (fail)
   refine Aa 22 [14,15,16,17,18,19,5] [0,1,2,3,4,5,6] (fun a0 HA0=>?_)
   have oe1:=ev HA0 1 rfl
   have oe5:=ev HA0 5 rfl
   have oe7:=ev HA0 7 rfl
   refine QSeq.pure rfl _ (fun E=>Ai rfl (E.y 6 oe5)) ?_
   refine QSeq.pure rfl _ (fun E=>Ai rfl (E.v oe1)) ?_
   refine QSeq.pure rfl _ (fun E=>Am rfl Tryz.underlying127 rfl (off:=0) (cs:=cs) (by rw [HCL.out];kernel_rfl) (E.v oe7) (Cs.whole Hx3.out)) ?_
   refine QSeq.go fun act E=>?_
   have ea16:act.eval (.tmp 16)=.agg cs.toArray:=(E.d 2 0)
   refine qc_call (args:=#[.agg cs.toArray]) rfl (Ac rfl) (by rw [ex_callV rfl (E.d 1 1) Tryz.func144 (by kernel_rfl) (by kernel_rfl)];exact congrArg (fun z=>Result.ok (Next.enter _ z) _) (by simp only [List.map_toArray,List.map_cons,List.map_nil,ea16];try rfl)) (cop_Tb _ _ _ _ (HRD.out.mod Cx4.out (fun _ _ h=>h)) (by intro k h1;have hb:=HBT.out k h1;omega) HPK.out) ?_
   rintro e u5_3 ⟨cn,rfl,qnw,hm⟩
   have HCN:=hid (TbR.len qnw)
   refine ⟨_,rfl,?_⟩
   have Hx5:=hid qnw
   have zu5_3:=hm.size
   have Cx6:=hid (show Mod (fun _=>False) u4_3 u5_3 from hm)
   clear hm
   clear act E qnw ea16
   refine QSeq.go fun act E=>?_
   refine qc_buildS (e:=127) (cs:=cn) (zc:=[.int .i64 0,.slice none 0 0]) (sz:=2) rfl (Ac rfl) rfl Tryz.underlying43 (by kernel_rfl) rfl (by decide) (by decide) (E.d 3 0) (TbR.len Hx5.out) ?_
   intro u5_4 qrow hm
   have zl5_4:=qrow.lt
   have Hx7:=hid qrow
   have zu5_4:=hm.size
   have HMu5_4:=hid hm
   have Cx8:=hid (Cx6.out.goE hm)
   clear hm Cx6
   clear act E qrow
   refine QSeq.go fun act E=>?_
   refine qc_appS (A:=TbR) (e:=127) rfl (Ac rfl) rfl (.agg #[.int .i64 0,.slice none 0 0]) 32 Tryz.underlying43 info_Tb (by rfl) (of_decide_eq_true (by kernel_rfl)) (E.d 0 4) (E.d 4 0) (((HAL.out.mod Cx4.out (fun _ _ h=>h) (fun _ _ h=>h)).mod Cx8.out (fun _ _ h=>h) (fun _ _ h=>h))) (RdS.single (R:=(fun k=>(New u4_3 u5_3 k)∨(k=u5_3.heap.size))) Hx7.out ((Hx5.out.mod HMu5_4.out (fun _ _ h=>h)).widen (by intro k h1;first|omega|exact h1.elim|exact Or.inl h1|exact Or.inr (h1))) (by right;rfl)) (by intro k h1 h2;omega) (by have h9:=HL.out;rw [List.length_take];simp only [List.length_cons,List.length_nil];omega) (by have h9:=HL.out;rw [List.length_take];simp only [List.length_cons,List.length_nil];rw [Ax];omega) ?_
   intro ao5 cap5 u5_5 qout hm
   have Hx9:=hid (qout.widen (R':=(fun k=>(New w wl k)∨(New u5_4 u5_5 k))) (E':=(fun k=>(New w wl k)∨(New u4_3 u5_3 k)∨(k=u5_3.heap.size))) (fun _ h=>h) (by intro k h1;rcases h1 with h1|(h1|h1)<;>first|omega|exact h1.elim|exact Or.inl h1|exact Or.inr (Or.inl h1)|exact Or.inr (Or.inr (h1))))
   have zu5_5:=hm.size
   have HMu5_5:=hid hm
   have Cx10:=hid (Mod.goS (S':=(fun k=>(New w wl k))) Cx8.out hm (fun _ h=>h.elim) (by intro k h0 h2;exact h2))
   clear hm Cx8
   clear act E qout HAL
   refine QSeq.pure rfl _ (fun E=>Af rfl (E.d 5 0)) ?_
   have Hx11:=hid ((Hx5.out.mod HMu5_4.out (fun _ _ h=>h)).mod HMu5_5.out (by intro k h1 h2;omega))
   have Hx12:=hid (Hx7.out.mod HMu5_5.out (by intro h2;omega))
   clear Hx5 Hx7 HMu5_4 HMu5_5
   refine QSeq.nil (t':=[_,_,_,_,_,_,_]) rfl ?_
   obtain rfl:=HA0.out
   clear HA0 oe1 oe5 oe7
   simp only [pz,Act.put,sIB,sCZ,sCS]
   have hq:=Hx9.out
   rw [show l.take k ++ [l[k]]=l.take (k+1) from (List.take_succ_eq_append_getElem hlt).symm] at hq
   have HQ:=Lib.hid hq
   clear hq
   go_upto_region 6 with (fail)
   refine Aa 22 [20,10] [0,1] (fun a0 HA0=>?_)
   have oe10:=ev HA0 10 rfl
   refine QSeq.pure rfl (.int .i64 (((k:Nat):Int)+1)) (fun E=>An rfl (E.y 1 oe10) rfl (Ag _ _ _ _ _ _) (run_add_i _ _ Tryz.underlying3) (congrArg (Value.int .i64) (IntWalk.i64_in _ (by have h9:=HL.out;omega)))) ?_
   refine QSeq.pure rfl _ (fun E=>Ai rfl (E.d 0 0)) ?_
   refine QSeq.nil (t':=[_,_]) rfl ?_
   obtain rfl:=HA0.out
   clear HA0 oe10
   simp only [pz,Act.put,sIB,sCZ,sCS]
   go_wp2
   go_roundw
   case rel=>exact ⟨k+1,by go_num,by omega,by omega,HQ.out.widen (by intro b h1;(try dsimp only at h1 ⊢);omega) (by intro b h1;(try dsimp only at h1 ⊢);omega),((HSL.out.mod Cx4.out (fun _ _ h=>h)).mod Cx10.out (sN HBT)),((HML.out.trans Cx4.out (fun _ _ h=>h.elim)).trans Cx10.out (by intro k h1 h2;omega))⟩
   case measure=>simp [intOf];omega
  ·obtain rfl:l.length=k:=by omega
   have hq:=HAL.out
   rw [List.take_length] at hq
   have HQ:=Lib.hid hq
   clear hq
   go_upto_region 3 with (fail)
   refine Aa 22 [11] [0] (fun a0 HA0=>?_)
   have oe9:=ev HA0 9 rfl
   have oe10:=ev HA0 10 rfl
   refine QSeq.pure rfl (.bool false) (fun E=>An rfl (E.v oe10) (E.v oe9) (Ag _ _ _ _ _ _) (A6 _ _ _ Tryz.underlying3) (congrArg Value.bool (decide_eq_false (by omega)))) ?_
   refine QSeq.nil (t':=[_]) rfl ?_
   obtain rfl:=HA0.out
   clear HA0 oe9 oe10
   simp only [pz,Act.put,sIB,sCZ,sCS]
   go_upto_region 7 with (fail)
   refine Aa 22 [21,4] [0,1] (fun a0 HA0=>?_)
   have oe5:=ev HA0 5 rfl
   refine QSeq.pure rfl _ (fun E=>Ai rfl (E.v oe5)) ?_
   refine QSeq.pure rfl _ (fun E=>Af rfl (E.d 0 0)) ?_
   refine QSeq.nil (t':=[_,_]) rfl ?_
   obtain rfl:=HA0.out
   clear HA0 oe5
   simp only [pz,Act.put,sIB,sCZ,sCS]
   go_wp2
   go_ret
   exact ⟨_,rfl,by rw [List.take_length];exact HQ.out.rd.widen (by intro b h1;(try dsimp only at h1 ⊢);omega),HML.out⟩
theorem lay_pl1 (x:Op) (u v:Value) (h:x.nc.length=32):lay (x.cells u).toArray 1 [v]=(([.int .i64 x.ix,v] ++ x.nc.map bv:List Value)).toArray:=by simp [lay,Op.cells,h]
theorem RdR_lenx {R:Nat→Prop} {N:Nat} {w:World} {ao:Option Addr} {n cap:Nat} {bs:List Int} (h:RdR R N w (.slice ao n cap) bs) (hn:n=bs.length):RdR R bs.length w (.slice ao n cap) bs:=⟨h.1,h.2.1,Nat.le_refl _⟩
set_option maxHeartbeats 4000000 in
theorem cop_Op:CopR OpR cpOp 112:=by
 intro R2 x cs w hx hB2 hP
 obtain ⟨v_l,rfl,hok,hs0⟩:=hx
 obtain ⟨ao,cap,rfl⟩:=hs0.shape
 have HS:=Lib.hid hs0
 have HBT:=Lib.hid hB2
 have HOK:=Lib.hid hok
 have HP:=Lib.hid hP
 have HNB:=hid (show OwR (fun k=>False) 900000 w (.slice none 0 0) [] from ⟨Own.nil _ _ _ _,(fun g h=>by cases h),Nat.zero_le _⟩)
 clear hs0 hB2 hok hP
 go_enter Tryz.func112,Tryz.ntmps112
 go_upto_region 1 with (fail)
 obtain ⟨w1,hw1⟩:∃ zz,zz=((w.alloc (.cells (x.cells (.slice ao x.pl.length cap):List Value).toArray 54)).alloc (.cells #[.int .i64 0,.slice none 0 0,.int .u8 0,.int .u8 0,.int .u8 0,.int .u8 0,.int .u8 0,.int .u8 0,.int .u8 0,.int .u8 0,.int .u8 0,.int .u8 0,.int .u8 0,.int .u8 0,.int .u8 0,.int .u8 0,.int .u8 0,.int .u8 0,.int .u8 0,.int .u8 0,.int .u8 0,.int .u8 0,.int .u8 0,.int .u8 0,.int .u8 0,.int .u8 0,.int .u8 0,.int .u8 0,.int .u8 0,.int .u8 0,.int .u8 0,.int .u8 0,.int .u8 0,.int .u8 0] 54)):=⟨_,rfl⟩
 change Code.wp _ _ _ _ ((w.alloc (.cells (x.cells (.slice ao x.pl.length cap):List Value).toArray 54)).alloc (.cells #[.int .i64 0,.slice none 0 0,.int .u8 0,.int .u8 0,.int .u8 0,.int .u8 0,.int .u8 0,.int .u8 0,.int .u8 0,.int .u8 0,.int .u8 0,.int .u8 0,.int .u8 0,.int .u8 0,.int .u8 0,.int .u8 0,.int .u8 0,.int .u8 0,.int .u8 0,.int .u8 0,.int .u8 0,.int .u8 0,.int .u8 0,.int .u8 0,.int .u8 0,.int .u8 0,.int .u8 0,.int .u8 0,.int .u8 0,.int .u8 0,.int .u8 0,.int .u8 0,.int .u8 0,.int .u8 0] 54))
 rw [← hw1]
 have HB1:=hid (show Cs w1 (w.heap.size) (x.cells (.slice ao x.pl.length cap):List Value).toArray 54 by rw [hw1];exact (Cs.new _ _ _).alloc _)
 have HB2:=hid (show Cs w1 (w.heap.size+1) #[.int .i64 0,.slice none 0 0,.int .u8 0,.int .u8 0,.int .u8 0,.int .u8 0,.int .u8 0,.int .u8 0,.int .u8 0,.int .u8 0,.int .u8 0,.int .u8 0,.int .u8 0,.int .u8 0,.int .u8 0,.int .u8 0,.int .u8 0,.int .u8 0,.int .u8 0,.int .u8 0,.int .u8 0,.int .u8 0,.int .u8 0,.int .u8 0,.int .u8 0,.int .u8 0,.int .u8 0,.int .u8 0,.int .u8 0,.int .u8 0,.int .u8 0,.int .u8 0,.int .u8 0,.int .u8 0] 54 by rw [hw1];exact Cs_newN _ _ _ (by simp))
 have hm:Mod (fun _=>False) w w1:=by rw [hw1];exact ((Mod.refl _ _).alloc _).alloc _
 have HM0:=hid (show Mod (fun _=>False) w w1 from hm.mono (fun _ _ h=>h.elim))
 have hs1:w1.heap.size=w.heap.size+2:=by rw [hw1];simp
 have Hx1:=hid (HS.out.mod hm (fun _ _ h=>h))
 clear HS
 have Hx2:=hid (HNB.out.mod hm (fun _ _ h=>h))
 clear HNB
 clear hw1 hm
 go_upto_region 1 with (fail)
 refine Aa 8 [3,4,5,6,12] [0,1,2,3,4] (fun a0 HA0=>?_)
 have oe1:=ev HA0 1 rfl
 refine QSeq.pure rfl (.pointer (some ⟨w.heap.size,1,none⟩)) (fun E=>Ad rfl Tryz.underlying54 rfl (by kernel_rfl) (E.v oe1)) ?_
 refine QSeq.pure rfl _ (fun E=>Aj rfl Tryz.underlying52 rfl (E.d 0 0) (Cs.hd1 HB1.out rfl)) ?_
 refine QSeq.go fun act E=>?_
 refine qc_appR rfl (Ac rfl) rfl rfl (E.d 1 0) Hx2.out Hx1.out (by have h9:=HP.out;unfold cpOp at h9;simpa using h9) ?_
 intro ao1 cap1 u1_2 qnb hm
 have Hx3:=hid (qnb.widen (R':=(fun k=>(False)∨(New w1 u1_2 k))) (fun _ h=>h) (Nat.le_refl _))
 have zu1_2:=hm.size
 have Cx4:=hid (show Mod (fun k=>(False)) w1 u1_2 from hm)
 clear hm
 clear act E qnb Hx2
 refine QSeq.pure rfl (.pointer (some ⟨w.heap.size,1,none⟩)) (fun E=>Ad rfl Tryz.underlying54 rfl (by kernel_rfl) (E.v oe1)) ?_
 refine QSeq.go fun act E=>?_
 refine Aq rfl (Ac rfl) rfl (HB1.out.mod Cx4.out (by intro h2;(try simp only [false_or] at h2)<;>omega)) (off:=1) (vs:=[Value.slice ao1 (([]:List Int).length+x.pl.length) cap1]) (by kernel_rfl) one1 (by simp only [List.size_toArray,Op.cells,List.length_append,List.length_map,List.length_cons,List.length_nil,HOK.out.2.1]<;>omega) (E.d 3 0) (ec (E.d 2 1)) ?_
 intro u1_4 qc0 hm
 have qB1:=qc0.eqv (b:=(([.int .i64 x.ix,Value.slice ao1 (([]:List Int).length+x.pl.length) cap1] ++ x.nc.map bv):List Value).toArray) (lay_pl1 x _ _ HOK.out.2.1)
 clear qc0
 have Hx5:=hid qB1
 have zu1_4:=hm.size
 have HMu1_4:=hid hm
 have Cx6:=hid (Mod.goS (S':=(fun k=>(False)∨(k=w.heap.size))) Cx4.out hm (fun _ h=>Or.inl h) (by intro k h0 h2;exact Or.inr (h2)))
 clear hm Cx4
 clear act E qB1 HB1
 have Hx7:=hid (Hx3.out.mod HMu1_4.out (by intro k h1 h2;(try simp only [false_or] at h1 h2)<;>omega))
 clear Hx3 HMu1_4
 refine QSeq.nil (t':=[_,_,_,_,_]) rfl ?_
 obtain rfl:=HA0.out
 clear HA0 oe1
 simp only [pz,Act.put,sIB,sCZ,sCS,List.set_nil]
 go_upto_region 2 with (fail)
 refine Aa 8 [7,9] [0,1] (fun a0 HA0=>?_)
 have oe1:=ev HA0 1 rfl
 have oe2:=ev HA0 2 rfl
 refine QSeq.pure rfl _ (fun E=>Am rfl Tryz.underlying54 rfl (off:=0) (cs:=([.int .i64 x.ix,Value.slice ao1 (([]:List Int).length+x.pl.length) cap1] ++ x.nc.map bv)) (by simp only [List.length_append,List.length_map,HOK.out.2.1];kernel_rfl) (E.v oe1) (Cs.whole Hx5.out)) ?_
 refine QSeq.go fun act E=>?_
 refine Aq rfl (Ac rfl) rfl (HB2.out.mod Cx6.out (by intro h2;(try simp only [false_or] at h2)<;>omega)) (off:=0) (vs:=([.int .i64 x.ix,Value.slice ao1 (([]:List Int).length+x.pl.length) cap1] ++ x.nc.map bv)) (by simp only [List.length_append,List.length_map,HOK.out.2.1];kernel_rfl) (by intro u hu;simp only [List.mem_append,List.mem_cons,List.not_mem_nil,or_false,List.mem_map] at hu;rcases hu with (rfl|rfl)|⟨y,-,rfl⟩<;>rfl) (by simp only [List.size_toArray,List.length_append,List.length_map,List.length_cons,List.length_nil,HOK.out.2.1];decide) (E.v oe2) (ec (E.d 0 0)) ?_
 intro u2_1 qc0 hm
 have qB2:=qc0.eqv (b:=(([.int .i64 x.ix,Value.slice ao1 (([]:List Int).length+x.pl.length) cap1] ++ x.nc.map bv):List Value).toArray) (A5 _ _ (by simp only [List.length_append,List.length_map,HOK.out.2.1];rfl))
 clear qc0
 have Hx8:=hid qB2
 have zu2_1:=hm.size
 have Cx9:=hid (show Mod (fun k=>(k=w.heap.size+1)) u1_4 u2_1 from hm)
 clear hm
 clear act E qB2 HB2
 refine QSeq.nil (t':=[_,_]) rfl ?_
 obtain rfl:=HA0.out
 clear HA0 oe1 oe2
 simp only [pz,Act.put,sIB,sCZ,sCS,List.set_nil]
 have hq:=(Hx7.out.mod Cx9.out (by intro k h1 h2;(try simp only [false_or] at h1 h2)<;>omega))
 rw [List.nil_append] at hq
 go_wp2
 exact bodyPost_ret (A7 rfl _ _ (w.heap.size+1) ([.int .i64 x.ix,Value.slice ao1 (([]:List Int).length+x.pl.length) cap1] ++ x.nc.map bv) rfl (fun k u hu=>by rw [Hx8.out.cell];simpa using hu) Tryz.underlying54 rfl (by simp only [List.length_append,List.length_map,HOK.out.2.1];kernel_rfl)) rfl ⟨_,rfl,⟨_,rfl,HOK.out,RdR_lenx (hq.rd.widen (by intro k h1;rcases h1 with h1|h1<;>first|exact h1.elim|omega) (Nat.le_refl _)) (by simp)⟩,((HM0.out.trans Cx6.out (by intro k h1 h2;(try simp only [false_or] at h1 h2)<;>omega)).trans Cx9.out (by intro k h1 h2;(try simp only [false_or] at h1 h2)<;>omega))⟩
open Go.Proofs renaming Tryz.func142→va',Tryz.ntmps142→vb',Tryz.underlying42→vc',Tryz.underlying54→vg',Tryz.func112→vj' in
open Go.Proofs.YtnaoeginonpicaaGreat renaming OpR→vd',cop_Op→vk',info_Op→vm' in
open Go.Gv renaming n'54→ve',n'34→vf',z'17→vh',z'18→vi',n'64→vl' in
set_option maxHeartbeats 4000000 in
theorem copied_Op:CopL OpR cpOp 142 112:=
 fm11'
set_option maxHeartbeats 4000000 in
theorem cop_Ba:CopR BaR cpBa 113:=by
 intro R2 x cs w hx hB2 hP
 obtain ⟨v_ps,v_os,v_ts,rfl,hok,hs0,hs1,hs2⟩:=hx
 obtain ⟨ao_ps,cap_ps,rfl⟩:=hs0.shape
 obtain ⟨ao_os,cap_os,rfl⟩:=hs1.shape
 obtain ⟨ao_ts,cap_ts,rfl⟩:=hs2.shape
 have HS0:=Lib.hid hs0
 have HS1:=Lib.hid hs1
 have HS2:=Lib.hid hs2
 have HBT:=Lib.hid hB2
 have HOK:=Lib.hid hok
 have HP:=Lib.hid hP
 clear hs0 hs1 hs2 hB2 hok hP
 go_enter Tryz.func113,Tryz.ntmps113
 go_upto_region 1 with (fail)
 obtain ⟨w1,hw1⟩:∃ zz,zz=((w.alloc (.cells #[.int .i64 x.ep,.int .u64 (x.tm:Nat),Value.slice ao_ps x.ps.length cap_ps,Value.slice ao_os x.os.length cap_os,Value.slice ao_ts x.ts.length cap_ts] 45)).alloc (.cells #[.int .i64 0,.int .u64 0,.slice none 0 0,.slice none 0 0,.slice none 0 0] 45)):=⟨_,rfl⟩
 change Code.wp _ _ _ _ ((w.alloc (.cells #[.int .i64 x.ep,.int .u64 (x.tm:Nat),Value.slice ao_ps x.ps.length cap_ps,Value.slice ao_os x.os.length cap_os,Value.slice ao_ts x.ts.length cap_ts] 45)).alloc (.cells #[.int .i64 0,.int .u64 0,.slice none 0 0,.slice none 0 0,.slice none 0 0] 45))
 rw [← hw1]
 have HB1:=hid (show Cs w1 (w.heap.size) #[.int .i64 x.ep,.int .u64 (x.tm:Nat),Value.slice ao_ps x.ps.length cap_ps,Value.slice ao_os x.os.length cap_os,Value.slice ao_ts x.ts.length cap_ts] 45 by rw [hw1];exact (Cs.new _ _ _).alloc _)
 have HB2:=hid (show Cs w1 (w.heap.size+1) #[.int .i64 0,.int .u64 0,.slice none 0 0,.slice none 0 0,.slice none 0 0] 45 by rw [hw1];exact Cs_newN _ _ _ (by simp))
 have hm:Mod (fun _=>False) w w1:=by rw [hw1];exact ((Mod.refl _ _).alloc _).alloc _
 have HM0:=hid (show Mod (fun _=>False) w w1 from hm.mono (fun _ _ h=>h.elim))
 have hs1:w1.heap.size=w.heap.size+2:=by rw [hw1];simp
 have Hx1:=hid (HS0.out.mod hm (fun _ _ h=>h))
 clear HS0
 have Hx2:=hid (HS1.out.mod hm (fun _ _ h=>h))
 clear HS1
 have Hx3:=hid (HS2.out.mod hm (fun _ _ h=>h))
 clear HS2
 clear hw1 hm
 go_upto_region 1 with (fail)
 generalize ha0:Act.mk _ _=a0
 have oe1:a0.eval (.tmp 1)=.pointer (some ⟨w.heap.size,0,none⟩):=by rw [← ha0];rfl
 have hsz0:a0.tmps.size=16:=by rw [← ha0];rfl
 have HA0:=hid ha0
 clear ha0
 refine A3 16 hsz0 [3,4,5,6,7,8,9,10,11,12,26,13,28,14,30] (fun k=>(k=w.heap.size)) (fun k j=>(k=3∧((j=w.heap.size)))∨(k=4∧((j=w.heap.size)))∨(k=5∧((j=w.heap.size)))) (by intro k j h;(try dsimp only at h ⊢);omega) [qi (.pointer (some ⟨w.heap.size,2,none⟩)),qi (.slice ao_ps x.ps.length cap_ps),qv 0,qi (.pointer (some ⟨w.heap.size,3,none⟩)),qi (.slice ao_os x.os.length cap_os),qv 1,qi (.pointer (some ⟨w.heap.size,4,none⟩)),qi (.slice ao_ts x.ts.length cap_ts),qv 2,qi (.pointer (some ⟨w.heap.size,2,none⟩)),qv 3,qi (.pointer (some ⟨w.heap.size,3,none⟩)),qv 4,qi (.pointer (some ⟨w.heap.size,4,none⟩)),qv 5] ⟨Ab,Ab,Ak,Ab,Ab,Ak,Ab,Ab,Ak,Ab,Ak,Ab,Ak,Ab,Ak,trivial⟩ [2,5,8,10,12,14] ⟨?_,?_,?_,?_,?_,?_,?_,?_,?_,?_,?_,?_,?_,?_,?_,trivial⟩ ?_
 ·exact stq (fun E=>Ad rfl Tryz.underlying45 rfl (by kernel_rfl) (E.v oe1))
 ·refine Av rfl rfl rfl fun _ _ _ _ _ _ hm0 _ _ hd hub _=>?_
  have h0:=hd ⟨0,.data⟩ (by simp) rfl _ rfl
  refine Bd rfl (Ac rfl) (Aj rfl Tryz.underlying41 rfl h0 (Cs.lit1 (HB1.out.mod hm0 (by intro h2;have hu:=hub 3 10 rfl (by kernel_rfl);rcases h2 with ⟨h0,kk,hk,h2⟩|h2<;>omega)) rfl)) QE.refl ?_
  rfl
 ·exact Ah rfl
 ·exact stq (fun E=>Ad rfl Tryz.underlying45 rfl (by kernel_rfl) (E.v oe1))
 ·refine Av rfl rfl rfl fun _ _ _ _ _ _ hm0 _ _ hd hub _=>?_
  have h3:=hd ⟨3,.data⟩ (by simp) rfl _ rfl
  refine Bd rfl (Ac rfl) (Aj rfl Tryz.underlying42 rfl h3 (Cs.lit1 (HB1.out.mod hm0 (by intro h2;have hu:=hub 3 10 rfl (by kernel_rfl);rcases h2 with ⟨h0,kk,hk,h2⟩|h2<;>omega)) rfl)) QE.refl ?_
  rfl
 ·exact Ah rfl
 ·exact stq (fun E=>Ad rfl Tryz.underlying45 rfl (by kernel_rfl) (E.v oe1))
 ·refine Av rfl rfl rfl fun _ _ _ _ _ _ hm0 _ _ hd hub _=>?_
  have h6:=hd ⟨6,.data⟩ (by simp) rfl _ rfl
  refine Bd rfl (Ac rfl) (Aj rfl Tryz.underlying43 rfl h6 (Cs.lit1 (HB1.out.mod hm0 (by intro h2;have hu:=hub 3 10 rfl (by kernel_rfl);rcases h2 with ⟨h0,kk,hk,h2⟩|h2<;>omega)) rfl)) QE.refl ?_
  rfl
 ·exact Ah rfl
 ·exact stq (fun E=>Ad rfl Tryz.underlying45 rfl (by kernel_rfl) (E.v oe1))
 ·exact Ah rfl
 ·exact stq (fun E=>Ad rfl Tryz.underlying45 rfl (by kernel_rfl) (E.v oe1))
 ·exact Ah rfl
 ·exact stq (fun E=>Ad rfl Tryz.underlying45 rfl (by kernel_rfl) (E.v oe1))
 ·exact Ah rfl
 intro u1_0 hr
 have zu1_0:=hr.size
 have Cx4:=hid (hr.new (S:=(fun k=>(k=w.heap.size))))
 have Hx5:=hid (HB1.out.mod hr (by intro h2;omega))
 clear HB1
 clear hr
 refine QChain.go fun Z act E=>?_
 refine Ap (args:=#[.slice ao_ps x.ps.length cap_ps,.func (.func 111) #[] #[]]) rfl (Ac rfl) rfl Tryz.func141 (Az (E.d 1) rfl) (copied_Pm _ x.ps _ _ (Hx1.out.mod Cx4.out (sB HBT)) (by intro k h1;have hb:=HBT.out k h1;omega) HP.out.1.1 HP.out.1.2) ?_
 rintro e u1_1a ⟨vops,rfl,qops,hm⟩
 obtain ⟨ao_ops,cap_ops,rfl⟩:=qops.shape
 have zu1_1a:=hm.size
 refine ⟨_,rfl,hm.mono (fun _ _ h=>h.elim),(fun _=>rfl),?_⟩
 intro u1_1 hr
 have zu1_1:=hr.size
 have Hx6:=hid ((qops.widen (R':=(fun k=>(New u1_0 u1_1a k))) (fun _ h=>h)).mod hr (by intro k h1 h2;omega))
 have hmr:=Mod.after hm hr
 have Hx7:=hid (Hx5.out.mod hmr (by intro h2;omega))
 clear Hx5
 clear hmr
 have Cx8:=hid (Cx4.out.go hm hr)
 clear Cx4 hm hr Z act E qops
 refine QChain.go fun Z act E=>?_
 refine Ap (args:=#[.slice ao_os x.os.length cap_os,.func (.func 112) #[] #[]]) rfl (Ac rfl) rfl Tryz.func142 (Az (E.d 4) rfl) (copied_Op _ x.os _ _ (Hx2.out.mod Cx8.out (sB HBT)) (by intro k h1;have hb:=HBT.out k h1;omega) HP.out.2.1.1 HP.out.2.1.2) ?_
 rintro e u1_2a ⟨voos,rfl,qoos,hm⟩
 obtain ⟨ao_oos,cap_oos,rfl⟩:=qoos.shape
 have zu1_2a:=hm.size
 refine ⟨_,rfl,hm.mono (fun _ _ h=>h.elim),(fun _=>rfl),?_⟩
 intro u1_2 hr
 have zu1_2:=hr.size
 have Hx9:=hid ((qoos.widen (R':=(fun k=>(New u1_1 u1_2a k))) (fun _ h=>h)).mod hr (by intro k h1 h2;omega))
 have hmr:=Mod.after hm hr
 have Hx10:=hid (Hx7.out.mod hmr (by intro h2;omega))
 have Hx11:=hid (Hx6.out.mod hmr (by intro k h1 h2;omega))
 clear Hx7 Hx6
 clear hmr
 have Cx12:=hid (Cx8.out.go hm hr)
 clear Cx8 hm hr Z act E qoos
 refine QChain.go fun Z act E=>?_
 refine Ap (args:=#[.slice ao_ts x.ts.length cap_ts,.func (.func 144) #[] #[]]) rfl (Ac rfl) rfl Tryz.func143 (Az (E.d 7) rfl) (copied_Tb _ x.ts _ _ (Hx3.out.mod Cx12.out (sB HBT)) (by intro k h1;have hb:=HBT.out k h1;omega) HP.out.2.2.1 HP.out.2.2.2) ?_
 rintro e u1_3a ⟨vots,rfl,qots,hm⟩
 obtain ⟨ao_ots,cap_ots,rfl⟩:=qots.shape
 have zu1_3a:=hm.size
 refine ⟨_,rfl,hm.mono (fun _ _ h=>h.elim),(fun _=>rfl),?_⟩
 intro u1_3 hr
 have zu1_3:=hr.size
 have Hx13:=hid ((qots.widen (R':=(fun k=>(New u1_2 u1_3a k))) (fun _ h=>h)).mod hr (by intro k h1 h2;omega))
 have hmr:=Mod.after hm hr
 have Hx14:=hid (Hx10.out.mod hmr (by intro h2;omega))
 have Hx15:=hid (Hx11.out.mod hmr (by intro k h1 h2;omega))
 have Hx16:=hid (Hx9.out.mod hmr (by intro k h1 h2;omega))
 clear Hx10 Hx11 Hx9
 clear hmr
 have Cx17:=hid (Cx12.out.go hm hr)
 clear Cx12 hm hr Z act E qots
 refine QChain.go fun Z act E=>?_
 refine Aq rfl (Ac rfl) rfl Hx14.out (off:=2) (vs:=[Value.slice ao_ops x.ps.length cap_ops]) (by kernel_rfl) one1 (by show 2+1≤5;decide) (E.d 9) (ec (chv (v:=.slice ao_ops x.ps.length cap_ops) (E.d 2))) ?_
 intro u1_4a qc0 hm
 have qB1:=qc0.eqv (b:=#[.int .i64 x.ep,.int .u64 (x.tm:Nat),Value.slice ao_ops x.ps.length cap_ops,Value.slice ao_os x.os.length cap_os,Value.slice ao_ts x.ts.length cap_ts]) rfl
 clear qc0
 have zu1_4a:=hm.size
 refine ⟨hm.mono (by intro k hk h;omega),(fun _=>rfl),?_⟩
 intro u1_4 hr
 have zu1_4:=hr.size
 have Hx18:=hid (qB1.mod hr (by intro h2;omega))
 have hmr:=hm.two hr
 have Hx19:=hid (Hx15.out.mod hmr (by intro k h1 h2;omega))
 have Hx20:=hid (Hx16.out.mod hmr (by intro k h1 h2;omega))
 have Hx21:=hid (Hx13.out.mod hmr (by intro k h1 h2;omega))
 clear Hx15 Hx16 Hx13
 clear hmr
 have Cx22:=hid (Cx17.out.goM hm hr (fun _ _ h=>h))
 clear Cx17 hm hr Z act E qB1 Hx14
 refine QChain.go fun Z act E=>?_
 refine Aq rfl (Ac rfl) rfl Hx18.out (off:=3) (vs:=[Value.slice ao_oos x.os.length cap_oos]) (by kernel_rfl) one1 (by show 3+1≤5;decide) (E.d 11) (ec (chv (v:=.slice ao_oos x.os.length cap_oos) (E.d 5))) ?_
 intro u1_5a qc0 hm
 have qB1:=qc0.eqv (b:=#[.int .i64 x.ep,.int .u64 (x.tm:Nat),Value.slice ao_ops x.ps.length cap_ops,Value.slice ao_oos x.os.length cap_oos,Value.slice ao_ts x.ts.length cap_ts]) rfl
 clear qc0
 have zu1_5a:=hm.size
 refine ⟨hm.mono (by intro k hk h;omega),(fun _=>rfl),?_⟩
 intro u1_5 hr
 have zu1_5:=hr.size
 have Hx23:=hid (qB1.mod hr (by intro h2;omega))
 have hmr:=hm.two hr
 have Hx24:=hid (Hx19.out.mod hmr (by intro k h1 h2;omega))
 have Hx25:=hid (Hx20.out.mod hmr (by intro k h1 h2;omega))
 have Hx26:=hid (Hx21.out.mod hmr (by intro k h1 h2;omega))
 clear Hx19 Hx20 Hx21
 clear hmr
 have Cx27:=hid (Cx22.out.goM hm hr (fun _ _ h=>h))
 clear Cx22 hm hr Z act E qB1 Hx18
 refine QChain.go fun Z act E=>?_
 refine Aq rfl (Ac rfl) rfl Hx23.out (off:=4) (vs:=[Value.slice ao_ots x.ts.length cap_ots]) (by kernel_rfl) one1 (by show 4+1≤5;decide) (E.d 13) (ec (chv (v:=.slice ao_ots x.ts.length cap_ots) (E.d 8))) ?_
 intro u1_6a qc0 hm
 have qB1:=qc0.eqv (b:=#[.int .i64 x.ep,.int .u64 (x.tm:Nat),Value.slice ao_ops x.ps.length cap_ops,Value.slice ao_oos x.os.length cap_oos,Value.slice ao_ots x.ts.length cap_ots]) rfl
 clear qc0
 have zu1_6a:=hm.size
 refine ⟨hm.mono (by intro k hk h;omega),(fun _=>rfl),?_⟩
 intro u1_6 hr
 have zu1_6:=hr.size
 have Hx28:=hid (qB1.mod hr (by intro h2;omega))
 have hmr:=hm.two hr
 have Hx29:=hid (Hx24.out.mod hmr (by intro k h1 h2;omega))
 have Hx30:=hid (Hx25.out.mod hmr (by intro k h1 h2;omega))
 have Hx31:=hid (Hx26.out.mod hmr (by intro k h1 h2;omega))
 clear Hx24 Hx25 Hx26
 clear hmr
 have Cx32:=hid (Cx27.out.goM hm hr (fun _ _ h=>h))
 clear Cx27 hm hr Z act E qB1 Hx23
 refine QChain.nil fun vs hl hzz hrows hne=>?_
 obtain ⟨Z,hYZ,hZb,hV⟩:=hzz
 have f2:=fvc hV hl 2
 have f5:=fvc hV hl 5
 have f8:=fvc hV hl 8
 rw [show vs=[gw vs 0,gw vs 1,gw vs 2,gw vs 3,gw vs 4,gw vs 5,gw vs 6,gw vs 7,gw vs 8,gw vs 9,gw vs 10,gw vs 11,gw vs 12,gw vs 13,gw vs 14] from (Be hl).trans rfl]
 have ha0:=HA0.out
 subst ha0
 clear HA0 hV hYZ hZb hsz0 hrows hne oe1
 simp only [Au,Act.put,sIB,sCZ,sCS,List.set_nil,f2,f5,f8]
 clear hl f2 f5 f8
 go_upto_region 2 with (fail)
 refine Aa 16 [15,17] [0,1] (fun a0 HA0=>?_)
 have oe1:=ev HA0 1 rfl
 have oe2:=ev HA0 2 rfl
 refine QSeq.pure rfl _ (fun E=>Am rfl Tryz.underlying45 rfl (off:=0) (cs:=[.int .i64 x.ep,.int .u64 (x.tm:Nat),Value.slice ao_ops x.ps.length cap_ops,Value.slice ao_oos x.os.length cap_oos,Value.slice ao_ots x.ts.length cap_ots]) (by kernel_rfl) (E.v oe1) (Cs.whole Hx28.out)) ?_
 refine QSeq.go fun act E=>?_
 refine Aq rfl (Ac rfl) rfl (HB2.out.mod Cx32.out (by intro h2;omega)) (off:=0) (vs:=[.int .i64 x.ep,.int .u64 (x.tm:Nat),Value.slice ao_ops x.ps.length cap_ops,Value.slice ao_oos x.os.length cap_oos,Value.slice ao_ots x.ts.length cap_ots]) (by kernel_rfl) (by intro u hu;simp only [List.mem_cons,List.not_mem_nil,or_false] at hu;rcases hu with rfl|rfl|rfl|rfl|rfl<;>rfl) (by show 0+5≤5;decide) (E.v oe2) (ec (E.d 0 0)) ?_
 intro u2_1 qc0 hm
 have qB2:=qc0.eqv (b:=#[.int .i64 x.ep,.int .u64 (x.tm:Nat),Value.slice ao_ops x.ps.length cap_ops,Value.slice ao_oos x.os.length cap_oos,Value.slice ao_ots x.ts.length cap_ots]) (A5 _ _ rfl)
 clear qc0
 have Hx33:=hid qB2
 have zu2_1:=hm.size
 have Cx34:=hid (show Mod (fun k=>(k=w.heap.size+1)) u1_6 u2_1 from hm)
 clear hm
 clear act E qB2 HB2
 refine QSeq.nil (t':=[_,_]) rfl ?_
 obtain rfl:=HA0.out
 clear HA0 oe1 oe2
 simp only [pz,Act.put,sIB,sCZ,sCS,List.set_nil]
 go_wp2
 exact bodyPost_ret (A7 rfl _ _ (w.heap.size+1) ([.int .i64 x.ep,.int .u64 (x.tm:Nat),Value.slice ao_ops x.ps.length cap_ops,Value.slice ao_oos x.os.length cap_oos,Value.slice ao_ots x.ts.length cap_ots]) rfl (fun k u hu=>by rw [Hx33.out.cell];simpa using hu) Tryz.underlying45 rfl (by kernel_rfl)) rfl ⟨_,rfl,⟨_,_,_,rfl,HOK.out,(Hx29.out.mod Cx34.out (by intro k h1 h2;omega)).widen (by intro k h1;omega),(Hx30.out.mod Cx34.out (by intro k h1 h2;omega)).widen (by intro k h1;omega),(Hx31.out.mod Cx34.out (by intro k h1 h2;omega)).widen (by intro k h1;omega)⟩,((HM0.out.trans Cx32.out (by intro k h1 h2;omega)).trans Cx34.out (by intro k h1 h2;omega))⟩
end Go.Proofs.YtnaoeginonpicaaGreat

/- Things that are nothing. No walk here. -/
namespace Go.Proofs.YtnaoeginonpicaaGreat
open Go Go.RowKit Go.Gv
def zCe:Ce:=⟨⟨0,0,List.replicate 32 0,0,0,0⟩,[]⟩
def zPm:Pm:=⟨0,0,0,[],0,0⟩
def zBa:Ba:=⟨0,0,[],[],[]⟩
theorem HK_zero:HK (List.replicate 32 0):=by
 refine ⟨by simp,?_⟩
 intro x hx
 simp at hx
 subst hx
 decide
theorem A4:I64 0:=by unfold I64;decide
theorem U64_0:0 < U64:=by unfold U64;decide
theorem zCe_OK:zCe.OK:=⟨⟨A4,A4,A4,A4,A4⟩,HK_zero⟩
theorem zPm_OK:zPm.OK:=⟨A4,A4,U64_0,A4,A4⟩
theorem zBa_OK:zBa.OK:=⟨A4,U64_0⟩
theorem zCe_rd (R:Nat→Prop) (w:World):CeR.rd R w (zCe.cells (.slice none 0 0)) zCe:=⟨_,rfl,zCe_OK,RdS.nil _ _ _⟩
theorem zPm_rd (R:Nat→Prop) (w:World):PmR.rd R w (zPm.cells (.slice none 0 0)) zPm:=⟨_,rfl,zPm_OK,RdS.nil _ _ _⟩
end Go.Proofs.YtnaoeginonpicaaGreat

/- More parts of messages, put as bytes. -/
namespace Go.Proofs.YtnaoeginonpicaaGreat
open Go Go.RowKit Go.Gv
def prB (x:Pr):List Int:=encI x.ep ++ (encI x.rn ++ (encI (IntKind.i64.wrap (x.vl+1)) ++ (encI x.rp ++ (baB x.ba ++ sigB x.sb x.mr))))
theorem I64_wrap (n:Int):I64 (IntKind.i64.wrap n):=by
 have:=bounds_i64 (wf_wrap .i64 n)
 unfold I64
 omega
open Go.Proofs renaming Tryz.func100→va',Tryz.ntmps100→vb',Tryz.underlying37→vd' in
open Go.Gv renaming n'37→vc' in
set_option maxHeartbeats 4000000 in
theorem PutAk_Q:Puts StR 100 stB:=
 fm6'
set_option maxHeartbeats 4000000 in
theorem PutVt_Q:Puts VtR 103 vtB:=by
 intro R R2 g bs cs x w hW hB hx hB2 hD hl
 obtain ⟨rfl,hok⟩:=hx
 have HW:=Lib.hid hW
 have HBR:=Lib.hid hB
 have HBT:=Lib.hid hB2
 have HDJ:=Lib.hid hD
 have HOK:=Lib.hid hok
 have HL:=Lib.hid hl
 clear hW hB hB2 hD hl hok
 unfold vtB at HL
 go_enter Tryz.func103,Tryz.ntmps103
 go_upto_region 1 with (fail)
 obtain ⟨w1,hw1⟩:∃ zz,zz=(w.alloc (.cells (x.cells:List Value).toArray 49)):=⟨_,rfl⟩
 change Code.wp _ _ _ _ (w.alloc (.cells (x.cells:List Value).toArray 49))
 rw [← hw1]
 have HB3:=hid (show Cs w1 (w.heap.size) (x.cells:List Value).toArray 49 by rw [hw1];exact Cs.new _ _ _)
 have hm:Mod (fun _=>False) w w1:=by rw [hw1];exact (Mod.refl _ _).alloc _
 have HM0:=hid (show Mod (fun k=>(R k)) w w1 from hm.mono (fun _ _ h=>h.elim))
 have hs1:w1.heap.size=w.heap.size+1:=by rw [hw1];simp
 have Hx1:=hid (HW.out.mod hm (fun _ _ h=>h))
 clear HW
 clear hw1 hm
 go_upto_region 1 with (fail)
 generalize ha0:Act.mk _ _=a0
 have oe0:a0.eval (.tmp 0)=.pointer (some ⟨g,0,none⟩):=by rw [← ha0];rfl
 have oe3:a0.eval (.tmp 3)=.pointer (some ⟨w.heap.size,0,none⟩):=by rw [← ha0];rfl
 have hsz0:a0.tmps.size=24:=by rw [← ha0];rfl
 have HA0:=hid ha0
 clear ha0
 refine A3 24 hsz0 [4,5,6,7,8,9,10,11,12,13,14,15,16,17,18,19] (fun k=>(R k)) (fun k j=>(k=0∧((R j)))∨(k=1∧((R j)))∨(k=2∧((R j)))∨(k=3∧((R j)))∨(k=4∧((R j)))) (by intro k j h;(try dsimp only at h ⊢);rcases h with ⟨-,h⟩|⟨-,h⟩|⟨-,h⟩|⟨-,h⟩|⟨-,h⟩;(exact h);(exact h);(exact h);(exact h);(exact h)) [qi (.pointer (some ⟨g,0,none⟩)),qi (.pointer (some ⟨w.heap.size,0,none⟩)),qi (.int .i64 x.kd),qi (.pointer (some ⟨g,0,none⟩)),qi (.pointer (some ⟨w.heap.size,1,none⟩)),qi (.int .i64 x.ep),qi (.pointer (some ⟨g,0,none⟩)),qi (.pointer (some ⟨w.heap.size,2,none⟩)),qi (.int .i64 x.rd),qi (.pointer (some ⟨g,0,none⟩)),qi (.pointer (some ⟨w.heap.size,3,none⟩)),qi (.int .i64 x.rp),qi (.pointer (some ⟨g,0,none⟩)),qi (.pointer (some ⟨w.heap.size,4,none⟩)),qi (hv x.h),qi (.pointer (some ⟨g,0,none⟩))] ⟨Ab,Ab,Ab,Ab,Ab,Ab,Ab,Ab,Ab,Ab,Ab,Ab,Ab,Ab,Ab,Ab,trivial⟩ [3,6,9,12,15] ⟨?_,?_,?_,?_,?_,?_,?_,?_,?_,?_,?_,?_,?_,?_,?_,?_,trivial⟩ ?_
 ·exact stq (fun E=>Ai rfl (E.v oe0))
 ·exact stq (fun E=>Ad rfl Tryz.underlying49 rfl (by kernel_rfl) (E.v oe3))
 ·exact stq (fun E=>Aj rfl Tryz.underlying3 rfl (E.d 1) (Cs.pre1 (HB3.out.mod E.m (by intro h2;rcases h2 with ⟨h0,h2⟩|h2<;>first|omega|(have hb:=HBR.out _ h2;omega))) rfl))
 ·exact Ah rfl
 ·exact stq (fun E=>Ad rfl Tryz.underlying49 rfl (by kernel_rfl) (E.v oe3))
 ·exact stq (fun E=>Aj rfl Tryz.underlying3 rfl (E.d 4) (Cs.pre1 (HB3.out.mod E.m (by intro h2;rcases h2 with ⟨h0,h2⟩|h2<;>first|omega|(have hb:=HBR.out _ h2;omega))) rfl))
 ·exact Ah rfl
 ·exact stq (fun E=>Ad rfl Tryz.underlying49 rfl (by kernel_rfl) (E.v oe3))
 ·exact stq (fun E=>Aj rfl Tryz.underlying3 rfl (E.d 7) (Cs.pre1 (HB3.out.mod E.m (by intro h2;rcases h2 with ⟨h0,h2⟩|h2<;>first|omega|(have hb:=HBR.out _ h2;omega))) rfl))
 ·exact Ah rfl
 ·exact stq (fun E=>Ad rfl Tryz.underlying49 rfl (by kernel_rfl) (E.v oe3))
 ·exact stq (fun E=>Aj rfl Tryz.underlying3 rfl (E.d 10) (Cs.pre1 (HB3.out.mod E.m (by intro h2;rcases h2 with ⟨h0,h2⟩|h2<;>first|omega|(have hb:=HBR.out _ h2;omega))) rfl))
 ·exact Ah rfl
 ·exact stq (fun E=>Ad rfl Tryz.underlying49 rfl (by kernel_rfl) (E.v oe3))
 ·exact stq (fun E=>Am rfl Tryz.underlying25 rfl (off:=4) (cs:=x.h.map bv) (by rw [List.length_map,HOK.out.h.1];exact size_hash) (E.d 13) (Cs.midA (HB3.out.mod E.m (by intro h2;rcases h2 with ⟨h0,h2⟩|h2<;>first|omega|(have hb:=HBR.out _ h2;omega))) rfl))
 ·exact Ah rfl
 intro u1_0 hr
 have zu1_0:=hr.size
 have Cx2:=hid (hr.new (S:=(fun k=>(R k))))
 have Hx3:=hid (Hx1.out.mod hr (by intro k h1 h2;have hb:=HBR.out k h1;omega))
 clear Hx1
 clear hr
 refine QChain.go fun Z act E=>?_
 refine Ap (args:=#[.pointer (some ⟨g,0,none⟩),.int .i64 x.kd]) rfl (Ac rfl) rfl Tryz.func67 (Az (E.d 0) (E.d 2)) (Bo Hx3.out HOK.out.kd (by have:=HL.out;simp only [List.length_append] at this ⊢; omega)) ?_
 rintro e u1_1a ⟨rfl,qwr,hm⟩
 have zu1_1a:=hm.size
 refine ⟨_,rfl,hm.mono (by intro k hk h;first|omega|exact Or.inl ⟨(by have hb:=HBR.out k h;omega),Or.inl ⟨rfl,h⟩⟩),(fun _=>rfl),?_⟩
 intro u1_1 hr
 have zu1_1:=hr.size
 have Hx4:=hid ((qwr.widen (R':=(fun k=>(R k)∨(New u1_0 u1_1a k))) (fun _ h=>h) (Nat.le_refl _)).mod hr (by intro k h1 h2;rcases h1 with h1|h1<;>first|omega|(have hb:=HBR.out k h1;omega)))
 have Cx5:=hid (Cx2.out.goM hm hr (fun _ _ h=>h))
 clear Cx2 hm hr Z act E qwr Hx3
 refine QChain.go fun Z act E=>?_
 refine Ap (args:=#[.pointer (some ⟨g,0,none⟩),.int .i64 x.ep]) rfl (Ac rfl) rfl Tryz.func67 (Az (E.d 3) (E.d 5)) (Bo Hx4.out HOK.out.ep (by have:=HL.out;simp only [List.length_append] at this ⊢; omega)) ?_
 rintro e u1_2a ⟨rfl,qwr,hm⟩
 have zu1_2a:=hm.size
 refine ⟨_,rfl,hm.mono (by intro k hk h;rcases h with h|h<;>first|omega|exact Or.inl ⟨(by have hb:=HBR.out k h;omega),Or.inr (Or.inl ⟨rfl,h⟩)⟩),(fun _=>rfl),?_⟩
 intro u1_2 hr
 have zu1_2:=hr.size
 have Hx6:=hid ((qwr.widen (R':=(fun k=>(R k)∨(New u1_0 u1_1a k)∨(New u1_1 u1_2a k))) (by intro k h1;simp only [or_assoc] at h1 ⊢; exact h1) (Nat.le_refl _)).mod hr (by intro k h1 h2;rcases h1 with h1|h1|h1<;>first|omega|(have hb:=HBR.out k h1;omega)))
 have Cx7:=hid (Cx5.out.goM hm hr (by intro k h0 h2;rcases h2 with h2|h2<;>first|omega|exact h2))
 clear Cx5 hm hr Z act E qwr Hx4
 refine QChain.go fun Z act E=>?_
 refine Ap (args:=#[.pointer (some ⟨g,0,none⟩),.int .i64 x.rd]) rfl (Ac rfl) rfl Tryz.func67 (Az (E.d 6) (E.d 8)) (Bo Hx6.out HOK.out.rd (by have:=HL.out;simp only [List.length_append] at this ⊢; omega)) ?_
 rintro e u1_3a ⟨rfl,qwr,hm⟩
 have zu1_3a:=hm.size
 refine ⟨_,rfl,hm.mono (by intro k hk h;rcases h with h|h|h<;>first|omega|exact Or.inl ⟨(by have hb:=HBR.out k h;omega),Or.inr (Or.inr (Or.inl ⟨rfl,h⟩))⟩),(fun _=>rfl),?_⟩
 intro u1_3 hr
 have zu1_3:=hr.size
 have Hx8:=hid ((qwr.widen (R':=(fun k=>(R k)∨(New u1_0 u1_1a k)∨(New u1_1 u1_2a k)∨(New u1_2 u1_3a k))) (by intro k h1;simp only [or_assoc] at h1 ⊢; exact h1) (Nat.le_refl _)).mod hr (by intro k h1 h2;rcases h1 with h1|h1|h1|h1<;>first|omega|(have hb:=HBR.out k h1;omega)))
 have Cx9:=hid (Cx7.out.goM hm hr (by intro k h0 h2;rcases h2 with h2|h2|h2<;>first|omega|exact h2))
 clear Cx7 hm hr Z act E qwr Hx6
 refine QChain.go fun Z act E=>?_
 refine Ap (args:=#[.pointer (some ⟨g,0,none⟩),.int .i64 x.rp]) rfl (Ac rfl) rfl Tryz.func67 (Az (E.d 9) (E.d 11)) (Bo Hx8.out HOK.out.rp (by have:=HL.out;simp only [List.length_append] at this ⊢; omega)) ?_
 rintro e u1_4a ⟨rfl,qwr,hm⟩
 have zu1_4a:=hm.size
 refine ⟨_,rfl,hm.mono (by intro k hk h;rcases h with h|h|h|h<;>first|omega|exact Or.inl ⟨(by have hb:=HBR.out k h;omega),Or.inr (Or.inr (Or.inr (Or.inl ⟨rfl,h⟩)))⟩),(fun _=>rfl),?_⟩
 intro u1_4 hr
 have zu1_4:=hr.size
 have Hx10:=hid ((qwr.widen (R':=(fun k=>(R k)∨(New u1_0 u1_1a k)∨(New u1_1 u1_2a k)∨(New u1_2 u1_3a k)∨(New u1_3 u1_4a k))) (by intro k h1;simp only [or_assoc] at h1 ⊢; exact h1) (Nat.le_refl _)).mod hr (by intro k h1 h2;rcases h1 with h1|h1|h1|h1|h1<;>first|omega|(have hb:=HBR.out k h1;omega)))
 have Cx11:=hid (Cx9.out.goM hm hr (by intro k h0 h2;rcases h2 with h2|h2|h2|h2<;>first|omega|exact h2))
 clear Cx9 hm hr Z act E qwr Hx8
 refine QChain.go fun Z act E=>?_
 refine Ap (args:=#[.pointer (some ⟨g,0,none⟩),hv x.h]) rfl (Ac rfl) rfl Tryz.func130 (Az (E.d 12) (E.d 14)) (WHash_Q Hx10.out HOK.out.h (by have:=HL.out;simp only [List.length_append] at this ⊢; omega)) ?_
 rintro e u1_5a ⟨rfl,qwr,hm⟩
 have zu1_5a:=hm.size
 refine ⟨_,rfl,hm.mono (by intro k hk h;rcases h with h|h|h|h|h<;>first|omega|exact Or.inl ⟨(by have hb:=HBR.out k h;omega),Or.inr (Or.inr (Or.inr (Or.inr (⟨rfl,h⟩))))⟩),(fun _=>rfl),?_⟩
 intro u1_5 hr
 have zu1_5:=hr.size
 have Hx12:=hid ((qwr.widen (R':=(fun k=>(R k)∨(New u1_0 u1_1a k)∨(New u1_1 u1_2a k)∨(New u1_2 u1_3a k)∨(New u1_3 u1_4a k)∨(New u1_4 u1_5a k))) (by intro k h1;simp only [or_assoc] at h1 ⊢; exact h1) (Nat.le_refl _)).mod hr (by intro k h1 h2;rcases h1 with h1|h1|h1|h1|h1|h1<;>first|omega|(have hb:=HBR.out k h1;omega)))
 have Cx13:=hid (Cx11.out.goM hm hr (by intro k h0 h2;rcases h2 with h2|h2|h2|h2|h2<;>first|omega|exact h2))
 clear Cx11 hm hr Z act E qwr Hx10
 refine QChain.nil fun vs hl hzz hrows hne=>?_
 obtain ⟨Z,hYZ,hZb,hV⟩:=hzz
 have f0:=fvi hV hl 0
 have f3:=fvi hV hl 3
 have f6:=fvi hV hl 6
 have f9:=fvi hV hl 9
 have f12:=fvi hV hl 12
 have f15:=fvi hV hl 15
 rw [show vs=[gw vs 0,gw vs 1,gw vs 2,gw vs 3,gw vs 4,gw vs 5,gw vs 6,gw vs 7,gw vs 8,gw vs 9,gw vs 10,gw vs 11,gw vs 12,gw vs 13,gw vs 14,gw vs 15] from (Be hl).trans rfl]
 have ha0:=HA0.out
 subst ha0
 clear HA0 hV hYZ hZb hsz0 hrows hne oe0 oe3
 simp only [Au,Act.put,sIB,sCZ,sCS,f0,f3,f6,f9,f12,f15]
 clear hl f0 f3 f6 f9 f12 f15
 go_upto_region 2 with (fail)
 refine Aa 24 [20,21,22,23] [0,1,2,3] (fun a0 HA0=>?_)
 have oe0:=ev HA0 0 rfl
 have oe3:=ev HA0 3 rfl
 refine QSeq.pure rfl _ (fun E=>Ai rfl (E.v oe0)) ?_
 refine QSeq.pure rfl (.pointer (some ⟨w.heap.size,36,none⟩)) (fun E=>Ad rfl Tryz.underlying49 rfl (by kernel_rfl) (E.v oe3)) ?_
 refine QSeq.pure rfl _ (fun E=>Am rfl Tryz.underlying27 rfl (off:=36) (cs:=[.int .i64 x.sb,.int .i64 x.mr]) (by kernel_rfl) (E.d 1 0) (Cs.postA (m:=32) (k:=0) (HB3.out.mod Cx13.out (by intro h2;first|omega|(have hb:=HBR.out _ h2;omega))) (by rw [List.length_map];exact HOK.out.h.1) rfl rfl)) ?_
 refine QSeq.call rfl rfl Tryz.func131 (PutSig_Q Hx12.out (by intro k h1;rcases h1 with h1|h1|h1|h1|h1|h1<;>first|omega|(have hb:=HBR.out k h1;omega)) HOK.out.sb HOK.out.mr (by have:=HL.out;simp only [List.length_append] at this ⊢; omega)) (fun E=>Az (E.d 0 2) (E.d 2 0)) ?_
 rintro e u2_3 ⟨rfl,qwr,hm⟩
 refine ⟨_,rfl,?_⟩
 have Hx14:=hid (qwr.widen (R':=(fun k=>(R k)∨(New u1_0 u1_1a k)∨(New u1_1 u1_2a k)∨(New u1_2 u1_3a k)∨(New u1_3 u1_4a k)∨(New u1_4 u1_5a k)∨(New u1_5 u2_3 k))) (by intro k h1;simp only [or_assoc] at h1 ⊢; exact h1) (Nat.le_refl _))
 have zu2_3:=hm.size
 have Cx15:=hid (show Mod (fun k=>(R k)∨(New u1_0 u1_1a k)∨(New u1_1 u1_2a k)∨(New u1_2 u1_3a k)∨(New u1_3 u1_4a k)∨(New u1_4 u1_5a k)) u1_5 u2_3 from hm)
 clear hm
 clear qwr Hx12
 refine QSeq.nil (t':=[_,_,_,_]) rfl ?_
 obtain rfl:=HA0.out
 clear HA0 oe0 oe3
 simp only [pz,Act.put,sIB,sCZ,sCS]
 go_wp2
 go_end0
 have hq:=(Hx14.out.widen (R':=(fun k=>R k∨New w u2_3 k)) (by intro k h1;rcases h1 with h1|h1|h1|h1|h1|h1|h1<;>first|exact Or.inl h1|(right;omega)) (Nat.le_refl _))
 simp only [List.append_assoc] at hq
 exact ⟨rfl,by simpa only [vtB,List.append_assoc] using hq,((HM0.out.trans Cx13.out (fun _ _ h=>h)).trans Cx15.out (by intro k h1 h2;rcases h2 with h2|h2|h2|h2|h2|h2<;>first|exact h2|omega|(have hb:=HBR.out k h2;omega)))⟩
set_option maxHeartbeats 4000000 in
theorem PutEn_Q:Puts EnR 104 enB:=by
 intro R R2 g bs cs x w hW hB hx hB2 hD hl
 obtain ⟨rfl,hok⟩:=hx
 have HW:=Lib.hid hW
 have HBR:=Lib.hid hB
 have HBT:=Lib.hid hB2
 have HDJ:=Lib.hid hD
 have HOK:=Lib.hid hok
 have HL:=Lib.hid hl
 clear hW hB hB2 hD hl hok
 unfold enB at HL
 go_enter Tryz.func104,Tryz.ntmps104
 go_upto_region 1 with (fail)
 obtain ⟨w1,hw1⟩:∃ zz,zz=(w.alloc (.cells (x.cells:List Value).toArray 51)):=⟨_,rfl⟩
 change Code.wp _ _ _ _ (w.alloc (.cells (x.cells:List Value).toArray 51))
 rw [← hw1]
 have HB3:=hid (show Cs w1 (w.heap.size) (x.cells:List Value).toArray 51 by rw [hw1];exact Cs.new _ _ _)
 have hm:Mod (fun _=>False) w w1:=by rw [hw1];exact (Mod.refl _ _).alloc _
 have HM0:=hid (show Mod (fun k=>(R k)) w w1 from hm.mono (fun _ _ h=>h.elim))
 have hs1:w1.heap.size=w.heap.size+1:=by rw [hw1];simp
 have Hx1:=hid (HW.out.mod hm (fun _ _ h=>h))
 clear HW
 clear hw1 hm
 go_upto_region 1 with (fail)
 refine Aa 15 [4,5,6,7] [0,1,2,3] (fun a0 HA0=>?_)
 have oe0:=ev HA0 0 rfl
 have oe3:=ev HA0 3 rfl
 refine QSeq.pure rfl _ (fun E=>Ai rfl (E.v oe0)) ?_
 refine QSeq.pure rfl (.pointer (some ⟨w.heap.size,0,none⟩)) (fun E=>Ad rfl Tryz.underlying51 rfl (by kernel_rfl) (E.v oe3)) ?_
 refine QSeq.pure rfl _ (fun E=>Am rfl Tryz.underlying23 rfl (off:=0) (cs:=[.int .i64 x.cl,.int .i64 x.sq]) (by kernel_rfl) (E.d 1 0) (Cs.preA HB3.out rfl)) ?_
 refine QSeq.call rfl rfl Tryz.func129 (PutName_Q Hx1.out (by intro k h1;have hb:=HBR.out k h1;omega) HOK.out.cl HOK.out.sq (by have:=HL.out;simp only [List.length_append] at this ⊢; omega)) (fun E=>Az (E.d 0 2) (E.d 2 0)) ?_
 rintro e u1_3 ⟨rfl,qwr,hm⟩
 refine ⟨_,rfl,?_⟩
 have Hx2:=hid (qwr.widen (R':=(fun k=>(R k)∨(New w1 u1_3 k))) (fun _ h=>h) (Nat.le_refl _))
 have zu1_3:=hm.size
 have Cx3:=hid (show Mod (fun k=>(R k)) w1 u1_3 from hm)
 clear hm
 clear qwr Hx1
 refine QSeq.nil (t':=[_,_,_,_]) rfl ?_
 obtain rfl:=HA0.out
 clear HA0 oe0 oe3
 simp only [pz,Act.put,sIB,sCZ,sCS]
 go_upto_region 2 with (fail)
 generalize ha0:Act.mk _ _=a0
 have oe0:a0.eval (.tmp 0)=.pointer (some ⟨g,0,none⟩):=by rw [← ha0];rfl
 have oe3:a0.eval (.tmp 3)=.pointer (some ⟨w.heap.size,0,none⟩):=by rw [← ha0];rfl
 have hsz0:a0.tmps.size=15:=by rw [← ha0];rfl
 have HA0:=hid ha0
 clear ha0
 refine A3 15 hsz0 [8,9,10,11,12,13,14] (fun k=>(R k)∨(New w1 u1_3 k)) (fun k j=>(k=0∧((R j)∨(New w1 u1_3 j)))∨(k=1∧((R j)∨(New w1 u1_3 j)))) (by intro k j h;(try dsimp only at h ⊢);rcases h with ⟨-,h|h⟩|⟨-,h|h⟩;(exact Or.inl (h));(exact Or.inr (h));(exact Or.inl (h));(exact Or.inr (h))) [qi (.pointer (some ⟨g,0,none⟩)),qi (.pointer (some ⟨w.heap.size,2,none⟩)),qi (hv x.h),qi (.pointer (some ⟨g,0,none⟩)),qi (.pointer (some ⟨w.heap.size,34,none⟩)),qi (.int .u64 (x.tm:Nat)),qi (.pointer (some ⟨g,0,none⟩))] ⟨Ab,Ab,Ab,Ab,Ab,Ab,Ab,trivial⟩ [3,6] ⟨?_,?_,?_,?_,?_,?_,?_,trivial⟩ ?_
 ·exact stq (fun E=>Ai rfl (E.v oe0))
 ·exact stq (fun E=>Ad rfl Tryz.underlying51 rfl (by kernel_rfl) (E.v oe3))
 ·exact stq (fun E=>Am rfl Tryz.underlying25 rfl (off:=2) (cs:=x.h.map bv) (by rw [List.length_map,HOK.out.h.1];exact size_hash) (E.d 1) (Cs.midA ((HB3.out.mod Cx3.out (by intro h2;first|omega|(have hb:=HBR.out _ h2;omega))).mod E.m (by intro h2;rcases h2 with ⟨h0,h2|h2⟩|h2<;>first|omega|(have hb:=HBR.out _ h2;omega))) rfl))
 ·exact Ah rfl
 ·exact stq (fun E=>Ad rfl Tryz.underlying51 rfl (by kernel_rfl) (E.v oe3))
 ·exact stq (fun E=>Aj rfl Tryz.underlying30 rfl (E.d 4) (Cs.post1 (m:=32) (k:=0) ((HB3.out.mod Cx3.out (by intro h2;first|omega|(have hb:=HBR.out _ h2;omega))).mod E.m (by intro h2;rcases h2 with ⟨h0,h2|h2⟩|h2<;>first|omega|(have hb:=HBR.out _ h2;omega))) (by rw [List.length_map];exact HOK.out.h.1) rfl rfl))
 ·exact Ah rfl
 intro u2_0 hr
 have zu2_0:=hr.size
 have Cx4:=hid (hr.new (S:=(fun k=>(R k)∨(New w1 u1_3 k))))
 have Hx5:=hid (Hx2.out.mod hr (by intro k h1 h2;rcases h1 with h1|h1<;>first|omega|(have hb:=HBR.out k h1;omega)))
 clear Hx2
 clear hr
 refine QChain.go fun Z act E=>?_
 refine Ap (args:=#[.pointer (some ⟨g,0,none⟩),hv x.h]) rfl (Ac rfl) rfl Tryz.func130 (Az (E.d 0) (E.d 2)) (WHash_Q Hx5.out HOK.out.h (by have:=HL.out;simp only [List.length_append] at this ⊢; omega)) ?_
 rintro e u2_1a ⟨rfl,qwr,hm⟩
 have zu2_1a:=hm.size
 refine ⟨_,rfl,hm.mono (by intro k hk h;rcases h with h|h<;>first|omega|exact Or.inl ⟨(by have hb:=HBR.out k h;omega),Or.inl ⟨rfl,Or.inl h⟩⟩),(fun _=>rfl),?_⟩
 intro u2_1 hr
 have zu2_1:=hr.size
 have Hx6:=hid ((qwr.widen (R':=(fun k=>(R k)∨(New w1 u1_3 k)∨(New u2_0 u2_1a k))) (by intro k h1;simp only [or_assoc] at h1 ⊢; exact h1) (Nat.le_refl _)).mod hr (by intro k h1 h2;rcases h1 with h1|h1|h1<;>first|omega|(have hb:=HBR.out k h1;omega)))
 have Cx7:=hid (Cx4.out.goM hm hr (fun _ _ h=>h))
 clear Cx4 hm hr Z act E qwr Hx5
 refine QChain.go fun Z act E=>?_
 refine Ap (args:=#[.pointer (some ⟨g,0,none⟩),.int .u64 (x.tm:Nat)]) rfl (Ac rfl) rfl Tryz.func96 (Az (E.d 3) (E.d 5)) (WNum_Q Hx6.out HOK.out.tm (by have:=HL.out;simp only [List.length_append] at this ⊢; omega)) ?_
 rintro e u2_2a ⟨rfl,qwr,hm⟩
 have zu2_2a:=hm.size
 refine ⟨_,rfl,hm.mono (by intro k hk h;rcases h with h|h|h<;>first|omega|exact Or.inl ⟨(by have hb:=HBR.out k h;omega),Or.inr (⟨rfl,Or.inl h⟩)⟩),(fun _=>rfl),?_⟩
 intro u2_2 hr
 have zu2_2:=hr.size
 have Hx8:=hid ((qwr.widen (R':=(fun k=>(R k)∨(New w1 u1_3 k)∨(New u2_0 u2_1a k)∨(New u2_1 u2_2a k))) (by intro k h1;simp only [or_assoc] at h1 ⊢; exact h1) (Nat.le_refl _)).mod hr (by intro k h1 h2;rcases h1 with h1|h1|h1|h1<;>first|omega|(have hb:=HBR.out k h1;omega)))
 have Cx9:=hid (Cx7.out.goM hm hr (by intro k h0 h2;rcases h2 with h2|h2|h2<;>first|omega|exact Or.inl h2|exact Or.inr (h2)))
 clear Cx7 hm hr Z act E qwr Hx6
 refine QChain.nil fun vs hl hzz hrows hne=>?_
 obtain ⟨Z,hYZ,hZb,hV⟩:=hzz
 have f0:=fvi hV hl 0
 have f3:=fvi hV hl 3
 have f6:=fvi hV hl 6
 rw [show vs=[gw vs 0,gw vs 1,gw vs 2,gw vs 3,gw vs 4,gw vs 5,gw vs 6] from (Be hl).trans rfl]
 have ha0:=HA0.out
 subst ha0
 clear HA0 hV hYZ hZb hsz0 hrows hne oe0 oe3
 simp only [Au,Act.put,sIB,sCZ,sCS,f0,f3,f6]
 clear hl f0 f3 f6
 go_wp2
 go_end0
 have hq:=(Hx8.out.widen (R':=(fun k=>R k∨New w u2_2 k)) (by intro k h1;rcases h1 with h1|h1|h1|h1<;>first|exact Or.inl h1|(right;omega)) (Nat.le_refl _))
 simp only [List.append_assoc] at hq
 exact ⟨rfl,by simpa only [enB,List.append_assoc] using hq,((HM0.out.trans Cx3.out (fun _ _ h=>h)).trans Cx9.out (by intro k h1 h2;rcases h2 with h2|h2<;>first|exact h2|omega|(have hb:=HBR.out k h2;omega)))⟩
set_option maxHeartbeats 4000000 in
theorem PutPr_Q:Puts PrR 102 prB:=by
 intro R R2 g bs cs x w hW hB hx hB2 hD hl
 obtain ⟨v_ps,v_os,v_ts,rfl,hok,hs0,hs1,hs2⟩:=hx
 have HS0:=Lib.hid hs0
 clear hs0
 have HS1:=Lib.hid hs1
 clear hs1
 have HS2:=Lib.hid hs2
 clear hs2
 have HW:=Lib.hid hW
 have HBR:=Lib.hid hB
 have HBT:=Lib.hid hB2
 have HDJ:=Lib.hid hD
 have HOK:=Lib.hid hok
 have HL:=Lib.hid hl
 clear hW hB hB2 hD hl hok
 unfold prB at HL
 go_enter Tryz.func102,Tryz.ntmps102
 go_upto_region 1 with (fail)
 obtain ⟨w1,hw1⟩:∃ zz,zz=(w.alloc (.cells (x.cells v_ps v_os v_ts:List Value).toArray 47)):=⟨_,rfl⟩
 change Code.wp _ _ _ _ (w.alloc (.cells (x.cells v_ps v_os v_ts:List Value).toArray 47))
 rw [← hw1]
 have HB3:=hid (show Cs w1 (w.heap.size) (x.cells v_ps v_os v_ts:List Value).toArray 47 by rw [hw1];exact Cs.new _ _ _)
 have hm:Mod (fun _=>False) w w1:=by rw [hw1];exact (Mod.refl _ _).alloc _
 have HM0:=hid (show Mod (fun k=>(R k)) w w1 from hm.mono (fun _ _ h=>h.elim))
 have hs1:w1.heap.size=w.heap.size+1:=by rw [hw1];simp
 have Hx1:=hid (HW.out.mod hm (fun _ _ h=>h))
 clear HW
 have Hx2:=hid (HS0.out.mod hm (fun _ _ h=>h))
 clear HS0
 have Hx3:=hid (HS1.out.mod hm (fun _ _ h=>h))
 clear HS1
 have Hx4:=hid (HS2.out.mod hm (fun _ _ h=>h))
 clear HS2
 clear hw1 hm
 go_upto_region 1 with (fail)
 generalize ha0:Act.mk _ _=a0
 have oe0:a0.eval (.tmp 0)=.pointer (some ⟨g,0,none⟩):=by rw [← ha0];rfl
 have oe3:a0.eval (.tmp 3)=.pointer (some ⟨w.heap.size,0,none⟩):=by rw [← ha0];rfl
 have hsz0:a0.tmps.size=26:=by rw [← ha0];rfl
 have HA0:=hid ha0
 clear ha0
 refine A3 26 hsz0 [4,5,6,7,8,9,10,11,12,13,14,15,16,17] (fun k=>(R k)) (fun k j=>(k=0∧((R j)))∨(k=1∧((R j)))∨(k=2∧((R j)))∨(k=3∧((R j)))) (by intro k j h;(try dsimp only at h ⊢);rcases h with ⟨-,h⟩|⟨-,h⟩|⟨-,h⟩|⟨-,h⟩;(exact h);(exact h);(exact h);(exact h)) [qi (.pointer (some ⟨g,0,none⟩)),qi (.pointer (some ⟨w.heap.size,0,none⟩)),qi (.int .i64 x.ep),qi (.pointer (some ⟨g,0,none⟩)),qi (.pointer (some ⟨w.heap.size,1,none⟩)),qi (.int .i64 x.rn),qi (.pointer (some ⟨g,0,none⟩)),qi (.pointer (some ⟨w.heap.size,2,none⟩)),qi (.int .i64 x.vl),qi (.int .i64 (IntKind.i64.wrap (x.vl+1))),qi (.pointer (some ⟨g,0,none⟩)),qi (.pointer (some ⟨w.heap.size,3,none⟩)),qi (.int .i64 x.rp),qi (.pointer (some ⟨g,0,none⟩))] ⟨Ab,Ab,Ab,Ab,Ab,Ab,Ab,Ab,Ab,Ab,Ab,Ab,Ab,Ab,trivial⟩ [3,6,10,13] ⟨?_,?_,?_,?_,?_,?_,?_,?_,?_,?_,?_,?_,?_,?_,trivial⟩ ?_
 ·exact stq (fun E=>Ai rfl (E.v oe0))
 ·exact stq (fun E=>Ad rfl Tryz.underlying47 rfl (by kernel_rfl) (E.v oe3))
 ·exact stq (fun E=>Aj rfl Tryz.underlying3 rfl (E.d 1) (Cs.lit1 (HB3.out.mod E.m (by intro h2;rcases h2 with ⟨h0,h2⟩|h2<;>first|omega|(have hb:=HBR.out _ h2;omega))) rfl))
 ·exact Ah rfl
 ·exact stq (fun E=>Ad rfl Tryz.underlying47 rfl (by kernel_rfl) (E.v oe3))
 ·exact stq (fun E=>Aj rfl Tryz.underlying3 rfl (E.d 4) (Cs.lit1 (HB3.out.mod E.m (by intro h2;rcases h2 with ⟨h0,h2⟩|h2<;>first|omega|(have hb:=HBR.out _ h2;omega))) rfl))
 ·exact Ah rfl
 ·exact stq (fun E=>Ad rfl Tryz.underlying47 rfl (by kernel_rfl) (E.v oe3))
 ·exact stq (fun E=>Aj rfl Tryz.underlying3 rfl (E.d 7) (Cs.lit1 (HB3.out.mod E.m (by intro h2;rcases h2 with ⟨h0,h2⟩|h2<;>first|omega|(have hb:=HBR.out _ h2;omega))) rfl))
 ·exact stq (fun E=>ex_bin rfl (E.d 8) rfl (Ag _ _ _ _ _ _) (run_add_i _ _ Tryz.underlying3))
 ·exact Ah rfl
 ·exact stq (fun E=>Ad rfl Tryz.underlying47 rfl (by kernel_rfl) (E.v oe3))
 ·exact stq (fun E=>Aj rfl Tryz.underlying3 rfl (E.d 11) (Cs.lit1 (HB3.out.mod E.m (by intro h2;rcases h2 with ⟨h0,h2⟩|h2<;>first|omega|(have hb:=HBR.out _ h2;omega))) rfl))
 ·exact Ah rfl
 intro u1_0 hr
 have zu1_0:=hr.size
 have Cx5:=hid (hr.new (S:=(fun k=>(R k))))
 have Hx6:=hid (Hx1.out.mod hr (by intro k h1 h2;have hb:=HBR.out k h1;omega))
 clear Hx1
 clear hr
 refine QChain.go fun Z act E=>?_
 refine Ap (args:=#[.pointer (some ⟨g,0,none⟩),.int .i64 x.ep]) rfl (Ac rfl) rfl Tryz.func67 (Az (E.d 0) (E.d 2)) (Bo Hx6.out HOK.out.1 (by have:=HL.out;simp only [List.length_append] at this ⊢; omega)) ?_
 rintro e u1_1a ⟨rfl,qwr,hm⟩
 have zu1_1a:=hm.size
 refine ⟨_,rfl,hm.mono (by intro k hk h;first|omega|exact Or.inl ⟨(by have hb:=HBR.out k h;omega),Or.inl ⟨rfl,h⟩⟩),(fun _=>rfl),?_⟩
 intro u1_1 hr
 have zu1_1:=hr.size
 have Hx7:=hid ((qwr.widen (R':=(fun k=>(R k)∨(New u1_0 u1_1a k))) (fun _ h=>h) (Nat.le_refl _)).mod hr (by intro k h1 h2;rcases h1 with h1|h1<;>first|omega|(have hb:=HBR.out k h1;omega)))
 have Cx8:=hid (Cx5.out.goM hm hr (fun _ _ h=>h))
 clear Cx5 hm hr Z act E qwr Hx6
 refine QChain.go fun Z act E=>?_
 refine Ap (args:=#[.pointer (some ⟨g,0,none⟩),.int .i64 x.rn]) rfl (Ac rfl) rfl Tryz.func67 (Az (E.d 3) (E.d 5)) (Bo Hx7.out HOK.out.2.1 (by have:=HL.out;simp only [List.length_append] at this ⊢; omega)) ?_
 rintro e u1_2a ⟨rfl,qwr,hm⟩
 have zu1_2a:=hm.size
 refine ⟨_,rfl,hm.mono (by intro k hk h;rcases h with h|h<;>first|omega|exact Or.inl ⟨(by have hb:=HBR.out k h;omega),Or.inr (Or.inl ⟨rfl,h⟩)⟩),(fun _=>rfl),?_⟩
 intro u1_2 hr
 have zu1_2:=hr.size
 have Hx9:=hid ((qwr.widen (R':=(fun k=>(R k)∨(New u1_0 u1_1a k)∨(New u1_1 u1_2a k))) (by intro k h1;simp only [or_assoc] at h1 ⊢; exact h1) (Nat.le_refl _)).mod hr (by intro k h1 h2;rcases h1 with h1|h1|h1<;>first|omega|(have hb:=HBR.out k h1;omega)))
 have Cx10:=hid (Cx8.out.goM hm hr (by intro k h0 h2;rcases h2 with h2|h2<;>first|omega|exact h2))
 clear Cx8 hm hr Z act E qwr Hx7
 refine QChain.go fun Z act E=>?_
 refine Ap (args:=#[.pointer (some ⟨g,0,none⟩),.int .i64 (IntKind.i64.wrap (x.vl+1))]) rfl (Ac rfl) rfl Tryz.func67 (Az (E.d 6) (E.d 9)) (Bo Hx9.out (I64_wrap _) (by have:=HL.out;simp only [List.length_append] at this ⊢; omega)) ?_
 rintro e u1_3a ⟨rfl,qwr,hm⟩
 have zu1_3a:=hm.size
 refine ⟨_,rfl,hm.mono (by intro k hk h;rcases h with h|h|h<;>first|omega|exact Or.inl ⟨(by have hb:=HBR.out k h;omega),Or.inr (Or.inr (Or.inl ⟨rfl,h⟩))⟩),(fun _=>rfl),?_⟩
 intro u1_3 hr
 have zu1_3:=hr.size
 have Hx11:=hid ((qwr.widen (R':=(fun k=>(R k)∨(New u1_0 u1_1a k)∨(New u1_1 u1_2a k)∨(New u1_2 u1_3a k))) (by intro k h1;simp only [or_assoc] at h1 ⊢; exact h1) (Nat.le_refl _)).mod hr (by intro k h1 h2;rcases h1 with h1|h1|h1|h1<;>first|omega|(have hb:=HBR.out k h1;omega)))
 have Cx12:=hid (Cx10.out.goM hm hr (by intro k h0 h2;rcases h2 with h2|h2|h2<;>first|omega|exact h2))
 clear Cx10 hm hr Z act E qwr Hx9
 refine QChain.go fun Z act E=>?_
 refine Ap (args:=#[.pointer (some ⟨g,0,none⟩),.int .i64 x.rp]) rfl (Ac rfl) rfl Tryz.func67 (Az (E.d 10) (E.d 12)) (Bo Hx11.out HOK.out.2.2.2.1 (by have:=HL.out;simp only [List.length_append] at this ⊢; omega)) ?_
 rintro e u1_4a ⟨rfl,qwr,hm⟩
 have zu1_4a:=hm.size
 refine ⟨_,rfl,hm.mono (by intro k hk h;rcases h with h|h|h|h<;>first|omega|exact Or.inl ⟨(by have hb:=HBR.out k h;omega),Or.inr (Or.inr (Or.inr (⟨rfl,h⟩)))⟩),(fun _=>rfl),?_⟩
 intro u1_4 hr
 have zu1_4:=hr.size
 have Hx13:=hid ((qwr.widen (R':=(fun k=>(R k)∨(New u1_0 u1_1a k)∨(New u1_1 u1_2a k)∨(New u1_2 u1_3a k)∨(New u1_3 u1_4a k))) (by intro k h1;simp only [or_assoc] at h1 ⊢; exact h1) (Nat.le_refl _)).mod hr (by intro k h1 h2;rcases h1 with h1|h1|h1|h1|h1<;>first|omega|(have hb:=HBR.out k h1;omega)))
 have Cx14:=hid (Cx12.out.goM hm hr (by intro k h0 h2;rcases h2 with h2|h2|h2|h2<;>first|omega|exact h2))
 clear Cx12 hm hr Z act E qwr Hx11
 refine QChain.nil fun vs hl hzz hrows hne=>?_
 obtain ⟨Z,hYZ,hZb,hV⟩:=hzz
 have f0:=fvi hV hl 0
 have f3:=fvi hV hl 3
 have f6:=fvi hV hl 6
 have f10:=fvi hV hl 10
 have f13:=fvi hV hl 13
 rw [show vs=[gw vs 0,gw vs 1,gw vs 2,gw vs 3,gw vs 4,gw vs 5,gw vs 6,gw vs 7,gw vs 8,gw vs 9,gw vs 10,gw vs 11,gw vs 12,gw vs 13] from (Be hl).trans rfl]
 have ha0:=HA0.out
 subst ha0
 clear HA0 hV hYZ hZb hsz0 hrows hne oe0 oe3
 simp only [Au,Act.put,sIB,sCZ,sCS,f0,f3,f6,f10,f13]
 clear hl f0 f3 f6 f10 f13
 go_upto_region 2 with (fail)
 refine Aa 26 [18,19,20,21] [0,1,2,3] (fun a0 HA0=>?_)
 have oe0:=ev HA0 0 rfl
 have oe3:=ev HA0 3 rfl
 refine QSeq.pure rfl _ (fun E=>Ai rfl (E.v oe0)) ?_
 refine QSeq.pure rfl (.pointer (some ⟨w.heap.size,4,none⟩)) (fun E=>Ad rfl Tryz.underlying47 rfl (by kernel_rfl) (E.v oe3)) ?_
 refine QSeq.pure rfl _ (fun E=>Am rfl Tryz.underlying45 rfl (off:=4) (cs:=[.int .i64 x.ba.ep,.int .u64 (x.ba.tm:Nat),v_ps,v_os,v_ts]) (by kernel_rfl) (E.d 1 0) (Cs.litA (HB3.out.mod Cx14.out (by intro h2;first|omega|(have hb:=HBR.out _ h2;omega))) rfl)) ?_
 refine QSeq.call rfl rfl Tryz.func108 (PutBa_Q _ R2 _ _ _ x.ba _ Hx13.out (by intro k h1;rcases h1 with h1|h1|h1|h1|h1<;>first|omega|(have hb:=HBR.out k h1;omega)) ⟨_,_,_,rfl,HOK.out.2.2.2.2.1,(Hx2.out.mod Cx14.out (by intro k h1 h2;first|omega|(have hb:=HBT.out k h1;omega)|(have hb:=HBR.out k h2;omega)|exact HDJ.out k h1 h2|exact HDJ.out k h2 h1|(have hb:=HBT.out k h1;have hb2:=HBR.out k h2;omega))),(Hx3.out.mod Cx14.out (by intro k h1 h2;first|omega|(have hb:=HBT.out k h1;omega)|(have hb:=HBR.out k h2;omega)|exact HDJ.out k h1 h2|exact HDJ.out k h2 h1|(have hb:=HBT.out k h1;have hb2:=HBR.out k h2;omega))),(Hx4.out.mod Cx14.out (by intro k h1 h2;first|omega|(have hb:=HBT.out k h1;omega)|(have hb:=HBR.out k h2;omega)|exact HDJ.out k h1 h2|exact HDJ.out k h2 h1|(have hb:=HBT.out k h1;have hb2:=HBR.out k h2;omega)))⟩ (by intro k h1;have hb:=HBT.out k h1;omega) (by intro k h1 h2;rcases h1 with h1|h1|h1|h1|h1<;>first|omega|(have hb:=HBR.out k h1;omega)|(have hb:=HBT.out k h2;omega)|exact HDJ.out k h1 h2|exact HDJ.out k h2 h1|(have hb:=HBR.out k h1;have hb2:=HBT.out k h2;omega)) (by have:=HL.out;simp only [List.length_append] at this ⊢; omega)) (fun E=>Az (E.d 0 2) (E.d 2 0)) ?_
 rintro e u2_3 ⟨rfl,qwr,hm⟩
 refine ⟨_,rfl,?_⟩
 have Hx15:=hid (qwr.widen (R':=(fun k=>(R k)∨(New u1_0 u1_1a k)∨(New u1_1 u1_2a k)∨(New u1_2 u1_3a k)∨(New u1_3 u1_4a k)∨(New u1_4 u2_3 k))) (by intro k h1;simp only [or_assoc] at h1 ⊢; exact h1) (Nat.le_refl _))
 have zu2_3:=hm.size
 have Cx16:=hid (show Mod (fun k=>(R k)∨(New u1_0 u1_1a k)∨(New u1_1 u1_2a k)∨(New u1_2 u1_3a k)∨(New u1_3 u1_4a k)) u1_4 u2_3 from hm)
 clear hm
 clear qwr Hx13
 refine QSeq.nil (t':=[_,_,_,_]) rfl ?_
 obtain rfl:=HA0.out
 clear HA0 oe0 oe3
 simp only [pz,Act.put,sIB,sCZ,sCS]
 go_upto_region 3 with (fail)
 refine Aa 26 [22,23,24,25] [0,1,2,3] (fun a0 HA0=>?_)
 have oe0:=ev HA0 0 rfl
 have oe3:=ev HA0 3 rfl
 refine QSeq.pure rfl _ (fun E=>Ai rfl (E.v oe0)) ?_
 refine QSeq.pure rfl (.pointer (some ⟨w.heap.size,9,none⟩)) (fun E=>Ad rfl Tryz.underlying47 rfl (by kernel_rfl) (E.v oe3)) ?_
 refine QSeq.pure rfl _ (fun E=>Am rfl Tryz.underlying27 rfl (off:=9) (cs:=[.int .i64 x.sb,.int .i64 x.mr]) (by kernel_rfl) (E.d 1 0) (Cs.litA ((HB3.out.mod Cx14.out (by intro h2;first|omega|(have hb:=HBR.out _ h2;omega))).mod Cx16.out (by intro h2;rcases h2 with h2|h2|h2|h2|h2<;>first|omega|(have hb:=HBR.out _ h2;omega))) rfl)) ?_
 refine QSeq.call rfl rfl Tryz.func131 (PutSig_Q Hx15.out (by intro k h1;rcases h1 with h1|h1|h1|h1|h1|h1<;>first|omega|(have hb:=HBR.out k h1;omega)) HOK.out.2.2.2.2.2.1 HOK.out.2.2.2.2.2.2 (by have:=HL.out;simp only [List.length_append] at this ⊢; omega)) (fun E=>Az (E.d 0 2) (E.d 2 0)) ?_
 rintro e u3_3 ⟨rfl,qwr,hm⟩
 refine ⟨_,rfl,?_⟩
 have Hx17:=hid (qwr.widen (R':=(fun k=>(R k)∨(New u1_0 u1_1a k)∨(New u1_1 u1_2a k)∨(New u1_2 u1_3a k)∨(New u1_3 u1_4a k)∨(New u1_4 u2_3 k)∨(New u2_3 u3_3 k))) (by intro k h1;simp only [or_assoc] at h1 ⊢; exact h1) (Nat.le_refl _))
 have zu3_3:=hm.size
 have Cx18:=hid (show Mod (fun k=>(R k)∨(New u1_0 u1_1a k)∨(New u1_1 u1_2a k)∨(New u1_2 u1_3a k)∨(New u1_3 u1_4a k)∨(New u1_4 u2_3 k)) u2_3 u3_3 from hm)
 clear hm
 clear qwr Hx15
 refine QSeq.nil (t':=[_,_,_,_]) rfl ?_
 obtain rfl:=HA0.out
 clear HA0 oe0 oe3
 simp only [pz,Act.put,sIB,sCZ,sCS]
 go_wp2
 go_end0
 have hq:=(Hx17.out.widen (R':=(fun k=>R k∨New w u3_3 k)) (by intro k h1;rcases h1 with h1|h1|h1|h1|h1|h1|h1<;>first|exact Or.inl h1|(right;omega)) (Nat.le_refl _))
 simp only [List.append_assoc] at hq
 exact ⟨rfl,by simpa only [prB,List.append_assoc] using hq,(((HM0.out.trans Cx14.out (fun _ _ h=>h)).trans Cx16.out (by intro k h1 h2;rcases h2 with h2|h2|h2|h2|h2<;>first|exact h2|omega|(have hb:=HBR.out k h2;omega))).trans Cx18.out (by intro k h1 h2;rcases h2 with h2|h2|h2|h2|h2|h2<;>first|exact h2|omega|(have hb:=HBR.out k h2;omega)))⟩
open Go.Proofs renaming Tryz.func109→va',Tryz.ntmps109→vb',Tryz.underlying57→vc',Tryz.underlying49→vf',Tryz.func103→vi' in
open Go.Proofs.YtnaoeginonpicaaGreat renaming vtB→vd',VtR→ve',PutVt_Q→vj' in
open Go.Gv renaming z'4→vg',z'5→vh' in
set_option maxHeartbeats 4000000 in
theorem PutList_Vt:PutsL VtR 109 103 vtB:=
 fm2'
end Go.Proofs.YtnaoeginonpicaaGreat
