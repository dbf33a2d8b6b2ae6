/- Texts that are built one behind the other: XRk3, XRf2, XRg0, XRs1, XSc1, XSp4. No condition. -/
import Derived.Test.YtbifincepglilaaSpP6
set_option maxRecDepth 100000
set_option linter.unusedVariables false
open List renaming setIfInBounds_toArray → sIB, set_cons_zero → sCZ, set_cons_succ → sCS
/- The reference's MakeCommit and RightCommit, for a book of any list. -/
namespace Go.Proofs.Ytbifincepglilaa
open Go Go.RowKit Go.Gv
abbrev wReq:ByteArray:={ data:=#[114,101,113,117,101,115,116] }
def txQ (x:Cm):List Int:=wordB wReq ++ (encI x.cl ++ (encI x.sq ++ (x.h ++ encI x.ln)))
theorem txQ_T (x:Cm):txQ x=txT x:=by
 have h:wordB wReq=encN requestLit.length ++ requestLit:=by unfold wordB;rfl
 simp [txQ,h,txT,txC]
set_option maxHeartbeats 4000000 in
theorem RefTextQ:Makes CmR 57 txQ:=by
 intro R2 cs x w hx hB2 hl
 obtain ⟨rfl,hok⟩:=hx
 have HBT:=Lib.hid hB2
 have HOK:=Lib.hid hok
 have HL:=Lib.hid hl
 clear hB2 hl hok
 unfold txQ at HL
 go_enter Try.func57,Try.ntmps57
 go_upto_region 1 with (fail)
 obtain ⟨w1,hw1⟩:∃ zz,zz=(w.alloc (.cells (x.cells:List Value).toArray 36)):=⟨_,rfl⟩
 change Code.wp _ _ _ _ (w.alloc (.cells (x.cells:List Value).toArray 36))
 rw [← hw1]
 have HB1:=hid (show Cs w1 (w.heap.size) (x.cells:List Value).toArray 36 by rw [hw1];exact Cs.new _ _ _)
 have hm:Mod (fun _=>False) w w1:=by rw [hw1];exact (Mod.refl _ _).alloc _
 have HM0:=hid (show Mod (fun _=>False) w w1 from hm.mono (fun _ _ h=>h.elim))
 have hs1:w1.heap.size=w.heap.size+1:=by rw [hw1];simp
 clear hw1 hm
 go_upto_region 1 with (fail)
 generalize ha0:Act.mk _ _=a0
 have oe1:a0.eval (.tmp 1)=.pointer (some ⟨w.heap.size,0,none⟩):=by rw [← ha0];rfl
 have hsz0:a0.tmps.size=21:=by rw [← ha0];rfl
 have HA0:=hid ha0
 clear ha0
 refine Az 21 hsz0 [3,4,5,6,7,8,9,10,11,12,13,14,15,16,17,18,19,20,2] [ql w1.heap.size 5 ([114,101,113,117,101,115,116].map bv).toArray,ql w1.heap.size 5 ([114,101,113,117,101,115,116].map bv).toArray,qv 0,qi (.pointer (some ⟨w.heap.size,0,none⟩)),qi (.pointer (some ⟨w.heap.size,0,none⟩)),qi (.int .i64 x.cl),qv 1,qi (.pointer (some ⟨w.heap.size,0,none⟩)),qi (.pointer (some ⟨w.heap.size,1,none⟩)),qi (.int .i64 x.sq),qv 2,qi (.pointer (some ⟨w.heap.size,2,none⟩)),qi (.slice (some ⟨w.heap.size,2,none⟩) 32 32),qi (.pointer (some ⟨w.heap.size,34,none⟩)),qi (.int .i64 x.ln),qv 3,qv 4,qv 5,qv 5] ⟨ql_stable,ql_stable,Ay,Aa,Aa,Aa,Ay,Aa,Aa,Aa,Ay,Aa,Aa,Aa,Aa,Ay,Ay,Ay,Ay,trivial⟩ [2,6,10,15,16,17] ⟨?_,?_,?_,?_,?_,?_,?_,?_,?_,?_,?_,?_,?_,?_,?_,?_,?_,?_,?_,trivial⟩ ?_
 ·refine Ag rfl rfl rfl fun _ tr _ _ hZ hm _ _ _ _ _ _=>?_
  exact Aq rfl (Ab rfl) (ex_lit rfl Try.underlying38 (by kernel_rfl) (by decide) (C:=([114,101,113,117,101,115,116].map bv).toArray) (by simp only [List.map_toArray,List.map_cons,List.map_nil,Act.eval];kernel_rfl)) (QE.still ((Mod.refl _ _).alloc _)) (ql_new (t:=tr) (C:=([114,101,113,117,101,115,116].map bv).toArray) hm.size hZ)
 ·refine Ag rfl rfl rfl fun _ _ _ _ _ _ _ _ _ hd _ _=>?_
  have h0:=hd ⟨0,.data⟩ (by simp) rfl _ rfl
  exact qe_mark rfl (Ab rfl) rfl Try.underlying38 Try.underlying5 h0 (fun _ _ h=>h)
 ·exact Au rfl
 ·exact stq (fun E=>Ai rfl Try.underlying36 rfl (by kernel_rfl) (E.v oe1))
 ·exact stq (fun E=>Ai rfl Try.underlying30 rfl (by kernel_rfl) (E.d 3))
 ·exact stq (fun E=>Am rfl Try.underlying3 rfl (E.d 4) ((HB1.out.mod E.m.old (by intro h2;omega)).c0))
 ·exact Au rfl
 ·exact stq (fun E=>Ai rfl Try.underlying36 rfl (by kernel_rfl) (E.v oe1))
 ·exact stq (fun E=>Ai rfl Try.underlying30 rfl (by kernel_rfl) (E.d 7))
 ·exact stq (fun E=>Am rfl Try.underlying3 rfl (E.d 8) ((HB1.out.mod E.m.old (by intro h2;omega)).c1))
 ·exact Au rfl
 ·exact stq (fun E=>Ai rfl Try.underlying36 rfl (by kernel_rfl) (E.v oe1))
 ·exact stq (fun E=>ex_sliceArr rfl Try.underlying32 (by kernel_rfl) (E.d 11) (by decide))
 ·exact stq (fun E=>Ai rfl Try.underlying36 rfl (by kernel_rfl) (E.v oe1))
 ·exact stq (fun E=>Am rfl Try.underlying3 rfl (E.d 13) ((HB1.out.mod E.m.old (by intro h2;omega)).c34 HOK.out.2.1))
 ·exact Au rfl
 ·exact Au rfl
 ·exact Au rfl
 ·refine Ag rfl rfl rfl fun _ _ _ _ _ _ _ _ _ hd _ _=>?_
  have h17:=hd ⟨17,.data⟩ (by simp) rfl _ rfl
  exact Aq rfl (Ab rfl) (An rfl rfl) QE.refl h17
 intro u1_0 hr
 have zu1_0:=hr.size
 have Cx1:=hid (hr.new (S:=(fun _=>False)))
 clear hr
 refine QChain.go fun Z act E=>?_
 have hq2:ql w1.heap.size 5 ([114,101,113,117,101,115,116].map bv).toArray Z [] (act.eval (.tmp 4)) u1_0:=(E.d 1)
 obtain ⟨R3,hR3,hrd2⟩:=ql.rd (by unfold Bytes;decide) hq2 (by decide)
 refine Ax (args:=#[act.eval (.tmp 4)]) rfl (Ab rfl) rfl Try.func65 (Ca rfl) (RefRow_W wReq rfl hrd2 (by have:=HL.out;simp only [List.length_append] at this ⊢; omega)) ?_
 rintro e u1_1a ⟨v_a1,rfl,qa1,hm⟩
 obtain ⟨ao_a1,cap_a1,rfl⟩:=qa1.shape
 have zu1_1a:=hm.size
 refine ⟨_,rfl,hm.mono (fun _ _ h=>h.elim),(fun _=>rfl),?_⟩
 intro u1_1 hr
 have zu1_1:=hr.size
 have Hx2:=hid ((qa1.widen (R':=(fun k=>(New u1_0 u1_1a k))) (fun _ h=>h) (Nat.le_refl _)).mod hr (by intro k h1 h2;omega))
 have Cx3:=hid (Cx1.out.go hm hr)
 clear Cx1 hm hr qa1
 refine QChain.go fun Z act E=>?_
 refine Ax (args:=#[.int .i64 x.cl]) rfl (Ab rfl) rfl Try.func66 (Ca (E.d 5)) (RefInt_Q _ HOK.out.1.1 _) ?_
 rintro e u1_2a ⟨v_a2,rfl,qa2,hm⟩
 obtain ⟨ao_a2,cap_a2,rfl⟩:=qa2.shape
 have zu1_2a:=hm.size
 refine ⟨_,rfl,hm.mono (fun _ _ h=>h.elim),(fun _=>rfl),?_⟩
 intro u1_2 hr
 have zu1_2:=hr.size
 have Hx4:=hid ((qa2.widen (R':=(fun k=>(New u1_1 u1_2a k))) (fun _ h=>h) (Nat.le_refl _)).mod hr (by intro k h1 h2;omega))
 have hmr:=Mod.after hm hr
 have Hx5:=hid (Hx2.out.mod hmr (by intro k h1 h2;omega))
 clear Hx2
 clear hmr
 have Cx6:=hid (Cx3.out.go hm hr)
 clear Cx3 hm hr Z act E qa2
 refine QChain.go fun Z act E=>?_
 refine Ax (args:=#[.int .i64 x.sq]) rfl (Ab rfl) rfl Try.func66 (Ca (E.d 9)) (RefInt_Q _ HOK.out.1.2.1 _) ?_
 rintro e u1_3a ⟨v_a3,rfl,qa3,hm⟩
 obtain ⟨ao_a3,cap_a3,rfl⟩:=qa3.shape
 have zu1_3a:=hm.size
 refine ⟨_,rfl,hm.mono (fun _ _ h=>h.elim),(fun _=>rfl),?_⟩
 intro u1_3 hr
 have zu1_3:=hr.size
 have Hx7:=hid ((qa3.widen (R':=(fun k=>(New u1_2 u1_3a k))) (fun _ h=>h) (Nat.le_refl _)).mod hr (by intro k h1 h2;omega))
 have hmr:=Mod.after hm hr
 have Hx8:=hid (Hx5.out.mod hmr (by intro k h1 h2;omega))
 have Hx9:=hid (Hx4.out.mod hmr (by intro k h1 h2;omega))
 clear Hx5 Hx4
 clear hmr
 have Cx10:=hid (Cx6.out.go hm hr)
 clear Cx6 hm hr Z act E qa3
 refine QChain.go fun Z act E=>?_
 refine Ax (args:=#[.int .i64 x.ln]) rfl (Ab rfl) rfl Try.func66 (Ca (E.d 14)) (RefInt_Q _ HOK.out.1.2.2.1 _) ?_
 rintro e u1_4a ⟨v_a4,rfl,qa4,hm⟩
 obtain ⟨ao_a4,cap_a4,rfl⟩:=qa4.shape
 have zu1_4a:=hm.size
 refine ⟨_,rfl,hm.mono (fun _ _ h=>h.elim),(fun _=>rfl),?_⟩
 intro u1_4 hr
 have zu1_4:=hr.size
 have Hx11:=hid ((qa4.widen (R':=(fun k=>(New u1_3 u1_4a k))) (fun _ h=>h) (Nat.le_refl _)).mod hr (by intro k h1 h2;omega))
 have hmr:=Mod.after hm hr
 have Hx12:=hid (Hx8.out.mod hmr (by intro k h1 h2;omega))
 have Hx13:=hid (Hx9.out.mod hmr (by intro k h1 h2;omega))
 have Hx14:=hid (Hx7.out.mod hmr (by intro k h1 h2;omega))
 clear Hx8 Hx9 Hx7
 clear hmr
 have Cx15:=hid (Cx10.out.go hm hr)
 clear Cx10 hm hr Z act E qa4
 refine QChain.go fun Z act E=>?_
 have ea5:act.eval (.tmp 5)=.slice ao_a1 ((wordB wReq).length) cap_a1:=(chv (v:=.slice ao_a1 ((wordB wReq).length) cap_a1) (E.d 2))
 have ea9:act.eval (.tmp 9)=.slice ao_a2 ((encI x.cl).length) cap_a2:=(chv (v:=.slice ao_a2 ((encI x.cl).length) cap_a2) (E.d 6))
 have ea13:act.eval (.tmp 13)=.slice ao_a3 ((encI x.sq).length) cap_a3:=(chv (v:=.slice ao_a3 ((encI x.sq).length) cap_a3) (E.d 10))
 have ea15:act.eval (.tmp 15)=.slice (some ⟨w.heap.size,2,none⟩) 32 32:=(E.d 12)
 have ea18:act.eval (.tmp 18)=.slice ao_a4 ((encI x.ln).length) cap_a4:=(chv (v:=.slice ao_a4 ((encI x.ln).length) cap_a4) (E.d 15))
 refine qc_rows rfl (Ab rfl) rfl Try.underlying132 (by decide) (C:=#[.slice ao_a1 ((wordB wReq).length) cap_a1,.slice ao_a2 ((encI x.cl).length) cap_a2,.slice ao_a3 ((encI x.sq).length) cap_a3,.slice (some ⟨w.heap.size,2,none⟩) 32 32,.slice ao_a4 ((encI x.ln).length) cap_a4]) (by simp only [List.map_toArray,List.map_cons,List.map_nil,ea5,ea9,ea13,ea15,ea18];kernel_rfl) ?_
 intro u1_5a qrow16 hm
 have zl1_16:=qrow16.lt
 have zu1_5a:=hm.size
 refine ⟨hm.mono (fun _ _ h=>h.elim),(fun _=>rfl),?_⟩
 intro u1_5 hr
 have zu1_5:=hr.size
 have Hx16:=hid (qrow16.mod hr (by intro h2;omega))
 have hmr:=Mod.after hm hr
 have Hx17:=hid (Hx12.out.mod hmr (by intro k h1 h2;omega))
 have Hx18:=hid (Hx13.out.mod hmr (by intro k h1 h2;omega))
 have Hx19:=hid (Hx14.out.mod hmr (by intro k h1 h2;omega))
 have Hx20:=hid (Hx11.out.mod hmr (by intro k h1 h2;omega))
 clear Hx12 Hx13 Hx14 Hx11
 clear hmr
 have Cx21:=hid (Cx15.out.go hm hr)
 clear Cx15 hm hr Z act E qrow16 ea5 ea9 ea13 ea15 ea18
 refine QChain.go fun Z act E=>?_
 refine Ax (args:=#[.slice (some ⟨u1_4.heap.size,0,none⟩) 5 5]) rfl (Ab rfl) rfl Try.func64 (Ca (chv (v:=.slice (some ⟨u1_4.heap.size,0,none⟩) 5 5) (E.d 16))) (Join_Q (n:=5)  Hx16.out [(.slice ao_a1 ((wordB wReq).length) cap_a1,wordB wReq),(.slice ao_a2 ((encI x.cl).length) cap_a2,encI x.cl),(.slice ao_a3 ((encI x.sq).length) cap_a3,encI x.sq),(.slice (some ⟨w.heap.size,2,none⟩) 32 32,x.h),(.slice ao_a4 ((encI x.ln).length) cap_a4,encI x.ln)] rfl rfl (by intro p hp;simp only [List.mem_cons,List.not_mem_nil,or_false] at hp;rcases hp with rfl|rfl|rfl|rfl|rfl<;>first|exact Hx17.out.rd.1|exact Hx18.out.rd.1|exact Hx19.out.rd.1|exact RdB_arr3 ((HB1.out.mod Cx21.out (fun h=>h)).hash) HOK.out.2|exact Hx20.out.rd.1) (by simp) (show flat _=wordB wReq ++ (encI x.cl ++ (encI x.sq ++ (x.h ++ encI x.ln))) from by simp only [flat,List.map_cons,List.map_nil,List.flatten_cons,List.flatten_nil,List.append_nil]) (by have:=HL.out;simp only [List.length_append] at this ⊢; omega)) ?_
 rintro e u1_6a ⟨v_join1,rfl,qjoin1,hm⟩
 have zu1_6a:=hm.size
 refine ⟨_,rfl,hm.mono (fun _ _ h=>h.elim),(fun _=>rfl),?_⟩
 intro u1_6 hr
 have zu1_6:=hr.size
 have Hx22:=hid ((qjoin1.widen (R':=(fun k=>(New u1_5 u1_6a k))) (fun _ h=>h) (Nat.le_refl _)).mod hr (by intro k h1 h2;omega))
 have hmr:=Mod.after hm hr
 have Hx23:=hid (Hx17.out.mod hmr (by intro k h1 h2;omega))
 have Hx24:=hid (Hx18.out.mod hmr (by intro k h1 h2;omega))
 have Hx25:=hid (Hx19.out.mod hmr (by intro k h1 h2;omega))
 have Hx26:=hid (Hx20.out.mod hmr (by intro k h1 h2;omega))
 have Hx27:=hid (Hx16.out.mod hmr (by intro h2;omega))
 clear Hx17 Hx18 Hx19 Hx20 Hx16
 clear hmr
 have Cx28:=hid (Cx21.out.go hm hr)
 clear Cx21 hm hr Z act E qjoin1
 refine QChain.nil fun vs hl hzz hrows hne=>?_
 obtain ⟨Z,hYZ,hZb,hV⟩:=hzz
 have f2:=fvc hV hl 2
 have f6:=fvc hV hl 6
 have f10:=fvc hV hl 10
 have f15:=fvc hV hl 15
 have f16:=fvc hV hl 16
 have f17:=fvc hV hl 17
 have f18:=fvc hV hl 18
 rw [show vs=[gw vs 0,gw vs 1,gw vs 2,gw vs 3,gw vs 4,gw vs 5,gw vs 6,gw vs 7,gw vs 8,gw vs 9,gw vs 10,gw vs 11,gw vs 12,gw vs 13,gw vs 14,gw vs 15,gw vs 16,gw vs 17,gw vs 18] from (Bh hl).trans rfl]
 have ha0:=HA0.out
 subst ha0
 clear HA0 hV hYZ hZb hsz0 hrows hne oe1
 simp only [Ar,Act.put,sIB,sCZ,sCS,f2,f6,f10,f15,f16,f17,f18]
 clear hl f2 f6 f10 f15 f16 f17 f18
 go_wp2
 go_ret
 have hq:=(Hx22.out.widen (R':=(fun k=>New w u1_6 k)) (by intro k h1;omega) (Nat.le_refl _))
 (try simp only [List.append_assoc] at hq)
 exact ⟨v_join1,rfl,by simpa only [txQ,List.append_assoc] using hq,(HM0.out.trans Cx28.out (fun _ _ h=>h.elim))⟩
theorem cm0_ok {a b:Int} {h bs:List Int} (ha:I64 a) (hb:I64 b) (hl:bs.length≤1000000):(cm0 a b h bs).OK:=⟨⟨ha,hb,by unfold I64;constructor<;>(show _≤_;simp only [cm0];omega),(show I64 0 by unfold I64;decide),(show I64 0 by unfold I64;decide)⟩,Bu _,shaF_bytes _⟩
theorem wReq_B:wordB wReq=[7,114,101,113,117,101,115,116]:=by
 unfold wordB
 rw [show bytesOf wReq=[114,101,113,117,101,115,116] from rfl,encN_lt (by decide)]
 rfl
theorem txT_bytes {c:Cm} (h:c.OK):Bytes (txT c):=by
 rw [← txQ_T]
 intro b hb
 simp only [txQ,wReq_B,List.mem_append] at hb
 have h1:Bytes [7,114,101,113,117,101,115,116]:=by unfold Bytes;decide
 rcases hb with hb|hb|hb|hb|hb
 ·exact h1 b hb
 ·exact encI_bytes _ b hb
 ·exact encI_bytes _ b hb
 ·exact h.2.2 b hb
 ·exact encI_bytes _ b hb
theorem txT_len {c:Cm} (h:c.OK):(txT c).length≤500:=by
 have h1:=encI_len c.cl h.1.1.2;have h2:=encI_len c.sq h.1.2.1.2;have h3:=encI_len c.ln h.1.2.2.1.2;have h4:=h.2.1
 rw [← txQ_T]
 simp only [txQ,wReq_B,List.length_append,List.length_cons,List.length_nil]
 omega
theorem key_ok {a b:Int} {h bs:List Int} (ha:I64 a) (hs:I64 (1000+a)) (hb:I64 b) (hl:bs.length≤1000000):SgK (mkKey a b h bs):=⟨hs,txT_bytes (cm0_ok (h:=h) ha hb hl),Nat.le_trans (txT_len (cm0_ok (h:=h) ha hb hl)) (by decide)⟩
theorem RdR_eq {R:Nat→Prop} {N:Nat} {w:World} {v:Value} {a b:List Int} (h:RdR R N w v a) (e:a=b):RdR R N w v b:=e▸h
set_option maxHeartbeats 4000000 in
theorem RMake_Q {R R':Nat→Prop} {N:Nat} {w:World} {g:Nat} {L:List (Int × List Int)} (hbk:RbO R w g L) (hB:∀ k,R k→k < w.heap.size) (hLL:L.length≤100000) (a b:Int) (h bs:List Int) {v:Value} (ha:I64 a) (hsi:I64 (1000+a)) (hb:I64 b) (hh:HK h) (hr:RdR R' N w v bs) (hl:bs.length≤800000) :
 Calls Try.prog 38 #[.pointer (some ⟨g,0,none⟩),.agg #[.int .i64 a,.int .i64 b],hv h,v] w fun e w'=>e=.returned (mkCm L a b h bs).val∧RbO (fun k=>R k∨New w w' k) w' g (mkBook L a b h bs)∧Mod R w w':=by
 obtain ⟨ao,cap,rfl⟩:=hr.shape
 have HTX:=hid (show RdR (fun k=>k < w.heap.size) N w (.slice ao bs.length cap) bs from ⟨hr.1,(fun h0 k hk=>hr.1.block_lt h0 k hk),hr.2.2⟩)
 have HBK:=Lib.hid hbk
 have HBR:=Lib.hid hB
 have HA:=Lib.hid ha
 have HSA:=Lib.hid hsi
 have HB:=Lib.hid hb
 have HH:=Lib.hid hh
 have HBL:=Lib.hid hl
 have HLL:=Lib.hid hLL
 have HO0:=hid (cm0_ok (h:=h) ha hb (Nat.le_trans hl (by decide)))
 have HO1:=hid (mkCm_ok L a b h bs ha hsi hb (Nat.le_trans hl (by decide)) (Nat.le_trans hLL (by decide)))
 have HKY:=hid (key_ok (h:=h) ha hsi hb (Nat.le_trans hl (by decide)))
 have hbl:I64 (bs.length:Int):=by unfold I64;omega
 clear hr hbk hB ha hsi hb hh hl hLL
 change Calls _ _ #[.pointer (some ⟨g,0,none⟩),.agg #[.int .i64 a,.int .i64 b],hv h,.slice ao bs.length cap] _ _
 go_enter Try.func38,Try.ntmps38
 go_upto_region 1 with (fail)
 obtain ⟨w1,hw1⟩:∃ zz,zz=(((w.alloc (.cells #[.int .i64 a,.int .i64 b] 30)).alloc (.cells (h.map bv:List Value).toArray 32)).alloc (.cells #[.int .i64 0,.int .i64 0,.int .u8 0,.int .u8 0,.int .u8 0,.int .u8 0,.int .u8 0,.int .u8 0,.int .u8 0,.int .u8 0,.int .u8 0,.int .u8 0,.int .u8 0,.int .u8 0,.int .u8 0,.int .u8 0,.int .u8 0,.int .u8 0,.int .u8 0,.int .u8 0,.int .u8 0,.int .u8 0,.int .u8 0,.int .u8 0,.int .u8 0,.int .u8 0,.int .u8 0,.int .u8 0,.int .u8 0,.int .u8 0,.int .u8 0,.int .u8 0,.int .u8 0,.int .u8 0,.int .i64 0,.int .i64 0,.int .i64 0] 36)):=⟨_,rfl⟩
 change Code.wp _ _ _ _ (((w.alloc (.cells #[.int .i64 a,.int .i64 b] 30)).alloc (.cells (h.map bv:List Value).toArray 32)).alloc (.cells #[.int .i64 0,.int .i64 0,.int .u8 0,.int .u8 0,.int .u8 0,.int .u8 0,.int .u8 0,.int .u8 0,.int .u8 0,.int .u8 0,.int .u8 0,.int .u8 0,.int .u8 0,.int .u8 0,.int .u8 0,.int .u8 0,.int .u8 0,.int .u8 0,.int .u8 0,.int .u8 0,.int .u8 0,.int .u8 0,.int .u8 0,.int .u8 0,.int .u8 0,.int .u8 0,.int .u8 0,.int .u8 0,.int .u8 0,.int .u8 0,.int .u8 0,.int .u8 0,.int .u8 0,.int .u8 0,.int .i64 0,.int .i64 0,.int .i64 0] 36))
 rw [← hw1]
 have HB5:=hid (show Cs w1 (w.heap.size) #[.int .i64 a,.int .i64 b] 30 by rw [hw1];exact ((Cs.new _ _ _).alloc _).alloc _)
 have HB6:=hid (show Cs w1 (w.heap.size+1) (h.map bv:List Value).toArray 32 by rw [hw1];exact (Cs_newN _ _ _ (by simp)).alloc _)
 have HB8:=hid (show Cs w1 (w.heap.size+2) #[.int .i64 0,.int .i64 0,.int .u8 0,.int .u8 0,.int .u8 0,.int .u8 0,.int .u8 0,.int .u8 0,.int .u8 0,.int .u8 0,.int .u8 0,.int .u8 0,.int .u8 0,.int .u8 0,.int .u8 0,.int .u8 0,.int .u8 0,.int .u8 0,.int .u8 0,.int .u8 0,.int .u8 0,.int .u8 0,.int .u8 0,.int .u8 0,.int .u8 0,.int .u8 0,.int .u8 0,.int .u8 0,.int .u8 0,.int .u8 0,.int .u8 0,.int .u8 0,.int .u8 0,.int .u8 0,.int .i64 0,.int .i64 0,.int .i64 0] 36 by rw [hw1];exact Cs_newN _ _ _ (by simp))
 have hm:Mod (fun _=>False) w w1:=by rw [hw1];exact (((Mod.refl _ _).alloc _).alloc _).alloc _
 have HM0:=hid (show Mod (fun k=>(R k)) w w1 from hm.mono (fun _ _ h=>h.elim))
 have hs1:w1.heap.size=w.heap.size+3:=by rw [hw1];simp
 have Hx1:=hid (HBK.out.mod hm (fun _ _ h=>h))
 clear HBK
 have Hx2:=hid (HTX.out.mod hm (fun _ _ h=>h))
 clear HTX
 clear hw1 hm
 go_upto_region 1 with (fail)
 generalize ha0:Act.mk _ _=a0
 have oe3:a0.eval (.tmp 3)=.slice ao bs.length cap:=by rw [← ha0];rfl
 have oe5:a0.eval (.tmp 5)=.pointer (some ⟨w.heap.size,0,none⟩):=by rw [← ha0];rfl
 have oe6:a0.eval (.tmp 6)=.pointer (some ⟨w.heap.size+1,0,none⟩):=by rw [← ha0];rfl
 have hsz0:a0.tmps.size=27:=by rw [← ha0];rfl
 have HA0:=hid ha0
 clear ha0
 refine wp_region_Q 27 hsz0 (by kernel_rfl) (by kernel_rfl) [10,11,12,13,14,15,16,17,9,36] (by kernel_rfl) (by decide) (fun _=>False) (fun _ _=>False) (fun _ _ h=>h) [qi (.agg #[.int .i64 a,.int .i64 b]),qi (.agg #[.int .i64 a,.int .i64 b]),qi (hv h),qi (.slice ao bs.length cap),qi (hv (shaF (ofT a b h bs))),qi (.slice ao bs.length cap),qi (.int .i64 bs.length),qi ((cm0 a b h bs).val),qa,qa] ⟨Aa,Aa,Aa,Aa,Aa,Aa,Aa,Aa,B5,B5,trivial⟩ [4] (by kernel_rfl) (by decide) (by kernel_rfl) [⟨8,9,36,[.int .i64 0,.int .i64 0,.int .u8 0,.int .u8 0,.int .u8 0,.int .u8 0,.int .u8 0,.int .u8 0,.int .u8 0,.int .u8 0,.int .u8 0,.int .u8 0,.int .u8 0,.int .u8 0,.int .u8 0,.int .u8 0,.int .u8 0,.int .u8 0,.int .u8 0,.int .u8 0,.int .u8 0,.int .u8 0,.int .u8 0,.int .u8 0,.int .u8 0,.int .u8 0,.int .u8 0,.int .u8 0,.int .u8 0,.int .u8 0,.int .u8 0,.int .u8 0,.int .u8 0,.int .u8 0,.int .i64 0,.int .i64 0,.int .i64 0],0,(fun t=>(cm0 a b h bs).cells)⟩] (by kernel_rfl) (by intro r hr;simp only [List.mem_cons,List.not_mem_nil,or_false] at hr;rcases hr with rfl<;>exact ⟨by kernel_rfl,by kernel_rfl⟩) (by intro r hr;simp only [List.mem_cons,List.not_mem_nil,or_false] at hr;rcases hr with rfl<;>exact ⟨of_decide_eq_true (by kernel_rfl),of_decide_eq_true (by kernel_rfl)⟩) (by intro r hr;simp only [List.mem_cons,List.not_mem_nil,or_false] at hr;rcases hr with rfl<;>exact fun _ _ _ _=>⟨trivial,trivial⟩) ⟨?_,?_,?_,?_,?_,?_,?_,?_,?_,?_,trivial⟩ ?_
 ·exact stq (fun E=>Ap rfl Try.underlying30 rfl (off:=0) (cs:=[.int .i64 a,.int .i64 b]) (by kernel_rfl) (E.v oe5) (Cs.whole (HB5.out.mod E.m.old (by intro h2;omega))))
 ·exact stq (fun E=>Ap rfl Try.underlying30 rfl (off:=0) (cs:=[.int .i64 a,.int .i64 b]) (by kernel_rfl) (E.v oe5) (Cs.whole (HB5.out.mod E.m.old (by intro h2;omega))))
 ·exact stq (fun E=>Ap rfl Try.underlying32 rfl (off:=0) (cs:=h.map bv) (by rw [List.length_map,HH.out.1];exact Bj) (E.v oe6) (Cs.whole (HB6.out.mod E.m.old (by intro h2;omega))))
 ·exact stq (fun E=>Ah rfl (E.v oe3))
 ·exact Au rfl
 ·exact stq (fun E=>Ah rfl (E.v oe3))
 ·exact stq (fun E=>ex_lenS rfl (E.d 5) Try.underlying38)
 ·refine Ag rfl rfl rfl fun _ _ act _ _ _ _ _ _ hd _ _=>?_
  have h0:=hd ⟨0,.data⟩ (by simp) rfl _ rfl
  have h4:=hd ⟨4,.data⟩ (by simp) rfl _ rfl
  have h6:=hd ⟨6,.data⟩ (by simp) rfl _ rfl
  refine Aq rfl (Ab rfl) (ex_build rfl (z:=[.int .i64 0,.int .i64 0,.int .u8 0,.int .u8 0,.int .u8 0,.int .u8 0,.int .u8 0,.int .u8 0,.int .u8 0,.int .u8 0,.int .u8 0,.int .u8 0,.int .u8 0,.int .u8 0,.int .u8 0,.int .u8 0,.int .u8 0,.int .u8 0,.int .u8 0,.int .u8 0,.int .u8 0,.int .u8 0,.int .u8 0,.int .u8 0,.int .u8 0,.int .u8 0,.int .u8 0,.int .u8 0,.int .u8 0,.int .u8 0,.int .u8 0,.int .u8 0,.int .u8 0,.int .u8 0,.int .i64 0,.int .i64 0,.int .i64 0]) (places:=[(0,2),(2,32),(34,1),(35,2)]) (by kernel_rfl) (parts:=[(0,.agg #[.int .i64 a,.int .i64 b]),(1,hv (shaF (ofT a b h bs))),(2,.int .i64 bs.length)]) (by simp only [List.map_toArray,List.map_cons,List.map_nil,show act.eval (.tmp 10)=_ from h0,show act.eval (.tmp 14)=_ from h4,show act.eval (.tmp 16)=_ from h6];try rfl) (r:=(cm0 a b h bs).cells) (by exact laid_commit a b (shaF (ofT a b h bs)) _ (Bu _))) QE.refl ?_
  rfl
 ·exact stepq_make rfl rfl ⟨rfl,rfl,by kernel_rfl,by kernel_rfl⟩
 ·refine stepq_write rfl rfl rfl ⟨rfl,9,(.tmp 17),rfl,by decide,rfl,by kernel_rfl,fun Z tr act w' hm hout hsz hd hpre=>?_⟩
  have h7:=hd ⟨7,.data⟩ (by simp) rfl _ rfl
  exact ⟨Nat.zero_le _,(by rw [show act.eval ((.tmp 17))=_ from h7];rfl),(by rw [Cm.len (Bu _)];rfl),(Cm.one _)⟩
 intro u1_0 hr
 have zu1_0:=hr.size
 have Cx3:=hid (hr.new (S:=(fun _=>False)))
 clear hr
 refine QChain.go fun Z act E=>?_
 refine Ax (args:=#[.agg #[.int .i64 a,.int .i64 b],hv h,.slice ao bs.length cap]) rfl (Ab rfl) rfl Try.func55 (args3 (E.d 1) (E.d 2) (E.d 3)) (RefOf_any a b h bs _ _ HA.out HB.out HH.out (Hx2.out.mod Cx3.out (fun _ _ h=>h)).1 HBL.out) ?_
 rintro e u1_1a ⟨rfl,hm⟩
 have zu1_1a:=hm.size
 refine ⟨_,rfl,hm.mono (fun _ _ h=>h.elim),(fun _=>rfl),?_⟩
 intro u1_1 hr
 have zu1_1:=hr.size
 have Cx4:=hid (Cx3.out.go hm hr)
 clear Cx3 hm hr Z act E
 refine QChain.nil fun vs hl hzz hrows hne=>?_
 obtain ⟨Z,hYZ,hZb,hV⟩:=hzz
 obtain ⟨qx,g8,hBqx,hYqx,hCqx⟩:=hrows _ (by simp only [List.mem_cons,List.not_mem_nil,or_false];trivial)
 have f8:gw vs 8=_:=getv g8
 (try dsimp only at hBqx hYqx);(try simp only [false_or] at hBqx hYqx)
 have zqqx:=hCqx.lt
 have Hx5:=hid (show Cs u1_1 qx ((cm0 a b h bs).cells:List Value).toArray 36 from hCqx)
 have f3:=fvi hV hl 3
 have f4:=fvi hV hl 4
 have f5:=fvi hV hl 5
 have f6:=fvi hV hl 6
 rw [show vs=[gw vs 0,gw vs 1,gw vs 2,gw vs 3,gw vs 4,gw vs 5,gw vs 6,gw vs 7,gw vs 8,gw vs 9] from (Bh hl).trans rfl]
 have ha0:=HA0.out
 subst ha0
 clear HA0 hV hYZ hZb hsz0 hrows hne oe3 oe5 oe6 hCqx g8
 simp only [Ar,Act.put,sIB,sCZ,sCS,List.set_nil,f8,f3,f4,f5,f6]
 clear hl f8 f3 f4 f5 f6
 have HTL:=hid (show (txQ (cm0 a b h bs)).length≤900000 by rw [txQ_T];exact Nat.le_trans (txT_len HO0.out) (by decide))
 go_upto_region 2 with (fail)
 generalize ha0:Act.mk _ _=a0
 have oe0:a0.eval (.tmp 0)=.pointer (some ⟨g,0,none⟩):=by rw [← ha0];rfl
 have oe5:a0.eval (.tmp 5)=.pointer (some ⟨w.heap.size,0,none⟩):=by rw [← ha0];rfl
 have oe9:a0.eval (.tmp 9)=.pointer (some ⟨qx,0,none⟩):=by rw [← ha0];rfl
 have hsz0:a0.tmps.size=27:=by rw [← ha0];rfl
 have HA0:=hid ha0
 clear ha0
 refine B0 27 hsz0 [18,19,20,21,22,23,24,25,35] (fun k=>(R k)∨(k=qx)) (fun k j=>(k=1∧((R j)))∨(k=2∧((j=qx)))) (by intro k j h;(try dsimp only at h ⊢);rcases h with ⟨-,h⟩|⟨-,h⟩;(exact Or.inl (h));(exact Or.inr (h))) [qi (.pointer (some ⟨g,0,none⟩)),qi (.pointer (some ⟨w.heap.size,0,none⟩)),qi (.int .i64 a),qi (.int .i64 (1000+a)),qi ((cm0 a b h bs).val),qv 0,qi (.agg #[.int .i64 (1000+a),.int .i64 (((mkN (B7 L (1000+a,txQ (cm0 a b h bs))) (1000+a,txQ (cm0 a b h bs))):Nat):Int)]),qi (.pointer (some ⟨qx,35,none⟩)),qv 2] ⟨Aa,Aa,Aa,Aa,Aa,Ay,Aa,Aa,Ay,trivial⟩ [5,6,8] ⟨?_,?_,?_,?_,?_,?_,?_,?_,?_,trivial⟩ ?_
 ·exact stq (fun E=>Ah rfl (E.v oe0))
 ·exact stq (fun E=>Ai rfl Try.underlying30 rfl (by kernel_rfl) (E.v oe5))
 ·exact stq (fun E=>Am rfl Try.underlying3 rfl (E.d 1) (Cs.lit1 ((HB5.out.mod Cx4.out (fun h=>h)).mod E.m (by intro h2;rcases h2 with ⟨h0,h2|h2⟩|h2<;>first|omega|(have hb:=HBR.out _ h2;omega))) rfl))
 ·exact stq (fun E=>Av rfl rfl (E.d 2) (Ak _ _ _ _ _ _) (Be _ _ Try.underlying3) (congrArg (Value.int .i64) (IntWalk.i64_in _ HSA.out)))
 ·refine Ag rfl rfl rfl fun _ _ _ _ _ _ hm0 hout _ _ hub _=>?_
  refine Aq rfl (Ab rfl) (Ap rfl Try.underlying36 rfl (off:=0) (cs:=(cm0 a b h bs).cells) (by rw [Cm.len HO0.out.2.1];exact Bd) ((hout 9 (by decide)).trans oe9) (Cs.whole (Hx5.out.mod hm0 (by intro h2;have hu:=hub 2 8 rfl (by kernel_rfl);rcases h2 with ⟨h0,kk,hk,h2⟩|h2<;>first|omega|(rcases h2 with ⟨hkk,h2⟩|⟨hkk,h2⟩<;>first|omega|(have hb:=HBR.out _ h2;omega)))))) QE.refl ?_
  rfl
 ·exact Au rfl
 ·exact Au rfl
 ·exact stq (fun E=>Ai rfl Try.underlying36 rfl (by kernel_rfl) (E.v oe9))
 ·exact Au rfl
 intro u2_0 hr
 have zu2_0:=hr.size
 clear Hx2
 have Cx6:=hid (hr.new (S:=(fun k=>(R k)∨(k=qx))))
 have Hx7:=hid ((Hx1.out.mod Cx4.out (fun _ _ h=>h)).mod hr (by intro k h1 h2;have hb:=HBR.out k h1;omega))
 clear Hx1
 have Hx8:=hid (Hx5.out.mod hr (by intro h2;omega))
 clear Hx5
 clear hr
 refine QChain.go fun Z act E=>?_
 refine Ax (args:=#[(cm0 a b h bs).val]) rfl (Ab rfl) rfl Try.func57 (Ca (E.d 4)) (RefTextQ (fun _=>False) _ (cm0 a b h bs) _ ⟨rfl,HO0.out⟩ (fun _ h=>h.elim) HTL.out) ?_
 rintro e u2_1a ⟨v_a1,rfl,qa1,hm⟩
 obtain ⟨ao_a1,cap_a1,rfl⟩:=qa1.shape
 have zu2_1a:=hm.size
 refine ⟨_,rfl,hm.mono (fun _ _ h=>h.elim),(fun _=>rfl),?_⟩
 intro u2_1 hr
 have zu2_1:=hr.size
 have Hx9:=hid ((qa1.widen (R':=(fun k=>(New u2_0 u2_1a k))) (fun _ h=>h) (Nat.le_refl _)).mod hr (by intro k h1 h2;omega))
 have hmr:=Mod.after hm hr
 have Hx10:=hid (Hx7.out.mod hmr (by intro k h1 h2;have hb:=HBR.out k h1;omega))
 have Hx11:=hid (Hx8.out.mod hmr (by intro h2;omega))
 clear Hx7 Hx8
 clear hmr
 have Cx12:=hid (Cx6.out.go hm hr)
 clear Cx6 hm hr Z act E qa1
 refine QChain.go fun Z act E=>?_
 refine Ax (args:=#[.pointer (some ⟨g,0,none⟩),.int .i64 (1000+a),.slice ao_a1 ((txQ (cm0 a b h bs)).length) cap_a1]) rfl (Ab rfl) rfl Try.func56 (args3 (E.d 0) (E.d 3) (chv (v:=.slice ao_a1 ((txQ (cm0 a b h bs)).length) cap_a1) (E.d 5))) (RSign_Q (bs:=txQ (cm0 a b h bs)) Hx10.out (1000+a) Hx9.out.rd (by rw [txQ_T];exact HKY.out) (by intro k h1;have hb:=HBR.out k h1;omega) (by intro k h1;omega) (by intro k h1 h2;have hb:=HBR.out k h2;omega) HLL.out) ?_
 rintro e u2_2a ⟨rfl,qbk,hm⟩
 have zu2_2a:=hm.size
 refine ⟨_,rfl,hm.mono (by intro k hk h;first|omega|exact Or.inl ⟨(by have hb:=HBR.out k h;omega),Or.inl ⟨rfl,h⟩⟩),(fun _=>rfl),?_⟩
 intro u2_2 hr
 have zu2_2:=hr.size
 have Hx13:=hid ((qbk.widen (R':=(fun k=>(R k)∨(New u2_1 u2_2a k))) (fun _ h=>h)).mod hr (by intro k h1 h2;rcases h1 with h1|h1<;>first|omega|(have hb:=HBR.out k h1;omega)))
 have hmr:=hm.two hr
 have Hx14:=hid (Hx11.out.mod hmr (by intro h2;rcases h2 with h2|h2<;>first|omega|(have hb:=HBR.out _ h2;omega)))
 have Hx15:=hid (Hx9.out.mod hmr (by intro k h1 h2;rcases h2 with h2|h2<;>first|omega|(have hb:=HBR.out k h2;omega)))
 clear Hx11 Hx9
 clear hmr
 have Cx16:=hid (Cx12.out.goM hm hr (by intro k h0 h2;first|omega|exact Or.inl h2|exact Or.inr (h2)))
 clear Cx12 hm hr Z act E qbk Hx10
 clear Hx15
 refine QChain.go fun Z act E=>?_
 refine Bc rfl (Ab rfl) rfl Hx14.out (off:=35) (vs:=[.int .i64 (1000+a),.int .i64 (((mkN (B7 L (1000+a,txQ (cm0 a b h bs))) (1000+a,txQ (cm0 a b h bs))):Nat):Int)]) (by kernel_rfl) (by intro u hu;simp only [List.mem_cons,List.not_mem_nil,or_false] at hu;rcases hu with rfl|rfl<;>rfl) (by rw [List.size_toArray,Cm.len (Bu _)];show 35+2≤37;decide) (E.d 7) (ec (E.d 6)) ?_
 intro u2_3a qc0 hm
 have qqx:=qc0.eqv (b:=((mkCm L a b h bs).cells:List Value).toArray) (by rw [txQ_T];exact lay_sig (cm0 a b h bs) _ _ (Bu _))
 clear qc0
 have zu2_3a:=hm.size
 refine ⟨hm.mono (by intro k hk h;omega),(fun _=>rfl),?_⟩
 intro u2_3 hr
 have zu2_3:=hr.size
 have Hx17:=hid (qqx.mod hr (by intro h2;omega))
 have hmr:=hm.two hr
 have Hx18:=hid (Hx13.out.mod hmr (by intro k h1 h2;rcases h1 with h1|h1<;>first|omega|(have hb:=HBR.out k h1;omega)))
 clear Hx13
 clear hmr
 have Cx19:=hid (Cx16.out.goM hm hr (by intro k h0 h2;first|omega|exact Or.inl h2|exact Or.inr (h2)))
 clear Cx16 hm hr Z act E qqx Hx14
 refine QChain.nil fun vs hl hzz hrows hne=>?_
 obtain ⟨Z,hYZ,hZb,hV⟩:=hzz
 have f0:=fvi hV hl 0
 have f5:=fvc hV hl 5
 have f6:=fvi hV hl 6
 rw [show vs=[gw vs 0,gw vs 1,gw vs 2,gw vs 3,gw vs 4,gw vs 5,gw vs 6,gw vs 7,gw vs 8] from (Bh hl).trans rfl]
 have ha0:=HA0.out
 subst ha0
 clear HA0 hV hYZ hZb hsz0 hrows hne oe0 oe5 oe9
 simp only [Ar,Act.put,sIB,sCZ,sCS,List.set_nil,f0,f5,f6]
 clear hl f0 f5 f6
 go_upto_region 3 with (fail)
 refine Al 27 [26,28] [0,1] (fun a0 HA0=>?_)
 have oe8:=ev HA0 8 rfl
 have oe9:=ev HA0 9 rfl
 refine QSeq.pure rfl _ (fun E=>Ap rfl Try.underlying36 rfl (off:=0) (cs:=(mkCm L a b h bs).cells) (by rw [Cm.len HO1.out.2.1];exact Bd) (E.v oe9) (Cs.whole Hx17.out)) ?_
 refine QSeq.go fun act E=>?_
 refine Bc rfl (Ab rfl) rfl ((HB8.out.mod Cx4.out (fun h=>h)).mod Cx19.out (by intro h2;rcases h2 with h2|h2<;>first|omega|(have hb:=HBR.out _ h2;omega))) (off:=0) (vs:=(mkCm L a b h bs).cells) (by rw [Cm.len HO1.out.2.1];exact Bd) (Cm.one _) (by rw [Cm.len (Bu _)];decide) (E.v oe8) (ec (E.d 0 0)) ?_
 intro u3_1 qc0 hm
 have qB8:=qc0.eqv (b:=((mkCm L a b h bs).cells:List Value).toArray) (A0 _ _ (by rw [Cm.len (Bu _)];rfl))
 clear qc0
 have Hx20:=hid qB8
 have zu3_1:=hm.size
 have Cx21:=hid (show Mod (fun k=>(k=w.heap.size+2)) u2_3 u3_1 from hm)
 clear hm
 clear act E qB8 HB8
 refine QSeq.nil (t':=[_,_]) rfl ?_
 obtain rfl:=HA0.out
 clear HA0 oe8 oe9
 simp only [pz,Act.put,sIB,sCZ,sCS,List.set_nil]
 go_wp2
 have hq:=(Hx18.out.mod Cx21.out (by intro k h1 h2;rcases h1 with h1|h1<;>first|omega|(have hb:=HBR.out k h1;omega)))
 rw [txQ_T] at hq
 refine bodyPost_ret (Br rfl _ _ (w.heap.size+2) ((mkCm L a b h bs).cells) rfl (fun k u hu=>by rw [Hx20.out.cell];simpa using hu) Try.underlying36 rfl (by rw [Cm.len HO1.out.2.1];exact Bd)) rfl ⟨rfl,RbO.widen hq ?_,(((HM0.out.trans Cx4.out (fun _ _ h=>h.elim)).trans Cx19.out (by intro k h1 h2;rcases h2 with h2|h2<;>first|exact h2|omega|(have hb:=HBR.out k h2;omega))).trans Cx21.out (by intro k h1 h2;first|exact h2|omega))⟩
 intro k h1
 (try dsimp only at h1)
 rcases h1 with h1|h1<;>first|exact Or.inl h1|(right;unfold New;omega)|(right;unfold New at h1 ⊢; omega)
set_option maxHeartbeats 4000000 in
theorem RRightC_Q {R:Nat→Prop} {w:World} {g:Nat} {L:List (Int × List Int)} {d:Bool} (hbk:RbO R w g L) (hB:∀ k,R k→k < w.heap.size) (hap:Apart_ L) (hLL:L.length≤100000) (f k:Int) (c:Cm) (hc:c.OK) (hsi:I64 (1000+c.cl)) (hd:Bo L k c=d) :
 Calls Try.prog 58 #[.agg #[.int .i64 f,.int .i64 k],.pointer (some ⟨g,0,none⟩),.agg c.cells.toArray] w fun e w'=>e=.returned (.bool d)∧Mod (fun _=>False) w w':=by
 subst hd
 have HBR:=Lib.hid hB
 have HBK:=Lib.hid hbk
 have HC:=Lib.hid hc
 have HSI:=Lib.hid hsi
 have HAP:=Lib.hid hap
 have HLL:=Lib.hid hLL
 have HTL:=hid (show (txQ c).length≤900000 by rw [txQ_T];exact Nat.le_trans (txT_len hc) (by decide))
 have HKY:=hid (show SgK (c.sb,txT c) from ⟨hc.1.2.2.2.1,txT_bytes hc,Nat.le_trans (txT_len hc) (by decide)⟩)
 clear hB hbk hc hsi hap hLL
 change Calls _ _ #[.agg #[.int .i64 f,.int .i64 k],.pointer (some ⟨g,0,none⟩),c.val] _ _
 go_enter Try.func58,Try.ntmps58
 go_upto_region 1 with (fail)
 obtain ⟨w1,hw1⟩:∃ zz,zz=((w.alloc (.cells #[.int .i64 f,.int .i64 k] 26)).alloc (.cells (c.cells:List Value).toArray 36)):=⟨_,rfl⟩
 change Code.wp _ _ _ _ ((w.alloc (.cells #[.int .i64 f,.int .i64 k] 26)).alloc (.cells (c.cells:List Value).toArray 36))
 rw [← hw1]
 have HB3:=hid (show Cs w1 (w.heap.size) #[.int .i64 f,.int .i64 k] 26 by rw [hw1];exact (Cs.new _ _ _).alloc _)
 have HB5:=hid (show Cs w1 (w.heap.size+1) (c.cells:List Value).toArray 36 by rw [hw1];exact Cs_newN _ _ _ (by simp))
 have hm:Mod (fun _=>False) w w1:=by rw [hw1];exact ((Mod.refl _ _).alloc _).alloc _
 have HM0:=hid (show Mod (fun _=>False) w w1 from hm.mono (fun _ _ h=>h.elim))
 have hs1:w1.heap.size=w.heap.size+2:=by rw [hw1];simp
 have Hx1:=hid (HBK.out.mod hm (fun _ _ h=>h))
 clear HBK
 clear hw1 hm
 go_upto_region 1 with (fail)
 cases hv:validF k c with
 | false=>
  have HVF:=Lib.hid hv
  clear hv
  generalize ha0:Act.mk _ _=a0
  have oe3:a0.eval (.tmp 3)=.pointer (some ⟨w.heap.size,0,none⟩):=by rw [← ha0];rfl
  have oe5:a0.eval (.tmp 5)=.pointer (some ⟨w.heap.size+1,0,none⟩):=by rw [← ha0];rfl
  have hsz0:a0.tmps.size=28:=by rw [← ha0];rfl
  have HA0:=hid ha0
  clear ha0
  refine Az 28 hsz0 [7,8,9,10,11,12,13,14,15,16,17,18,19,20,21,22,23,24,25,26,27,6] [qi (.agg #[.int .i64 f,.int .i64 k]),qi (c.val),qi (.bool false),qi (.bool false),qi undef,qi undef,qi undef,qi undef,qi undef,qi undef,qi undef,qi undef,qi (.bool false),qi (.bool false),qi undef,qi undef,qi undef,qi undef,qi undef,qi undef,qi (.bool false),qi (.bool false)] ⟨Aa,Aa,Aa,Aa,Aa,Aa,Aa,Aa,Aa,Aa,Aa,Aa,Aa,Aa,Aa,Aa,Aa,Aa,Aa,Aa,Aa,Aa,trivial⟩ [2] ⟨?_,?_,?_,?_,?_,?_,?_,?_,?_,?_,?_,?_,?_,?_,?_,?_,?_,?_,?_,?_,?_,?_,trivial⟩ ?_
  ·exact stq (fun E=>Ap rfl Try.underlying26 rfl (off:=0) (cs:=[.int .i64 f,.int .i64 k]) (by kernel_rfl) (E.v oe3) (Cs.whole (HB3.out.mod E.m.old (by intro h2;omega))))
  ·exact stq (fun E=>Ap rfl Try.underlying36 rfl (off:=0) (cs:=c.cells) (by rw [Cm.len HC.out.2.1];exact Bd) (E.v oe5) (Cs.whole (HB5.out.mod E.m.old (by intro h2;omega))))
  ·exact Au rfl
  ·exact stq (fun E=>Ah rfl (E.d 2))
  ·refine Ag rfl rfl rfl fun _ _ _ _ _ _ _ _ hsz hd _ _=>?_
   have h3:=hd ⟨3,.guard⟩ (by simp) rfl _ rfl
   exact Aw rfl ((Ad rfl rfl (hsz 10 (by decide)) h3).trans rfl) rfl
  ·refine Ag rfl rfl rfl fun _ _ _ _ _ _ _ _ hsz hd _ _=>?_
   have h3:=hd ⟨3,.guard⟩ (by simp) rfl _ rfl
   exact Aw rfl ((Ad rfl rfl (hsz 10 (by decide)) h3).trans rfl) rfl
  ·refine Ag rfl rfl rfl fun _ _ _ _ _ _ _ _ hsz hd _ _=>?_
   have h3:=hd ⟨3,.guard⟩ (by simp) rfl _ rfl
   exact Aw rfl ((Ad rfl rfl (hsz 10 (by decide)) h3).trans rfl) rfl
  ·refine Ag rfl rfl rfl fun _ _ _ _ _ _ _ _ hsz hd _ _=>?_
   have h3:=hd ⟨3,.guard⟩ (by simp) rfl _ rfl
   exact Aw rfl ((Ad rfl rfl (hsz 10 (by decide)) h3).trans rfl) rfl
  ·refine Ag rfl rfl rfl fun _ _ _ _ _ _ _ _ hsz hd _ _=>?_
   have h3:=hd ⟨3,.guard⟩ (by simp) rfl _ rfl
   exact Aw rfl ((Ad rfl rfl (hsz 10 (by decide)) h3).trans rfl) rfl
  ·refine Ag rfl rfl rfl fun _ _ _ _ _ _ _ _ hsz hd _ _=>?_
   have h3:=hd ⟨3,.guard⟩ (by simp) rfl _ rfl
   exact Aw rfl ((Ad rfl rfl (hsz 10 (by decide)) h3).trans rfl) rfl
  ·refine Ag rfl rfl rfl fun _ _ _ _ _ _ _ _ hsz hd _ _=>?_
   have h3:=hd ⟨3,.guard⟩ (by simp) rfl _ rfl
   exact Aw rfl ((Ad rfl rfl (hsz 10 (by decide)) h3).trans rfl) rfl
  ·refine Ag rfl rfl rfl fun _ _ _ _ _ _ _ _ hsz hd _ _=>?_
   have h3:=hd ⟨3,.guard⟩ (by simp) rfl _ rfl
   exact Aw rfl ((Ad rfl rfl (hsz 10 (by decide)) h3).trans rfl) rfl
  ·exact stq (fun E=>A5 rfl (E.d 3) (E.d 11) rfl)
  ·exact stq (fun E=>Ah rfl (E.d 12))
  ·refine Ag rfl rfl rfl fun _ _ _ _ _ _ _ _ hsz hd _ _=>?_
   have h13:=hd ⟨13,.guard⟩ (by simp) rfl _ rfl
   exact Aw rfl ((Ad rfl rfl (hsz 20 (by decide)) h13).trans rfl) rfl
  ·refine Ag rfl rfl rfl fun _ _ _ _ _ _ _ _ hsz hd _ _=>?_
   have h13:=hd ⟨13,.guard⟩ (by simp) rfl _ rfl
   exact Aw rfl ((Ad rfl rfl (hsz 20 (by decide)) h13).trans rfl) rfl
  ·refine Ag rfl rfl rfl fun _ _ _ _ _ _ _ _ hsz hd _ _=>?_
   have h13:=hd ⟨13,.guard⟩ (by simp) rfl _ rfl
   exact Aw rfl ((Ad rfl rfl (hsz 20 (by decide)) h13).trans rfl) rfl
  ·refine Ag rfl rfl rfl fun _ _ _ _ _ _ _ _ hsz hd _ _=>?_
   have h13:=hd ⟨13,.guard⟩ (by simp) rfl _ rfl
   exact Aw rfl ((Ad rfl rfl (hsz 20 (by decide)) h13).trans rfl) rfl
  ·refine Ag rfl rfl rfl fun _ _ _ _ _ _ _ _ hsz hd _ _=>?_
   have h13:=hd ⟨13,.chain⟩ (by simp) rfl _ rfl
   exact Aw rfl ((Ad rfl rfl (hsz 20 (by decide)) h13).trans rfl) rfl
  ·refine Ag rfl rfl rfl fun _ _ _ _ _ _ _ _ hsz hd _ _=>?_
   have h13:=hd ⟨13,.guard⟩ (by simp) rfl _ rfl
   exact Aw rfl ((Ad rfl rfl (hsz 20 (by decide)) h13).trans rfl) rfl
  ·exact stq (fun E=>A5 rfl (E.d 13) (E.d 19) rfl)
  ·exact stq (fun E=>An rfl (E.d 20))
  intro u1_0 hr
  have zu1_0:=hr.size
  have Cx2:=hid (hr.new (S:=(fun _=>False)))
  clear hr
  refine QChain.go fun Z act E=>?_
  refine Ax (args:=#[.agg #[.int .i64 f,.int .i64 k],c.val]) rfl (Ab rfl) rfl Try.func67 (args2 (E.d 0) (E.d 1)) (HVF.out▸RefValid_any f k c HC.out _) ?_
  rintro e u1_1a ⟨rfl,hm⟩
  have zu1_1a:=hm.size
  refine ⟨_,rfl,hm.mono (fun _ _ h=>h.elim),(fun _=>rfl),?_⟩
  intro u1_1 hr
  have zu1_1:=hr.size
  have Cx3:=hid (Cx2.out.go hm hr)
  clear Cx2 hm hr Z act E
  refine QChain.nil fun vs hl hzz hrows hne=>?_
  obtain ⟨Z,hYZ,hZb,hV⟩:=hzz
  have f2:=fvi hV hl 2
  have f3:=fvi hV hl 3
  have f13:=fvi hV hl 13
  have f14:=fvi hV hl 14
  have f18:=fvi hV hl 18
  have f19:=fvi hV hl 19
  have f21:=fvi hV hl 21
  rw [show vs=[gw vs 0,gw vs 1,gw vs 2,gw vs 3,gw vs 4,gw vs 5,gw vs 6,gw vs 7,gw vs 8,gw vs 9,gw vs 10,gw vs 11,gw vs 12,gw vs 13,gw vs 14,gw vs 15,gw vs 16,gw vs 17,gw vs 18,gw vs 19,gw vs 20,gw vs 21] from (Bh hl).trans rfl]
  have ha0:=HA0.out
  subst ha0
  clear HA0 hV hYZ hZb hsz0 hrows hne oe3 oe5
  simp only [Ar,Act.put,sIB,sCZ,sCS,f2,f3,f13,f14,f18,f19,f21]
  clear hl f2 f3 f13 f14 f18 f19 f21
  go_wp2
  go_ret
  exact ⟨congrArg (fun z=>Ending.returned (Value.bool z)) (show false=Bo L k c by unfold Bo;rw [HVF.out];rfl),(HM0.out.trans Cx3.out (fun _ _ h=>h.elim))⟩
 | true=>
  by_cases he:c.sb=1000+c.cl
  ·skip
   have HVF:=Lib.hid hv
   clear hv
   generalize ha0:Act.mk _ _=a0
   have oe1:a0.eval (.tmp 1)=.pointer (some ⟨g,0,none⟩):=by rw [← ha0];rfl
   have oe3:a0.eval (.tmp 3)=.pointer (some ⟨w.heap.size,0,none⟩):=by rw [← ha0];rfl
   have oe5:a0.eval (.tmp 5)=.pointer (some ⟨w.heap.size+1,0,none⟩):=by rw [← ha0];rfl
   have hsz0:a0.tmps.size=28:=by rw [← ha0];rfl
   have HA0:=hid ha0
   clear ha0
   refine Az 28 hsz0 [7,8,9,10,11,12,13,14,15,16,17,18,19,20,21,22,23,24,25,26,27,6] [qi (.agg #[.int .i64 f,.int .i64 k]),qi (c.val),qi (.bool true),qi (.bool true),qi (.pointer (some ⟨w.heap.size+1,35,none⟩)),qi (.pointer (some ⟨w.heap.size+1,35,none⟩)),qi (.int .i64 c.sb),qi (.pointer (some ⟨w.heap.size+1,0,none⟩)),qi (.pointer (some ⟨w.heap.size+1,0,none⟩)),qi (.int .i64 c.cl),qi (.int .i64 (1000+c.cl)),qi (.bool true),qi (.bool true),qi (.bool true),qi (.pointer (some ⟨g,0,none⟩)),qi (.pointer (some ⟨w.heap.size+1,35,none⟩)),qi (.agg #[.int .i64 c.sb,.int .i64 c.mr]),qi (c.val),qv 1,qi (.bool (rightF L (c.sb,txT c) c.mr)),qi (.bool (rightF L (c.sb,txT c) c.mr)),qi (.bool (rightF L (c.sb,txT c) c.mr))] ⟨Aa,Aa,Aa,Aa,Aa,Aa,Aa,Aa,Aa,Aa,Aa,Aa,Aa,Aa,Aa,Aa,Aa,Aa,Ay,Aa,Aa,Aa,trivial⟩ [2,18,19] ⟨?_,?_,?_,?_,?_,?_,?_,?_,?_,?_,?_,?_,?_,?_,?_,?_,?_,?_,?_,?_,?_,?_,trivial⟩ ?_
   ·exact stq (fun E=>Ap rfl Try.underlying26 rfl (off:=0) (cs:=[.int .i64 f,.int .i64 k]) (by kernel_rfl) (E.v oe3) (Cs.whole (HB3.out.mod E.m.old (by intro h2;omega))))
   ·exact stq (fun E=>Ap rfl Try.underlying36 rfl (off:=0) (cs:=c.cells) (by rw [Cm.len HC.out.2.1];exact Bd) (E.v oe5) (Cs.whole (HB5.out.mod E.m.old (by intro h2;omega))))
   ·exact Au rfl
   ·exact stq (fun E=>Ah rfl (E.d 2))
   ·refine Ag rfl rfl rfl fun _ _ _ _ _ _ _ hout hsz hd _ _=>?_
    have h3:=hd ⟨3,.guard⟩ (by simp) rfl _ rfl
    refine Aq rfl ((Ad rfl rfl (hsz 10 (by decide)) h3).trans rfl) (Ai rfl Try.underlying36 rfl (by kernel_rfl) ((hout 5 (by decide)).trans oe5)) QE.refl ?_
    rfl
   ·refine Ag rfl rfl rfl fun _ _ _ _ _ _ _ _ hsz hd _ _=>?_
    have h3:=hd ⟨3,.guard⟩ (by simp) rfl _ rfl
    have h4:=hd ⟨4,.data⟩ (by simp) rfl _ rfl
    refine Aq rfl ((Ad rfl rfl (hsz 10 (by decide)) h3).trans rfl) (Ai rfl Try.underlying34 rfl (by kernel_rfl) h4) QE.refl ?_
    rfl
   ·refine Ag rfl rfl rfl fun _ _ _ _ _ hm _ _ hsz hd _ _=>?_
    have h3:=hd ⟨3,.guard⟩ (by simp) rfl _ rfl
    have h5:=hd ⟨5,.data⟩ (by simp) rfl _ rfl
    refine Aq rfl ((Ad rfl rfl (hsz 10 (by decide)) h3).trans rfl) (Am rfl Try.underlying3 rfl h5 ((HB5.out.mod hm.old (by intro h2;omega)).c35 HC.out.2.1)) QE.refl ?_
    rfl
   ·refine Ag rfl rfl rfl fun _ _ _ _ _ _ _ hout hsz hd _ _=>?_
    have h3:=hd ⟨3,.guard⟩ (by simp) rfl _ rfl
    refine Aq rfl ((Ad rfl rfl (hsz 10 (by decide)) h3).trans rfl) (Ai rfl Try.underlying36 rfl (by kernel_rfl) ((hout 5 (by decide)).trans oe5)) QE.refl ?_
    rfl
   ·refine Ag rfl rfl rfl fun _ _ _ _ _ _ _ _ hsz hd _ _=>?_
    have h3:=hd ⟨3,.guard⟩ (by simp) rfl _ rfl
    have h7:=hd ⟨7,.data⟩ (by simp) rfl _ rfl
    refine Aq rfl ((Ad rfl rfl (hsz 10 (by decide)) h3).trans rfl) (Ai rfl Try.underlying30 rfl (by kernel_rfl) h7) QE.refl ?_
    rfl
   ·refine Ag rfl rfl rfl fun _ _ _ _ _ hm _ _ hsz hd _ _=>?_
    have h3:=hd ⟨3,.guard⟩ (by simp) rfl _ rfl
    have h8:=hd ⟨8,.data⟩ (by simp) rfl _ rfl
    refine Aq rfl ((Ad rfl rfl (hsz 10 (by decide)) h3).trans rfl) (Am rfl Try.underlying3 rfl h8 ((HB5.out.mod hm.old (by intro h2;omega)).c0)) QE.refl ?_
    rfl
   ·refine Ag rfl rfl rfl fun _ _ _ _ _ _ _ _ hsz hd _ _=>?_
    have h3:=hd ⟨3,.guard⟩ (by simp) rfl _ rfl
    have h9:=hd ⟨9,.data⟩ (by simp) rfl _ rfl
    refine Aq rfl ((Ad rfl rfl (hsz 10 (by decide)) h3).trans rfl) (Av rfl rfl h9 (Ak _ _ _ _ _ _) (Be _ _ Try.underlying3) (congrArg (Value.int .i64) (IntWalk.i64_in _ HSI.out))) QE.refl ?_
    rfl
   ·refine Ag rfl rfl rfl fun _ _ _ _ _ _ _ _ hsz hd _ _=>?_
    have h3:=hd ⟨3,.guard⟩ (by simp) rfl _ rfl
    have h6:=hd ⟨6,.data⟩ (by simp) rfl _ rfl
    have h10:=hd ⟨10,.data⟩ (by simp) rfl _ rfl
    refine Aq rfl ((Ad rfl rfl (hsz 10 (by decide)) h3).trans rfl) (Av rfl h6 h10 (Ak _ _ _ _ _ _) (Bg _ _ _ Try.underlying3) (congrArg Value.bool (beq_iff_eq.2 he))) QE.refl ?_
    rfl
   ·exact stq (fun E=>A5 rfl (E.d 3) (E.d 11) rfl)
   ·exact stq (fun E=>Ah rfl (E.d 12))
   ·refine Ag rfl rfl rfl fun _ _ _ _ _ _ _ hout hsz hd _ _=>?_
    have h13:=hd ⟨13,.guard⟩ (by simp) rfl _ rfl
    refine Aq rfl ((Ad rfl rfl (hsz 20 (by decide)) h13).trans rfl) (Ah rfl ((hout 1 (by decide)).trans oe1)) QE.refl ?_
    rfl
   ·refine Ag rfl rfl rfl fun _ _ _ _ _ _ _ hout hsz hd _ _=>?_
    have h13:=hd ⟨13,.guard⟩ (by simp) rfl _ rfl
    refine Aq rfl ((Ad rfl rfl (hsz 20 (by decide)) h13).trans rfl) (Ai rfl Try.underlying36 rfl (by kernel_rfl) ((hout 5 (by decide)).trans oe5)) QE.refl ?_
    rfl
   ·refine Ag rfl rfl rfl fun _ _ _ _ _ hm _ _ hsz hd _ _=>?_
    have h13:=hd ⟨13,.guard⟩ (by simp) rfl _ rfl
    have h15:=hd ⟨15,.data⟩ (by simp) rfl _ rfl
    refine Aq rfl ((Ad rfl rfl (hsz 20 (by decide)) h13).trans rfl) (Ap rfl Try.underlying34 rfl (off:=35) (cs:=[.int .i64 c.sb,.int .i64 c.mr]) (by kernel_rfl) h15 ((HB5.out.mod hm.old (by intro h2;omega)).sig HC.out.2.1)) QE.refl ?_
    rfl
   ·refine Ag rfl rfl rfl fun _ _ _ _ _ hm _ hout hsz hd _ _=>?_
    have h13:=hd ⟨13,.guard⟩ (by simp) rfl _ rfl
    refine Aq rfl ((Ad rfl rfl (hsz 20 (by decide)) h13).trans rfl) (Ap rfl Try.underlying36 rfl (off:=0) (cs:=c.cells) (by rw [Cm.len HC.out.2.1];exact Bd) ((hout 5 (by decide)).trans oe5) (Cs.whole (HB5.out.mod hm.old (by intro h2;omega)))) QE.refl ?_
    rfl
   ·exact Au rfl
   ·exact Au rfl
   ·exact stq (fun E=>A5 rfl (E.d 13) (E.d 19) rfl)
   ·exact stq (fun E=>An rfl (E.d 20))
   intro u1_0 hr
   have zu1_0:=hr.size
   have Cx2:=hid (hr.new (S:=(fun _=>False)))
   clear hr
   refine QChain.go fun Z act E=>?_
   refine Ax (args:=#[.agg #[.int .i64 f,.int .i64 k],c.val]) rfl (Ab rfl) rfl Try.func67 (args2 (E.d 0) (E.d 1)) (HVF.out▸RefValid_any f k c HC.out _) ?_
   rintro e u1_1a ⟨rfl,hm⟩
   have zu1_1a:=hm.size
   refine ⟨_,rfl,hm.mono (fun _ _ h=>h.elim),(fun _=>rfl),?_⟩
   intro u1_1 hr
   have zu1_1:=hr.size
   have Cx3:=hid (Cx2.out.go hm hr)
   clear Cx2 hm hr Z act E
   refine QChain.go fun Z act E=>?_
   refine Ax (args:=#[c.val]) rfl ((Ad rfl rfl (E.sz 20 (by decide)) (E.e 13 .chain)).trans rfl) rfl Try.func57 (Ca (E.d 17)) (RefTextQ (fun _=>False) _ c _ ⟨rfl,HC.out⟩ (fun _ h=>h.elim) HTL.out) ?_
   rintro e u1_2a ⟨v_a1,rfl,qa1,hm⟩
   obtain ⟨ao_a1,cap_a1,rfl⟩:=qa1.shape
   have zu1_2a:=hm.size
   refine ⟨_,rfl,hm.mono (fun _ _ h=>h.elim),(fun _=>rfl),?_⟩
   intro u1_2 hr
   have zu1_2:=hr.size
   have Hx4:=hid ((qa1.widen (R':=(fun k=>(New u1_1 u1_2a k))) (fun _ h=>h) (Nat.le_refl _)).mod hr (by intro k h1 h2;omega))
   have Cx5:=hid (Cx3.out.go hm hr)
   clear Cx3 hm hr Z act E qa1
   refine QChain.go fun Z act E=>?_
   refine Ax (args:=#[.pointer (some ⟨g,0,none⟩),.agg #[.int .i64 c.sb,.int .i64 c.mr],.slice ao_a1 ((txQ c).length) cap_a1]) rfl ((Ad rfl rfl (E.sz 20 (by decide)) (E.e 13 .guard)).trans rfl) rfl Try.func68 (args3 (E.d 14) (E.d 16) (chv (v:=.slice ao_a1 ((txQ c).length) cap_a1) (E.d 18))) (RRight_Q (Hx1.out.mod Cx5.out (fun _ _ h=>h)) HAP.out c.sb c.mr HC.out.1.2.2.2.2 (RdR_eq Hx4.out.rd (txQ_T c)) HKY.out (by intro k h1;have hb:=HBR.out k h1;omega) (by intro k h1;omega) HLL.out) ?_
   rintro e u1_3a ⟨rfl,hm⟩
   have zu1_3a:=hm.size
   refine ⟨_,rfl,hm.mono (fun _ _ h=>h.elim),(fun _=>rfl),?_⟩
   intro u1_3 hr
   have zu1_3:=hr.size
   have hmr:=Mod.after hm hr
   have Hx6:=hid (Hx4.out.mod hmr (by intro k h1 h2;omega))
   clear Hx4
   clear hmr
   have Cx7:=hid (Cx5.out.go hm hr)
   clear Cx5 hm hr Z act E
   refine QChain.nil fun vs hl hzz hrows hne=>?_
   obtain ⟨Z,hYZ,hZb,hV⟩:=hzz
   have f2:=fvi hV hl 2
   have f3:=fvi hV hl 3
   have f13:=fvi hV hl 13
   have f14:=fvi hV hl 14
   have f18:=fvc hV hl 18
   have f19:=fvi hV hl 19
   have f21:=fvi hV hl 21
   rw [show vs=[gw vs 0,gw vs 1,gw vs 2,gw vs 3,gw vs 4,gw vs 5,gw vs 6,gw vs 7,gw vs 8,gw vs 9,gw vs 10,gw vs 11,gw vs 12,gw vs 13,gw vs 14,gw vs 15,gw vs 16,gw vs 17,gw vs 18,gw vs 19,gw vs 20,gw vs 21] from (Bh hl).trans rfl]
   have ha0:=HA0.out
   subst ha0
   clear HA0 hV hYZ hZb hsz0 hrows hne oe1 oe3 oe5
   simp only [Ar,Act.put,sIB,sCZ,sCS,f2,f3,f13,f14,f18,f19,f21]
   clear hl f2 f3 f13 f14 f18 f19 f21
   go_wp2
   go_ret
   exact ⟨congrArg (fun z=>Ending.returned (Value.bool z)) (show rightF L (c.sb,txT c) c.mr=Bo L k c by unfold Bo;rw [HVF.out,beq_iff_eq.2 he];rfl),(HM0.out.trans Cx7.out (fun _ _ h=>h.elim))⟩
  ·skip
   have HVF:=Lib.hid hv
   clear hv
   generalize ha0:Act.mk _ _=a0
   have oe3:a0.eval (.tmp 3)=.pointer (some ⟨w.heap.size,0,none⟩):=by rw [← ha0];rfl
   have oe5:a0.eval (.tmp 5)=.pointer (some ⟨w.heap.size+1,0,none⟩):=by rw [← ha0];rfl
   have hsz0:a0.tmps.size=28:=by rw [← ha0];rfl
   have HA0:=hid ha0
   clear ha0
   refine Az 28 hsz0 [7,8,9,10,11,12,13,14,15,16,17,18,19,20,21,22,23,24,25,26,27,6] [qi (.agg #[.int .i64 f,.int .i64 k]),qi (c.val),qi (.bool true),qi (.bool true),qi (.pointer (some ⟨w.heap.size+1,35,none⟩)),qi (.pointer (some ⟨w.heap.size+1,35,none⟩)),qi (.int .i64 c.sb),qi (.pointer (some ⟨w.heap.size+1,0,none⟩)),qi (.pointer (some ⟨w.heap.size+1,0,none⟩)),qi (.int .i64 c.cl),qi (.int .i64 (1000+c.cl)),qi (.bool false),qi (.bool false),qi (.bool false),qi undef,qi undef,qi undef,qi undef,qi undef,qi undef,qi (.bool false),qi (.bool false)] ⟨Aa,Aa,Aa,Aa,Aa,Aa,Aa,Aa,Aa,Aa,Aa,Aa,Aa,Aa,Aa,Aa,Aa,Aa,Aa,Aa,Aa,Aa,trivial⟩ [2] ⟨?_,?_,?_,?_,?_,?_,?_,?_,?_,?_,?_,?_,?_,?_,?_,?_,?_,?_,?_,?_,?_,?_,trivial⟩ ?_
   ·exact stq (fun E=>Ap rfl Try.underlying26 rfl (off:=0) (cs:=[.int .i64 f,.int .i64 k]) (by kernel_rfl) (E.v oe3) (Cs.whole (HB3.out.mod E.m.old (by intro h2;omega))))
   ·exact stq (fun E=>Ap rfl Try.underlying36 rfl (off:=0) (cs:=c.cells) (by rw [Cm.len HC.out.2.1];exact Bd) (E.v oe5) (Cs.whole (HB5.out.mod E.m.old (by intro h2;omega))))
   ·exact Au rfl
   ·exact stq (fun E=>Ah rfl (E.d 2))
   ·refine Ag rfl rfl rfl fun _ _ _ _ _ _ _ hout hsz hd _ _=>?_
    have h3:=hd ⟨3,.guard⟩ (by simp) rfl _ rfl
    refine Aq rfl ((Ad rfl rfl (hsz 10 (by decide)) h3).trans rfl) (Ai rfl Try.underlying36 rfl (by kernel_rfl) ((hout 5 (by decide)).trans oe5)) QE.refl ?_
    rfl
   ·refine Ag rfl rfl rfl fun _ _ _ _ _ _ _ _ hsz hd _ _=>?_
    have h3:=hd ⟨3,.guard⟩ (by simp) rfl _ rfl
    have h4:=hd ⟨4,.data⟩ (by simp) rfl _ rfl
    refine Aq rfl ((Ad rfl rfl (hsz 10 (by decide)) h3).trans rfl) (Ai rfl Try.underlying34 rfl (by kernel_rfl) h4) QE.refl ?_
    rfl
   ·refine Ag rfl rfl rfl fun _ _ _ _ _ hm _ _ hsz hd _ _=>?_
    have h3:=hd ⟨3,.guard⟩ (by simp) rfl _ rfl
    have h5:=hd ⟨5,.data⟩ (by simp) rfl _ rfl
    refine Aq rfl ((Ad rfl rfl (hsz 10 (by decide)) h3).trans rfl) (Am rfl Try.underlying3 rfl h5 ((HB5.out.mod hm.old (by intro h2;omega)).c35 HC.out.2.1)) QE.refl ?_
    rfl
   ·refine Ag rfl rfl rfl fun _ _ _ _ _ _ _ hout hsz hd _ _=>?_
    have h3:=hd ⟨3,.guard⟩ (by simp) rfl _ rfl
    refine Aq rfl ((Ad rfl rfl (hsz 10 (by decide)) h3).trans rfl) (Ai rfl Try.underlying36 rfl (by kernel_rfl) ((hout 5 (by decide)).trans oe5)) QE.refl ?_
    rfl
   ·refine Ag rfl rfl rfl fun _ _ _ _ _ _ _ _ hsz hd _ _=>?_
    have h3:=hd ⟨3,.guard⟩ (by simp) rfl _ rfl
    have h7:=hd ⟨7,.data⟩ (by simp) rfl _ rfl
    refine Aq rfl ((Ad rfl rfl (hsz 10 (by decide)) h3).trans rfl) (Ai rfl Try.underlying30 rfl (by kernel_rfl) h7) QE.refl ?_
    rfl
   ·refine Ag rfl rfl rfl fun _ _ _ _ _ hm _ _ hsz hd _ _=>?_
    have h3:=hd ⟨3,.guard⟩ (by simp) rfl _ rfl
    have h8:=hd ⟨8,.data⟩ (by simp) rfl _ rfl
    refine Aq rfl ((Ad rfl rfl (hsz 10 (by decide)) h3).trans rfl) (Am rfl Try.underlying3 rfl h8 ((HB5.out.mod hm.old (by intro h2;omega)).c0)) QE.refl ?_
    rfl
   ·refine Ag rfl rfl rfl fun _ _ _ _ _ _ _ _ hsz hd _ _=>?_
    have h3:=hd ⟨3,.guard⟩ (by simp) rfl _ rfl
    have h9:=hd ⟨9,.data⟩ (by simp) rfl _ rfl
    refine Aq rfl ((Ad rfl rfl (hsz 10 (by decide)) h3).trans rfl) (Av rfl rfl h9 (Ak _ _ _ _ _ _) (Be _ _ Try.underlying3) (congrArg (Value.int .i64) (IntWalk.i64_in _ HSI.out))) QE.refl ?_
    rfl
   ·refine Ag rfl rfl rfl fun _ _ _ _ _ _ _ _ hsz hd _ _=>?_
    have h3:=hd ⟨3,.guard⟩ (by simp) rfl _ rfl
    have h6:=hd ⟨6,.data⟩ (by simp) rfl _ rfl
    have h10:=hd ⟨10,.data⟩ (by simp) rfl _ rfl
    refine Aq rfl ((Ad rfl rfl (hsz 10 (by decide)) h3).trans rfl) (Av rfl h6 h10 (Ak _ _ _ _ _ _) (Bg _ _ _ Try.underlying3) (congrArg Value.bool (beq_eq_false_iff_ne.2 he))) QE.refl ?_
    rfl
   ·exact stq (fun E=>A5 rfl (E.d 3) (E.d 11) rfl)
   ·exact stq (fun E=>Ah rfl (E.d 12))
   ·refine Ag rfl rfl rfl fun _ _ _ _ _ _ _ _ hsz hd _ _=>?_
    have h13:=hd ⟨13,.guard⟩ (by simp) rfl _ rfl
    exact Aw rfl ((Ad rfl rfl (hsz 20 (by decide)) h13).trans rfl) rfl
   ·refine Ag rfl rfl rfl fun _ _ _ _ _ _ _ _ hsz hd _ _=>?_
    have h13:=hd ⟨13,.guard⟩ (by simp) rfl _ rfl
    exact Aw rfl ((Ad rfl rfl (hsz 20 (by decide)) h13).trans rfl) rfl
   ·refine Ag rfl rfl rfl fun _ _ _ _ _ _ _ _ hsz hd _ _=>?_
    have h13:=hd ⟨13,.guard⟩ (by simp) rfl _ rfl
    exact Aw rfl ((Ad rfl rfl (hsz 20 (by decide)) h13).trans rfl) rfl
   ·refine Ag rfl rfl rfl fun _ _ _ _ _ _ _ _ hsz hd _ _=>?_
    have h13:=hd ⟨13,.guard⟩ (by simp) rfl _ rfl
    exact Aw rfl ((Ad rfl rfl (hsz 20 (by decide)) h13).trans rfl) rfl
   ·refine Ag rfl rfl rfl fun _ _ _ _ _ _ _ _ hsz hd _ _=>?_
    have h13:=hd ⟨13,.chain⟩ (by simp) rfl _ rfl
    exact Aw rfl ((Ad rfl rfl (hsz 20 (by decide)) h13).trans rfl) rfl
   ·refine Ag rfl rfl rfl fun _ _ _ _ _ _ _ _ hsz hd _ _=>?_
    have h13:=hd ⟨13,.guard⟩ (by simp) rfl _ rfl
    exact Aw rfl ((Ad rfl rfl (hsz 20 (by decide)) h13).trans rfl) rfl
   ·exact stq (fun E=>A5 rfl (E.d 13) (E.d 19) rfl)
   ·exact stq (fun E=>An rfl (E.d 20))
   intro u1_0 hr
   have zu1_0:=hr.size
   have Cx2:=hid (hr.new (S:=(fun _=>False)))
   clear hr
   refine QChain.go fun Z act E=>?_
   refine Ax (args:=#[.agg #[.int .i64 f,.int .i64 k],c.val]) rfl (Ab rfl) rfl Try.func67 (args2 (E.d 0) (E.d 1)) (HVF.out▸RefValid_any f k c HC.out _) ?_
   rintro e u1_1a ⟨rfl,hm⟩
   have zu1_1a:=hm.size
   refine ⟨_,rfl,hm.mono (fun _ _ h=>h.elim),(fun _=>rfl),?_⟩
   intro u1_1 hr
   have zu1_1:=hr.size
   have Cx3:=hid (Cx2.out.go hm hr)
   clear Cx2 hm hr Z act E
   refine QChain.nil fun vs hl hzz hrows hne=>?_
   obtain ⟨Z,hYZ,hZb,hV⟩:=hzz
   have f2:=fvi hV hl 2
   have f3:=fvi hV hl 3
   have f13:=fvi hV hl 13
   have f14:=fvi hV hl 14
   have f18:=fvi hV hl 18
   have f19:=fvi hV hl 19
   have f21:=fvi hV hl 21
   rw [show vs=[gw vs 0,gw vs 1,gw vs 2,gw vs 3,gw vs 4,gw vs 5,gw vs 6,gw vs 7,gw vs 8,gw vs 9,gw vs 10,gw vs 11,gw vs 12,gw vs 13,gw vs 14,gw vs 15,gw vs 16,gw vs 17,gw vs 18,gw vs 19,gw vs 20,gw vs 21] from (Bh hl).trans rfl]
   have ha0:=HA0.out
   subst ha0
   clear HA0 hV hYZ hZb hsz0 hrows hne oe3 oe5
   simp only [Ar,Act.put,sIB,sCZ,sCS,f2,f3,f13,f14,f18,f19,f21]
   clear hl f2 f3 f13 f14 f18 f19 f21
   go_wp2
   go_ret
   exact ⟨congrArg (fun z=>Ending.returned (Value.bool z)) (show false=Bo L k c by unfold Bo;rw [HVF.out,beq_eq_false_iff_ne.2 he];rfl),(HM0.out.trans Cx3.out (fun _ _ h=>h.elim))⟩
end Go.Proofs.Ytbifincepglilaa

/- The reference's bytes of certificates, promises, batches; its texts. -/
namespace Go.Proofs.Ytbifincepglilaa
open Go Go.RowKit Go.Gv
set_option maxHeartbeats 4000000 in
theorem RefStampT_Q:Makes StR 59 B8:=by
 intro R2 cs x w hx hB2 hl
 obtain ⟨rfl,hok⟩:=hx
 have HBT:=Lib.hid hB2
 have HOK:=Lib.hid hok
 have HL:=Lib.hid hl
 clear hB2 hl hok
 unfold B8 at HL
 go_enter Try.func59,Try.ntmps59
 go_upto_region 1 with (fail)
 obtain ⟨w1,hw1⟩:∃ zz,zz=(w.alloc (.cells (x.cells:List Value).toArray 47)):=⟨_,rfl⟩
 change Code.wp _ _ _ _ (w.alloc (.cells (x.cells:List Value).toArray 47))
 rw [← hw1]
 have HB1:=hid (show Cs w1 (w.heap.size) (x.cells:List Value).toArray 47 by rw [hw1];exact Cs.new _ _ _)
 have hm:Mod (fun _=>False) w w1:=by rw [hw1];exact (Mod.refl _ _).alloc _
 have HM0:=hid (show Mod (fun _=>False) w w1 from hm.mono (fun _ _ h=>h.elim))
 have hs1:w1.heap.size=w.heap.size+1:=by rw [hw1];simp
 clear hw1 hm
 go_upto_region 1 with (fail)
 generalize ha0:Act.mk _ _=a0
 have oe1:a0.eval (.tmp 1)=.pointer (some ⟨w.heap.size,0,none⟩):=by rw [← ha0];rfl
 have hsz0:a0.tmps.size=10:=by rw [← ha0];rfl
 have HA0:=hid ha0
 clear ha0
 refine Az 10 hsz0 [3,4,5,6,7,8,9,2] [ql w1.heap.size 5 ([115,116,97,109,112].map bv).toArray,ql w1.heap.size 5 ([115,116,97,109,112].map bv).toArray,qv 0,qi (.agg (x.cells).toArray),qv 1,qv 2,qv 3,qv 3] ⟨ql_stable,ql_stable,Ay,Aa,Ay,Ay,Ay,Ay,trivial⟩ [2,4,5,6] ⟨?_,?_,?_,?_,?_,?_,?_,?_,trivial⟩ ?_
 ·refine Ag rfl rfl rfl fun _ tr _ _ hZ hm _ _ _ _ _ _=>?_
  exact Aq rfl (Ab rfl) (ex_lit rfl Try.underlying38 (by kernel_rfl) (by decide) (C:=([115,116,97,109,112].map bv).toArray) (by simp only [List.map_toArray,List.map_cons,List.map_nil,Act.eval];kernel_rfl)) (QE.still ((Mod.refl _ _).alloc _)) (ql_new (t:=tr) (C:=([115,116,97,109,112].map bv).toArray) hm.size hZ)
 ·refine Ag rfl rfl rfl fun _ _ _ _ _ _ _ _ _ hd _ _=>?_
  have h0:=hd ⟨0,.data⟩ (by simp) rfl _ rfl
  exact qe_mark rfl (Ab rfl) rfl Try.underlying38 Try.underlying5 h0 (fun _ _ h=>h)
 ·exact Au rfl
 ·exact stq (fun E=>Ap rfl Try.underlying47 rfl (off:=0) (cs:=x.cells) (by rw [St.len HOK.out];kernel_rfl) (E.v oe1) (Cs.whole (HB1.out.mod E.m.old (by intro h2;omega))))
 ·exact Au rfl
 ·exact Au rfl
 ·exact Au rfl
 ·refine Ag rfl rfl rfl fun _ _ _ _ _ _ _ _ _ hd _ _=>?_
  have h6:=hd ⟨6,.data⟩ (by simp) rfl _ rfl
  exact Aq rfl (Ab rfl) (An rfl rfl) QE.refl h6
 intro u1_0 hr
 have zu1_0:=hr.size
 have Cx1:=hid (hr.new (S:=(fun _=>False)))
 clear hr
 refine QChain.go fun Z act E=>?_
 have hq2:ql w1.heap.size 5 ([115,116,97,109,112].map bv).toArray Z [] (act.eval (.tmp 4)) u1_0:=(E.d 1)
 obtain ⟨R3,hR3,hrd2⟩:=ql.rd (by unfold Bytes;decide) hq2 (by decide)
 refine Ax (args:=#[act.eval (.tmp 4)]) rfl (Ab rfl) rfl Try.func65 (Ca rfl) (RefRow_W wStamp rfl hrd2 (by have:=HL.out;simp only [List.length_append] at this ⊢; omega)) ?_
 rintro e u1_1a ⟨v_a1,rfl,qa1,hm⟩
 obtain ⟨ao_a1,cap_a1,rfl⟩:=qa1.shape
 have zu1_1a:=hm.size
 refine ⟨_,rfl,hm.mono (fun _ _ h=>h.elim),(fun _=>rfl),?_⟩
 intro u1_1 hr
 have zu1_1:=hr.size
 have Hx2:=hid ((qa1.widen (R':=(fun k=>(New u1_0 u1_1a k))) (fun _ h=>h) (Nat.le_refl _)).mod hr (by intro k h1 h2;omega))
 have Cx3:=hid (Cx1.out.go hm hr)
 clear Cx1 hm hr qa1
 refine QChain.go fun Z act E=>?_
 refine Ax (args:=#[.agg (x.cells).toArray]) rfl (Ab rfl) rfl Try.func69 (Ca (E.d 3)) (RefBare_Q (fun _=>False) _ x _ ⟨rfl,HOK.out⟩ (fun _ h=>h.elim) (by have:=HL.out;unfold bareT;simp only [List.length_append] at this ⊢; omega)) ?_
 rintro e u1_2a ⟨v_a2,rfl,qa2,hm⟩
 obtain ⟨ao_a2,cap_a2,rfl⟩:=qa2.shape
 have zu1_2a:=hm.size
 refine ⟨_,rfl,hm.mono (fun _ _ h=>h.elim),(fun _=>rfl),?_⟩
 intro u1_2 hr
 have zu1_2:=hr.size
 have Hx4:=hid ((qa2.widen (R':=(fun k=>(New u1_1 u1_2a k))) (fun _ h=>h) (Nat.le_refl _)).mod hr (by intro k h1 h2;omega))
 have hmr:=Mod.after hm hr
 have Hx5:=hid (Hx2.out.mod hmr (by intro k h1 h2;omega))
 clear Hx2
 clear hmr
 have Cx6:=hid (Cx3.out.go hm hr)
 clear Cx3 hm hr Z act E qa2
 refine QChain.go fun Z act E=>?_
 have ea5:act.eval (.tmp 5)=.slice ao_a1 ((wordB wStamp).length) cap_a1:=(chv (v:=.slice ao_a1 ((wordB wStamp).length) cap_a1) (E.d 2))
 have ea7:act.eval (.tmp 7)=.slice ao_a2 ((bareT x).length) cap_a2:=(chv (v:=.slice ao_a2 ((bareT x).length) cap_a2) (E.d 4))
 refine qc_rows rfl (Ab rfl) rfl Try.underlying132 (by decide) (C:=#[.slice ao_a1 ((wordB wStamp).length) cap_a1,.slice ao_a2 ((bareT x).length) cap_a2]) (by simp only [List.map_toArray,List.map_cons,List.map_nil,ea5,ea7];kernel_rfl) ?_
 intro u1_3a qrow5 hm
 have zl1_5:=qrow5.lt
 have zu1_3a:=hm.size
 refine ⟨hm.mono (fun _ _ h=>h.elim),(fun _=>rfl),?_⟩
 intro u1_3 hr
 have zu1_3:=hr.size
 have Hx7:=hid (qrow5.mod hr (by intro h2;omega))
 have hmr:=Mod.after hm hr
 have Hx8:=hid (Hx5.out.mod hmr (by intro k h1 h2;omega))
 have Hx9:=hid (Hx4.out.mod hmr (by intro k h1 h2;omega))
 clear Hx5 Hx4
 clear hmr
 have Cx10:=hid (Cx6.out.go hm hr)
 clear Cx6 hm hr Z act E qrow5 ea5 ea7
 refine QChain.go fun Z act E=>?_
 refine Ax (args:=#[.slice (some ⟨u1_2.heap.size,0,none⟩) 2 2]) rfl (Ab rfl) rfl Try.func64 (Ca (chv (v:=.slice (some ⟨u1_2.heap.size,0,none⟩) 2 2) (E.d 5))) (Join_Q (n:=2)  Hx7.out [(.slice ao_a1 ((wordB wStamp).length) cap_a1,wordB wStamp),(.slice ao_a2 ((bareT x).length) cap_a2,bareT x)] rfl rfl (by intro p hp;simp only [List.mem_cons,List.not_mem_nil,or_false] at hp;rcases hp with rfl|rfl<;>first|exact Hx8.out.rd.1|exact Hx9.out.rd.1) (by simp) (show flat _=wordB wStamp ++ bareT x from by simp only [flat,List.map_cons,List.map_nil,List.flatten_cons,List.flatten_nil,List.append_nil]) (by have:=HL.out;simp only [bareT,List.length_append] at this ⊢; omega)) ?_
 rintro e u1_4a ⟨v_join1,rfl,qjoin1,hm⟩
 have zu1_4a:=hm.size
 refine ⟨_,rfl,hm.mono (fun _ _ h=>h.elim),(fun _=>rfl),?_⟩
 intro u1_4 hr
 have zu1_4:=hr.size
 have Hx11:=hid ((qjoin1.widen (R':=(fun k=>(New u1_3 u1_4a k))) (fun _ h=>h) (Nat.le_refl _)).mod hr (by intro k h1 h2;omega))
 have hmr:=Mod.after hm hr
 have Hx12:=hid (Hx8.out.mod hmr (by intro k h1 h2;omega))
 have Hx13:=hid (Hx9.out.mod hmr (by intro k h1 h2;omega))
 have Hx14:=hid (Hx7.out.mod hmr (by intro h2;omega))
 clear Hx8 Hx9 Hx7
 clear hmr
 have Cx15:=hid (Cx10.out.go hm hr)
 clear Cx10 hm hr Z act E qjoin1
 refine QChain.nil fun vs hl hzz hrows hne=>?_
 obtain ⟨Z,hYZ,hZb,hV⟩:=hzz
 have f2:=fvc hV hl 2
 have f4:=fvc hV hl 4
 have f5:=fvc hV hl 5
 have f6:=fvc hV hl 6
 have f7:=fvc hV hl 7
 rw [show vs=[gw vs 0,gw vs 1,gw vs 2,gw vs 3,gw vs 4,gw vs 5,gw vs 6,gw vs 7] from (Bh hl).trans rfl]
 have ha0:=HA0.out
 subst ha0
 clear HA0 hV hYZ hZb hsz0 hrows hne oe1
 simp only [Ar,Act.put,sIB,sCZ,sCS,f2,f4,f5,f6,f7]
 clear hl f2 f4 f5 f6 f7
 go_wp2
 go_ret
 have hq:=(Hx11.out.widen (R':=(fun k=>New w u1_4 k)) (by intro k h1;omega) (Nat.le_refl _))
 (try simp only [List.append_assoc] at hq)
 exact ⟨v_join1,rfl,by simpa only [B8,bareT,List.append_assoc] using hq,(HM0.out.trans Cx15.out (fun _ _ h=>h.elim))⟩
end Go.Proofs.Ytbifincepglilaa

/- A row of one thing that is made beside the chain; flat kinds: their blocks are those of the slice. -/
namespace Go.Gv
open Go Go.RowKit
section
variable {P:Program} {ops:Array Oper} {Q:Exit→Act→World→Prop}
variable {B:Nat} {S0:Nat→Prop} {Z Z' Y:Nat→Prop} {w w':World} {t t':List Value}
/-- a row of n things -/
def qb (B:Nat) (T:TypeId) (C:Array Value) (n:Nat):QPred:=fun Z _ v w=>∃ g,v=.slice (some ⟨g,0,none⟩) n n∧B≤g∧¬ Z g∧∃ m,w.heap[g]? = some (.cells C T m)
theorem qb_stable {T:TypeId} {C:Array Value} {n:Nat}:QStable B S0 (qb B T C n) where
 env Z t v w w' h he:=by
  obtain ⟨g,h1,h2,h3,m,h4⟩:=h
  rcases he.block g (Array.getElem?_eq_some_iff.1 h4).1 with e|⟨-,-,C',T',m1,m2,e1,e2⟩
  ·exact ⟨g,h1,h2,h3,m,e.trans h4⟩
  ·rw [h4] at e1
   cases e1
   exact ⟨g,h1,h2,h3,m2,e2⟩
 on Z Z' t t' v w w' h hm hz ht:=by
  obtain ⟨g,h1,h2,h3,m,h4⟩:=h
  have hlt:=(Array.getElem?_eq_some_iff.1 h4).1
  refine ⟨g,h1,h2,fun hg=>?_,m,hm.obj h4 (fun hs=>?_)⟩
  ·rcases hz g hg with h|h
   ·exact h3 h
   ·omega
  ·rcases hs with hs|hs
   ·omega
   ·exact h3 hs.2
theorem qb_new {T:TypeId} {C:Array Value} {n:Nat} (hB:B≤w.heap.size) (hZ:∀ j,Z j→B≤j∧j < w.heap.size):qb B T C n Z t (.slice (some ⟨w.heap.size,0,none⟩) n n) (w.alloc (.cells C T)):=
 ⟨_,rfl,hB,(fun h=>Nat.lt_irrefl _ (hZ _ h).2),(0,0),heap_alloc_new _ _⟩
end
section
variable {α:Type} {A:Rep α} {e:TypeId} {R R' S E:Nat→Prop} {w w':World} {v:Value} {l:List α}
theorem RdS.singleM {g:Nat} {T:TypeId} {cs:List Value} {a:α} {m:Nat × Nat} (hc:w.heap[g]? = some (.cells cs.toArray T m)) (ha:A.rd R w cs a) (hg:R g):RdS A R w (.slice (some ⟨g,0,none⟩) 1 1) [a]:=by
 refine ⟨[cs],rfl,fun i c b hi hb=>?_,?_,fun _ g' hg'=>by cases hg';exact hg⟩
 ·cases i with
  | zero=>simp at hi hb;subst hi hb;exact ha
  | succ i=>simp at hi
 ·have hl:=A.len ha
  refine Rd.mk (Nat.le_refl _) (by rw [Bk];omega) (by simp [hl]) fun j u hu=>?_
  rw [Nat.zero_add]
  unfold World.cell?
  rw [hc]
  simpa using hu
theorem OwS.flat (hf:∀ (R R':Nat→Prop) (w w':World) cs b,A.rd R w cs b→A.rd R' w' cs b) (h:OwS A e R E w v l) (E':Nat→Prop):OwS A e R E' w v l:=by
 obtain ⟨css,h1,h2,h3,h4⟩:=h
 exact ⟨css,h1,fun i cs a hi hl=>hf _ _ _ _ _ _ (h2 i cs a hi hl),h3,h4⟩
end
end Go.Gv

/- The document's stamper: Stamp. -/
namespace Go.Proofs.Ytbifincepglilaa
open Go Go.RowKit Go.Gv
theorem ROf_V {R:Nat→Prop} {w:World} {p:Nat} {f k rep:Int} {s:SS} {n:Int × Int} {v:Value} (h:RpR R w p f k rep s) (hB:∀ k,R k→k < w.heap.size) (hmb:s.m.length≤100000) (hlk:lookV s.m n=v) :
 Calls Try.prog 40 #[.pointer (some ⟨p,0,none⟩),.agg #[.int .i64 n.1,.int .i64 n.2]] w fun e w'=>e=.returned v∧Mod (fun _=>False) w w':=hlk▸ROf_Q h hB hmb
def gv0C:Array Value:=#[.int .i64 0,.int .i64 0,.int .i64 0,.int .i64 0,.int .i64 0,.int .u8 0,.int .u8 0,.int .u8 0,.int .u8 0,.int .u8 0,.int .u8 0,.int .u8 0,.int .u8 0,.int .u8 0,.int .u8 0,.int .u8 0,.int .u8 0,.int .u8 0,.int .u8 0,.int .u8 0,.int .u8 0,.int .u8 0,.int .u8 0,.int .u8 0,.int .u8 0,.int .u8 0,.int .u8 0,.int .u8 0,.int .u8 0,.int .u8 0,.int .u8 0,.int .u8 0,.int .u8 0,.int .u8 0,.int .u8 0,.int .u8 0,.int .u8 0,.int .u64 0,.int .i64 0,.int .i64 0]
theorem info_Gv:(Try.prog.info? 115).map (fun i=>(i.zero,i.size,i.bytes))=some (some (.agg gv0C),40,96):=by kernel_rfl
theorem gvC_len {q:(Int × Int) × St} (h:q.2.OK):(gvC q).length=40:=by unfold gvC;rw [List.length_append,St.len h];rfl
theorem laid_gv (a b:Int) (y:St) (hy:y.OK):laid [(0,2),(2,38)] [.int .i64 0,.int .i64 0,.int .i64 0,.int .i64 0,.int .i64 0,.int .u8 0,.int .u8 0,.int .u8 0,.int .u8 0,.int .u8 0,.int .u8 0,.int .u8 0,.int .u8 0,.int .u8 0,.int .u8 0,.int .u8 0,.int .u8 0,.int .u8 0,.int .u8 0,.int .u8 0,.int .u8 0,.int .u8 0,.int .u8 0,.int .u8 0,.int .u8 0,.int .u8 0,.int .u8 0,.int .u8 0,.int .u8 0,.int .u8 0,.int .u8 0,.int .u8 0,.int .u8 0,.int .u8 0,.int .u8 0,.int .u8 0,.int .u8 0,.int .u64 0,.int .i64 0,.int .i64 0] [(0,.agg #[.int .i64 a,.int .i64 b]),(1,y.val)]=some (gvC ((a,b),y)):=by
 have h1:y.val.cells.toList=y.cells:=by simp [Value.cells]
 have h2:y.val.cells.size=38:=by simp [Value.cells,hy.h.1]
 unfold laid
 simp only [List.getElem?_cons_zero]
 rw [if_neg (by simp [Value.cells])]
 unfold laid
 simp only [List.getElem?_cons_succ,List.getElem?_cons_zero]
 rw [if_neg (by rw [h2];simp [Value.cells]),h1]
 unfold laid
 simp [Value.cells,gvC,St.len hy]
theorem GvR_flat:∀ (R R':Nat→Prop) (w w':World) cs b,GvR.rd R w cs b→GvR.rd R' w' cs b:=fun _ _ _ _ _ _ h=>h
theorem wStamp_B:wordB wStamp=[5,115,116,97,109,112]:=by
 unfold wordB
 rw [show bytesOf wStamp=[115,116,97,109,112] from rfl,encN_lt (by decide)]
 rfl
theorem stampT_B {x:St} (h:x.OK):Bytes (B8 x):=by
 have h1:Bytes [5,115,116,97,109,112]:=by unfold Bytes;decide
 intro b hb
 simp only [B8,nameB,wStamp_B,List.mem_append] at hb
 rcases hb with hb|hb|(hb|hb)|hb|hb
 ·exact h1 b hb
 ·exact encI_bytes _ b hb
 ·exact encI_bytes _ b hb
 ·exact encI_bytes _ b hb
 ·exact h.h.2 b hb
 ·exact encN_bytes _ b hb
set_option maxHeartbeats 4000000 in
theorem RStamp_bad {R Rb:Nat→Prop} {w:World} {p g:Nat} {f k rep:Int} {s:SS} {c:Cm} {L:List (Int × List Int)} (h:RpR R w p f k rep s) (hbk:RbO Rb w g L) (hB:∀ k,R k→k < w.heap.size) (hBb:∀ k,Rb k→k < w.heap.size) (hd:∀ k,R k→Rb k→False) (hap:Apart_ L) (hLL:L.length≤100000) (hmb:s.m.length≤100000) (hco:c.OK) (hsi:I64 (1000+c.cl)) (hrt:Bo L k c=false) :
 Calls Try.prog 39 #[.pointer (some ⟨p,0,none⟩),.pointer (some ⟨g,0,none⟩),.agg c.cells.toArray] w fun e w'=>e=.returned (.tuple #[.agg zSt.cells.toArray,.int .i64 3])∧RpR R w' p f k rep s∧RbO Rb w' g L∧Mod (fun _=>False) w w':=by
 have HBRR:=Lib.hid hB
 obtain ⟨v0,hc,hp,hl0,hnw,hfl,hla⟩:=h
 obtain ⟨Q,hQ,hl⟩:∃ Q:Nat→Prop,(∀ k,Q k→R k∧k≠p)∧RdS GvR Q w v0 s.m:=⟨_,fun _ h=>h,hl0⟩
 obtain ⟨ao,cap,rfl⟩:=hl.shape
 have hpl:=hc.lt
 have hU:U64=18446744073709551616:=rfl
 have HC:=hid (show Cs w p #[.int .i64 f,.int .i64 k,.int .i64 rep,.int .u64 (s.now:Nat),.int .u64 (s.floor:Nat),.int .u64 (s.last:Nat),.slice ao s.m.length cap] 77 from hc)
 have HLS:=Lib.hid hl
 have HQ:=Lib.hid hQ
 have HPR:=Lib.hid hp
 have HBQ:=hid (fun k (h:Q k)=>hB k (hQ k h).1)
 have HXQ:=hid (fun (h:Q p)=>(hQ p h).2 rfl)
 clear hc hp hl0 hl hQ hB
 have HBK:=Lib.hid hbk
 have HBB:=Lib.hid hBb
 have HDJ:=hid (fun k (h:Q k) (h2:Rb k)=>hd k (HQ.out k h).1 h2)
 have HCO:=Lib.hid hco
 have HSI:=Lib.hid hsi
 have HRT:=Lib.hid hrt
 have HAP:=Lib.hid hap
 have HLL:=Lib.hid hLL
 have HNPR:=hid (fun (h:Rb p)=>hd p HPR.out h)
 have HDD:=Lib.hid hd
 clear hbk hBb hd hco hsi hrt hap hLL
 change Calls _ _ #[.pointer (some ⟨p,0,none⟩),.pointer (some ⟨g,0,none⟩),.agg (c.cells:List Value).toArray] _ _
 go_enter Try.func39,Try.ntmps39
 go_upto_region 1 with (fail)
 obtain ⟨w1,hw1⟩:∃ zz,zz=((w.alloc (.cells (c.cells:List Value).toArray 36)).alloc (.cells #[.int .i64 0,.int .i64 0,.int .i64 0,.int .u8 0,.int .u8 0,.int .u8 0,.int .u8 0,.int .u8 0,.int .u8 0,.int .u8 0,.int .u8 0,.int .u8 0,.int .u8 0,.int .u8 0,.int .u8 0,.int .u8 0,.int .u8 0,.int .u8 0,.int .u8 0,.int .u8 0,.int .u8 0,.int .u8 0,.int .u8 0,.int .u8 0,.int .u8 0,.int .u8 0,.int .u8 0,.int .u8 0,.int .u8 0,.int .u8 0,.int .u8 0,.int .u8 0,.int .u8 0,.int .u8 0,.int .u8 0,.int .u64 0,.int .i64 0,.int .i64 0] 47)):=⟨_,rfl⟩
 change Code.wp _ _ _ _ ((w.alloc (.cells (c.cells:List Value).toArray 36)).alloc (.cells #[.int .i64 0,.int .i64 0,.int .i64 0,.int .u8 0,.int .u8 0,.int .u8 0,.int .u8 0,.int .u8 0,.int .u8 0,.int .u8 0,.int .u8 0,.int .u8 0,.int .u8 0,.int .u8 0,.int .u8 0,.int .u8 0,.int .u8 0,.int .u8 0,.int .u8 0,.int .u8 0,.int .u8 0,.int .u8 0,.int .u8 0,.int .u8 0,.int .u8 0,.int .u8 0,.int .u8 0,.int .u8 0,.int .u8 0,.int .u8 0,.int .u8 0,.int .u8 0,.int .u8 0,.int .u8 0,.int .u8 0,.int .u64 0,.int .i64 0,.int .i64 0] 47))
 rw [← hw1]
 have HB5:=hid (show Cs w1 (w.heap.size) (c.cells:List Value).toArray 36 by rw [hw1];exact (Cs.new _ _ _).alloc _)
 have HB6:=hid (show Cs w1 (w.heap.size+1) #[.int .i64 0,.int .i64 0,.int .i64 0,.int .u8 0,.int .u8 0,.int .u8 0,.int .u8 0,.int .u8 0,.int .u8 0,.int .u8 0,.int .u8 0,.int .u8 0,.int .u8 0,.int .u8 0,.int .u8 0,.int .u8 0,.int .u8 0,.int .u8 0,.int .u8 0,.int .u8 0,.int .u8 0,.int .u8 0,.int .u8 0,.int .u8 0,.int .u8 0,.int .u8 0,.int .u8 0,.int .u8 0,.int .u8 0,.int .u8 0,.int .u8 0,.int .u8 0,.int .u8 0,.int .u8 0,.int .u8 0,.int .u64 0,.int .i64 0,.int .i64 0] 47 by rw [hw1];exact Cs_newN _ _ _ (by simp))
 have hm:Mod (fun _=>False) w w1:=by rw [hw1];exact ((Mod.refl _ _).alloc _).alloc _
 have HM0:=hid (show Mod (fun _=>False) w w1 from hm.mono (fun _ _ h=>h.elim))
 have hs1:w1.heap.size=w.heap.size+2:=by rw [hw1];simp
 have Hx1:=hid (HC.out.mod hm (fun h=>h))
 clear HC
 have Hx2:=hid (HLS.out.mod hm (fun _ _ h=>h))
 clear HLS
 have Hx3:=hid (HBK.out.mod hm (fun _ _ h=>h))
 clear HBK
 clear hw1 hm
 go_upto_region 1 with (fail)
 generalize ha0:Act.mk _ _=a0
 have oe0:a0.eval (.tmp 0)=.pointer (some ⟨p,0,none⟩):=by rw [← ha0];rfl
 have oe1:a0.eval (.tmp 1)=.pointer (some ⟨g,0,none⟩):=by rw [← ha0];rfl
 have oe5:a0.eval (.tmp 5)=.pointer (some ⟨w.heap.size,0,none⟩):=by rw [← ha0];rfl
 have hsz0:a0.tmps.size=92:=by rw [← ha0];rfl
 have HA0:=hid ha0
 clear ha0
 refine Az 92 hsz0 [12,13,14,15,16,17,18,19] [qi (.pointer (some ⟨p,0,none⟩)),qi (.pointer (some ⟨p,0,none⟩)),qi (.pointer (some ⟨p,0,none⟩)),qi (.agg #[.int .i64 f,.int .i64 k]),qi (.pointer (some ⟨g,0,none⟩)),qi (c.val),qi (.bool false),qi (.bool true)] ⟨Aa,Aa,Aa,Aa,Aa,Aa,Aa,Aa,trivial⟩ [6] ⟨?_,?_,?_,?_,?_,?_,?_,?_,trivial⟩ ?_
 ·exact stq (fun E=>Ah rfl (E.v oe0))
 ·exact stq (fun E=>A1 rfl (E.d 0))
 ·exact stq (fun E=>Ai rfl Try.underlying77 rfl (by kernel_rfl) (E.d 1))
 ·exact stq (fun E=>Ap rfl Try.underlying26 rfl (off:=0) (cs:=[.int .i64 f,.int .i64 k]) (by kernel_rfl) (E.d 2) (Cs.litA (Hx1.out.mod E.m.old (by intro h2;omega)) rfl))
 ·exact stq (fun E=>Ah rfl (E.v oe1))
 ·exact stq (fun E=>Ap rfl Try.underlying36 rfl (off:=0) (cs:=c.cells) (by rw [Cm.len HCO.out.2.1];exact Bd) (E.v oe5) (Cs.whole (HB5.out.mod E.m.old (by intro h2;omega))))
 ·exact Au rfl
 ·exact stq (fun E=>ex_not rfl (E.d 6))
 intro u1_0 hr
 have zu1_0:=hr.size
 have Cx4:=hid (hr.new (S:=(fun _=>False)))
 clear hr
 refine QChain.go fun Z act E=>?_
 refine Ax (args:=#[.agg #[.int .i64 f,.int .i64 k],.pointer (some ⟨g,0,none⟩),c.val]) rfl (Ab rfl) rfl Try.func58 (args3 (E.d 3) (E.d 4) (E.d 5)) (RRightC_Q (Hx3.out.mod Cx4.out (fun _ _ h=>h)) (by intro k h1;have hb:=HBB.out k h1;omega) HAP.out HLL.out f k c HCO.out HSI.out HRT.out) ?_
 rintro e u1_1a ⟨rfl,hm⟩
 have zu1_1a:=hm.size
 refine ⟨_,rfl,hm.mono (fun _ _ h=>h.elim),(fun _=>rfl),?_⟩
 intro u1_1 hr
 have zu1_1:=hr.size
 have Cx5:=hid (Cx4.out.go hm hr)
 clear Cx4 hm hr Z act E
 refine QChain.nil fun vs hl hzz hrows hne=>?_
 obtain ⟨Z,hYZ,hZb,hV⟩:=hzz
 have f0:=fvi hV hl 0
 have f4:=fvi hV hl 4
 have f6:=fvi hV hl 6
 have f7:=fvi hV hl 7
 rw [show vs=[gw vs 0,gw vs 1,gw vs 2,gw vs 3,gw vs 4,gw vs 5,gw vs 6,gw vs 7] from (Bh hl).trans rfl]
 have ha0:=HA0.out
 subst ha0
 clear HA0 hV hYZ hZb hsz0 hrows hne oe0 oe1 oe5
 simp only [Ar,Act.put,sIB,sCZ,sCS,f0,f4,f6,f7]
 clear hl f0 f4 f6 f7
 go_upto_region 2 with (fail)
 refine Al 92 [20,93,7] [0,1,2] (fun a0 HA0=>?_)
 have oe6:=ev HA0 6 rfl
 refine QSeq.pure rfl (.agg (zSt.cells:List Value).toArray) (fun E=>ex_build0 rfl (r:=(zSt.cells:List Value).toArray) (by kernel_rfl)) ?_
 refine QSeq.go fun act E=>?_
 refine Bc rfl (Ab rfl) rfl (HB6.out.mod Cx5.out (fun h=>h)) (off:=0) (vs:=zSt.cells) (by rw [St.len Bt];exact Bb) (St.one zSt) (by rw [St.len Bt];decide) (E.v oe6) (ec (E.d 0 0)) ?_
 intro u2_1 qc0 hm
 have qB6:=qc0.eqv (b:=(zSt.cells:List Value).toArray) (A0 _ _ (by rw [St.len Bt];rfl))
 clear qc0
 have Hx6:=hid qB6
 have zu2_1:=hm.size
 have Cx7:=hid (show Mod (fun k=>(k=w.heap.size+1)) u1_1 u2_1 from hm)
 clear hm
 clear act E qB6 HB6
 refine QSeq.pure rfl (.int .i64 3) (fun E=>An rfl rfl) ?_
 refine QSeq.nil (t':=[_,_,_]) rfl ?_
 obtain rfl:=HA0.out
 clear HA0 oe6
 simp only [pz,Act.put,sIB,sCZ,sCS,List.set_nil]
 go_wp2
 refine bodyPost_ret (Bm rfl _ _ (w.heap.size+1) (zSt.cells) rfl (fun k u hu=>by rw [Hx6.out.cell];simpa using hu) Try.underlying47 rfl (by rw [St.len Bt];exact Bb)) rfl ?_
 exact ⟨rfl,⟨_,((Hx1.out.mod Cx5.out (fun h=>h)).mod Cx7.out (by intro h2;omega)),HPR.out,((Hx2.out.mod Cx5.out (fun _ _ h=>h)).mod Cx7.out (sB HBQ)).widen (fun k h=>HQ.out k h),hnw,hfl,hla⟩,((Hx3.out.mod Cx5.out (fun _ _ h=>h)).mod Cx7.out (sB HBB)),((HM0.out.trans Cx5.out (fun _ _ h=>h.elim)).trans Cx7.out (by intro k h1 h2;omega))⟩
set_option maxHeartbeats 4000000 in
theorem RStamp_end {R Rb:Nat→Prop} {w:World} {p g:Nat} {f k rep:Int} {s:SS} {c:Cm} {L:List (Int × List Int)} (h:RpR R w p f k rep s) (hbk:RbO Rb w g L) (hB:∀ k,R k→k < w.heap.size) (hBb:∀ k,Rb k→k < w.heap.size) (hd:∀ k,R k→Rb k→False) (hap:Apart_ L) (hLL:L.length≤100000) (hmb:s.m.length≤100000) (hco:c.OK) (hsi:I64 (1000+c.cl)) (hrt:Bo L k c=true) {t:Nat} (hml:Bs s.m (c.cl,c.sq)=none) (ht:t=max (max s.now (s.floor+1)) (s.last+1)) (htl:¬ t+1 < U64) :
 Calls Try.prog 39 #[.pointer (some ⟨p,0,none⟩),.pointer (some ⟨g,0,none⟩),.agg c.cells.toArray] w fun e w'=>e=.returned (.tuple #[.agg zSt.cells.toArray,.int .i64 4])∧RpR R w' p f k rep s∧RbO Rb w' g L∧Mod (fun _=>False) w w':=by
 have HBRR:=Lib.hid hB
 obtain ⟨v0,hc,hp,hl0,hnw,hfl,hla⟩:=h
 obtain ⟨Q,hQ,hl⟩:∃ Q:Nat→Prop,(∀ k,Q k→R k∧k≠p)∧RdS GvR Q w v0 s.m:=⟨_,fun _ h=>h,hl0⟩
 obtain ⟨ao,cap,rfl⟩:=hl.shape
 have hpl:=hc.lt
 have hU:U64=18446744073709551616:=rfl
 have HC:=hid (show Cs w p #[.int .i64 f,.int .i64 k,.int .i64 rep,.int .u64 (s.now:Nat),.int .u64 (s.floor:Nat),.int .u64 (s.last:Nat),.slice ao s.m.length cap] 77 from hc)
 have HLS:=Lib.hid hl
 have HQ:=Lib.hid hQ
 have HPR:=Lib.hid hp
 have HBQ:=hid (fun k (h:Q k)=>hB k (hQ k h).1)
 have HXQ:=hid (fun (h:Q p)=>(hQ p h).2 rfl)
 clear hc hp hl0 hl hQ hB
 have HBK:=Lib.hid hbk
 have HBB:=Lib.hid hBb
 have HDJ:=hid (fun k (h:Q k) (h2:Rb k)=>hd k (HQ.out k h).1 h2)
 have HCO:=Lib.hid hco
 have HSI:=Lib.hid hsi
 have HRT:=Lib.hid hrt
 have HAP:=Lib.hid hap
 have HLL:=Lib.hid hLL
 have HNPR:=hid (fun (h:Rb p)=>hd p HPR.out h)
 have HDD:=Lib.hid hd
 clear hbk hBb hd hco hsi hrt hap hLL
 have HML:=Lib.hid hml
 clear hml
 have HNK:=hid (show NmK (c.cl,c.sq) from ⟨HCO.out.1.1,HCO.out.1.2.1⟩)
 change Calls _ _ #[.pointer (some ⟨p,0,none⟩),.pointer (some ⟨g,0,none⟩),.agg (c.cells:List Value).toArray] _ _
 go_enter Try.func39,Try.ntmps39
 go_upto_region 1 with (fail)
 obtain ⟨w1,hw1⟩:∃ zz,zz=((w.alloc (.cells (c.cells:List Value).toArray 36)).alloc (.cells #[.int .i64 0,.int .i64 0,.int .i64 0,.int .u8 0,.int .u8 0,.int .u8 0,.int .u8 0,.int .u8 0,.int .u8 0,.int .u8 0,.int .u8 0,.int .u8 0,.int .u8 0,.int .u8 0,.int .u8 0,.int .u8 0,.int .u8 0,.int .u8 0,.int .u8 0,.int .u8 0,.int .u8 0,.int .u8 0,.int .u8 0,.int .u8 0,.int .u8 0,.int .u8 0,.int .u8 0,.int .u8 0,.int .u8 0,.int .u8 0,.int .u8 0,.int .u8 0,.int .u8 0,.int .u8 0,.int .u8 0,.int .u64 0,.int .i64 0,.int .i64 0] 47)):=⟨_,rfl⟩
 change Code.wp _ _ _ _ ((w.alloc (.cells (c.cells:List Value).toArray 36)).alloc (.cells #[.int .i64 0,.int .i64 0,.int .i64 0,.int .u8 0,.int .u8 0,.int .u8 0,.int .u8 0,.int .u8 0,.int .u8 0,.int .u8 0,.int .u8 0,.int .u8 0,.int .u8 0,.int .u8 0,.int .u8 0,.int .u8 0,.int .u8 0,.int .u8 0,.int .u8 0,.int .u8 0,.int .u8 0,.int .u8 0,.int .u8 0,.int .u8 0,.int .u8 0,.int .u8 0,.int .u8 0,.int .u8 0,.int .u8 0,.int .u8 0,.int .u8 0,.int .u8 0,.int .u8 0,.int .u8 0,.int .u8 0,.int .u64 0,.int .i64 0,.int .i64 0] 47))
 rw [← hw1]
 have HB5:=hid (show Cs w1 (w.heap.size) (c.cells:List Value).toArray 36 by rw [hw1];exact (Cs.new _ _ _).alloc _)
 have HB6:=hid (show Cs w1 (w.heap.size+1) #[.int .i64 0,.int .i64 0,.int .i64 0,.int .u8 0,.int .u8 0,.int .u8 0,.int .u8 0,.int .u8 0,.int .u8 0,.int .u8 0,.int .u8 0,.int .u8 0,.int .u8 0,.int .u8 0,.int .u8 0,.int .u8 0,.int .u8 0,.int .u8 0,.int .u8 0,.int .u8 0,.int .u8 0,.int .u8 0,.int .u8 0,.int .u8 0,.int .u8 0,.int .u8 0,.int .u8 0,.int .u8 0,.int .u8 0,.int .u8 0,.int .u8 0,.int .u8 0,.int .u8 0,.int .u8 0,.int .u8 0,.int .u64 0,.int .i64 0,.int .i64 0] 47 by rw [hw1];exact Cs_newN _ _ _ (by simp))
 have hm:Mod (fun _=>False) w w1:=by rw [hw1];exact ((Mod.refl _ _).alloc _).alloc _
 have HM0:=hid (show Mod (fun _=>False) w w1 from hm.mono (fun _ _ h=>h.elim))
 have hs1:w1.heap.size=w.heap.size+2:=by rw [hw1];simp
 have Hx1:=hid (HC.out.mod hm (fun h=>h))
 clear HC
 have Hx2:=hid (HLS.out.mod hm (fun _ _ h=>h))
 clear HLS
 have Hx3:=hid (HBK.out.mod hm (fun _ _ h=>h))
 clear HBK
 clear hw1 hm
 go_upto_region 1 with (fail)
 generalize ha0:Act.mk _ _=a0
 have oe0:a0.eval (.tmp 0)=.pointer (some ⟨p,0,none⟩):=by rw [← ha0];rfl
 have oe1:a0.eval (.tmp 1)=.pointer (some ⟨g,0,none⟩):=by rw [← ha0];rfl
 have oe5:a0.eval (.tmp 5)=.pointer (some ⟨w.heap.size,0,none⟩):=by rw [← ha0];rfl
 have hsz0:a0.tmps.size=92:=by rw [← ha0];rfl
 have HA0:=hid ha0
 clear ha0
 refine Az 92 hsz0 [12,13,14,15,16,17,18,19] [qi (.pointer (some ⟨p,0,none⟩)),qi (.pointer (some ⟨p,0,none⟩)),qi (.pointer (some ⟨p,0,none⟩)),qi (.agg #[.int .i64 f,.int .i64 k]),qi (.pointer (some ⟨g,0,none⟩)),qi (c.val),qi (.bool true),qi (.bool false)] ⟨Aa,Aa,Aa,Aa,Aa,Aa,Aa,Aa,trivial⟩ [6] ⟨?_,?_,?_,?_,?_,?_,?_,?_,trivial⟩ ?_
 ·exact stq (fun E=>Ah rfl (E.v oe0))
 ·exact stq (fun E=>A1 rfl (E.d 0))
 ·exact stq (fun E=>Ai rfl Try.underlying77 rfl (by kernel_rfl) (E.d 1))
 ·exact stq (fun E=>Ap rfl Try.underlying26 rfl (off:=0) (cs:=[.int .i64 f,.int .i64 k]) (by kernel_rfl) (E.d 2) (Cs.litA (Hx1.out.mod E.m.old (by intro h2;omega)) rfl))
 ·exact stq (fun E=>Ah rfl (E.v oe1))
 ·exact stq (fun E=>Ap rfl Try.underlying36 rfl (off:=0) (cs:=c.cells) (by rw [Cm.len HCO.out.2.1];exact Bd) (E.v oe5) (Cs.whole (HB5.out.mod E.m.old (by intro h2;omega))))
 ·exact Au rfl
 ·exact stq (fun E=>ex_not rfl (E.d 6))
 intro u1_0 hr
 have zu1_0:=hr.size
 have Cx4:=hid (hr.new (S:=(fun _=>False)))
 clear hr
 refine QChain.go fun Z act E=>?_
 refine Ax (args:=#[.agg #[.int .i64 f,.int .i64 k],.pointer (some ⟨g,0,none⟩),c.val]) rfl (Ab rfl) rfl Try.func58 (args3 (E.d 3) (E.d 4) (E.d 5)) (RRightC_Q (Hx3.out.mod Cx4.out (fun _ _ h=>h)) (by intro k h1;have hb:=HBB.out k h1;omega) HAP.out HLL.out f k c HCO.out HSI.out HRT.out) ?_
 rintro e u1_1a ⟨rfl,hm⟩
 have zu1_1a:=hm.size
 refine ⟨_,rfl,hm.mono (fun _ _ h=>h.elim),(fun _=>rfl),?_⟩
 intro u1_1 hr
 have zu1_1:=hr.size
 have Cx5:=hid (Cx4.out.go hm hr)
 clear Cx4 hm hr Z act E
 refine QChain.nil fun vs hl hzz hrows hne=>?_
 obtain ⟨Z,hYZ,hZb,hV⟩:=hzz
 have f0:=fvi hV hl 0
 have f4:=fvi hV hl 4
 have f6:=fvi hV hl 6
 have f7:=fvi hV hl 7
 rw [show vs=[gw vs 0,gw vs 1,gw vs 2,gw vs 3,gw vs 4,gw vs 5,gw vs 6,gw vs 7] from (Bh hl).trans rfl]
 have ha0:=HA0.out
 subst ha0
 clear HA0 hV hYZ hZb hsz0 hrows hne oe0 oe1 oe5
 simp only [Ar,Act.put,sIB,sCZ,sCS,f0,f4,f6,f7]
 clear hl f0 f4 f6 f7
 go_upto_region 3 with (fail)
 refine Al 92 [22,23,24,25,21,26,27,8,100,9] [0,1,2,3,4,5,6,7,8,9] (fun a0 HA0=>?_)
 have oe0:=ev HA0 0 rfl
 have oe5:=ev HA0 5 rfl
 refine QSeq.pure rfl _ (fun E=>Ah rfl (E.v oe0)) ?_
 refine QSeq.pure rfl (.pointer (some ⟨w.heap.size,0,none⟩)) (fun E=>Ai rfl Try.underlying36 rfl (by kernel_rfl) (E.v oe5)) ?_
 refine QSeq.pure rfl _ (fun E=>Ap rfl Try.underlying30 rfl (off:=0) (cs:=[.int .i64 c.cl,.int .i64 c.sq]) (by kernel_rfl) (E.d 1 0) (Cs.preA (pre:=[.int .i64 c.cl,.int .i64 c.sq]) (mid:=c.h.map bv) (post:=[.int .i64 c.ln,.int .i64 c.sb,.int .i64 c.mr]) (HB5.out.mod Cx5.out (fun h=>h)) rfl)) ?_
 refine QSeq.call rfl rfl Try.func40 (ROf_V (n:=(c.cl,c.sq)) (s:=s) (f:=f) (k:=k) (rep:=rep) ⟨_,(Hx1.out.mod Cx5.out (fun h=>h)),HPR.out,(Hx2.out.mod Cx5.out (fun _ _ h=>h)).widen (fun k h=>HQ.out k h),hnw,hfl,hla⟩ (by intro k1 h1;have h2:=HBRR.out k1 h1;omega) hmb (lookV_none HML.out)) (fun E=>args2 (E.d 0 2) (E.d 2 0)) ?_
 rintro e u3_3 ⟨rfl,hm⟩
 refine ⟨_,rfl,?_⟩
 have zu3_3:=hm.size
 have Cx6:=hid (show Mod (fun _=>False) u1_1 u3_3 from hm)
 clear hm
 refine QSeq.pure rfl _ (fun E=>Ah rfl (E.d 3 0)) ?_
 refine QSeq.pure rfl (zSt.val) (fun E=>A9 rfl (E.d 4 0) rfl) ?_
 refine QSeq.pure rfl (.bool false) (fun E=>A9 rfl (E.d 4 1) rfl) ?_
 refine QSeq.go fun act E=>?_
 refine qc_alloc rfl (Ab rfl) rfl (z:=[.int .i64 0,.int .i64 0,.int .i64 0,.int .u8 0,.int .u8 0,.int .u8 0,.int .u8 0,.int .u8 0,.int .u8 0,.int .u8 0,.int .u8 0,.int .u8 0,.int .u8 0,.int .u8 0,.int .u8 0,.int .u8 0,.int .u8 0,.int .u8 0,.int .u8 0,.int .u8 0,.int .u8 0,.int .u8 0,.int .u8 0,.int .u8 0,.int .u8 0,.int .u8 0,.int .u8 0,.int .u8 0,.int .u8 0,.int .u8 0,.int .u8 0,.int .u8 0,.int .u8 0,.int .u8 0,.int .u8 0,.int .u64 0,.int .i64 0,.int .i64 0]) (by kernel_rfl) ?_
 intro u3_7 qb8 hm
 have zl3_7:=qb8.lt
 have Hx7:=hid qb8
 have zu3_7:=hm.size
 have HMu3_7:=hid hm
 have Cx8:=hid (Cx6.out.goE hm)
 clear hm Cx6
 clear act E qb8
 refine QSeq.go fun act E=>?_
 have hlz:(zSt.cells).length=List.length ([.int .i64 0,.int .i64 0,.int .i64 0,.int .u8 0,.int .u8 0,.int .u8 0,.int .u8 0,.int .u8 0,.int .u8 0,.int .u8 0,.int .u8 0,.int .u8 0,.int .u8 0,.int .u8 0,.int .u8 0,.int .u8 0,.int .u8 0,.int .u8 0,.int .u8 0,.int .u8 0,.int .u8 0,.int .u8 0,.int .u8 0,.int .u8 0,.int .u8 0,.int .u8 0,.int .u8 0,.int .u8 0,.int .u8 0,.int .u8 0,.int .u8 0,.int .u8 0,.int .u8 0,.int .u8 0,.int .u8 0,.int .u64 0,.int .i64 0,.int .i64 0]:List Value):=(by rw [St.len Bt];rfl)
 refine Bc rfl (Ab rfl) rfl Hx7.out (off:=0) (vs:=zSt.cells) (by rw [hlz];kernel_rfl) (St.one zSt) (by rw [hlz];exact Nat.le_of_eq (Nat.zero_add _)) (E.d 7 0) (ec (E.d 5 2)) ?_
 intro u3_8 qc0 hm
 have qb8:=qc0.eqv (b:=(zSt.cells:List Value).toArray) (A0 (#[.int .i64 0,.int .i64 0,.int .i64 0,.int .u8 0,.int .u8 0,.int .u8 0,.int .u8 0,.int .u8 0,.int .u8 0,.int .u8 0,.int .u8 0,.int .u8 0,.int .u8 0,.int .u8 0,.int .u8 0,.int .u8 0,.int .u8 0,.int .u8 0,.int .u8 0,.int .u8 0,.int .u8 0,.int .u8 0,.int .u8 0,.int .u8 0,.int .u8 0,.int .u8 0,.int .u8 0,.int .u8 0,.int .u8 0,.int .u8 0,.int .u8 0,.int .u8 0,.int .u8 0,.int .u8 0,.int .u8 0,.int .u64 0,.int .i64 0,.int .i64 0]) _ (by rw [hlz];rfl))
 clear qc0 hlz
 have Hx9:=hid qb8
 have zu3_8:=hm.size
 have HMu3_8:=hid hm
 have Cx10:=hid (Mod.goS (S':=(fun _=>False)) Cx8.out hm (fun _ h=>h) (by intro k h0 h2;omega))
 clear hm Cx8
 clear act E qb8 Hx7
 refine QSeq.pure rfl _ (fun E=>An rfl (E.d 6 2)) ?_
 clear HMu3_7 HMu3_8
 refine QSeq.nil (t':=[_,_,_,_,_,_,_,_,_,_]) rfl ?_
 obtain rfl:=HA0.out
 clear HA0 oe0 oe5
 simp only [pz,Act.put,sIB,sCZ,sCS,List.set_nil]
 go_upto_region 4 with (fail)
 refine Al 92 [28] [0] (fun a0 HA0=>?_)
 have oe9:=ev HA0 9 rfl
 refine QSeq.pure rfl _ (fun E=>Ah rfl (E.v oe9)) ?_
 refine QSeq.nil (t':=[_]) rfl ?_
 obtain rfl:=HA0.out
 clear HA0 oe9
 simp only [pz,Act.put,sIB,sCZ,sCS]
 clear Hx9
 obtain ⟨fl,hfl2⟩:∃ x,x=s.floor+1:=⟨_,rfl⟩
 obtain ⟨ls,hls2⟩:∃ x,x=s.last+1:=⟨_,rfl⟩
 have htn:t=max (max s.now fl) ls:=by rw [hfl2,hls2];exact ht
 go_upto_region 8 with (fail)
 generalize ha0:Act.mk _ _=a0
 have oe0:a0.eval (.tmp 0)=.pointer (some ⟨p,0,none⟩):=by rw [← ha0];rfl
 have hsz0:a0.tmps.size=92:=by rw [← ha0];rfl
 have HA0:=hid ha0
 clear ha0
 refine Az 92 hsz0 [36,37,38,39,40,41,42,43,44,45,46,47,48,49,50,10] [qi (.pointer (some ⟨p,0,none⟩)),qi (.pointer (some ⟨p,0,none⟩)),qi (.pointer (some ⟨p,3,none⟩)),qi (.int .u64 (s.now:Nat)),qi (.pointer (some ⟨p,0,none⟩)),qi (.pointer (some ⟨p,0,none⟩)),qi (.pointer (some ⟨p,4,none⟩)),qi (.int .u64 (s.floor:Nat)),qi (.int .u64 ((fl:Nat):Int)),qi (.pointer (some ⟨p,0,none⟩)),qi (.pointer (some ⟨p,0,none⟩)),qi (.pointer (some ⟨p,5,none⟩)),qi (.int .u64 (s.last:Nat)),qi (.int .u64 ((ls:Nat):Int)),qi (.int .u64 ((t:Nat):Int)),qi (.int .u64 ((t:Nat):Int))] ⟨Aa,Aa,Aa,Aa,Aa,Aa,Aa,Aa,Aa,Aa,Aa,Aa,Aa,Aa,Aa,Aa,trivial⟩ [] ⟨?_,?_,?_,?_,?_,?_,?_,?_,?_,?_,?_,?_,?_,?_,?_,?_,trivial⟩ ?_
 ·exact stq (fun E=>Ah rfl (E.v oe0))
 ·exact stq (fun E=>A1 rfl (E.d 0))
 ·exact stq (fun E=>Ai rfl Try.underlying77 rfl (by kernel_rfl) (E.d 1))
 ·exact stq (fun E=>Am rfl Try.underlying45 rfl (E.d 2) (Cs.lit1 (((Hx1.out.mod Cx5.out (fun h=>h)).mod Cx10.out (fun h=>h)).mod E.m.old (by intro h2;omega)) rfl))
 ·exact stq (fun E=>Ah rfl (E.v oe0))
 ·exact stq (fun E=>A1 rfl (E.d 4))
 ·exact stq (fun E=>Ai rfl Try.underlying77 rfl (by kernel_rfl) (E.d 5))
 ·exact stq (fun E=>Am rfl Try.underlying45 rfl (E.d 6) (Cs.lit1 (((Hx1.out.mod Cx5.out (fun h=>h)).mod Cx10.out (fun h=>h)).mod E.m.old (by intro h2;omega)) rfl))
 ·exact stq (fun E=>Av rfl (E.d 7) rfl (Ak _ _ _ _ _ _) (Be _ _ Try.underlying45) (congrArg (Value.int .u64) (u64_eq (b:=((fl:Nat):Int)) (by omega) (by omega) (by omega))))
 ·exact stq (fun E=>Ah rfl (E.v oe0))
 ·exact stq (fun E=>A1 rfl (E.d 9))
 ·exact stq (fun E=>Ai rfl Try.underlying77 rfl (by kernel_rfl) (E.d 10))
 ·exact stq (fun E=>Am rfl Try.underlying45 rfl (E.d 11) (Cs.lit1 (((Hx1.out.mod Cx5.out (fun h=>h)).mod Cx10.out (fun h=>h)).mod E.m.old (by intro h2;omega)) rfl))
 ·exact stq (fun E=>Av rfl (E.d 12) rfl (Ak _ _ _ _ _ _) (Be _ _ Try.underlying45) (congrArg (Value.int .u64) (u64_eq (b:=((ls:Nat):Int)) (by omega) (by omega) (by omega))))
 ·exact stq (fun E=>ex_max3 (r:=((t:Nat):Int)) rfl (E.d 3) (E.d 8) (E.d 13) (by rw [htn];omega))
 ·exact stq (fun E=>An rfl (E.d 14))
 intro u8_0 hr
 have zu8_0:=hr.size
 have Cx11:=hid (hr.new (S:=(fun _=>False)))
 clear hr
 refine QChain.nil fun vs hl hzz hrows hne=>?_
 obtain ⟨Z,hYZ,hZb,hV⟩:=hzz
 have f0:=fvi hV hl 0
 have f4:=fvi hV hl 4
 have f9:=fvi hV hl 9
 have f14:=fvi hV hl 14
 have f15:=fvi hV hl 15
 rw [show vs=[gw vs 0,gw vs 1,gw vs 2,gw vs 3,gw vs 4,gw vs 5,gw vs 6,gw vs 7,gw vs 8,gw vs 9,gw vs 10,gw vs 11,gw vs 12,gw vs 13,gw vs 14,gw vs 15] from (Bh hl).trans rfl]
 have ha0:=HA0.out
 subst ha0
 clear HA0 hV hYZ hZb hsz0 hrows hne oe0
 simp only [Ar,Act.put,sIB,sCZ,sCS,f0,f4,f9,f14,f15]
 clear hl f0 f4 f9 f14 f15
 go_upto_region 9 with (fail)
 refine Al 92 [51,52] [0,1] (fun a0 HA0=>?_)
 have oe10:=ev HA0 10 rfl
 refine QSeq.pure rfl _ (fun E=>Ah rfl (E.v oe10)) ?_
 refine QSeq.pure rfl (.bool true) (fun E=>Av rfl (E.d 0 0) rfl (Ak _ _ _ _ _ _) (Bg _ _ _ Try.underlying45) (congrArg Value.bool (eq_tt (by omega)))) ?_
 refine QSeq.nil (t':=[_,_]) rfl ?_
 obtain rfl:=HA0.out
 clear HA0 oe10
 simp only [pz,Act.put,sIB,sCZ,sCS]
 go_upto_region 10 with (fail)
 refine Al 92 [53,93,7] [0,1,2] (fun a0 HA0=>?_)
 have oe6:=ev HA0 6 rfl
 refine QSeq.pure rfl (.agg (zSt.cells:List Value).toArray) (fun E=>ex_build0 rfl (r:=(zSt.cells:List Value).toArray) (by kernel_rfl)) ?_
 refine QSeq.go fun act E=>?_
 refine Bc rfl (Ab rfl) rfl (((HB6.out.mod Cx5.out (fun h=>h)).mod Cx10.out (fun h=>h)).mod Cx11.out (fun h=>h)) (off:=0) (vs:=zSt.cells) (by rw [St.len Bt];exact Bb) (St.one zSt) (by rw [St.len Bt];decide) (E.v oe6) (ec (E.d 0 0)) ?_
 intro u10_1 qc0 hm
 have qB6:=qc0.eqv (b:=(zSt.cells:List Value).toArray) (A0 _ _ (by rw [St.len Bt];rfl))
 clear qc0
 have Hx12:=hid qB6
 have zu10_1:=hm.size
 have Cx13:=hid (show Mod (fun k=>(k=w.heap.size+1)) u8_0 u10_1 from hm)
 clear hm
 clear act E qB6 HB6
 refine QSeq.pure rfl (.int .i64 4) (fun E=>An rfl rfl) ?_
 refine QSeq.nil (t':=[_,_,_]) rfl ?_
 obtain rfl:=HA0.out
 clear HA0 oe6
 simp only [pz,Act.put,sIB,sCZ,sCS,List.set_nil]
 go_wp2
 refine bodyPost_ret (Bm rfl _ _ (w.heap.size+1) (zSt.cells) rfl (fun k u hu=>by rw [Hx12.out.cell];simpa using hu) Try.underlying47 rfl (by rw [St.len Bt];exact Bb)) rfl ?_
 exact ⟨rfl,⟨_,((((Hx1.out.mod Cx5.out (fun h=>h)).mod Cx10.out (fun h=>h)).mod Cx11.out (fun h=>h)).mod Cx13.out (by intro h2;omega)),HPR.out,((((Hx2.out.mod Cx5.out (fun _ _ h=>h)).mod Cx10.out (fun _ _ h=>h)).mod Cx11.out (fun _ _ h=>h)).mod Cx13.out (sB HBQ)).widen (fun k h=>HQ.out k h),hnw,hfl,hla⟩,((((Hx3.out.mod Cx5.out (fun _ _ h=>h)).mod Cx10.out (fun _ _ h=>h)).mod Cx11.out (fun _ _ h=>h)).mod Cx13.out (sB HBB)),((((HM0.out.trans Cx5.out (fun _ _ h=>h.elim)).trans Cx10.out (fun _ _ h=>h.elim)).trans Cx11.out (fun _ _ h=>h.elim)).trans Cx13.out (by intro k h1 h2;omega))⟩
set_option maxHeartbeats 4000000 in
theorem RStamp_old {R Rb:Nat→Prop} {w:World} {p g:Nat} {f k rep:Int} {s:SS} {c:Cm} {L:List (Int × List Int)} (h:RpR R w p f k rep s) (hbk:RbO Rb w g L) (hB:∀ k,R k→k < w.heap.size) (hBb:∀ k,Rb k→k < w.heap.size) (hd:∀ k,R k→Rb k→False) (hap:Apart_ L) (hLL:L.length≤100000) (hmb:s.m.length≤100000) (hco:c.OK) (hsi:I64 (1000+c.cl)) (hrt:Bo L k c=true) {y:St} (hoks:∀ q ∈ s.m,q.2.OK) (hml:Bs s.m (c.cl,c.sq)=some y) (hhe:y.h=c.h) :
 Calls Try.prog 39 #[.pointer (some ⟨p,0,none⟩),.pointer (some ⟨g,0,none⟩),.agg c.cells.toArray] w fun e w'=>e=.returned (.tuple #[.agg y.cells.toArray,.int .i64 0])∧RpR R w' p f k rep s∧RbO Rb w' g L∧Mod (fun _=>False) w w':=by
 have HBRR:=Lib.hid hB
 obtain ⟨v0,hc,hp,hl0,hnw,hfl,hla⟩:=h
 obtain ⟨Q,hQ,hl⟩:∃ Q:Nat→Prop,(∀ k,Q k→R k∧k≠p)∧RdS GvR Q w v0 s.m:=⟨_,fun _ h=>h,hl0⟩
 obtain ⟨ao,cap,rfl⟩:=hl.shape
 have hpl:=hc.lt
 have hU:U64=18446744073709551616:=rfl
 have HC:=hid (show Cs w p #[.int .i64 f,.int .i64 k,.int .i64 rep,.int .u64 (s.now:Nat),.int .u64 (s.floor:Nat),.int .u64 (s.last:Nat),.slice ao s.m.length cap] 77 from hc)
 have HLS:=Lib.hid hl
 have HQ:=Lib.hid hQ
 have HPR:=Lib.hid hp
 have HBQ:=hid (fun k (h:Q k)=>hB k (hQ k h).1)
 have HXQ:=hid (fun (h:Q p)=>(hQ p h).2 rfl)
 clear hc hp hl0 hl hQ hB
 have HBK:=Lib.hid hbk
 have HBB:=Lib.hid hBb
 have HDJ:=hid (fun k (h:Q k) (h2:Rb k)=>hd k (HQ.out k h).1 h2)
 have HCO:=Lib.hid hco
 have HSI:=Lib.hid hsi
 have HRT:=Lib.hid hrt
 have HAP:=Lib.hid hap
 have HLL:=Lib.hid hLL
 have HNPR:=hid (fun (h:Rb p)=>hd p HPR.out h)
 have HDD:=Lib.hid hd
 clear hbk hBb hd hco hsi hrt hap hLL
 have HML:=Lib.hid hml
 clear hml
 have HNK:=hid (show NmK (c.cl,c.sq) from ⟨HCO.out.1.1,HCO.out.1.2.1⟩)
 have HYO:=hid (mlook_ok hoks HML.out)
 clear hoks
 change Calls _ _ #[.pointer (some ⟨p,0,none⟩),.pointer (some ⟨g,0,none⟩),.agg (c.cells:List Value).toArray] _ _
 go_enter Try.func39,Try.ntmps39
 go_upto_region 1 with (fail)
 obtain ⟨w1,hw1⟩:∃ zz,zz=((w.alloc (.cells (c.cells:List Value).toArray 36)).alloc (.cells #[.int .i64 0,.int .i64 0,.int .i64 0,.int .u8 0,.int .u8 0,.int .u8 0,.int .u8 0,.int .u8 0,.int .u8 0,.int .u8 0,.int .u8 0,.int .u8 0,.int .u8 0,.int .u8 0,.int .u8 0,.int .u8 0,.int .u8 0,.int .u8 0,.int .u8 0,.int .u8 0,.int .u8 0,.int .u8 0,.int .u8 0,.int .u8 0,.int .u8 0,.int .u8 0,.int .u8 0,.int .u8 0,.int .u8 0,.int .u8 0,.int .u8 0,.int .u8 0,.int .u8 0,.int .u8 0,.int .u8 0,.int .u64 0,.int .i64 0,.int .i64 0] 47)):=⟨_,rfl⟩
 change Code.wp _ _ _ _ ((w.alloc (.cells (c.cells:List Value).toArray 36)).alloc (.cells #[.int .i64 0,.int .i64 0,.int .i64 0,.int .u8 0,.int .u8 0,.int .u8 0,.int .u8 0,.int .u8 0,.int .u8 0,.int .u8 0,.int .u8 0,.int .u8 0,.int .u8 0,.int .u8 0,.int .u8 0,.int .u8 0,.int .u8 0,.int .u8 0,.int .u8 0,.int .u8 0,.int .u8 0,.int .u8 0,.int .u8 0,.int .u8 0,.int .u8 0,.int .u8 0,.int .u8 0,.int .u8 0,.int .u8 0,.int .u8 0,.int .u8 0,.int .u8 0,.int .u8 0,.int .u8 0,.int .u8 0,.int .u64 0,.int .i64 0,.int .i64 0] 47))
 rw [← hw1]
 have HB5:=hid (show Cs w1 (w.heap.size) (c.cells:List Value).toArray 36 by rw [hw1];exact (Cs.new _ _ _).alloc _)
 have HB6:=hid (show Cs w1 (w.heap.size+1) #[.int .i64 0,.int .i64 0,.int .i64 0,.int .u8 0,.int .u8 0,.int .u8 0,.int .u8 0,.int .u8 0,.int .u8 0,.int .u8 0,.int .u8 0,.int .u8 0,.int .u8 0,.int .u8 0,.int .u8 0,.int .u8 0,.int .u8 0,.int .u8 0,.int .u8 0,.int .u8 0,.int .u8 0,.int .u8 0,.int .u8 0,.int .u8 0,.int .u8 0,.int .u8 0,.int .u8 0,.int .u8 0,.int .u8 0,.int .u8 0,.int .u8 0,.int .u8 0,.int .u8 0,.int .u8 0,.int .u8 0,.int .u64 0,.int .i64 0,.int .i64 0] 47 by rw [hw1];exact Cs_newN _ _ _ (by simp))
 have hm:Mod (fun _=>False) w w1:=by rw [hw1];exact ((Mod.refl _ _).alloc _).alloc _
 have HM0:=hid (show Mod (fun _=>False) w w1 from hm.mono (fun _ _ h=>h.elim))
 have hs1:w1.heap.size=w.heap.size+2:=by rw [hw1];simp
 have Hx1:=hid (HC.out.mod hm (fun h=>h))
 clear HC
 have Hx2:=hid (HLS.out.mod hm (fun _ _ h=>h))
 clear HLS
 have Hx3:=hid (HBK.out.mod hm (fun _ _ h=>h))
 clear HBK
 clear hw1 hm
 go_upto_region 1 with (fail)
 generalize ha0:Act.mk _ _=a0
 have oe0:a0.eval (.tmp 0)=.pointer (some ⟨p,0,none⟩):=by rw [← ha0];rfl
 have oe1:a0.eval (.tmp 1)=.pointer (some ⟨g,0,none⟩):=by rw [← ha0];rfl
 have oe5:a0.eval (.tmp 5)=.pointer (some ⟨w.heap.size,0,none⟩):=by rw [← ha0];rfl
 have hsz0:a0.tmps.size=92:=by rw [← ha0];rfl
 have HA0:=hid ha0
 clear ha0
 refine Az 92 hsz0 [12,13,14,15,16,17,18,19] [qi (.pointer (some ⟨p,0,none⟩)),qi (.pointer (some ⟨p,0,none⟩)),qi (.pointer (some ⟨p,0,none⟩)),qi (.agg #[.int .i64 f,.int .i64 k]),qi (.pointer (some ⟨g,0,none⟩)),qi (c.val),qi (.bool true),qi (.bool false)] ⟨Aa,Aa,Aa,Aa,Aa,Aa,Aa,Aa,trivial⟩ [6] ⟨?_,?_,?_,?_,?_,?_,?_,?_,trivial⟩ ?_
 ·exact stq (fun E=>Ah rfl (E.v oe0))
 ·exact stq (fun E=>A1 rfl (E.d 0))
 ·exact stq (fun E=>Ai rfl Try.underlying77 rfl (by kernel_rfl) (E.d 1))
 ·exact stq (fun E=>Ap rfl Try.underlying26 rfl (off:=0) (cs:=[.int .i64 f,.int .i64 k]) (by kernel_rfl) (E.d 2) (Cs.litA (Hx1.out.mod E.m.old (by intro h2;omega)) rfl))
 ·exact stq (fun E=>Ah rfl (E.v oe1))
 ·exact stq (fun E=>Ap rfl Try.underlying36 rfl (off:=0) (cs:=c.cells) (by rw [Cm.len HCO.out.2.1];exact Bd) (E.v oe5) (Cs.whole (HB5.out.mod E.m.old (by intro h2;omega))))
 ·exact Au rfl
 ·exact stq (fun E=>ex_not rfl (E.d 6))
 intro u1_0 hr
 have zu1_0:=hr.size
 have Cx4:=hid (hr.new (S:=(fun _=>False)))
 clear hr
 refine QChain.go fun Z act E=>?_
 refine Ax (args:=#[.agg #[.int .i64 f,.int .i64 k],.pointer (some ⟨g,0,none⟩),c.val]) rfl (Ab rfl) rfl Try.func58 (args3 (E.d 3) (E.d 4) (E.d 5)) (RRightC_Q (Hx3.out.mod Cx4.out (fun _ _ h=>h)) (by intro k h1;have hb:=HBB.out k h1;omega) HAP.out HLL.out f k c HCO.out HSI.out HRT.out) ?_
 rintro e u1_1a ⟨rfl,hm⟩
 have zu1_1a:=hm.size
 refine ⟨_,rfl,hm.mono (fun _ _ h=>h.elim),(fun _=>rfl),?_⟩
 intro u1_1 hr
 have zu1_1:=hr.size
 have Cx5:=hid (Cx4.out.go hm hr)
 clear Cx4 hm hr Z act E
 refine QChain.nil fun vs hl hzz hrows hne=>?_
 obtain ⟨Z,hYZ,hZb,hV⟩:=hzz
 have f0:=fvi hV hl 0
 have f4:=fvi hV hl 4
 have f6:=fvi hV hl 6
 have f7:=fvi hV hl 7
 rw [show vs=[gw vs 0,gw vs 1,gw vs 2,gw vs 3,gw vs 4,gw vs 5,gw vs 6,gw vs 7] from (Bh hl).trans rfl]
 have ha0:=HA0.out
 subst ha0
 clear HA0 hV hYZ hZb hsz0 hrows hne oe0 oe1 oe5
 simp only [Ar,Act.put,sIB,sCZ,sCS,f0,f4,f6,f7]
 clear hl f0 f4 f6 f7
 go_upto_region 3 with (fail)
 refine Al 92 [22,23,24,25,21,26,27,8,100,9] [0,1,2,3,4,5,6,7,8,9] (fun a0 HA0=>?_)
 have oe0:=ev HA0 0 rfl
 have oe5:=ev HA0 5 rfl
 refine QSeq.pure rfl _ (fun E=>Ah rfl (E.v oe0)) ?_
 refine QSeq.pure rfl (.pointer (some ⟨w.heap.size,0,none⟩)) (fun E=>Ai rfl Try.underlying36 rfl (by kernel_rfl) (E.v oe5)) ?_
 refine QSeq.pure rfl _ (fun E=>Ap rfl Try.underlying30 rfl (off:=0) (cs:=[.int .i64 c.cl,.int .i64 c.sq]) (by kernel_rfl) (E.d 1 0) (Cs.preA (pre:=[.int .i64 c.cl,.int .i64 c.sq]) (mid:=c.h.map bv) (post:=[.int .i64 c.ln,.int .i64 c.sb,.int .i64 c.mr]) (HB5.out.mod Cx5.out (fun h=>h)) rfl)) ?_
 refine QSeq.call rfl rfl Try.func40 (ROf_V (n:=(c.cl,c.sq)) (s:=s) (f:=f) (k:=k) (rep:=rep) ⟨_,(Hx1.out.mod Cx5.out (fun h=>h)),HPR.out,(Hx2.out.mod Cx5.out (fun _ _ h=>h)).widen (fun k h=>HQ.out k h),hnw,hfl,hla⟩ (by intro k1 h1;have h2:=HBRR.out k1 h1;omega) hmb (lookV_some HML.out)) (fun E=>args2 (E.d 0 2) (E.d 2 0)) ?_
 rintro e u3_3 ⟨rfl,hm⟩
 refine ⟨_,rfl,?_⟩
 have zu3_3:=hm.size
 have Cx6:=hid (show Mod (fun _=>False) u1_1 u3_3 from hm)
 clear hm
 refine QSeq.pure rfl _ (fun E=>Ah rfl (E.d 3 0)) ?_
 refine QSeq.pure rfl (y.val) (fun E=>A9 rfl (E.d 4 0) rfl) ?_
 refine QSeq.pure rfl (.bool true) (fun E=>A9 rfl (E.d 4 1) rfl) ?_
 refine QSeq.go fun act E=>?_
 refine qc_alloc rfl (Ab rfl) rfl (z:=[.int .i64 0,.int .i64 0,.int .i64 0,.int .u8 0,.int .u8 0,.int .u8 0,.int .u8 0,.int .u8 0,.int .u8 0,.int .u8 0,.int .u8 0,.int .u8 0,.int .u8 0,.int .u8 0,.int .u8 0,.int .u8 0,.int .u8 0,.int .u8 0,.int .u8 0,.int .u8 0,.int .u8 0,.int .u8 0,.int .u8 0,.int .u8 0,.int .u8 0,.int .u8 0,.int .u8 0,.int .u8 0,.int .u8 0,.int .u8 0,.int .u8 0,.int .u8 0,.int .u8 0,.int .u8 0,.int .u8 0,.int .u64 0,.int .i64 0,.int .i64 0]) (by kernel_rfl) ?_
 intro u3_7 qb8 hm
 have zl3_7:=qb8.lt
 have Hx7:=hid qb8
 have zu3_7:=hm.size
 have HMu3_7:=hid hm
 have Cx8:=hid (Cx6.out.goE hm)
 clear hm Cx6
 clear act E qb8
 refine QSeq.go fun act E=>?_
 have hlz:(y.cells).length=List.length ([.int .i64 0,.int .i64 0,.int .i64 0,.int .u8 0,.int .u8 0,.int .u8 0,.int .u8 0,.int .u8 0,.int .u8 0,.int .u8 0,.int .u8 0,.int .u8 0,.int .u8 0,.int .u8 0,.int .u8 0,.int .u8 0,.int .u8 0,.int .u8 0,.int .u8 0,.int .u8 0,.int .u8 0,.int .u8 0,.int .u8 0,.int .u8 0,.int .u8 0,.int .u8 0,.int .u8 0,.int .u8 0,.int .u8 0,.int .u8 0,.int .u8 0,.int .u8 0,.int .u8 0,.int .u8 0,.int .u8 0,.int .u64 0,.int .i64 0,.int .i64 0]:List Value):=(by rw [St.len HYO.out];rfl)
 refine Bc rfl (Ab rfl) rfl Hx7.out (off:=0) (vs:=y.cells) (by rw [hlz];kernel_rfl) (St.one y) (by rw [hlz];exact Nat.le_of_eq (Nat.zero_add _)) (E.d 7 0) (ec (E.d 5 2)) ?_
 intro u3_8 qc0 hm
 have qb8:=qc0.eqv (b:=(y.cells:List Value).toArray) (A0 (#[.int .i64 0,.int .i64 0,.int .i64 0,.int .u8 0,.int .u8 0,.int .u8 0,.int .u8 0,.int .u8 0,.int .u8 0,.int .u8 0,.int .u8 0,.int .u8 0,.int .u8 0,.int .u8 0,.int .u8 0,.int .u8 0,.int .u8 0,.int .u8 0,.int .u8 0,.int .u8 0,.int .u8 0,.int .u8 0,.int .u8 0,.int .u8 0,.int .u8 0,.int .u8 0,.int .u8 0,.int .u8 0,.int .u8 0,.int .u8 0,.int .u8 0,.int .u8 0,.int .u8 0,.int .u8 0,.int .u8 0,.int .u64 0,.int .i64 0,.int .i64 0]) _ (by rw [hlz];rfl))
 clear qc0 hlz
 have Hx9:=hid qb8
 have zu3_8:=hm.size
 have HMu3_8:=hid hm
 have Cx10:=hid (Mod.goS (S':=(fun _=>False)) Cx8.out hm (fun _ h=>h) (by intro k h0 h2;omega))
 clear hm Cx8
 clear act E qb8 Hx7
 refine QSeq.pure rfl _ (fun E=>An rfl (E.d 6 2)) ?_
 clear HMu3_7 HMu3_8
 refine QSeq.nil (t':=[_,_,_,_,_,_,_,_,_,_]) rfl ?_
 obtain rfl:=HA0.out
 clear HA0 oe0 oe5
 simp only [pz,Act.put,sIB,sCZ,sCS,List.set_nil]
 go_upto_region 4 with (fail)
 refine Al 92 [28] [0] (fun a0 HA0=>?_)
 have oe9:=ev HA0 9 rfl
 refine QSeq.pure rfl _ (fun E=>Ah rfl (E.v oe9)) ?_
 refine QSeq.nil (t':=[_]) rfl ?_
 obtain rfl:=HA0.out
 clear HA0 oe9
 simp only [pz,Act.put,sIB,sCZ,sCS]
 have HHE:=Lib.hid hhe
 clear hhe
 go_upto_region 5 with (fail)
 refine Al 92 [29,30,31,32,33] [0,1,2,3,4] (fun a0 HA0=>?_)
 have oe5:=ev HA0 5 rfl
 have oe8:=ev HA0 8 rfl
 refine QSeq.pure rfl (.pointer (some ⟨u3_3.heap.size,3,none⟩)) (fun E=>Ai rfl Try.underlying47 rfl (by kernel_rfl) (E.v oe8)) ?_
 refine QSeq.pure rfl _ (fun E=>Ap rfl Try.underlying32 rfl (off:=3) (cs:=y.h.map bv) (by rw [List.length_map,HYO.out.h.1];exact Bj) (E.d 0 0) (Cs.midA Hx9.out rfl)) ?_
 refine QSeq.pure rfl (.pointer (some ⟨w.heap.size,2,none⟩)) (fun E=>Ai rfl Try.underlying36 rfl (by kernel_rfl) (E.v oe5)) ?_
 refine QSeq.pure rfl _ (fun E=>Ap rfl Try.underlying32 rfl (off:=2) (cs:=c.h.map bv) (by rw [List.length_map,HCO.out.2.1];exact Bj) (E.d 2 0) (((HB5.out.mod Cx5.out (fun h=>h)).mod Cx10.out (fun h=>h)).hash)) ?_
 refine QSeq.pure rfl (.bool false) (fun E=>Av rfl (E.d 1 2) (E.d 3 0) (agg_guardE _ _ _ _ _ _ (by kernel_rfl) _) (run_neq_hv HYO.out.h.1 HCO.out.2.1 (c:=true) (by simp only [true_iff];exact HHE.out) _) rfl) ?_
 refine QSeq.nil (t':=[_,_,_,_,_]) rfl ?_
 obtain rfl:=HA0.out
 clear HA0 oe5 oe8
 simp only [pz,Act.put,sIB,sCZ,sCS]
 go_upto_region 7 with (fail)
 refine Al 92 [35,93,7] [0,1,2] (fun a0 HA0=>?_)
 have oe6:=ev HA0 6 rfl
 have oe8:=ev HA0 8 rfl
 refine QSeq.pure rfl _ (fun E=>Ap rfl Try.underlying47 rfl (off:=0) (cs:=y.cells) (by rw [St.len HYO.out];exact Bb) (E.v oe8) (Cs.whole Hx9.out)) ?_
 refine QSeq.go fun act E=>?_
 refine Bc rfl (Ab rfl) rfl ((HB6.out.mod Cx5.out (fun h=>h)).mod Cx10.out (fun h=>h)) (off:=0) (vs:=y.cells) (by rw [St.len HYO.out];exact Bb) (St.one y) (by rw [St.len HYO.out];decide) (E.v oe6) (ec (E.d 0 0)) ?_
 intro u7_1 qc0 hm
 have qB6:=qc0.eqv (b:=(y.cells:List Value).toArray) (A0 _ _ (by rw [St.len HYO.out];rfl))
 clear qc0
 have Hx11:=hid qB6
 have zu7_1:=hm.size
 have Cx12:=hid (show Mod (fun k=>(k=w.heap.size+1)) u3_8 u7_1 from hm)
 clear hm
 clear act E qB6 HB6
 refine QSeq.pure rfl (.int .i64 0) (fun E=>An rfl rfl) ?_
 refine QSeq.nil (t':=[_,_,_]) rfl ?_
 obtain rfl:=HA0.out
 clear HA0 oe6 oe8
 simp only [pz,Act.put,sIB,sCZ,sCS,List.set_nil]
 go_wp2
 refine bodyPost_ret (Bm rfl _ _ (w.heap.size+1) (y.cells) rfl (fun k u hu=>by rw [Hx11.out.cell];simpa using hu) Try.underlying47 rfl (by rw [St.len HYO.out];exact Bb)) rfl ?_
 exact ⟨rfl,⟨_,(((Hx1.out.mod Cx5.out (fun h=>h)).mod Cx10.out (fun h=>h)).mod Cx12.out (by intro h2;omega)),HPR.out,(((Hx2.out.mod Cx5.out (fun _ _ h=>h)).mod Cx10.out (fun _ _ h=>h)).mod Cx12.out (sB HBQ)).widen (fun k h=>HQ.out k h),hnw,hfl,hla⟩,(((Hx3.out.mod Cx5.out (fun _ _ h=>h)).mod Cx10.out (fun _ _ h=>h)).mod Cx12.out (sB HBB)),(((HM0.out.trans Cx5.out (fun _ _ h=>h.elim)).trans Cx10.out (fun _ _ h=>h.elim)).trans Cx12.out (by intro k h1 h2;omega))⟩
set_option maxHeartbeats 4000000 in
theorem RStamp_other {R Rb:Nat→Prop} {w:World} {p g:Nat} {f k rep:Int} {s:SS} {c:Cm} {L:List (Int × List Int)} (h:RpR R w p f k rep s) (hbk:RbO Rb w g L) (hB:∀ k,R k→k < w.heap.size) (hBb:∀ k,Rb k→k < w.heap.size) (hd:∀ k,R k→Rb k→False) (hap:Apart_ L) (hLL:L.length≤100000) (hmb:s.m.length≤100000) (hco:c.OK) (hsi:I64 (1000+c.cl)) (hrt:Bo L k c=true) {y:St} (hoks:∀ q ∈ s.m,q.2.OK) (hml:Bs s.m (c.cl,c.sq)=some y) (hhe:y.h≠c.h) :
 Calls Try.prog 39 #[.pointer (some ⟨p,0,none⟩),.pointer (some ⟨g,0,none⟩),.agg c.cells.toArray] w fun e w'=>e=.returned (.tuple #[.agg zSt.cells.toArray,.int .i64 5])∧RpR R w' p f k rep s∧RbO Rb w' g L∧Mod (fun _=>False) w w':=by
 have HBRR:=Lib.hid hB
 obtain ⟨v0,hc,hp,hl0,hnw,hfl,hla⟩:=h
 obtain ⟨Q,hQ,hl⟩:∃ Q:Nat→Prop,(∀ k,Q k→R k∧k≠p)∧RdS GvR Q w v0 s.m:=⟨_,fun _ h=>h,hl0⟩
 obtain ⟨ao,cap,rfl⟩:=hl.shape
 have hpl:=hc.lt
 have hU:U64=18446744073709551616:=rfl
 have HC:=hid (show Cs w p #[.int .i64 f,.int .i64 k,.int .i64 rep,.int .u64 (s.now:Nat),.int .u64 (s.floor:Nat),.int .u64 (s.last:Nat),.slice ao s.m.length cap] 77 from hc)
 have HLS:=Lib.hid hl
 have HQ:=Lib.hid hQ
 have HPR:=Lib.hid hp
 have HBQ:=hid (fun k (h:Q k)=>hB k (hQ k h).1)
 have HXQ:=hid (fun (h:Q p)=>(hQ p h).2 rfl)
 clear hc hp hl0 hl hQ hB
 have HBK:=Lib.hid hbk
 have HBB:=Lib.hid hBb
 have HDJ:=hid (fun k (h:Q k) (h2:Rb k)=>hd k (HQ.out k h).1 h2)
 have HCO:=Lib.hid hco
 have HSI:=Lib.hid hsi
 have HRT:=Lib.hid hrt
 have HAP:=Lib.hid hap
 have HLL:=Lib.hid hLL
 have HNPR:=hid (fun (h:Rb p)=>hd p HPR.out h)
 have HDD:=Lib.hid hd
 clear hbk hBb hd hco hsi hrt hap hLL
 have HML:=Lib.hid hml
 clear hml
 have HNK:=hid (show NmK (c.cl,c.sq) from ⟨HCO.out.1.1,HCO.out.1.2.1⟩)
 have HYO:=hid (mlook_ok hoks HML.out)
 clear hoks
 change Calls _ _ #[.pointer (some ⟨p,0,none⟩),.pointer (some ⟨g,0,none⟩),.agg (c.cells:List Value).toArray] _ _
 go_enter Try.func39,Try.ntmps39
 go_upto_region 1 with (fail)
 obtain ⟨w1,hw1⟩:∃ zz,zz=((w.alloc (.cells (c.cells:List Value).toArray 36)).alloc (.cells #[.int .i64 0,.int .i64 0,.int .i64 0,.int .u8 0,.int .u8 0,.int .u8 0,.int .u8 0,.int .u8 0,.int .u8 0,.int .u8 0,.int .u8 0,.int .u8 0,.int .u8 0,.int .u8 0,.int .u8 0,.int .u8 0,.int .u8 0,.int .u8 0,.int .u8 0,.int .u8 0,.int .u8 0,.int .u8 0,.int .u8 0,.int .u8 0,.int .u8 0,.int .u8 0,.int .u8 0,.int .u8 0,.int .u8 0,.int .u8 0,.int .u8 0,.int .u8 0,.int .u8 0,.int .u8 0,.int .u8 0,.int .u64 0,.int .i64 0,.int .i64 0] 47)):=⟨_,rfl⟩
 change Code.wp _ _ _ _ ((w.alloc (.cells (c.cells:List Value).toArray 36)).alloc (.cells #[.int .i64 0,.int .i64 0,.int .i64 0,.int .u8 0,.int .u8 0,.int .u8 0,.int .u8 0,.int .u8 0,.int .u8 0,.int .u8 0,.int .u8 0,.int .u8 0,.int .u8 0,.int .u8 0,.int .u8 0,.int .u8 0,.int .u8 0,.int .u8 0,.int .u8 0,.int .u8 0,.int .u8 0,.int .u8 0,.int .u8 0,.int .u8 0,.int .u8 0,.int .u8 0,.int .u8 0,.int .u8 0,.int .u8 0,.int .u8 0,.int .u8 0,.int .u8 0,.int .u8 0,.int .u8 0,.int .u8 0,.int .u64 0,.int .i64 0,.int .i64 0] 47))
 rw [← hw1]
 have HB5:=hid (show Cs w1 (w.heap.size) (c.cells:List Value).toArray 36 by rw [hw1];exact (Cs.new _ _ _).alloc _)
 have HB6:=hid (show Cs w1 (w.heap.size+1) #[.int .i64 0,.int .i64 0,.int .i64 0,.int .u8 0,.int .u8 0,.int .u8 0,.int .u8 0,.int .u8 0,.int .u8 0,.int .u8 0,.int .u8 0,.int .u8 0,.int .u8 0,.int .u8 0,.int .u8 0,.int .u8 0,.int .u8 0,.int .u8 0,.int .u8 0,.int .u8 0,.int .u8 0,.int .u8 0,.int .u8 0,.int .u8 0,.int .u8 0,.int .u8 0,.int .u8 0,.int .u8 0,.int .u8 0,.int .u8 0,.int .u8 0,.int .u8 0,.int .u8 0,.int .u8 0,.int .u8 0,.int .u64 0,.int .i64 0,.int .i64 0] 47 by rw [hw1];exact Cs_newN _ _ _ (by simp))
 have hm:Mod (fun _=>False) w w1:=by rw [hw1];exact ((Mod.refl _ _).alloc _).alloc _
 have HM0:=hid (show Mod (fun _=>False) w w1 from hm.mono (fun _ _ h=>h.elim))
 have hs1:w1.heap.size=w.heap.size+2:=by rw [hw1];simp
 have Hx1:=hid (HC.out.mod hm (fun h=>h))
 clear HC
 have Hx2:=hid (HLS.out.mod hm (fun _ _ h=>h))
 clear HLS
 have Hx3:=hid (HBK.out.mod hm (fun _ _ h=>h))
 clear HBK
 clear hw1 hm
 go_upto_region 1 with (fail)
 generalize ha0:Act.mk _ _=a0
 have oe0:a0.eval (.tmp 0)=.pointer (some ⟨p,0,none⟩):=by rw [← ha0];rfl
 have oe1:a0.eval (.tmp 1)=.pointer (some ⟨g,0,none⟩):=by rw [← ha0];rfl
 have oe5:a0.eval (.tmp 5)=.pointer (some ⟨w.heap.size,0,none⟩):=by rw [← ha0];rfl
 have hsz0:a0.tmps.size=92:=by rw [← ha0];rfl
 have HA0:=hid ha0
 clear ha0
 refine Az 92 hsz0 [12,13,14,15,16,17,18,19] [qi (.pointer (some ⟨p,0,none⟩)),qi (.pointer (some ⟨p,0,none⟩)),qi (.pointer (some ⟨p,0,none⟩)),qi (.agg #[.int .i64 f,.int .i64 k]),qi (.pointer (some ⟨g,0,none⟩)),qi (c.val),qi (.bool true),qi (.bool false)] ⟨Aa,Aa,Aa,Aa,Aa,Aa,Aa,Aa,trivial⟩ [6] ⟨?_,?_,?_,?_,?_,?_,?_,?_,trivial⟩ ?_
 ·exact stq (fun E=>Ah rfl (E.v oe0))
 ·exact stq (fun E=>A1 rfl (E.d 0))
 ·exact stq (fun E=>Ai rfl Try.underlying77 rfl (by kernel_rfl) (E.d 1))
 ·exact stq (fun E=>Ap rfl Try.underlying26 rfl (off:=0) (cs:=[.int .i64 f,.int .i64 k]) (by kernel_rfl) (E.d 2) (Cs.litA (Hx1.out.mod E.m.old (by intro h2;omega)) rfl))
 ·exact stq (fun E=>Ah rfl (E.v oe1))
 ·exact stq (fun E=>Ap rfl Try.underlying36 rfl (off:=0) (cs:=c.cells) (by rw [Cm.len HCO.out.2.1];exact Bd) (E.v oe5) (Cs.whole (HB5.out.mod E.m.old (by intro h2;omega))))
 ·exact Au rfl
 ·exact stq (fun E=>ex_not rfl (E.d 6))
 intro u1_0 hr
 have zu1_0:=hr.size
 have Cx4:=hid (hr.new (S:=(fun _=>False)))
 clear hr
 refine QChain.go fun Z act E=>?_
 refine Ax (args:=#[.agg #[.int .i64 f,.int .i64 k],.pointer (some ⟨g,0,none⟩),c.val]) rfl (Ab rfl) rfl Try.func58 (args3 (E.d 3) (E.d 4) (E.d 5)) (RRightC_Q (Hx3.out.mod Cx4.out (fun _ _ h=>h)) (by intro k h1;have hb:=HBB.out k h1;omega) HAP.out HLL.out f k c HCO.out HSI.out HRT.out) ?_
 rintro e u1_1a ⟨rfl,hm⟩
 have zu1_1a:=hm.size
 refine ⟨_,rfl,hm.mono (fun _ _ h=>h.elim),(fun _=>rfl),?_⟩
 intro u1_1 hr
 have zu1_1:=hr.size
 have Cx5:=hid (Cx4.out.go hm hr)
 clear Cx4 hm hr Z act E
 refine QChain.nil fun vs hl hzz hrows hne=>?_
 obtain ⟨Z,hYZ,hZb,hV⟩:=hzz
 have f0:=fvi hV hl 0
 have f4:=fvi hV hl 4
 have f6:=fvi hV hl 6
 have f7:=fvi hV hl 7
 rw [show vs=[gw vs 0,gw vs 1,gw vs 2,gw vs 3,gw vs 4,gw vs 5,gw vs 6,gw vs 7] from (Bh hl).trans rfl]
 have ha0:=HA0.out
 subst ha0
 clear HA0 hV hYZ hZb hsz0 hrows hne oe0 oe1 oe5
 simp only [Ar,Act.put,sIB,sCZ,sCS,f0,f4,f6,f7]
 clear hl f0 f4 f6 f7
 go_upto_region 3 with (fail)
 refine Al 92 [22,23,24,25,21,26,27,8,100,9] [0,1,2,3,4,5,6,7,8,9] (fun a0 HA0=>?_)
 have oe0:=ev HA0 0 rfl
 have oe5:=ev HA0 5 rfl
 refine QSeq.pure rfl _ (fun E=>Ah rfl (E.v oe0)) ?_
 refine QSeq.pure rfl (.pointer (some ⟨w.heap.size,0,none⟩)) (fun E=>Ai rfl Try.underlying36 rfl (by kernel_rfl) (E.v oe5)) ?_
 refine QSeq.pure rfl _ (fun E=>Ap rfl Try.underlying30 rfl (off:=0) (cs:=[.int .i64 c.cl,.int .i64 c.sq]) (by kernel_rfl) (E.d 1 0) (Cs.preA (pre:=[.int .i64 c.cl,.int .i64 c.sq]) (mid:=c.h.map bv) (post:=[.int .i64 c.ln,.int .i64 c.sb,.int .i64 c.mr]) (HB5.out.mod Cx5.out (fun h=>h)) rfl)) ?_
 refine QSeq.call rfl rfl Try.func40 (ROf_V (n:=(c.cl,c.sq)) (s:=s) (f:=f) (k:=k) (rep:=rep) ⟨_,(Hx1.out.mod Cx5.out (fun h=>h)),HPR.out,(Hx2.out.mod Cx5.out (fun _ _ h=>h)).widen (fun k h=>HQ.out k h),hnw,hfl,hla⟩ (by intro k1 h1;have h2:=HBRR.out k1 h1;omega) hmb (lookV_some HML.out)) (fun E=>args2 (E.d 0 2) (E.d 2 0)) ?_
 rintro e u3_3 ⟨rfl,hm⟩
 refine ⟨_,rfl,?_⟩
 have zu3_3:=hm.size
 have Cx6:=hid (show Mod (fun _=>False) u1_1 u3_3 from hm)
 clear hm
 refine QSeq.pure rfl _ (fun E=>Ah rfl (E.d 3 0)) ?_
 refine QSeq.pure rfl (y.val) (fun E=>A9 rfl (E.d 4 0) rfl) ?_
 refine QSeq.pure rfl (.bool true) (fun E=>A9 rfl (E.d 4 1) rfl) ?_
 refine QSeq.go fun act E=>?_
 refine qc_alloc rfl (Ab rfl) rfl (z:=[.int .i64 0,.int .i64 0,.int .i64 0,.int .u8 0,.int .u8 0,.int .u8 0,.int .u8 0,.int .u8 0,.int .u8 0,.int .u8 0,.int .u8 0,.int .u8 0,.int .u8 0,.int .u8 0,.int .u8 0,.int .u8 0,.int .u8 0,.int .u8 0,.int .u8 0,.int .u8 0,.int .u8 0,.int .u8 0,.int .u8 0,.int .u8 0,.int .u8 0,.int .u8 0,.int .u8 0,.int .u8 0,.int .u8 0,.int .u8 0,.int .u8 0,.int .u8 0,.int .u8 0,.int .u8 0,.int .u8 0,.int .u64 0,.int .i64 0,.int .i64 0]) (by kernel_rfl) ?_
 intro u3_7 qb8 hm
 have zl3_7:=qb8.lt
 have Hx7:=hid qb8
 have zu3_7:=hm.size
 have HMu3_7:=hid hm
 have Cx8:=hid (Cx6.out.goE hm)
 clear hm Cx6
 clear act E qb8
 refine QSeq.go fun act E=>?_
 have hlz:(y.cells).length=List.length ([.int .i64 0,.int .i64 0,.int .i64 0,.int .u8 0,.int .u8 0,.int .u8 0,.int .u8 0,.int .u8 0,.int .u8 0,.int .u8 0,.int .u8 0,.int .u8 0,.int .u8 0,.int .u8 0,.int .u8 0,.int .u8 0,.int .u8 0,.int .u8 0,.int .u8 0,.int .u8 0,.int .u8 0,.int .u8 0,.int .u8 0,.int .u8 0,.int .u8 0,.int .u8 0,.int .u8 0,.int .u8 0,.int .u8 0,.int .u8 0,.int .u8 0,.int .u8 0,.int .u8 0,.int .u8 0,.int .u8 0,.int .u64 0,.int .i64 0,.int .i64 0]:List Value):=(by rw [St.len HYO.out];rfl)
 refine Bc rfl (Ab rfl) rfl Hx7.out (off:=0) (vs:=y.cells) (by rw [hlz];kernel_rfl) (St.one y) (by rw [hlz];exact Nat.le_of_eq (Nat.zero_add _)) (E.d 7 0) (ec (E.d 5 2)) ?_
 intro u3_8 qc0 hm
 have qb8:=qc0.eqv (b:=(y.cells:List Value).toArray) (A0 (#[.int .i64 0,.int .i64 0,.int .i64 0,.int .u8 0,.int .u8 0,.int .u8 0,.int .u8 0,.int .u8 0,.int .u8 0,.int .u8 0,.int .u8 0,.int .u8 0,.int .u8 0,.int .u8 0,.int .u8 0,.int .u8 0,.int .u8 0,.int .u8 0,.int .u8 0,.int .u8 0,.int .u8 0,.int .u8 0,.int .u8 0,.int .u8 0,.int .u8 0,.int .u8 0,.int .u8 0,.int .u8 0,.int .u8 0,.int .u8 0,.int .u8 0,.int .u8 0,.int .u8 0,.int .u8 0,.int .u8 0,.int .u64 0,.int .i64 0,.int .i64 0]) _ (by rw [hlz];rfl))
 clear qc0 hlz
 have Hx9:=hid qb8
 have zu3_8:=hm.size
 have HMu3_8:=hid hm
 have Cx10:=hid (Mod.goS (S':=(fun _=>False)) Cx8.out hm (fun _ h=>h) (by intro k h0 h2;omega))
 clear hm Cx8
 clear act E qb8 Hx7
 refine QSeq.pure rfl _ (fun E=>An rfl (E.d 6 2)) ?_
 clear HMu3_7 HMu3_8
 refine QSeq.nil (t':=[_,_,_,_,_,_,_,_,_,_]) rfl ?_
 obtain rfl:=HA0.out
 clear HA0 oe0 oe5
 simp only [pz,Act.put,sIB,sCZ,sCS,List.set_nil]
 go_upto_region 4 with (fail)
 refine Al 92 [28] [0] (fun a0 HA0=>?_)
 have oe9:=ev HA0 9 rfl
 refine QSeq.pure rfl _ (fun E=>Ah rfl (E.v oe9)) ?_
 refine QSeq.nil (t':=[_]) rfl ?_
 obtain rfl:=HA0.out
 clear HA0 oe9
 simp only [pz,Act.put,sIB,sCZ,sCS]
 have HHE:=Lib.hid hhe
 clear hhe
 go_upto_region 5 with (fail)
 refine Al 92 [29,30,31,32,33] [0,1,2,3,4] (fun a0 HA0=>?_)
 have oe5:=ev HA0 5 rfl
 have oe8:=ev HA0 8 rfl
 refine QSeq.pure rfl (.pointer (some ⟨u3_3.heap.size,3,none⟩)) (fun E=>Ai rfl Try.underlying47 rfl (by kernel_rfl) (E.v oe8)) ?_
 refine QSeq.pure rfl _ (fun E=>Ap rfl Try.underlying32 rfl (off:=3) (cs:=y.h.map bv) (by rw [List.length_map,HYO.out.h.1];exact Bj) (E.d 0 0) (Cs.midA Hx9.out rfl)) ?_
 refine QSeq.pure rfl (.pointer (some ⟨w.heap.size,2,none⟩)) (fun E=>Ai rfl Try.underlying36 rfl (by kernel_rfl) (E.v oe5)) ?_
 refine QSeq.pure rfl _ (fun E=>Ap rfl Try.underlying32 rfl (off:=2) (cs:=c.h.map bv) (by rw [List.length_map,HCO.out.2.1];exact Bj) (E.d 2 0) (((HB5.out.mod Cx5.out (fun h=>h)).mod Cx10.out (fun h=>h)).hash)) ?_
 refine QSeq.pure rfl (.bool true) (fun E=>Av rfl (E.d 1 2) (E.d 3 0) (agg_guardE _ _ _ _ _ _ (by kernel_rfl) _) (run_neq_hv HYO.out.h.1 HCO.out.2.1 (c:=false) (by simp only [Bool.false_eq_true,false_iff];exact HHE.out) _) rfl) ?_
 refine QSeq.nil (t':=[_,_,_,_,_]) rfl ?_
 obtain rfl:=HA0.out
 clear HA0 oe5 oe8
 simp only [pz,Act.put,sIB,sCZ,sCS]
 go_upto_region 6 with (fail)
 refine Al 92 [34,93,7] [0,1,2] (fun a0 HA0=>?_)
 have oe6:=ev HA0 6 rfl
 refine QSeq.pure rfl (.agg (zSt.cells:List Value).toArray) (fun E=>ex_build0 rfl (r:=(zSt.cells:List Value).toArray) (by kernel_rfl)) ?_
 refine QSeq.go fun act E=>?_
 refine Bc rfl (Ab rfl) rfl ((HB6.out.mod Cx5.out (fun h=>h)).mod Cx10.out (fun h=>h)) (off:=0) (vs:=zSt.cells) (by rw [St.len Bt];exact Bb) (St.one zSt) (by rw [St.len Bt];decide) (E.v oe6) (ec (E.d 0 0)) ?_
 intro u6_1 qc0 hm
 have qB6:=qc0.eqv (b:=(zSt.cells:List Value).toArray) (A0 _ _ (by rw [St.len Bt];rfl))
 clear qc0
 have Hx11:=hid qB6
 have zu6_1:=hm.size
 have Cx12:=hid (show Mod (fun k=>(k=w.heap.size+1)) u3_8 u6_1 from hm)
 clear hm
 clear act E qB6 HB6
 refine QSeq.pure rfl (.int .i64 5) (fun E=>An rfl rfl) ?_
 refine QSeq.nil (t':=[_,_,_]) rfl ?_
 obtain rfl:=HA0.out
 clear HA0 oe6
 simp only [pz,Act.put,sIB,sCZ,sCS,List.set_nil]
 go_wp2
 refine bodyPost_ret (Bm rfl _ _ (w.heap.size+1) (zSt.cells) rfl (fun k u hu=>by rw [Hx11.out.cell];simpa using hu) Try.underlying47 rfl (by rw [St.len Bt];exact Bb)) rfl ?_
 exact ⟨rfl,⟨_,(((Hx1.out.mod Cx5.out (fun h=>h)).mod Cx10.out (fun h=>h)).mod Cx12.out (by intro h2;omega)),HPR.out,(((Hx2.out.mod Cx5.out (fun _ _ h=>h)).mod Cx10.out (fun _ _ h=>h)).mod Cx12.out (sB HBQ)).widen (fun k h=>HQ.out k h),hnw,hfl,hla⟩,(((Hx3.out.mod Cx5.out (fun _ _ h=>h)).mod Cx10.out (fun _ _ h=>h)).mod Cx12.out (sB HBB)),(((HM0.out.trans Cx5.out (fun _ _ h=>h.elim)).trans Cx10.out (fun _ _ h=>h.elim)).trans Cx12.out (by intro k h1 h2;omega))⟩
set_option maxHeartbeats 4000000 in
theorem RStamp_new {R Rb:Nat→Prop} {w:World} {p g:Nat} {f k rep:Int} {s:SS} {c:Cm} {L:List (Int × List Int)} (h:RpR R w p f k rep s) (hbk:RbO Rb w g L) (hB:∀ k,R k→k < w.heap.size) (hBb:∀ k,Rb k→k < w.heap.size) (hd:∀ k,R k→Rb k→False) (hap:Apart_ L) (hLL:L.length≤100000) (hmb:s.m.length≤100000) (hco:c.OK) (hsi:I64 (1000+c.cl)) (hrt:Bo L k c=true) {t:Nat} (hml:Bs s.m (c.cl,c.sq)=none) (ht:t=max (max s.now (s.floor+1)) (s.last+1)) (htl:t+1 < U64) (hrp:I64 rep) :
 Calls Try.prog 39 #[.pointer (some ⟨p,0,none⟩),.pointer (some ⟨g,0,none⟩),.agg c.cells.toArray] w fun e w'=>∃ P2 P4:Nat→Prop,e=.returned (.tuple #[.agg (stampY L rep c t).cells.toArray,.int .i64 0])∧RpR P2 w' p f k rep (stampS s L rep c t)∧RbO P4 w' g (stampL L rep c t)∧(∀ k,P2 k→R k∨New w w' k)∧(∀ k,P4 k→Rb k∨New w w' k)∧(∀ k,P2 k→P4 k→False)∧Mod (fun k=>(R k)∨(Rb k)) w w':=by
 have HBRR:=Lib.hid hB
 obtain ⟨v0,hc,hp,hl0,hnw,hfl,hla⟩:=h
 obtain ⟨Q,hQ,hl⟩:∃ Q:Nat→Prop,(∀ k,Q k→R k∧k≠p)∧RdS GvR Q w v0 s.m:=⟨_,fun _ h=>h,hl0⟩
 obtain ⟨ao,cap,rfl⟩:=hl.shape
 have hpl:=hc.lt
 have hU:U64=18446744073709551616:=rfl
 have HC:=hid (show Cs w p #[.int .i64 f,.int .i64 k,.int .i64 rep,.int .u64 (s.now:Nat),.int .u64 (s.floor:Nat),.int .u64 (s.last:Nat),.slice ao s.m.length cap] 77 from hc)
 have HLS:=Lib.hid hl
 have HQ:=Lib.hid hQ
 have HPR:=Lib.hid hp
 have HBQ:=hid (fun k (h:Q k)=>hB k (hQ k h).1)
 have HXQ:=hid (fun (h:Q p)=>(hQ p h).2 rfl)
 clear hc hp hl0 hl hQ hB
 have HBK:=Lib.hid hbk
 have HBB:=Lib.hid hBb
 have HDJ:=hid (fun k (h:Q k) (h2:Rb k)=>hd k (HQ.out k h).1 h2)
 have HCO:=Lib.hid hco
 have HSI:=Lib.hid hsi
 have HRT:=Lib.hid hrt
 have HAP:=Lib.hid hap
 have HLL:=Lib.hid hLL
 have HNPR:=hid (fun (h:Rb p)=>hd p HPR.out h)
 have HDD:=Lib.hid hd
 clear hbk hBb hd hco hsi hrt hap hLL
 have HML:=Lib.hid hml
 clear hml
 have HNK:=hid (show NmK (c.cl,c.sq) from ⟨HCO.out.1.1,HCO.out.1.2.1⟩)
 change Calls _ _ #[.pointer (some ⟨p,0,none⟩),.pointer (some ⟨g,0,none⟩),.agg (c.cells:List Value).toArray] _ _
 go_enter Try.func39,Try.ntmps39
 go_upto_region 1 with (fail)
 obtain ⟨w1,hw1⟩:∃ zz,zz=((w.alloc (.cells (c.cells:List Value).toArray 36)).alloc (.cells #[.int .i64 0,.int .i64 0,.int .i64 0,.int .u8 0,.int .u8 0,.int .u8 0,.int .u8 0,.int .u8 0,.int .u8 0,.int .u8 0,.int .u8 0,.int .u8 0,.int .u8 0,.int .u8 0,.int .u8 0,.int .u8 0,.int .u8 0,.int .u8 0,.int .u8 0,.int .u8 0,.int .u8 0,.int .u8 0,.int .u8 0,.int .u8 0,.int .u8 0,.int .u8 0,.int .u8 0,.int .u8 0,.int .u8 0,.int .u8 0,.int .u8 0,.int .u8 0,.int .u8 0,.int .u8 0,.int .u8 0,.int .u64 0,.int .i64 0,.int .i64 0] 47)):=⟨_,rfl⟩
 change Code.wp _ _ _ _ ((w.alloc (.cells (c.cells:List Value).toArray 36)).alloc (.cells #[.int .i64 0,.int .i64 0,.int .i64 0,.int .u8 0,.int .u8 0,.int .u8 0,.int .u8 0,.int .u8 0,.int .u8 0,.int .u8 0,.int .u8 0,.int .u8 0,.int .u8 0,.int .u8 0,.int .u8 0,.int .u8 0,.int .u8 0,.int .u8 0,.int .u8 0,.int .u8 0,.int .u8 0,.int .u8 0,.int .u8 0,.int .u8 0,.int .u8 0,.int .u8 0,.int .u8 0,.int .u8 0,.int .u8 0,.int .u8 0,.int .u8 0,.int .u8 0,.int .u8 0,.int .u8 0,.int .u8 0,.int .u64 0,.int .i64 0,.int .i64 0] 47))
 rw [← hw1]
 have HB5:=hid (show Cs w1 (w.heap.size) (c.cells:List Value).toArray 36 by rw [hw1];exact (Cs.new _ _ _).alloc _)
 have HB6:=hid (show Cs w1 (w.heap.size+1) #[.int .i64 0,.int .i64 0,.int .i64 0,.int .u8 0,.int .u8 0,.int .u8 0,.int .u8 0,.int .u8 0,.int .u8 0,.int .u8 0,.int .u8 0,.int .u8 0,.int .u8 0,.int .u8 0,.int .u8 0,.int .u8 0,.int .u8 0,.int .u8 0,.int .u8 0,.int .u8 0,.int .u8 0,.int .u8 0,.int .u8 0,.int .u8 0,.int .u8 0,.int .u8 0,.int .u8 0,.int .u8 0,.int .u8 0,.int .u8 0,.int .u8 0,.int .u8 0,.int .u8 0,.int .u8 0,.int .u8 0,.int .u64 0,.int .i64 0,.int .i64 0] 47 by rw [hw1];exact Cs_newN _ _ _ (by simp))
 have hm:Mod (fun _=>False) w w1:=by rw [hw1];exact ((Mod.refl _ _).alloc _).alloc _
 have HM0:=hid (show Mod (fun k=>(k=p)∨(Rb k)) w w1 from hm.mono (fun _ _ h=>h.elim))
 have hs1:w1.heap.size=w.heap.size+2:=by rw [hw1];simp
 have Hx1:=hid (HC.out.mod hm (fun h=>h))
 clear HC
 have Hx2:=hid (HLS.out.mod hm (fun _ _ h=>h))
 clear HLS
 have Hx3:=hid (HBK.out.mod hm (fun _ _ h=>h))
 clear HBK
 clear hw1 hm
 go_upto_region 1 with (fail)
 generalize ha0:Act.mk _ _=a0
 have oe0:a0.eval (.tmp 0)=.pointer (some ⟨p,0,none⟩):=by rw [← ha0];rfl
 have oe1:a0.eval (.tmp 1)=.pointer (some ⟨g,0,none⟩):=by rw [← ha0];rfl
 have oe5:a0.eval (.tmp 5)=.pointer (some ⟨w.heap.size,0,none⟩):=by rw [← ha0];rfl
 have hsz0:a0.tmps.size=92:=by rw [← ha0];rfl
 have HA0:=hid ha0
 clear ha0
 refine Az 92 hsz0 [12,13,14,15,16,17,18,19] [qi (.pointer (some ⟨p,0,none⟩)),qi (.pointer (some ⟨p,0,none⟩)),qi (.pointer (some ⟨p,0,none⟩)),qi (.agg #[.int .i64 f,.int .i64 k]),qi (.pointer (some ⟨g,0,none⟩)),qi (c.val),qi (.bool true),qi (.bool false)] ⟨Aa,Aa,Aa,Aa,Aa,Aa,Aa,Aa,trivial⟩ [6] ⟨?_,?_,?_,?_,?_,?_,?_,?_,trivial⟩ ?_
 ·exact stq (fun E=>Ah rfl (E.v oe0))
 ·exact stq (fun E=>A1 rfl (E.d 0))
 ·exact stq (fun E=>Ai rfl Try.underlying77 rfl (by kernel_rfl) (E.d 1))
 ·exact stq (fun E=>Ap rfl Try.underlying26 rfl (off:=0) (cs:=[.int .i64 f,.int .i64 k]) (by kernel_rfl) (E.d 2) (Cs.litA (Hx1.out.mod E.m.old (by intro h2;omega)) rfl))
 ·exact stq (fun E=>Ah rfl (E.v oe1))
 ·exact stq (fun E=>Ap rfl Try.underlying36 rfl (off:=0) (cs:=c.cells) (by rw [Cm.len HCO.out.2.1];exact Bd) (E.v oe5) (Cs.whole (HB5.out.mod E.m.old (by intro h2;omega))))
 ·exact Au rfl
 ·exact stq (fun E=>ex_not rfl (E.d 6))
 intro u1_0 hr
 have zu1_0:=hr.size
 have Cx4:=hid (hr.new (S:=(fun _=>False)))
 clear hr
 refine QChain.go fun Z act E=>?_
 refine Ax (args:=#[.agg #[.int .i64 f,.int .i64 k],.pointer (some ⟨g,0,none⟩),c.val]) rfl (Ab rfl) rfl Try.func58 (args3 (E.d 3) (E.d 4) (E.d 5)) (RRightC_Q (Hx3.out.mod Cx4.out (fun _ _ h=>h)) (by intro k h1;have hb:=HBB.out k h1;omega) HAP.out HLL.out f k c HCO.out HSI.out HRT.out) ?_
 rintro e u1_1a ⟨rfl,hm⟩
 have zu1_1a:=hm.size
 refine ⟨_,rfl,hm.mono (fun _ _ h=>h.elim),(fun _=>rfl),?_⟩
 intro u1_1 hr
 have zu1_1:=hr.size
 have Cx5:=hid (Cx4.out.go hm hr)
 clear Cx4 hm hr Z act E
 refine QChain.nil fun vs hl hzz hrows hne=>?_
 obtain ⟨Z,hYZ,hZb,hV⟩:=hzz
 have f0:=fvi hV hl 0
 have f4:=fvi hV hl 4
 have f6:=fvi hV hl 6
 have f7:=fvi hV hl 7
 rw [show vs=[gw vs 0,gw vs 1,gw vs 2,gw vs 3,gw vs 4,gw vs 5,gw vs 6,gw vs 7] from (Bh hl).trans rfl]
 have ha0:=HA0.out
 subst ha0
 clear HA0 hV hYZ hZb hsz0 hrows hne oe0 oe1 oe5
 simp only [Ar,Act.put,sIB,sCZ,sCS,f0,f4,f6,f7]
 clear hl f0 f4 f6 f7
 go_upto_region 3 with (fail)
 refine Al 92 [22,23,24,25,21,26,27,8,100,9] [0,1,2,3,4,5,6,7,8,9] (fun a0 HA0=>?_)
 have oe0:=ev HA0 0 rfl
 have oe5:=ev HA0 5 rfl
 refine QSeq.pure rfl _ (fun E=>Ah rfl (E.v oe0)) ?_
 refine QSeq.pure rfl (.pointer (some ⟨w.heap.size,0,none⟩)) (fun E=>Ai rfl Try.underlying36 rfl (by kernel_rfl) (E.v oe5)) ?_
 refine QSeq.pure rfl _ (fun E=>Ap rfl Try.underlying30 rfl (off:=0) (cs:=[.int .i64 c.cl,.int .i64 c.sq]) (by kernel_rfl) (E.d 1 0) (Cs.preA (pre:=[.int .i64 c.cl,.int .i64 c.sq]) (mid:=c.h.map bv) (post:=[.int .i64 c.ln,.int .i64 c.sb,.int .i64 c.mr]) (HB5.out.mod Cx5.out (fun h=>h)) rfl)) ?_
 refine QSeq.call rfl rfl Try.func40 (ROf_V (n:=(c.cl,c.sq)) (s:=s) (f:=f) (k:=k) (rep:=rep) ⟨_,(Hx1.out.mod Cx5.out (fun h=>h)),HPR.out,(Hx2.out.mod Cx5.out (fun _ _ h=>h)).widen (fun k h=>HQ.out k h),hnw,hfl,hla⟩ (by intro k1 h1;have h2:=HBRR.out k1 h1;omega) hmb (lookV_none HML.out)) (fun E=>args2 (E.d 0 2) (E.d 2 0)) ?_
 rintro e u3_3 ⟨rfl,hm⟩
 refine ⟨_,rfl,?_⟩
 have zu3_3:=hm.size
 have Cx6:=hid (show Mod (fun _=>False) u1_1 u3_3 from hm)
 clear hm
 refine QSeq.pure rfl _ (fun E=>Ah rfl (E.d 3 0)) ?_
 refine QSeq.pure rfl (zSt.val) (fun E=>A9 rfl (E.d 4 0) rfl) ?_
 refine QSeq.pure rfl (.bool false) (fun E=>A9 rfl (E.d 4 1) rfl) ?_
 refine QSeq.go fun act E=>?_
 refine qc_alloc rfl (Ab rfl) rfl (z:=[.int .i64 0,.int .i64 0,.int .i64 0,.int .u8 0,.int .u8 0,.int .u8 0,.int .u8 0,.int .u8 0,.int .u8 0,.int .u8 0,.int .u8 0,.int .u8 0,.int .u8 0,.int .u8 0,.int .u8 0,.int .u8 0,.int .u8 0,.int .u8 0,.int .u8 0,.int .u8 0,.int .u8 0,.int .u8 0,.int .u8 0,.int .u8 0,.int .u8 0,.int .u8 0,.int .u8 0,.int .u8 0,.int .u8 0,.int .u8 0,.int .u8 0,.int .u8 0,.int .u8 0,.int .u8 0,.int .u8 0,.int .u64 0,.int .i64 0,.int .i64 0]) (by kernel_rfl) ?_
 intro u3_7 qb8 hm
 have zl3_7:=qb8.lt
 have Hx7:=hid qb8
 have zu3_7:=hm.size
 have HMu3_7:=hid hm
 have Cx8:=hid (Cx6.out.goE hm)
 clear hm Cx6
 clear act E qb8
 refine QSeq.go fun act E=>?_
 have hlz:(zSt.cells).length=List.length ([.int .i64 0,.int .i64 0,.int .i64 0,.int .u8 0,.int .u8 0,.int .u8 0,.int .u8 0,.int .u8 0,.int .u8 0,.int .u8 0,.int .u8 0,.int .u8 0,.int .u8 0,.int .u8 0,.int .u8 0,.int .u8 0,.int .u8 0,.int .u8 0,.int .u8 0,.int .u8 0,.int .u8 0,.int .u8 0,.int .u8 0,.int .u8 0,.int .u8 0,.int .u8 0,.int .u8 0,.int .u8 0,.int .u8 0,.int .u8 0,.int .u8 0,.int .u8 0,.int .u8 0,.int .u8 0,.int .u8 0,.int .u64 0,.int .i64 0,.int .i64 0]:List Value):=(by rw [St.len Bt];rfl)
 refine Bc rfl (Ab rfl) rfl Hx7.out (off:=0) (vs:=zSt.cells) (by rw [hlz];kernel_rfl) (St.one zSt) (by rw [hlz];exact Nat.le_of_eq (Nat.zero_add _)) (E.d 7 0) (ec (E.d 5 2)) ?_
 intro u3_8 qc0 hm
 have qb8:=qc0.eqv (b:=(zSt.cells:List Value).toArray) (A0 (#[.int .i64 0,.int .i64 0,.int .i64 0,.int .u8 0,.int .u8 0,.int .u8 0,.int .u8 0,.int .u8 0,.int .u8 0,.int .u8 0,.int .u8 0,.int .u8 0,.int .u8 0,.int .u8 0,.int .u8 0,.int .u8 0,.int .u8 0,.int .u8 0,.int .u8 0,.int .u8 0,.int .u8 0,.int .u8 0,.int .u8 0,.int .u8 0,.int .u8 0,.int .u8 0,.int .u8 0,.int .u8 0,.int .u8 0,.int .u8 0,.int .u8 0,.int .u8 0,.int .u8 0,.int .u8 0,.int .u8 0,.int .u64 0,.int .i64 0,.int .i64 0]) _ (by rw [hlz];rfl))
 clear qc0 hlz
 have Hx9:=hid qb8
 have zu3_8:=hm.size
 have HMu3_8:=hid hm
 have Cx10:=hid (Mod.goS (S':=(fun _=>False)) Cx8.out hm (fun _ h=>h) (by intro k h0 h2;omega))
 clear hm Cx8
 clear act E qb8 Hx7
 refine QSeq.pure rfl _ (fun E=>An rfl (E.d 6 2)) ?_
 clear HMu3_7 HMu3_8
 refine QSeq.nil (t':=[_,_,_,_,_,_,_,_,_,_]) rfl ?_
 obtain rfl:=HA0.out
 clear HA0 oe0 oe5
 simp only [pz,Act.put,sIB,sCZ,sCS,List.set_nil]
 go_upto_region 4 with (fail)
 refine Al 92 [28] [0] (fun a0 HA0=>?_)
 have oe9:=ev HA0 9 rfl
 refine QSeq.pure rfl _ (fun E=>Ah rfl (E.v oe9)) ?_
 refine QSeq.nil (t':=[_]) rfl ?_
 obtain rfl:=HA0.out
 clear HA0 oe9
 simp only [pz,Act.put,sIB,sCZ,sCS]
 clear Hx9
 obtain ⟨fl,hfl2⟩:∃ x,x=s.floor+1:=⟨_,rfl⟩
 obtain ⟨ls,hls2⟩:∃ x,x=s.last+1:=⟨_,rfl⟩
 have htn:t=max (max s.now fl) ls:=by rw [hfl2,hls2];exact ht
 go_upto_region 8 with (fail)
 generalize ha0:Act.mk _ _=a0
 have oe0:a0.eval (.tmp 0)=.pointer (some ⟨p,0,none⟩):=by rw [← ha0];rfl
 have hsz0:a0.tmps.size=92:=by rw [← ha0];rfl
 have HA0:=hid ha0
 clear ha0
 refine Az 92 hsz0 [36,37,38,39,40,41,42,43,44,45,46,47,48,49,50,10] [qi (.pointer (some ⟨p,0,none⟩)),qi (.pointer (some ⟨p,0,none⟩)),qi (.pointer (some ⟨p,3,none⟩)),qi (.int .u64 (s.now:Nat)),qi (.pointer (some ⟨p,0,none⟩)),qi (.pointer (some ⟨p,0,none⟩)),qi (.pointer (some ⟨p,4,none⟩)),qi (.int .u64 (s.floor:Nat)),qi (.int .u64 ((fl:Nat):Int)),qi (.pointer (some ⟨p,0,none⟩)),qi (.pointer (some ⟨p,0,none⟩)),qi (.pointer (some ⟨p,5,none⟩)),qi (.int .u64 (s.last:Nat)),qi (.int .u64 ((ls:Nat):Int)),qi (.int .u64 ((t:Nat):Int)),qi (.int .u64 ((t:Nat):Int))] ⟨Aa,Aa,Aa,Aa,Aa,Aa,Aa,Aa,Aa,Aa,Aa,Aa,Aa,Aa,Aa,Aa,trivial⟩ [] ⟨?_,?_,?_,?_,?_,?_,?_,?_,?_,?_,?_,?_,?_,?_,?_,?_,trivial⟩ ?_
 ·exact stq (fun E=>Ah rfl (E.v oe0))
 ·exact stq (fun E=>A1 rfl (E.d 0))
 ·exact stq (fun E=>Ai rfl Try.underlying77 rfl (by kernel_rfl) (E.d 1))
 ·exact stq (fun E=>Am rfl Try.underlying45 rfl (E.d 2) (Cs.lit1 (((Hx1.out.mod Cx5.out (fun h=>h)).mod Cx10.out (fun h=>h)).mod E.m.old (by intro h2;omega)) rfl))
 ·exact stq (fun E=>Ah rfl (E.v oe0))
 ·exact stq (fun E=>A1 rfl (E.d 4))
 ·exact stq (fun E=>Ai rfl Try.underlying77 rfl (by kernel_rfl) (E.d 5))
 ·exact stq (fun E=>Am rfl Try.underlying45 rfl (E.d 6) (Cs.lit1 (((Hx1.out.mod Cx5.out (fun h=>h)).mod Cx10.out (fun h=>h)).mod E.m.old (by intro h2;omega)) rfl))
 ·exact stq (fun E=>Av rfl (E.d 7) rfl (Ak _ _ _ _ _ _) (Be _ _ Try.underlying45) (congrArg (Value.int .u64) (u64_eq (b:=((fl:Nat):Int)) (by omega) (by omega) (by omega))))
 ·exact stq (fun E=>Ah rfl (E.v oe0))
 ·exact stq (fun E=>A1 rfl (E.d 9))
 ·exact stq (fun E=>Ai rfl Try.underlying77 rfl (by kernel_rfl) (E.d 10))
 ·exact stq (fun E=>Am rfl Try.underlying45 rfl (E.d 11) (Cs.lit1 (((Hx1.out.mod Cx5.out (fun h=>h)).mod Cx10.out (fun h=>h)).mod E.m.old (by intro h2;omega)) rfl))
 ·exact stq (fun E=>Av rfl (E.d 12) rfl (Ak _ _ _ _ _ _) (Be _ _ Try.underlying45) (congrArg (Value.int .u64) (u64_eq (b:=((ls:Nat):Int)) (by omega) (by omega) (by omega))))
 ·exact stq (fun E=>ex_max3 (r:=((t:Nat):Int)) rfl (E.d 3) (E.d 8) (E.d 13) (by rw [htn];omega))
 ·exact stq (fun E=>An rfl (E.d 14))
 intro u8_0 hr
 have zu8_0:=hr.size
 have Cx11:=hid (hr.new (S:=(fun _=>False)))
 clear hr
 refine QChain.nil fun vs hl hzz hrows hne=>?_
 obtain ⟨Z,hYZ,hZb,hV⟩:=hzz
 have f0:=fvi hV hl 0
 have f4:=fvi hV hl 4
 have f9:=fvi hV hl 9
 have f14:=fvi hV hl 14
 have f15:=fvi hV hl 15
 rw [show vs=[gw vs 0,gw vs 1,gw vs 2,gw vs 3,gw vs 4,gw vs 5,gw vs 6,gw vs 7,gw vs 8,gw vs 9,gw vs 10,gw vs 11,gw vs 12,gw vs 13,gw vs 14,gw vs 15] from (Bh hl).trans rfl]
 have ha0:=HA0.out
 subst ha0
 clear HA0 hV hYZ hZb hsz0 hrows hne oe0
 simp only [Ar,Act.put,sIB,sCZ,sCS,f0,f4,f9,f14,f15]
 clear hl f0 f4 f9 f14 f15
 go_upto_region 9 with (fail)
 refine Al 92 [51,52] [0,1] (fun a0 HA0=>?_)
 have oe10:=ev HA0 10 rfl
 refine QSeq.pure rfl _ (fun E=>Ah rfl (E.v oe10)) ?_
 refine QSeq.pure rfl (.bool false) (fun E=>Av rfl (E.d 0 0) rfl (Ak _ _ _ _ _ _) (Bg _ _ _ Try.underlying45) (congrArg Value.bool (eq_ff (by omega)))) ?_
 refine QSeq.nil (t':=[_,_]) rfl ?_
 obtain rfl:=HA0.out
 clear HA0 oe10
 simp only [pz,Act.put,sIB,sCZ,sCS]
 obtain ⟨y0,hy0⟩:∃ y:St,y=⟨rep,c.cl,c.sq,c.h,t,0,0⟩:=⟨_,rfl⟩
 have HYO0:=hid (show y0.OK by rw [hy0];exact ⟨hrp,HCO.out.1.1,HCO.out.1.2.1,HCO.out.2,by (try dsimp only);omega,by unfold I64;(try dsimp only);omega,by unfold I64;(try dsimp only);omega⟩)
 have HY0:=Lib.hid hy0
 have hyh:y0.h.length=32:=HYO0.out.h.1
 have HRP:=Lib.hid hrp
 clear hy0
 go_upto_region 11 with (fail)
 generalize ha0:Act.mk _ _=a0
 have oe0:a0.eval (.tmp 0)=.pointer (some ⟨p,0,none⟩):=by rw [← ha0];rfl
 have oe5:a0.eval (.tmp 5)=.pointer (some ⟨w.heap.size,0,none⟩):=by rw [← ha0];rfl
 have oe10:a0.eval (.tmp 10)=.int .u64 ((t:Nat):Int):=by rw [← ha0];rfl
 have hsz0:a0.tmps.size=92:=by rw [← ha0];rfl
 have HA0:=hid ha0
 clear ha0
 refine wp_region_Q 92 hsz0 (by kernel_rfl) (by kernel_rfl) [54,55,56,57,58,59,60,61,62,63,11,103] (by kernel_rfl) (by decide) (fun _=>False) (fun _ _=>False) (fun _ _ h=>h) [qi (.pointer (some ⟨p,0,none⟩)),qi (.pointer (some ⟨p,0,none⟩)),qi (.pointer (some ⟨p,2,none⟩)),qi (.int .i64 rep),qi (.pointer (some ⟨w.heap.size,0,none⟩)),qi (.agg #[.int .i64 c.cl,.int .i64 c.sq]),qi (.pointer (some ⟨w.heap.size,2,none⟩)),qi (hv c.h),qi (.int .u64 ((t:Nat):Int)),qi (.agg (y0.cells:List Value).toArray),qa,qa] ⟨Aa,Aa,Aa,Aa,Aa,Aa,Aa,Aa,Aa,Aa,B5,B5,trivial⟩ [] (by kernel_rfl) (by decide) (by kernel_rfl) [⟨10,11,47,[.int .i64 0,.int .i64 0,.int .i64 0,.int .u8 0,.int .u8 0,.int .u8 0,.int .u8 0,.int .u8 0,.int .u8 0,.int .u8 0,.int .u8 0,.int .u8 0,.int .u8 0,.int .u8 0,.int .u8 0,.int .u8 0,.int .u8 0,.int .u8 0,.int .u8 0,.int .u8 0,.int .u8 0,.int .u8 0,.int .u8 0,.int .u8 0,.int .u8 0,.int .u8 0,.int .u8 0,.int .u8 0,.int .u8 0,.int .u8 0,.int .u8 0,.int .u8 0,.int .u8 0,.int .u8 0,.int .u8 0,.int .u64 0,.int .i64 0,.int .i64 0],0,(fun t=>y0.cells)⟩] (by kernel_rfl) (by intro r hr;simp only [List.mem_cons,List.not_mem_nil,or_false] at hr;rcases hr with rfl<;>exact ⟨by kernel_rfl,by kernel_rfl⟩) (by intro r hr;simp only [List.mem_cons,List.not_mem_nil,or_false] at hr;rcases hr with rfl<;>exact ⟨of_decide_eq_true (by kernel_rfl),of_decide_eq_true (by kernel_rfl)⟩) (by intro r hr;simp only [List.mem_cons,List.not_mem_nil,or_false] at hr;rcases hr with rfl<;>exact fun _ _ _ _=>⟨trivial,trivial⟩) ⟨?_,?_,?_,?_,?_,?_,?_,?_,?_,?_,?_,?_,trivial⟩ ?_
 ·exact stq (fun E=>Ah rfl (E.v oe0))
 ·exact stq (fun E=>A1 rfl (E.d 0))
 ·exact stq (fun E=>Ai rfl Try.underlying77 rfl (by kernel_rfl) (E.d 1))
 ·exact stq (fun E=>Am rfl Try.underlying3 rfl (E.d 2) (Cs.lit1 ((((Hx1.out.mod Cx5.out (fun h=>h)).mod Cx10.out (fun h=>h)).mod Cx11.out (fun h=>h)).mod E.m.old (by intro h2;omega)) rfl))
 ·exact stq (fun E=>Ai rfl Try.underlying36 rfl (by kernel_rfl) (E.v oe5))
 ·exact stq (fun E=>Ap rfl Try.underlying30 rfl (off:=0) (cs:=[.int .i64 c.cl,.int .i64 c.sq]) (by kernel_rfl) (E.d 4) (Cs.preA (pre:=[.int .i64 c.cl,.int .i64 c.sq]) (mid:=c.h.map bv) (post:=[.int .i64 c.ln,.int .i64 c.sb,.int .i64 c.mr]) ((((HB5.out.mod Cx5.out (fun h=>h)).mod Cx10.out (fun h=>h)).mod Cx11.out (fun h=>h)).mod E.m.old (by intro h2;omega)) rfl))
 ·exact stq (fun E=>Ai rfl Try.underlying36 rfl (by kernel_rfl) (E.v oe5))
 ·exact stq (fun E=>Ap rfl Try.underlying32 rfl (off:=2) (cs:=c.h.map bv) (by rw [List.length_map,HCO.out.2.1];exact Bj) (E.d 6) (((((HB5.out.mod Cx5.out (fun h=>h)).mod Cx10.out (fun h=>h)).mod Cx11.out (fun h=>h)).mod E.m.old (by intro h2;omega)).hash))
 ·exact stq (fun E=>Ah rfl (E.v oe10))
 ·refine Ag rfl rfl rfl fun _ _ act _ _ _ _ _ _ hd _ _=>?_
  have h3:=hd ⟨3,.data⟩ (by simp) rfl _ rfl
  have h5:=hd ⟨5,.data⟩ (by simp) rfl _ rfl
  have h7:=hd ⟨7,.data⟩ (by simp) rfl _ rfl
  have h8:=hd ⟨8,.data⟩ (by simp) rfl _ rfl
  refine Aq rfl (Ab rfl) (ex_build rfl (z:=[.int .i64 0,.int .i64 0,.int .i64 0,.int .u8 0,.int .u8 0,.int .u8 0,.int .u8 0,.int .u8 0,.int .u8 0,.int .u8 0,.int .u8 0,.int .u8 0,.int .u8 0,.int .u8 0,.int .u8 0,.int .u8 0,.int .u8 0,.int .u8 0,.int .u8 0,.int .u8 0,.int .u8 0,.int .u8 0,.int .u8 0,.int .u8 0,.int .u8 0,.int .u8 0,.int .u8 0,.int .u8 0,.int .u8 0,.int .u8 0,.int .u8 0,.int .u8 0,.int .u8 0,.int .u8 0,.int .u8 0,.int .u64 0,.int .i64 0,.int .i64 0]) (places:=[(0,1),(1,2),(3,32),(35,1),(36,2)]) (by kernel_rfl) (parts:=[(0,.int .i64 rep),(1,.agg #[.int .i64 c.cl,.int .i64 c.sq]),(2,hv c.h),(3,.int .u64 ((t:Nat):Int))]) (by simp only [List.map_toArray,List.map_cons,List.map_nil,show act.eval (.tmp 57)=_ from h3,show act.eval (.tmp 59)=_ from h5,show act.eval (.tmp 61)=_ from h7,show act.eval (.tmp 62)=_ from h8];try rfl) (r:=y0.cells) (by rw [HY0.out];exact laid_stamp rep c.cl c.sq c.h t HCO.out.2.1)) QE.refl ?_
  rfl
 ·exact stepq_make rfl rfl ⟨rfl,rfl,by kernel_rfl,by kernel_rfl⟩
 ·refine stepq_write rfl rfl rfl ⟨rfl,11,(.tmp 63),rfl,by decide,rfl,by kernel_rfl,fun Z tr act w' hm hout hsz hd hpre=>?_⟩
  have h9:=hd ⟨9,.data⟩ (by simp) rfl _ rfl
  exact ⟨Nat.zero_le _,(by rw [show act.eval ((.tmp 63))=_ from h9];rfl),(by rw [St.len HYO0.out];rfl),(St.one y0)⟩
 intro u11_0 hr
 have zu11_0:=hr.size
 have Cx12:=hid (hr.new (S:=(fun _=>False)))
 clear hr
 refine QChain.nil fun vs hl hzz hrows hne=>?_
 obtain ⟨Z,hYZ,hZb,hV⟩:=hzz
 obtain ⟨b11,g10,hBb11,hYb11,hCb11⟩:=hrows _ (by simp only [List.mem_cons,List.not_mem_nil,or_false];trivial)
 have f10:gw vs 10=_:=getv g10
 (try dsimp only at hBb11 hYb11);(try simp only [false_or] at hBb11 hYb11)
 have zqb11:=hCb11.lt
 have Hx13:=hid (show Cs u11_0 b11 (y0.cells:List Value).toArray 47 from hCb11)
 have f0:=fvi hV hl 0
 have f8:=fvi hV hl 8
 rw [show vs=[gw vs 0,gw vs 1,gw vs 2,gw vs 3,gw vs 4,gw vs 5,gw vs 6,gw vs 7,gw vs 8,gw vs 9,gw vs 10,gw vs 11] from (Bh hl).trans rfl]
 have ha0:=HA0.out
 subst ha0
 clear HA0 hV hYZ hZb hsz0 hrows hne oe0 oe5 oe10 hCb11 g10
 simp only [Ar,Act.put,sIB,sCZ,sCS,List.set_nil,f10,f0,f8]
 clear hl f10 f0 f8
 obtain ⟨y1,hy1⟩:∃ y:St,y={ y0 with sb:=rep,mr:=(((mkN (B7 L (rep,B8 y0)) (rep,B8 y0)):Nat):Int) }:=⟨_,rfl⟩
 have HYO1:=hid (show y1.OK by rw [hy1];exact ⟨HYO0.out.rp,HYO0.out.cl,HYO0.out.sq,HYO0.out.h,HYO0.out.tm,HRP.out,mkN_I64 _ _ (signF_le _ _ (Nat.le_trans HLL.out (by decide)))⟩)
 have HY1:=Lib.hid hy1
 clear hy1
 have HTL:=hid (show (B8 y0).length≤900000 from Nat.le_trans (stampT_len HYO0.out) (by decide))
 have HSK:=hid (show SgK (rep,B8 y0) from ⟨HRP.out,stampT_B HYO0.out,Nat.le_trans (stampT_len HYO0.out) (by decide)⟩)
 go_upto_region 12 with (fail)
 generalize ha0:Act.mk _ _=a0
 have oe0:a0.eval (.tmp 0)=.pointer (some ⟨p,0,none⟩):=by rw [← ha0];rfl
 have oe1:a0.eval (.tmp 1)=.pointer (some ⟨g,0,none⟩):=by rw [← ha0];rfl
 have oe11:a0.eval (.tmp 11)=.pointer (some ⟨b11,0,none⟩):=by rw [← ha0];rfl
 have hsz0:a0.tmps.size=92:=by rw [← ha0];rfl
 have HA0:=hid ha0
 clear ha0
 refine B0 92 hsz0 [64,65,66,67,68,69,70,71,72,101] (fun k=>(Rb k)∨(k=b11)) (fun k j=>(k=1∧((Rb j)))∨(k=2∧((j=b11)))) (by intro k j h;(try dsimp only at h ⊢);rcases h with ⟨-,h⟩|⟨-,h⟩;(exact Or.inl (h));(exact Or.inr (h))) [qi (.pointer (some ⟨g,0,none⟩)),qi (.pointer (some ⟨p,0,none⟩)),qi (.pointer (some ⟨p,0,none⟩)),qi (.pointer (some ⟨p,2,none⟩)),qi (.int .i64 rep),qi (y0.val),qv 0,qi (.agg #[.int .i64 rep,.int .i64 (((mkN (B7 L (rep,B8 y0)) (rep,B8 y0)):Nat):Int)]),qi (.pointer (some ⟨b11,36,none⟩)),qv 2] ⟨Aa,Aa,Aa,Aa,Aa,Aa,Ay,Aa,Aa,Ay,trivial⟩ [6,7,9] ⟨?_,?_,?_,?_,?_,?_,?_,?_,?_,?_,trivial⟩ ?_
 ·exact stq (fun E=>Ah rfl (E.v oe1))
 ·exact stq (fun E=>Ah rfl (E.v oe0))
 ·exact stq (fun E=>A1 rfl (E.d 1))
 ·exact stq (fun E=>Ai rfl Try.underlying77 rfl (by kernel_rfl) (E.d 2))
 ·exact stq (fun E=>Am rfl Try.underlying3 rfl (E.d 3) (Cs.lit1 (((((Hx1.out.mod Cx5.out (fun h=>h)).mod Cx10.out (fun h=>h)).mod Cx11.out (fun h=>h)).mod Cx12.out (fun h=>h)).mod E.m (by intro h2;rcases h2 with ⟨h0,h2|h2⟩|h2<;>first|omega|(have hb:=HBB.out _ h2;omega)|exact HXQ.out h2|exact HNPR.out h2)) rfl))
 ·refine Ag rfl rfl rfl fun _ _ _ _ _ _ hm0 hout _ _ hub _=>?_
  refine Aq rfl (Ab rfl) (Ap rfl Try.underlying47 rfl (off:=0) (cs:=y0.cells) (by rw [St.len HYO0.out];exact Bb) ((hout 11 (by decide)).trans oe11) (Cs.whole (Hx13.out.mod hm0 (by intro h2;have hu:=hub 2 9 rfl (by kernel_rfl);rcases h2 with ⟨h0,kk,hk,h2⟩|h2<;>first|omega|(rcases h2 with ⟨hkk,h2⟩|⟨hkk,h2⟩<;>first|omega|(have hb:=HBB.out _ h2;omega)|exact HXQ.out h2|exact HNPR.out h2))))) QE.refl ?_
  rfl
 ·exact Au rfl
 ·exact Au rfl
 ·exact stq (fun E=>Ai rfl Try.underlying47 rfl (by kernel_rfl) (E.v oe11))
 ·exact Au rfl
 intro u12_0 hr
 have zu12_0:=hr.size
 have Cx14:=hid (hr.new (S:=(fun k=>(Rb k)∨(k=b11))))
 have Hx15:=hid (((((Hx3.out.mod Cx5.out (fun _ _ h=>h)).mod Cx10.out (fun _ _ h=>h)).mod Cx11.out (fun _ _ h=>h)).mod Cx12.out (fun _ _ h=>h)).mod hr (by intro k h1 h2;have hb:=HBB.out k h1;omega))
 clear Hx3
 have Hx16:=hid (Hx13.out.mod hr (by intro h2;omega))
 clear Hx13
 clear hr
 refine QChain.go fun Z act E=>?_
 refine Ax (args:=#[y0.val]) rfl (Ab rfl) rfl Try.func59 (Ca (E.d 5)) (RefStampT_Q (fun _=>False) _ y0 _ ⟨rfl,HYO0.out⟩ (fun _ h=>h.elim) HTL.out) ?_
 rintro e u12_1a ⟨v_a1,rfl,qa1,hm⟩
 obtain ⟨ao_a1,cap_a1,rfl⟩:=qa1.shape
 have zu12_1a:=hm.size
 refine ⟨_,rfl,hm.mono (fun _ _ h=>h.elim),(fun _=>rfl),?_⟩
 intro u12_1 hr
 have zu12_1:=hr.size
 have Hx17:=hid ((qa1.widen (R':=(fun k=>(New u12_0 u12_1a k))) (fun _ h=>h) (Nat.le_refl _)).mod hr (by intro k h1 h2;omega))
 have hmr:=Mod.after hm hr
 have Hx18:=hid (Hx15.out.mod hmr (by intro k h1 h2;have hb:=HBB.out k h1;omega))
 have Hx19:=hid (Hx16.out.mod hmr (by intro h2;omega))
 clear Hx15 Hx16
 clear hmr
 have Cx20:=hid (Cx14.out.go hm hr)
 clear Cx14 hm hr Z act E qa1
 refine QChain.go fun Z act E=>?_
 refine Ax (args:=#[.pointer (some ⟨g,0,none⟩),.int .i64 rep,.slice ao_a1 ((B8 y0).length) cap_a1]) rfl (Ab rfl) rfl Try.func56 (args3 (E.d 0) (E.d 4) (chv (v:=.slice ao_a1 ((B8 y0).length) cap_a1) (E.d 6))) (RSign_Q (bs:=B8 y0) Hx18.out rep Hx17.out.rd HSK.out (by intro k h1;have hb:=HBB.out k h1;omega) (by intro k h1;omega) (by intro k h1 h2;have hb:=HBB.out k h2;omega) HLL.out) ?_
 rintro e u12_2a ⟨rfl,qbk,hm⟩
 have zu12_2a:=hm.size
 refine ⟨_,rfl,hm.mono (by intro k hk h;first|omega|exact Or.inl ⟨(by have hb:=HBB.out k h;omega),Or.inl ⟨rfl,h⟩⟩),(fun _=>rfl),?_⟩
 intro u12_2 hr
 have zu12_2:=hr.size
 have Hx21:=hid ((qbk.widen (R':=(fun k=>(Rb k)∨(New u12_1 u12_2a k))) (fun _ h=>h)).mod hr (by intro k h1 h2;rcases h1 with h1|h1<;>first|omega|(have hb:=HBB.out k h1;omega)|exact HXQ.out (h2▸h1)|exact HXQ.out (h1▸h2)|exact HNPR.out (h2▸h1)|exact HNPR.out (h1▸h2)))
 have hmr:=hm.two hr
 have Hx22:=hid (Hx19.out.mod hmr (by intro h2;rcases h2 with h2|h2<;>first|omega|(have hb:=HBB.out _ h2;omega)|exact HXQ.out h2|exact HNPR.out h2))
 have Hx23:=hid (Hx17.out.mod hmr (by intro k h1 h2;rcases h2 with h2|h2<;>first|omega|(have hb:=HBB.out k h2;omega)|exact HXQ.out (h2▸h1)|exact HXQ.out (h1▸h2)|exact HNPR.out (h2▸h1)|exact HNPR.out (h1▸h2)))
 clear Hx19 Hx17
 clear hmr
 have Cx24:=hid (Cx20.out.goM hm hr (by intro k h0 h2;first|omega|exact Or.inl h2|exact Or.inr (h2)))
 clear Cx20 hm hr Z act E qbk Hx18
 clear Hx23
 refine QChain.go fun Z act E=>?_
 refine Bc rfl (Ab rfl) rfl Hx22.out (off:=36) (vs:=[.int .i64 rep,.int .i64 (((mkN (B7 L (rep,B8 y0)) (rep,B8 y0)):Nat):Int)]) (by kernel_rfl) (by intro u hu;simp only [List.mem_cons,List.not_mem_nil,or_false] at hu;rcases hu with rfl|rfl<;>rfl) (by rw [List.size_toArray,St.len HYO0.out];simp only [List.length_cons,List.length_nil];omega) (E.d 8) (ec (E.d 7)) ?_
 intro u12_3a qc0 hm
 have qb11:=qc0.eqv (b:=(y1.cells:List Value).toArray) (by rw [HY1.out];exact lay_stsig _ _ _ HYO0.out.h.1)
 clear qc0
 have zu12_3a:=hm.size
 refine ⟨hm.mono (by intro k hk h;omega),(fun _=>rfl),?_⟩
 intro u12_3 hr
 have zu12_3:=hr.size
 have Hx25:=hid (qb11.mod hr (by intro h2;omega))
 have hmr:=hm.two hr
 have Hx26:=hid (Hx21.out.mod hmr (by intro k h1 h2;rcases h1 with h1|h1<;>first|omega|(have hb:=HBB.out k h1;omega)|exact HXQ.out (h2▸h1)|exact HXQ.out (h1▸h2)|exact HNPR.out (h2▸h1)|exact HNPR.out (h1▸h2)))
 clear Hx21
 clear hmr
 have Cx27:=hid (Cx24.out.goM hm hr (by intro k h0 h2;first|omega|exact Or.inl h2|exact Or.inr (h2)))
 clear Cx24 hm hr Z act E qb11 Hx22
 refine QChain.nil fun vs hl hzz hrows hne=>?_
 obtain ⟨Z,hYZ,hZb,hV⟩:=hzz
 have f0:=fvi hV hl 0
 have f1:=fvi hV hl 1
 have f6:=fvc hV hl 6
 have f7:=fvi hV hl 7
 rw [show vs=[gw vs 0,gw vs 1,gw vs 2,gw vs 3,gw vs 4,gw vs 5,gw vs 6,gw vs 7,gw vs 8,gw vs 9] from (Bh hl).trans rfl]
 have ha0:=HA0.out
 subst ha0
 clear HA0 hV hYZ hZb hsz0 hrows hne oe0 oe1 oe11
 simp only [Ar,Act.put,sIB,sCZ,sCS,List.set_nil,f0,f1,f6,f7]
 clear hl f0 f1 f6 f7
 go_upto_region 13 with (fail)
 refine Al 92 [73,74,75,76,96] [0,1,2,3,4] (fun a0 HA0=>?_)
 have oe0:=ev HA0 0 rfl
 have oe10:=ev HA0 10 rfl
 refine QSeq.pure rfl _ (fun E=>Ah rfl (E.v oe0)) ?_
 refine QSeq.pure rfl _ (fun E=>Ah rfl (E.v oe10)) ?_
 refine QSeq.pure rfl (.pointer (some ⟨p,0,none⟩)) (fun E=>A1 rfl (E.d 0 1)) ?_
 refine QSeq.pure rfl (.pointer (some ⟨p,5,none⟩)) (fun E=>Ai rfl Try.underlying77 rfl (by kernel_rfl) (E.d 2 0)) ?_
 refine QSeq.go fun act E=>?_
 refine Bc rfl (Ab rfl) rfl (((((Hx1.out.mod Cx5.out (fun h=>h)).mod Cx10.out (fun h=>h)).mod Cx11.out (fun h=>h)).mod Cx12.out (fun h=>h)).mod Cx27.out (by intro h2;rcases h2 with h2|h2<;>first|omega|(have hb:=HBB.out _ h2;omega)|exact HXQ.out h2|exact HNPR.out h2)) (off:=5) (vs:=[Value.int .u64 ((t:Nat):Int)]) (by kernel_rfl) one1 (by simp) (E.d 3 0) (ec (E.d 1 2)) ?_
 intro u13_4 qc0 hm
 have qrd:=qc0.eqv (b:=#[.int .i64 f,.int .i64 k,.int .i64 rep,.int .u64 (s.now:Nat),.int .u64 (s.floor:Nat),.int .u64 ((t:Nat):Int),.slice ao s.m.length cap]) rfl
 clear qc0
 have Hx28:=hid qrd
 have zu13_4:=hm.size
 have Cx29:=hid (show Mod (fun k=>(k=p)) u12_3 u13_4 from hm)
 clear hm
 clear act E qrd Hx1
 refine QSeq.nil (t':=[_,_,_,_,_]) rfl ?_
 obtain rfl:=HA0.out
 clear HA0 oe0 oe10
 simp only [pz,Act.put,sIB,sCZ,sCS,List.set_nil]
 go_upto_region 14 with (fail)
 generalize ha0:Act.mk _ _=a0
 have oe0:a0.eval (.tmp 0)=.pointer (some ⟨p,0,none⟩):=by rw [← ha0];rfl
 have oe5:a0.eval (.tmp 5)=.pointer (some ⟨w.heap.size,0,none⟩):=by rw [← ha0];rfl
 have oe11:a0.eval (.tmp 11)=.pointer (some ⟨b11,0,none⟩):=by rw [← ha0];rfl
 have hsz0:a0.tmps.size=92:=by rw [← ha0];rfl
 have HA0:=hid ha0
 clear ha0
 refine B0 92 hsz0 [77,78,79,80,81,82,83,84,85,86,87,88,89,90,106] (fun k=>(k=p)) (fun k j=>(k=2∧((j=p)))) (fun _ _ h=>h.2) [qi (.pointer (some ⟨p,0,none⟩)),qi (.pointer (some ⟨p,0,none⟩)),qi (.pointer (some ⟨p,0,none⟩)),qi (.pointer (some ⟨p,6,none⟩)),qi (.slice ao s.m.length cap),qv 0,qi (.pointer (some ⟨w.heap.size,0,none⟩)),qi (.agg #[.int .i64 c.cl,.int .i64 c.sq]),qi (y1.val),qi (.agg (gvC ((c.cl,c.sq),y1)).toArray),qb u13_4.heap.size 115 (gvC ((c.cl,c.sq),y1)).toArray 1,qv 1,qi (.pointer (some ⟨p,0,none⟩)),qi (.pointer (some ⟨p,6,none⟩)),qv 2] ⟨Aa,Aa,Aa,Aa,Aa,Ay,Aa,Aa,Aa,Aa,qb_stable,Ay,Aa,Aa,Ay,trivial⟩ [5,11,14] ⟨?_,?_,?_,?_,?_,?_,?_,?_,?_,?_,?_,?_,?_,?_,?_,trivial⟩ ?_
 ·exact stq (fun E=>Ah rfl (E.v oe0))
 ·exact stq (fun E=>Ah rfl (E.v oe0))
 ·exact stq (fun E=>A1 rfl (E.d 1))
 ·exact stq (fun E=>Ai rfl Try.underlying77 rfl (by kernel_rfl) (E.d 2))
 ·refine Ag rfl rfl rfl fun _ _ _ _ _ _ hm0 _ _ hd hub _=>?_
  have h3:=hd ⟨3,.data⟩ (by simp) rfl _ rfl
  refine Aq rfl (Ab rfl) (Am rfl Try.underlying75 rfl h3 (Cs.lit1 (Hx28.out.mod hm0 (by intro h2;have hu:=hub 2 14 rfl (by kernel_rfl);rcases h2 with ⟨h0,kk,hk,h2⟩|h2<;>omega)) rfl)) QE.refl ?_
  rfl
 ·exact Au rfl
 ·exact stq (fun E=>Ai rfl Try.underlying36 rfl (by kernel_rfl) (E.v oe5))
 ·exact stq (fun E=>Ap rfl Try.underlying30 rfl (off:=0) (cs:=[.int .i64 c.cl,.int .i64 c.sq]) (by kernel_rfl) (E.d 6) (Cs.preA (pre:=[.int .i64 c.cl,.int .i64 c.sq]) (mid:=c.h.map bv) (post:=[.int .i64 c.ln,.int .i64 c.sb,.int .i64 c.mr]) (((((((HB5.out.mod Cx5.out (fun h=>h)).mod Cx10.out (fun h=>h)).mod Cx11.out (fun h=>h)).mod Cx12.out (fun h=>h)).mod Cx27.out (by intro h2;rcases h2 with h2|h2<;>first|omega|(have hb:=HBB.out _ h2;omega)|exact HXQ.out h2|exact HNPR.out h2)).mod Cx29.out (by intro h2;omega)).mod E.m (by intro h2;omega)) rfl))
 ·exact stq (fun E=>Ap rfl Try.underlying47 rfl (off:=0) (cs:=y1.cells) (by rw [St.len HYO1.out];exact Bb) (E.v oe11) (Cs.whole ((Hx25.out.mod Cx29.out (by intro h2;omega)).mod E.m (by intro h2;omega))))
 ·refine Ag rfl rfl rfl fun _ _ act _ _ _ _ _ _ hd _ _=>?_
  have h7:=hd ⟨7,.data⟩ (by simp) rfl _ rfl
  have h8:=hd ⟨8,.data⟩ (by simp) rfl _ rfl
  refine Aq rfl (Ab rfl) (ex_build rfl (z:=[.int .i64 0,.int .i64 0,.int .i64 0,.int .i64 0,.int .i64 0,.int .u8 0,.int .u8 0,.int .u8 0,.int .u8 0,.int .u8 0,.int .u8 0,.int .u8 0,.int .u8 0,.int .u8 0,.int .u8 0,.int .u8 0,.int .u8 0,.int .u8 0,.int .u8 0,.int .u8 0,.int .u8 0,.int .u8 0,.int .u8 0,.int .u8 0,.int .u8 0,.int .u8 0,.int .u8 0,.int .u8 0,.int .u8 0,.int .u8 0,.int .u8 0,.int .u8 0,.int .u8 0,.int .u8 0,.int .u8 0,.int .u8 0,.int .u8 0,.int .u64 0,.int .i64 0,.int .i64 0]) (places:=[(0,2),(2,38)]) (by kernel_rfl) (parts:=[(0,.agg #[.int .i64 c.cl,.int .i64 c.sq]),(1,y1.val)]) (by simp only [List.map_toArray,List.map_cons,List.map_nil,show act.eval (.tmp 84)=_ from h7,show act.eval (.tmp 85)=_ from h8];try rfl) (r:=(gvC ((c.cl,c.sq),y1))) (by exact laid_gv c.cl c.sq y1 HYO1.out)) QE.refl ?_
  rfl
 ·refine Ag rfl rfl rfl fun _ tr _ _ hZ hm _ _ _ hd _ _=>?_
  have h9:=hd ⟨9,.data⟩ (by simp) rfl _ rfl
  exact Aq rfl (Ab rfl) (ex_buildS1 (zc:=[.int .i64 0,.int .i64 0,.int .i64 0,.int .i64 0,.int .i64 0,.int .u8 0,.int .u8 0,.int .u8 0,.int .u8 0,.int .u8 0,.int .u8 0,.int .u8 0,.int .u8 0,.int .u8 0,.int .u8 0,.int .u8 0,.int .u8 0,.int .u8 0,.int .u8 0,.int .u8 0,.int .u8 0,.int .u8 0,.int .u8 0,.int .u8 0,.int .u8 0,.int .u8 0,.int .u8 0,.int .u8 0,.int .u8 0,.int .u8 0,.int .u8 0,.int .u8 0,.int .u8 0,.int .u8 0,.int .u8 0,.int .u8 0,.int .u8 0,.int .u64 0,.int .i64 0,.int .i64 0]) rfl Try.underlying75 (by kernel_rfl) rfl (by decide) (by decide) h9 (by rw [gvC_len HYO1.out];rfl)) (QE.still ((Mod.refl _ _).alloc _)) (qb_new (t:=tr) hm.size hZ)
 ·exact Au rfl
 ·exact stq (fun E=>A1 rfl (E.d 0))
 ·exact stq (fun E=>Ai rfl Try.underlying77 rfl (by kernel_rfl) (E.d 12))
 ·exact Au rfl
 intro u14_0 hr
 have zu14_0:=hr.size
 have Cx30:=hid (hr.new (S:=(fun k=>(k=p))))
 have Hx31:=hid (Hx28.out.mod hr (by intro h2;omega))
 clear Hx28
 clear hr
 refine QChain.go fun Z act E=>?_
 refine qc_appS (A:=GvR) (e:=115) (R2:=(fun k=>(Q k))) rfl (Ab rfl) rfl (.agg gv0C) 96 Try.underlying75 info_Gv (by rfl) (of_decide_eq_true (by kernel_rfl)) rfl (E.d 4) (OwS.nil GvR _ (fun _=>False) (fun _=>False) _) ((((((((Hx2.out.mod Cx5.out (fun _ _ h=>h)).mod Cx10.out (fun _ _ h=>h)).mod Cx11.out (fun _ _ h=>h)).mod Cx12.out (fun _ _ h=>h)).mod Cx27.out (by intro k h1 h2;rcases h2 with h2|h2<;>first|omega|(have hb:=HBQ.out k h1;omega)|(have hb:=HBB.out k h2;omega)|exact HDJ.out k h1 h2|exact HDJ.out k h2 h1|(have hb:=HBQ.out k h1;have hb2:=HBB.out k h2;omega)|exact HXQ.out (h2▸h1)|exact HXQ.out (h1▸h2)|exact HNPR.out (h2▸h1)|exact HNPR.out (h1▸h2))).mod Cx29.out (by intro k h1 h2;first|omega|(have hb:=HBQ.out k h1;omega)|exact HXQ.out (h2▸h1)|exact HXQ.out (h1▸h2)|exact HNPR.out (h2▸h1)|exact HNPR.out (h1▸h2))).mod Cx30.out (by intro k h1 h2;first|omega|(have hb:=HBQ.out k h1;omega)|exact HXQ.out (h2▸h1)|exact HXQ.out (h1▸h2)|exact HNPR.out (h2▸h1)|exact HNPR.out (h1▸h2)))) (fun _ _ h=>h) (by simp only [List.length_nil];omega) (by rw [Bk];simp only [List.length_nil];omega) ?_
 intro ao18 cap18 u14_1a q0 hm
 have qnl:=OwS.flat GvR_flat q0 (fun _=>False)
 clear q0
 have zu14_1a:=hm.size
 refine ⟨hm.mono (fun _ _ h=>h.elim),(fun _=>rfl),?_⟩
 intro u14_1 hr
 have zu14_1:=hr.size
 have Hx32:=hid ((qnl.widen (R':=(fun k=>(New u14_0 u14_1a k))) (E':=(fun _=>False)) (fun _ h=>h.elim (fun h=>h.elim) (fun h=>h)) (fun _ h=>h)).mod hr (by intro k h1 h2;omega) (by intro k h1 h2;omega))
 have hmr:=Mod.after hm hr
 have Hx33:=hid (Hx31.out.mod hmr (by intro h2;omega))
 clear Hx31
 clear hmr
 have Cx34:=hid (Cx30.out.go hm hr)
 clear Cx30 hm hr Z act E qnl
 refine QChain.go fun Z act E=>?_
 obtain ⟨gL,eL,hBL,hnL,mL,hL⟩:=E.d 10
 refine qc_appS (A:=GvR) (e:=115) (R2:=(fun k=>k=gL)) rfl (Ab rfl) rfl (.agg gv0C) 96 Try.underlying75 info_Gv (by rfl) (of_decide_eq_true (by kernel_rfl)) (chv (v:=.slice ao18 (([]:NMap).length+s.m.length) cap18) (E.d 5)) eL (Hx32.out) (RdS.singleM hL (show GvR.rd _ _ _ ((c.cl,c.sq),y1) from ⟨rfl,HNK.out,HYO1.out⟩) rfl) (by intro k h1 h2;subst h1;exact hnL (E.YZ _ (by (try dsimp only at h2 ⊢);omega))) (by simp only [List.nil_append,List.length_cons,List.length_nil];omega) (by rw [Bk];simp only [List.nil_append,List.length_cons,List.length_nil];omega) ?_
 intro ao20 cap20 u14_2a q0 hm
 have qnl:=OwS.flat GvR_flat q0 (fun _=>False)
 clear q0 eL hnL hL
 have zu14_2a:=hm.size
 refine ⟨hm.mono (by intro k hk h;omega),(fun _=>rfl),?_⟩
 intro u14_2 hr
 have zu14_2:=hr.size
 have Hx35:=hid ((qnl.widen (R':=(fun k=>(New u14_0 u14_1a k)∨(New u14_1 u14_2a k))) (E':=(fun _=>False)) (fun _ h=>h) (fun _ h=>h)).mod hr (by intro k h1 h2;omega) (by intro k h1 h2;omega))
 have hmr:=hm.two hr
 have Hx36:=hid (Hx33.out.mod hmr (by intro h2;omega))
 clear Hx33
 clear hmr
 have Cx37:=hid (Cx34.out.goM hm hr (by intro k h0 h2;omega))
 clear Cx34 hm hr Z act E qnl Hx32
 refine QChain.go fun Z act E=>?_
 refine Bc rfl (Ab rfl) rfl Hx36.out (off:=6) (vs:=[Value.slice ao20 ((([]:NMap) ++ s.m).length + [((c.cl,c.sq),y1)].length) cap20]) (by kernel_rfl) one1 (by simp) (E.d 13) (ec (chv (v:=.slice ao20 ((([]:NMap) ++ s.m).length + [((c.cl,c.sq),y1)].length) cap20) (E.d 11))) ?_
 intro u14_3a qc0 hm
 have qrd:=qc0.eqv (b:=#[.int .i64 f,.int .i64 k,.int .i64 rep,.int .u64 (s.now:Nat),.int .u64 (s.floor:Nat),.int .u64 ((t:Nat):Int),Value.slice ao20 ((([]:NMap) ++ s.m).length + [((c.cl,c.sq),y1)].length) cap20]) rfl
 clear qc0
 have zu14_3a:=hm.size
 refine ⟨hm.mono (by intro k hk h;omega),(fun _=>rfl),?_⟩
 intro u14_3 hr
 have zu14_3:=hr.size
 have Hx38:=hid (qrd.mod hr (by intro h2;omega))
 have hmr:=hm.two hr
 have Hx39:=hid (Hx35.out.mod hmr (by intro k h1 h2;omega) (by intro k h1 h2;omega))
 clear Hx35
 clear hmr
 have Cx40:=hid (Cx37.out.goM hm hr (fun _ _ h=>h))
 clear Cx37 hm hr Z act E qrd Hx36
 refine QChain.nil fun vs hl hzz hrows hne=>?_
 obtain ⟨Z,hYZ,hZb,hV⟩:=hzz
 have f0:=fvi hV hl 0
 have f1:=fvi hV hl 1
 have f5:=fvc hV hl 5
 have f11:=fvc hV hl 11
 rw [show vs=[gw vs 0,gw vs 1,gw vs 2,gw vs 3,gw vs 4,gw vs 5,gw vs 6,gw vs 7,gw vs 8,gw vs 9,gw vs 10,gw vs 11,gw vs 12,gw vs 13,gw vs 14] from (Bh hl).trans rfl]
 have ha0:=HA0.out
 subst ha0
 clear HA0 hV hYZ hZb hsz0 hrows hne oe0 oe5 oe11
 simp only [Ar,Act.put,sIB,sCZ,sCS,List.set_nil,f0,f1,f5,f11]
 clear hl f0 f1 f5 f11
 go_upto_region 15 with (fail)
 refine Al 92 [91,93,7] [0,1,2] (fun a0 HA0=>?_)
 have oe6:=ev HA0 6 rfl
 have oe11:=ev HA0 11 rfl
 refine QSeq.pure rfl _ (fun E=>Ap rfl Try.underlying47 rfl (off:=0) (cs:=y1.cells) (by rw [St.len HYO1.out];exact Bb) (E.v oe11) (Cs.whole ((Hx25.out.mod Cx29.out (by intro h2;omega)).mod Cx40.out (by intro h2;omega)))) ?_
 refine QSeq.go fun act E=>?_
 refine Bc rfl (Ab rfl) rfl (((((((HB6.out.mod Cx5.out (fun h=>h)).mod Cx10.out (fun h=>h)).mod Cx11.out (fun h=>h)).mod Cx12.out (fun h=>h)).mod Cx27.out (by intro h2;rcases h2 with h2|h2<;>first|omega|(have hb:=HBB.out _ h2;omega)|exact HXQ.out h2|exact HNPR.out h2)).mod Cx29.out (by intro h2;omega)).mod Cx40.out (by intro h2;omega)) (off:=0) (vs:=y1.cells) (by rw [St.len HYO1.out];exact Bb) (St.one y1) (by rw [St.len HYO1.out];decide) (E.v oe6) (ec (E.d 0 0)) ?_
 intro u15_1 qc0 hm
 have qB6:=qc0.eqv (b:=(y1.cells:List Value).toArray) (A0 _ _ (by rw [St.len HYO1.out];rfl))
 clear qc0
 have Hx41:=hid qB6
 have zu15_1:=hm.size
 have Cx42:=hid (show Mod (fun k=>(k=w.heap.size+1)) u14_3 u15_1 from hm)
 clear hm
 clear act E qB6 HB6
 refine QSeq.pure rfl (.int .i64 0) (fun E=>An rfl rfl) ?_
 refine QSeq.nil (t':=[_,_,_]) rfl ?_
 obtain rfl:=HA0.out
 clear HA0 oe6 oe11
 simp only [pz,Act.put,sIB,sCZ,sCS,List.set_nil]
 go_wp2
 have hq:=(Hx39.out.mod Cx42.out (by intro k h1 h2;omega) (by intro k h1 h2;omega))
 rw [List.nil_append] at hq
 have HQL:=Lib.hid hq
 clear hq
 refine bodyPost_ret (Bm rfl _ _ (w.heap.size+1) (y1.cells) rfl (fun k u hu=>by rw [Hx41.out.cell];simpa using hu) Try.underlying47 rfl (by rw [St.len HYO1.out];exact Bb)) rfl ?_
 have hye:y1=stampY L rep c t:=by rw [HY1.out,HY0.out];rfl
 have hke:B7 L (rep,B8 y0)=stampL L rep c t:=by rw [HY0.out];rfl
 have hsl:s.m ++ [((c.cl,c.sq),y1)]=(stampS s L rep c t).m:=by rw [hye];rfl
 have hqe:=HQL.out
 rw [hsl] at hqe
 rw [← hke,← hye]
 refine ⟨(fun k=>R k∨New u12_3 u15_1 k),(fun k=>(Rb k)∨(New u12_1 u12_2a k)),rfl,⟨_,(Hx38.out.mod Cx42.out (by intro h2;omega)),Or.inl HPR.out,hqe.rd.widen ?_,hnw,hfl,(show t+1 < U64 by omega)⟩,(((Hx26.out.mod Cx29.out (by intro k h1 h2;rcases h1 with h1|h1<;>first|omega|(have hb:=HBB.out k h1;omega)|exact HXQ.out (h2▸h1)|exact HXQ.out (h1▸h2)|exact HNPR.out (h2▸h1)|exact HNPR.out (h1▸h2))).mod Cx40.out (by intro k h1 h2;rcases h1 with h1|h1<;>first|omega|(have hb:=HBB.out k h1;omega)|exact HXQ.out (h2▸h1)|exact HXQ.out (h1▸h2)|exact HNPR.out (h2▸h1)|exact HNPR.out (h1▸h2))).mod Cx42.out (by intro k h1 h2;rcases h1 with h1|h1<;>first|omega|(have hb:=HBB.out k h1;omega)|exact HXQ.out (h2▸h1)|exact HXQ.out (h1▸h2)|exact HNPR.out (h2▸h1)|exact HNPR.out (h1▸h2))),?_,?_,?_,((((((((HM0.out.trans Cx5.out (fun _ _ h=>h.elim)).trans Cx10.out (fun _ _ h=>h.elim)).trans Cx11.out (fun _ _ h=>h.elim)).trans Cx12.out (fun _ _ h=>h.elim)).trans Cx27.out (by intro k h1 h2;rcases h2 with h2|h2<;>first|exact h2|omega|exact Or.inl h2|exact Or.inr h2|exact Or.inr (Or.inl h2)|exact Or.inr (Or.inr h2)|(have hb:=HBB.out k h2;omega)|exact (h2▸HPR.out))).trans Cx29.out (by intro k h1 h2;first|exact h2|omega|exact Or.inl h2|exact Or.inr h2|exact Or.inr (Or.inl h2)|exact Or.inr (Or.inr h2)|exact (h2▸HPR.out))).trans Cx40.out (by intro k h1 h2;first|exact h2|omega|exact Or.inl h2|exact Or.inr h2|exact Or.inr (Or.inl h2)|exact Or.inr (Or.inr h2)|exact (h2▸HPR.out))).trans Cx42.out (by intro k h1 h2;first|exact h2|omega|exact Or.inl h2|exact Or.inr h2|exact Or.inr (Or.inl h2)|exact Or.inr (Or.inr h2)|exact (h2▸HPR.out))).mono ?_⟩
 ·intro k h1
  (try dsimp only at h1)
  rcases h1 with h1|h1
  ·rcases h1 with h1|h1<;>first|exact ⟨Or.inr (by unfold New;omega),by omega⟩
  ·first|exact ⟨Or.inl (HQ.out k h1).1,(HQ.out k h1).2⟩|exact ⟨Or.inr (by unfold New;omega),by omega⟩|exact h1.elim
 ·intro k h1
  rcases h1 with h1|h1
  ·exact Or.inl h1
  ·right;unfold New at h1 ⊢; omega
 ·intro k h1
  (try dsimp only at h1)
  rcases h1 with h1|h1<;>first|exact Or.inl h1|(right;unfold New at h1 ⊢; omega)
 ·intro k h1 h2
  (try dsimp only at h1 h2)
  rcases h1 with h1|h1<;>rcases h2 with h2|h2<;>first|exact HDD.out k h1 h2|(have hb:=HBRR.out k h1;unfold New at h2;omega)|(have hb:=HBB.out k h2;unfold New at h1;omega)|(unfold New at h1 h2;omega)
 ·intro k _ h1
  rcases h1 with h1|h1
  ·exact Or.inl (h1▸HPR.out)
  ·exact Or.inr h1
end Go.Proofs.Ytbifincepglilaa

/- stamp.Stamper.Clone; the document's Copy. -/
namespace Go.Proofs.Ytbifincepglilaa
open Go Go.RowKit Go.Gv
set_option maxHeartbeats 4000000 in
theorem Clone_Q {R:Nat→Prop} {w:World} {p:Nat} {f k rep:Int} {s:SS} (h:SpR R w p f k rep s) (hB:∀ k,R k→k < w.heap.size) :
 Calls Try.prog 24 #[.pointer (some ⟨p,0,none⟩)] w fun e w'=>∃ p2,e=.returned (.pointer (some ⟨p2,0,none⟩))∧SpR (New w w') w' p2 f k rep s∧Mod (fun _=>False) w w':=by
 obtain ⟨b,hc,hp,hb,hmp,hne,hnw,hfl,hla,hok⟩:=h
 have hpl:=hc.lt
 have hbl:=hmp.lt
 have hU:U64=18446744073709551616:=rfl
 have HC:=hid (show Cs w p #[.int .i64 f,.int .i64 k,.int .i64 rep,.int .u64 (s.now:Nat),.int .u64 (s.floor:Nat),.int .u64 (s.last:Nat),.map (some b)] 91 from hc)
 have HMP:=Lib.hid hmp
 have HBR:=Lib.hid hB
 have HPR:=Lib.hid hp
 have HRB:=Lib.hid hb
 have HOKS:=Lib.hid hok
 clear hc hmp hp hb hok hB
 go_enter Try.func24,Try.ntmps24
 go_upto_region 1 with (fail)
 have HM0:=hid (Mod.refl (fun _=>False) w)
 go_upto_region 1 with (fail)
 refine Al 13 [4,5,6,3,17] [0,1,2,3,4] (fun a0 HA0=>?_)
 have oe0:=ev HA0 0 rfl
 refine QSeq.pure rfl _ (fun E=>Ah rfl (E.v oe0)) ?_
 refine QSeq.pure rfl (.pointer (some ⟨p,0,none⟩)) (fun E=>A1 rfl (E.d 0 0)) ?_
 refine QSeq.pure rfl _ (fun E=>Ap rfl Try.underlying91 rfl (off:=0) (cs:=[.int .i64 f,.int .i64 k,.int .i64 rep,.int .u64 (s.now:Nat),.int .u64 (s.floor:Nat),.int .u64 (s.last:Nat),.map (some b)]) (by kernel_rfl) (E.d 1 0) (Cs.whole HC.out)) ?_
 refine QSeq.go fun act E=>?_
 refine qc_alloc rfl (Ab rfl) rfl (z:=[.int .i64 0,.int .i64 0,.int .i64 0,.int .u64 0,.int .u64 0,.int .u64 0,.map none]) (by kernel_rfl) ?_
 intro u1_3 qq3n hm
 have zl1_3:=qq3n.lt
 have Hx1:=hid qq3n
 have zu1_3:=hm.size
 have Cx2:=hid (show Mod (fun _=>False) w u1_3 from hm)
 clear hm
 clear act E qq3n
 refine QSeq.go fun act E=>?_
 have hlz:(([.int .i64 f,.int .i64 k,.int .i64 rep,.int .u64 (s.now:Nat),.int .u64 (s.floor:Nat),.int .u64 (s.last:Nat),.map (some b)]:List Value)).length=List.length ([.int .i64 0,.int .i64 0,.int .i64 0,.int .u64 0,.int .u64 0,.int .u64 0,.map none]:List Value):=rfl
 refine Bc rfl (Ab rfl) rfl Hx1.out (off:=0) (vs:=([.int .i64 f,.int .i64 k,.int .i64 rep,.int .u64 (s.now:Nat),.int .u64 (s.floor:Nat),.int .u64 (s.last:Nat),.map (some b)]:List Value)) (by rw [hlz];kernel_rfl) (by intro u hu;simp only [List.mem_cons,List.not_mem_nil,or_false] at hu;rcases hu with rfl|rfl|rfl|rfl|rfl|rfl|rfl<;>rfl) (by rw [hlz];exact Nat.le_of_eq (Nat.zero_add _)) (E.d 3 0) (ec (E.d 2 1)) ?_
 intro u1_4 qc0 hm
 have qq3n:=qc0.eqv (b:=(([.int .i64 f,.int .i64 k,.int .i64 rep,.int .u64 (s.now:Nat),.int .u64 (s.floor:Nat),.int .u64 (s.last:Nat),.map (some b)]:List Value):List Value).toArray) (A0 (#[.int .i64 0,.int .i64 0,.int .i64 0,.int .u64 0,.int .u64 0,.int .u64 0,.map none]) _ (by rw [hlz];rfl))
 clear qc0 hlz
 have Hx3:=hid qq3n
 have zu1_4:=hm.size
 have HMu1_4:=hid hm
 have Cx4:=hid (Mod.goS (S':=(fun _=>False)) Cx2.out hm (fun _ h=>h) (by intro k h0 h2;omega))
 clear hm Cx2
 clear act E qq3n Hx1
 clear HMu1_4
 refine QSeq.nil (t':=[_,_,_,_,_]) rfl ?_
 obtain rfl:=HA0.out
 clear HA0 oe0
 simp only [pz,Act.put,sIB,sCZ,sCS,List.set_nil]
 go_upto_region 2 with (fail)
 refine Al 13 [7,8,9,10,11,12,19] [0,1,2,3,4,5,6] (fun a0 HA0=>?_)
 have oe0:=ev HA0 0 rfl
 have oe3:=ev HA0 3 rfl
 refine QSeq.pure rfl _ (fun E=>Ah rfl (E.v oe0)) ?_
 refine QSeq.pure rfl (.pointer (some ⟨p,0,none⟩)) (fun E=>A1 rfl (E.d 0 0)) ?_
 refine QSeq.pure rfl (.pointer (some ⟨p,6,none⟩)) (fun E=>Ai rfl Try.underlying91 rfl (by kernel_rfl) (E.d 1 0)) ?_
 refine QSeq.pure rfl _ (fun E=>Am rfl Try.underlying57 rfl (E.d 2 0) (Cs.lit1 (HC.out.mod Cx4.out (fun h=>h)) rfl)) ?_
 refine QSeq.call rfl rfl Try.func42 (MClone_Q (HMP.out.mod Cx4.out (fun h=>h))) (fun E=>Ca (E.d 3 0)) ?_
 rintro e u2_4 ⟨cm,rfl,qmp2,hcm,hm⟩
 have hcm1:=hcm.1
 have hcm2:=hcm.2
 clear hcm
 refine ⟨_,rfl,?_⟩
 have Hx5:=hid qmp2
 have zu2_4:=hm.size
 have Cx6:=hid (show Mod (fun _=>False) u1_4 u2_4 from hm)
 clear hm
 clear qmp2
 refine QSeq.pure rfl (.pointer (some ⟨w.heap.size,6,none⟩)) (fun E=>Ai rfl Try.underlying91 rfl (by kernel_rfl) (E.v oe3)) ?_
 refine QSeq.go fun act E=>?_
 refine Bc rfl (Ab rfl) rfl (Hx3.out.mod Cx6.out (fun h=>h)) (off:=6) (vs:=[Value.map (some cm)]) (by kernel_rfl) one1 (by simp) (E.d 5 0) (ec (E.d 4 1)) ?_
 intro u2_6 qc0 hm
 have qq3n:=qc0.eqv (b:=#[.int .i64 f,.int .i64 k,.int .i64 rep,.int .u64 (s.now:Nat),.int .u64 (s.floor:Nat),.int .u64 (s.last:Nat),.map (some cm)]) rfl
 clear qc0
 have Hx7:=hid qq3n
 have zu2_6:=hm.size
 have HMu2_6:=hid hm
 have Cx8:=hid (Mod.goS (S':=(fun k=>(k=w.heap.size))) Cx6.out hm (fun _ h=>h.elim) (by intro k h0 h2;exact h2))
 clear hm Cx6
 clear act E qq3n Hx3
 have Hx9:=hid (Hx5.out.mod HMu2_6.out (by intro h2;omega))
 clear Hx5 HMu2_6
 refine QSeq.nil (t':=[_,_,_,_,_,_,_]) rfl ?_
 obtain rfl:=HA0.out
 clear HA0 oe0 oe3
 simp only [pz,Act.put,sIB,sCZ,sCS,List.set_nil]
 go_upto_region 3 with (fail)
 refine Al 13 [2] [0] (fun a0 HA0=>?_)
 have oe3:=ev HA0 3 rfl
 refine QSeq.pure rfl _ (fun E=>An rfl (E.v oe3)) ?_
 refine QSeq.nil (t':=[_]) rfl ?_
 obtain rfl:=HA0.out
 clear HA0 oe3
 simp only [pz,Act.put,sIB,sCZ,sCS]
 go_wp2
 go_ret
 exact ⟨_,rfl,⟨cm,Hx7.out,(by unfold New;omega),(by unfold New;omega),Hx9.out,by omega,hnw,hfl,hla,HOKS.out⟩,((HM0.out.trans Cx4.out (fun _ _ h=>h.elim)).trans Cx8.out (by intro k h1 h2;omega))⟩
set_option maxHeartbeats 4000000 in
theorem RCopy_Q {R:Nat→Prop} {w:World} {p:Nat} {f k rep:Int} {s:SS} (h:RpR R w p f k rep s) (hB:∀ k,R k→k < w.heap.size) (hmb:s.m.length≤100000) :
 Calls Try.prog 25 #[.pointer (some ⟨p,0,none⟩)] w fun e w'=>∃ p2,e=.returned (.pointer (some ⟨p2,0,none⟩))∧RpR (New w w') w' p2 f k rep s∧Mod (fun _=>False) w w':=by
 obtain ⟨v0,hc,hp,hl0,hnw,hfl,hla⟩:=h
 obtain ⟨Q,hQ,hl⟩:∃ Q:Nat→Prop,(∀ k,Q k→R k∧k≠p)∧RdS GvR Q w v0 s.m:=⟨_,fun _ h=>h,hl0⟩
 obtain ⟨ao,cap,rfl⟩:=hl.shape
 have hpl:=hc.lt
 have hU:U64=18446744073709551616:=rfl
 have HC:=hid (show Cs w p #[.int .i64 f,.int .i64 k,.int .i64 rep,.int .u64 (s.now:Nat),.int .u64 (s.floor:Nat),.int .u64 (s.last:Nat),.slice ao s.m.length cap] 77 from hc)
 have HLS:=Lib.hid hl
 have HQ:=Lib.hid hQ
 have HPR:=Lib.hid hp
 have HBQ:=hid (fun k (h:Q k)=>hB k (hQ k h).1)
 have HXQ:=hid (fun (h:Q p)=>(hQ p h).2 rfl)
 clear hc hp hl0 hl hQ hB
 go_enter Try.func25,Try.ntmps25
 go_upto_region 1 with (fail)
 have HM0:=hid (Mod.refl (fun _=>False) w)
 go_upto_region 1 with (fail)
 refine Al 13 [4,5,6,3,17] [0,1,2,3,4] (fun a0 HA0=>?_)
 have oe0:=ev HA0 0 rfl
 refine QSeq.pure rfl _ (fun E=>Ah rfl (E.v oe0)) ?_
 refine QSeq.pure rfl (.pointer (some ⟨p,0,none⟩)) (fun E=>A1 rfl (E.d 0 0)) ?_
 refine QSeq.pure rfl _ (fun E=>Ap rfl Try.underlying77 rfl (off:=0) (cs:=[.int .i64 f,.int .i64 k,.int .i64 rep,.int .u64 (s.now:Nat),.int .u64 (s.floor:Nat),.int .u64 (s.last:Nat),.slice ao s.m.length cap]) (by kernel_rfl) (E.d 1 0) (Cs.whole HC.out)) ?_
 refine QSeq.go fun act E=>?_
 refine qc_alloc rfl (Ab rfl) rfl (z:=[.int .i64 0,.int .i64 0,.int .i64 0,.int .u64 0,.int .u64 0,.int .u64 0,.slice none 0 0]) (by kernel_rfl) ?_
 intro u1_3 qq3n hm
 have zl1_3:=qq3n.lt
 have Hx1:=hid qq3n
 have zu1_3:=hm.size
 have Cx2:=hid (show Mod (fun _=>False) w u1_3 from hm)
 clear hm
 clear act E qq3n
 refine QSeq.go fun act E=>?_
 have hlz:(([.int .i64 f,.int .i64 k,.int .i64 rep,.int .u64 (s.now:Nat),.int .u64 (s.floor:Nat),.int .u64 (s.last:Nat),.slice ao s.m.length cap]:List Value)).length=List.length ([.int .i64 0,.int .i64 0,.int .i64 0,.int .u64 0,.int .u64 0,.int .u64 0,.slice none 0 0]:List Value):=rfl
 refine Bc rfl (Ab rfl) rfl Hx1.out (off:=0) (vs:=([.int .i64 f,.int .i64 k,.int .i64 rep,.int .u64 (s.now:Nat),.int .u64 (s.floor:Nat),.int .u64 (s.last:Nat),.slice ao s.m.length cap]:List Value)) (by rw [hlz];kernel_rfl) (by intro u hu;simp only [List.mem_cons,List.not_mem_nil,or_false] at hu;rcases hu with rfl|rfl|rfl|rfl|rfl|rfl|rfl<;>rfl) (by rw [hlz];exact Nat.le_of_eq (Nat.zero_add _)) (E.d 3 0) (ec (E.d 2 1)) ?_
 intro u1_4 qc0 hm
 have qq3n:=qc0.eqv (b:=(([.int .i64 f,.int .i64 k,.int .i64 rep,.int .u64 (s.now:Nat),.int .u64 (s.floor:Nat),.int .u64 (s.last:Nat),.slice ao s.m.length cap]:List Value):List Value).toArray) (A0 (#[.int .i64 0,.int .i64 0,.int .i64 0,.int .u64 0,.int .u64 0,.int .u64 0,.slice none 0 0]) _ (by rw [hlz];rfl))
 clear qc0 hlz
 have Hx3:=hid qq3n
 have zu1_4:=hm.size
 have HMu1_4:=hid hm
 have Cx4:=hid (Mod.goS (S':=(fun _=>False)) Cx2.out hm (fun _ h=>h) (by intro k h0 h2;omega))
 clear hm Cx2
 clear act E qq3n Hx1
 clear HMu1_4
 refine QSeq.nil (t':=[_,_,_,_,_]) rfl ?_
 obtain rfl:=HA0.out
 clear HA0 oe0
 simp only [pz,Act.put,sIB,sCZ,sCS,List.set_nil]
 go_upto_region 2 with (fail)
 refine Al 13 [7,8,9,10,11,12,19] [0,1,2,3,4,5,6] (fun a0 HA0=>?_)
 have oe0:=ev HA0 0 rfl
 have oe3:=ev HA0 3 rfl
 refine QSeq.pure rfl _ (fun E=>Ah rfl (E.v oe0)) ?_
 refine QSeq.pure rfl (.pointer (some ⟨p,0,none⟩)) (fun E=>A1 rfl (E.d 0 0)) ?_
 refine QSeq.pure rfl (.pointer (some ⟨p,6,none⟩)) (fun E=>Ai rfl Try.underlying77 rfl (by kernel_rfl) (E.d 1 0)) ?_
 refine QSeq.pure rfl _ (fun E=>Am rfl Try.underlying75 rfl (E.d 2 0) (Cs.lit1 (HC.out.mod Cx4.out (fun h=>h)) rfl)) ?_
 refine QSeq.go fun act E=>?_
 refine qc_appS (A:=GvR) (e:=115) (R2:=(fun k=>(Q k))) rfl (Ab rfl) rfl (.agg gv0C) 96 Try.underlying75 info_Gv (by rfl) (of_decide_eq_true (by kernel_rfl)) rfl (E.d 3 0) (OwS.nil GvR _ (fun _=>False) (fun _=>False) _) ((HLS.out.mod Cx4.out (fun _ _ h=>h))) (fun _ _ h=>h) (by simp only [List.length_nil];omega) (by rw [Bk];simp only [List.length_nil];omega) ?_
 intro ao2 cap2 u2_4 q0 hm
 have qnl:=OwS.flat GvR_flat q0 (fun _=>False)
 clear q0
 have Hx5:=hid (qnl.widen (R':=(fun k=>(New u1_4 u2_4 k))) (E':=(fun _=>False)) (fun _ h=>h.elim (fun h=>h.elim) (fun h=>h)) (fun _ h=>h))
 have zu2_4:=hm.size
 have Cx6:=hid (show Mod (fun _=>False) u1_4 u2_4 from hm)
 clear hm
 clear act E qnl
 refine QSeq.pure rfl (.pointer (some ⟨w.heap.size,6,none⟩)) (fun E=>Ai rfl Try.underlying77 rfl (by kernel_rfl) (E.v oe3)) ?_
 refine QSeq.go fun act E=>?_
 refine Bc rfl (Ab rfl) rfl (Hx3.out.mod Cx6.out (fun h=>h)) (off:=6) (vs:=[Value.slice ao2 (([]:NMap).length+s.m.length) cap2]) (by kernel_rfl) one1 (by simp) (E.d 5 0) (ec (E.d 4 1)) ?_
 intro u2_6 qc0 hm
 have qq3n:=qc0.eqv (b:=#[.int .i64 f,.int .i64 k,.int .i64 rep,.int .u64 (s.now:Nat),.int .u64 (s.floor:Nat),.int .u64 (s.last:Nat),Value.slice ao2 (([]:NMap).length+s.m.length) cap2]) rfl
 clear qc0
 have Hx7:=hid qq3n
 have zu2_6:=hm.size
 have HMu2_6:=hid hm
 have Cx8:=hid (Mod.goS (S':=(fun k=>(k=w.heap.size))) Cx6.out hm (fun _ h=>h.elim) (by intro k h0 h2;exact h2))
 clear hm Cx6
 clear act E qq3n Hx3
 have Hx9:=hid (Hx5.out.mod HMu2_6.out (by intro k h1 h2;omega) (by intro k h1 h2;omega))
 clear Hx5 HMu2_6
 refine QSeq.nil (t':=[_,_,_,_,_,_,_]) rfl ?_
 obtain rfl:=HA0.out
 clear HA0 oe0 oe3
 simp only [pz,Act.put,sIB,sCZ,sCS,List.set_nil]
 go_upto_region 3 with (fail)
 refine Al 13 [2] [0] (fun a0 HA0=>?_)
 have oe3:=ev HA0 3 rfl
 refine QSeq.pure rfl _ (fun E=>An rfl (E.v oe3)) ?_
 refine QSeq.nil (t':=[_]) rfl ?_
 obtain rfl:=HA0.out
 clear HA0 oe3
 simp only [pz,Act.put,sIB,sCZ,sCS]
 have hq:=Hx9.out
 rw [List.nil_append] at hq
 go_wp2
 go_ret
 exact ⟨_,rfl,⟨_,Hx7.out,(by unfold New;omega),hq.rd.widen (by intro k h1;(try dsimp only at h1);rcases h1 with h1|h1;exact ⟨by unfold New;omega,by omega⟩;exact h1.elim),hnw,hfl,hla⟩,((HM0.out.trans Cx4.out (fun _ _ h=>h.elim)).trans Cx8.out (by intro k h1 h2;omega))⟩
end Go.Proofs.Ytbifincepglilaa

/- stamp.Stamper.Of. -/
namespace Go.Proofs.Ytbifincepglilaa
open Go Go.RowKit Go.Gv
theorem results_cell_2tmp {P:Program} {fn:Func} {p u v:Tmp} {ty:TypeId} (h:fn.results=#[.cell p ty,.tmp u,.tmp v]) (tmps:Array Value) (w:World) (g:Nat) (cs:List Value) {d:TypeDesc}
 (hp:tmps.getD p undef=.pointer (some ⟨g,0,none⟩)) (hc:∀ j u,cs[j]? = some u→w.cell? ⟨g,j,none⟩=some u) (hu:P.underlying ty=some d) (hd:aggDesc d=true) (hi:(P.info? ty).map (·.size)=some cs.length) :
 (results fn tmps).run P w=.ok (.tuple #[.agg cs.toArray,tmps.getD u undef,tmps.getD v undef]) w:=by
 have hp':tmps[p]?.getD undef=.pointer (some ⟨g,0,none⟩):=by simpa using hp
 simp [results,h,hp',asAddr,run_loadA w ty d hu hd ⟨g,0,none⟩ cs hi (fun j u hu=>by rw [add_mk,Nat.zero_add];exact hc j u hu)]
set_option maxHeartbeats 4000000 in
theorem Of_Q {R:Nat→Prop} {w:World} {p:Nat} {f k rep:Int} {s:SS} {n:Int × Int} {y:St} {bb:Bool} (h:SpR R w p f k rep s) (hB:∀ k,R k→k < w.heap.size) (hnk:NmK n) (hlk:lookV s.m n=.tuple #[y.val,.bool bb]) (hyo:y.OK) :
 Calls Try.prog 21 #[.pointer (some ⟨p,0,none⟩),.agg #[.int .i64 n.1,.int .i64 n.2]] w fun e w'=>e=.returned (.tuple #[hv y.h,.int .u64 (y.tm:Nat),.bool bb])∧Mod (fun _=>False) w w':=by
 obtain ⟨b,hc,hp,hb,hmp,hne,hnw,hfl,hla,hok⟩:=h
 have hpl:=hc.lt
 have hbl:=hmp.lt
 have hU:U64=18446744073709551616:=rfl
 have HC:=hid (show Cs w p #[.int .i64 f,.int .i64 k,.int .i64 rep,.int .u64 (s.now:Nat),.int .u64 (s.floor:Nat),.int .u64 (s.last:Nat),.map (some b)] 91 from hc)
 have HMP:=Lib.hid hmp
 have HBR:=Lib.hid hB
 have HPR:=Lib.hid hp
 have HRB:=Lib.hid hb
 have HOKS:=Lib.hid hok
 clear hc hmp hp hb hok hB
 have HLK:=Lib.hid hlk
 have HYO:=Lib.hid hyo
 have HNK:=Lib.hid hnk
 clear hlk hyo hnk
 change Calls _ _ #[.pointer (some ⟨p,0,none⟩),.agg #[.int .i64 n.1,.int .i64 n.2]] _ _
 go_enter Try.func21,Try.ntmps21
 go_upto_region 1 with (fail)
 obtain ⟨w1,hw1⟩:∃ zz,zz=((w.alloc (.cells #[.int .i64 n.1,.int .i64 n.2] 30)).alloc (.cells #[.int .u8 0,.int .u8 0,.int .u8 0,.int .u8 0,.int .u8 0,.int .u8 0,.int .u8 0,.int .u8 0,.int .u8 0,.int .u8 0,.int .u8 0,.int .u8 0,.int .u8 0,.int .u8 0,.int .u8 0,.int .u8 0,.int .u8 0,.int .u8 0,.int .u8 0,.int .u8 0,.int .u8 0,.int .u8 0,.int .u8 0,.int .u8 0,.int .u8 0,.int .u8 0,.int .u8 0,.int .u8 0,.int .u8 0,.int .u8 0,.int .u8 0,.int .u8 0] 32)):=⟨_,rfl⟩
 change Code.wp _ _ _ _ ((w.alloc (.cells #[.int .i64 n.1,.int .i64 n.2] 30)).alloc (.cells #[.int .u8 0,.int .u8 0,.int .u8 0,.int .u8 0,.int .u8 0,.int .u8 0,.int .u8 0,.int .u8 0,.int .u8 0,.int .u8 0,.int .u8 0,.int .u8 0,.int .u8 0,.int .u8 0,.int .u8 0,.int .u8 0,.int .u8 0,.int .u8 0,.int .u8 0,.int .u8 0,.int .u8 0,.int .u8 0,.int .u8 0,.int .u8 0,.int .u8 0,.int .u8 0,.int .u8 0,.int .u8 0,.int .u8 0,.int .u8 0,.int .u8 0,.int .u8 0] 32))
 rw [← hw1]
 have HB3:=hid (show Cs w1 (w.heap.size) #[.int .i64 n.1,.int .i64 n.2] 30 by rw [hw1];exact (Cs.new _ _ _).alloc _)
 have HB4:=hid (show Cs w1 (w.heap.size+1) #[.int .u8 0,.int .u8 0,.int .u8 0,.int .u8 0,.int .u8 0,.int .u8 0,.int .u8 0,.int .u8 0,.int .u8 0,.int .u8 0,.int .u8 0,.int .u8 0,.int .u8 0,.int .u8 0,.int .u8 0,.int .u8 0,.int .u8 0,.int .u8 0,.int .u8 0,.int .u8 0,.int .u8 0,.int .u8 0,.int .u8 0,.int .u8 0,.int .u8 0,.int .u8 0,.int .u8 0,.int .u8 0,.int .u8 0,.int .u8 0,.int .u8 0,.int .u8 0] 32 by rw [hw1];exact Cs_newN _ _ _ (by simp))
 have hm:Mod (fun _=>False) w w1:=by rw [hw1];exact ((Mod.refl _ _).alloc _).alloc _
 have HM0:=hid (show Mod (fun _=>False) w w1 from hm.mono (fun _ _ h=>h.elim))
 have hs1:w1.heap.size=w.heap.size+2:=by rw [hw1];simp
 have Hx1:=hid (HC.out.mod hm (fun h=>h))
 clear HC
 have Hx2:=hid (HMP.out.mod hm (fun h=>h))
 clear HMP
 clear hw1 hm
 go_upto_region 1 with (fail)
 generalize ha0:Act.mk _ _=a0
 have oe0:a0.eval (.tmp 0)=.pointer (some ⟨p,0,none⟩):=by rw [← ha0];rfl
 have oe3:a0.eval (.tmp 3)=.pointer (some ⟨w.heap.size,0,none⟩):=by rw [← ha0];rfl
 have hsz0:a0.tmps.size=23:=by rw [← ha0];rfl
 have HA0:=hid ha0
 clear ha0
 refine wp_region_Q 23 hsz0 (by kernel_rfl) (by kernel_rfl) [10,11,12,13,14,15,9,16,17,7,33,8] (by kernel_rfl) (by decide) (fun _=>False) (fun _ _=>False) (fun _ _ h=>h) [qi (.pointer (some ⟨p,0,none⟩)),qi (.pointer (some ⟨p,0,none⟩)),qi (.pointer (some ⟨p,6,none⟩)),qi (.map (some b)),qi (.agg #[.int .i64 n.1,.int .i64 n.2]),qi (.tuple #[y.val,.bool bb]),qi (.tuple #[y.val,.bool bb]),qi (y.val),qi (.bool bb),qa,qa,qi (.bool bb)] ⟨Aa,Aa,Aa,Aa,Aa,Aa,Aa,Aa,Aa,B5,B5,Aa,trivial⟩ [] (by kernel_rfl) (by decide) (by kernel_rfl) [⟨9,10,47,[.int .i64 0,.int .i64 0,.int .i64 0,.int .u8 0,.int .u8 0,.int .u8 0,.int .u8 0,.int .u8 0,.int .u8 0,.int .u8 0,.int .u8 0,.int .u8 0,.int .u8 0,.int .u8 0,.int .u8 0,.int .u8 0,.int .u8 0,.int .u8 0,.int .u8 0,.int .u8 0,.int .u8 0,.int .u8 0,.int .u8 0,.int .u8 0,.int .u8 0,.int .u8 0,.int .u8 0,.int .u8 0,.int .u8 0,.int .u8 0,.int .u8 0,.int .u8 0,.int .u8 0,.int .u8 0,.int .u8 0,.int .u64 0,.int .i64 0,.int .i64 0],0,(fun t=>y.cells)⟩] (by kernel_rfl) (by intro r hr;simp only [List.mem_cons,List.not_mem_nil,or_false] at hr;rcases hr with rfl<;>exact ⟨by kernel_rfl,by kernel_rfl⟩) (by intro r hr;simp only [List.mem_cons,List.not_mem_nil,or_false] at hr;rcases hr with rfl<;>exact ⟨of_decide_eq_true (by kernel_rfl),of_decide_eq_true (by kernel_rfl)⟩) (by intro r hr;simp only [List.mem_cons,List.not_mem_nil,or_false] at hr;rcases hr with rfl<;>exact fun _ _ _ _=>⟨trivial,trivial⟩) ⟨?_,?_,?_,?_,?_,?_,?_,?_,?_,?_,?_,?_,trivial⟩ ?_
 ·exact stq (fun E=>Ah rfl (E.v oe0))
 ·exact stq (fun E=>A1 rfl (E.d 0))
 ·exact stq (fun E=>Ai rfl Try.underlying91 rfl (by kernel_rfl) (E.d 1))
 ·exact stq (fun E=>Am rfl Try.underlying57 rfl (E.d 2) (Cs.lit1 (Hx1.out.mod E.m.old (by intro h2;omega)) rfl))
 ·exact stq (fun E=>Ap rfl Try.underlying30 rfl (off:=0) (cs:=[.int .i64 n.1,.int .i64 n.2]) (by kernel_rfl) (E.v oe3) (Cs.litA (HB3.out.mod E.m.old (by intro h2;omega)) rfl))
 ·exact stq (fun E=>ex_lookS (k:=n) rfl (E.d 3) (E.d 4) HNK.out (Hx2.out.mod E.m.old (by intro h2;omega)) HLK.out)
 ·exact stq (fun E=>Ah rfl (E.d 5))
 ·exact stq (fun E=>A9 rfl (E.d 6) rfl)
 ·exact stq (fun E=>A9 rfl (E.d 6) rfl)
 ·exact stepq_make rfl rfl ⟨rfl,rfl,by kernel_rfl,by kernel_rfl⟩
 ·refine stepq_write rfl rfl rfl ⟨rfl,7,(.tmp 16),rfl,by decide,rfl,by kernel_rfl,fun Z tr act w' hm hout hsz hd hpre=>?_⟩
  have h7:=hd ⟨7,.data⟩ (by simp) rfl _ rfl
  exact ⟨Nat.zero_le _,(by rw [show act.eval ((.tmp 16))=_ from h7];rfl),(by rw [St.len HYO.out];rfl),(St.one y)⟩
 ·exact stq (fun E=>An rfl (E.d 8))
 intro u1_0 hr
 have zu1_0:=hr.size
 have Cx3:=hid (hr.new (S:=(fun _=>False)))
 clear hr
 refine QChain.nil fun vs hl hzz hrows hne=>?_
 obtain ⟨Z,hYZ,hZb,hV⟩:=hzz
 obtain ⟨b7,g9,hBb7,hYb7,hCb7⟩:=hrows _ (by simp only [List.mem_cons,List.not_mem_nil,or_false];trivial)
 have f9:gw vs 9=_:=getv g9
 (try dsimp only at hBb7 hYb7);(try simp only [false_or] at hBb7 hYb7)
 have zqb7:=hCb7.lt
 have Hx4:=hid (show Cs u1_0 b7 (y.cells:List Value).toArray 47 from hCb7)
 have f0:=fvi hV hl 0
 have f6:=fvi hV hl 6
 have f11:=fvi hV hl 11
 rw [show vs=[gw vs 0,gw vs 1,gw vs 2,gw vs 3,gw vs 4,gw vs 5,gw vs 6,gw vs 7,gw vs 8,gw vs 9,gw vs 10,gw vs 11] from (Bh hl).trans rfl]
 have ha0:=HA0.out
 subst ha0
 clear HA0 hV hYZ hZb hsz0 hrows hne oe0 oe3 hCb7 g9
 simp only [Ar,Act.put,sIB,sCZ,sCS,List.set_nil,f9,f0,f6,f11]
 clear hl f9 f0 f6 f11
 have hyl:(y.h.map bv).length=32:=by rw [List.length_map];exact HYO.out.h.1
 go_upto_region 2 with (fail)
 generalize ha0:Act.mk _ _=a0
 have oe4:a0.eval (.tmp 4)=.pointer (some ⟨w.heap.size+1,0,none⟩):=by rw [← ha0];rfl
 have oe7:a0.eval (.tmp 7)=.pointer (some ⟨b7,0,none⟩):=by rw [← ha0];rfl
 have oe8:a0.eval (.tmp 8)=.bool bb:=by rw [← ha0];rfl
 have hsz0:a0.tmps.size=23:=by rw [← ha0];rfl
 have HA0:=hid ha0
 clear ha0
 refine B0 23 hsz0 [18,19,20,21,22,28,5,6] (fun k=>(k=w.heap.size+1)) (fun k j=>(k=0∧((j=w.heap.size+1)))) (fun _ _ h=>h.2) [qi (.pointer (some ⟨b7,3,none⟩)),qi (hv y.h),qi (.pointer (some ⟨b7,35,none⟩)),qi (.int .u64 (y.tm:Nat)),qi (.bool bb),qv 0,qi (.int .u64 (y.tm:Nat)),qi (.bool bb)] ⟨Aa,Aa,Aa,Aa,Aa,Ay,Aa,Aa,trivial⟩ [5] ⟨?_,?_,?_,?_,?_,?_,?_,?_,trivial⟩ ?_
 ·exact stq (fun E=>Ai rfl Try.underlying47 rfl (by kernel_rfl) (E.v oe7))
 ·exact stq (fun E=>Ap rfl Try.underlying32 rfl (off:=3) (cs:=y.h.map bv) (by rw [List.length_map,HYO.out.h.1];exact Bj) (E.d 0) (Cs.midA (Hx4.out.mod E.m (by intro h2;omega)) rfl))
 ·exact stq (fun E=>Ai rfl Try.underlying47 rfl (by kernel_rfl) (E.v oe7))
 ·exact stq (fun E=>Am rfl Try.underlying45 rfl (E.d 2) (Cs.post1 (m:=32) (k:=0) (Hx4.out.mod E.m (by intro h2;omega)) (by rw [List.length_map];exact HYO.out.h.1) rfl rfl))
 ·exact stq (fun E=>Ah rfl (E.v oe8))
 ·exact Au rfl
 ·exact stq (fun E=>An rfl (E.d 3))
 ·exact stq (fun E=>An rfl (E.d 4))
 intro u2_0 hr
 have zu2_0:=hr.size
 have Cx5:=hid (hr.new (S:=(fun k=>(k=w.heap.size+1))))
 have Hx6:=hid ((HB4.out.mod Cx3.out (fun h=>h)).mod hr (by intro h2;omega))
 clear HB4
 clear hr
 refine QChain.go fun Z act E=>?_
 refine Bc rfl (Ab rfl) rfl Hx6.out (off:=0) (vs:=(y.h.map bv)) (by rw [hyl];exact Bj) (by intro u hu;obtain ⟨z,-,rfl⟩:=List.mem_map.1 hu;rfl) (by rw [hyl];decide) (E.v oe4) (ec (E.d 1)) ?_
 intro u2_1a qc0 hm
 have qB4:=qc0.eqv (b:=((y.h.map bv):List Value).toArray) (A0 _ _ (by rw [hyl];rfl))
 clear qc0
 have zu2_1a:=hm.size
 refine ⟨hm.mono (by intro k hk h;omega),(fun _=>rfl),?_⟩
 intro u2_1 hr
 have zu2_1:=hr.size
 have Hx7:=hid (qB4.mod hr (by intro h2;omega))
 have Cx8:=hid (Cx5.out.goM hm hr (fun _ _ h=>h))
 clear Cx5 hm hr Z act E qB4 Hx6
 refine QChain.nil fun vs hl hzz hrows hne=>?_
 obtain ⟨Z,hYZ,hZb,hV⟩:=hzz
 have f4:=fvi hV hl 4
 have f6:=fvi hV hl 6
 have f7:=fvi hV hl 7
 rw [show vs=[gw vs 0,gw vs 1,gw vs 2,gw vs 3,gw vs 4,gw vs 5,gw vs 6,gw vs 7] from (Bh hl).trans rfl]
 have ha0:=HA0.out
 subst ha0
 clear HA0 hV hYZ hZb hsz0 hrows hne oe4 oe7 oe8
 simp only [Ar,Act.put,sIB,sCZ,sCS,List.set_nil,f4,f6,f7]
 clear hl f4 f6 f7
 go_wp2
 refine bodyPost_ret (results_cell_2tmp rfl _ _ (w.heap.size+1) (y.h.map bv) rfl (fun k u hu=>by rw [Hx7.out.cell];simpa using hu) Try.underlying32 rfl (by rw [hyl];exact Bj)) rfl ⟨rfl,((HM0.out.trans Cx3.out (fun _ _ h=>h.elim)).trans Cx8.out (by intro k h1 h2;omega))⟩
end Go.Proofs.Ytbifincepglilaa
