/- Texts that are built one behind the other: XRf1, XRf2, XRf3, XSha6, XSha7, XVal5, XSha8, XRf4, XLens, XGp, XRead2, XRead3, XRead4, XRead5, XSeg, XGl, XCo1, XZr. No condition. -/
import Derived.Test.YtnaoeginonpicaaGreatMvF3
import Derived.Lib.BytesEntry
import Derived.Laws.Externs
import Derived.Deep.Cut
set_option maxRecDepth 100000
set_option linter.unusedVariables false
open Go renaming Lib.hid→B8
open Go.Proofs renaming Tryz.underlying3→B9,Tryz.underlying61→C1,Tryz.underlying45→C7,Tryz.underlying43→D0,Tryz.underlying52→D2,Tryz.underlying47→D4,Tryz.underlying124→D7,Tryz.underlying25→D8,Tryz.underlying59→D9,Tryz.underlying30→E0,Tryz.func22→E3,Tryz.underlying127→E4,Tryz.underlying100→E5,Tryz.func67→E6,Tryz.underlying29→E7,Tryz.underlying4→E8,Tryz.func21→E9
open Nat renaming le_refl→C0,le_trans→C4
open List renaming append_assoc→C2,length_append→C3,map_cons→C5,map_nil→C6,map_toArray→C8,not_mem_nil→C9,mem_cons→D1,size_toArray→D3,length_nil→D5,length_cons→D6
open List renaming setIfInBounds_toArray → sIB, set_cons_zero → sCZ, set_cons_succ → sCS
namespace Go.Proofs.YtnaoeginonpicaaGreat
open Go Go.RowKit Go.Gv
theorem Bf (n:Int) (hn:I64 n) (w:World):Calls Tryz.prog 22 #[.int .i64 n] w fun e w'=>∃ v',e=.returned v'∧OwR (New w w') 900000 w' v' (encI n)∧Mod (fun _=>False) w w':=
 (RefInt_R n hn w).mono fun e w' ⟨v',he,ho,hm⟩=>⟨v',he,ho.widen (fun _ h=>h) aL,hm⟩
theorem RefNum_Q (n:Nat) (hn:n < U64) (w:World):Calls Tryz.prog 28 #[.int .u64 n] w fun e w'=>∃ v',e=.returned v'∧OwR (New w w') 900000 w' v' (encN n)∧Mod (fun _=>False) w w':=
 (RefNum_R n hn w).mono fun e w' ⟨v',he,ho,hm⟩=>⟨v',he,ho.widen (fun _ h=>h) aL,hm⟩
theorem RefRow_Q {R:Nat→Prop} {N:Nat} {v:Value} {bs:List Int} {w:World} (hr:RdR R N w v bs) (hl:(encN bs.length ++ bs).length≤900000):Calls Tryz.prog 35 #[v] w fun e w'=>∃ v',e=.returned v'∧OwR (New w w') 900000 w' v' (encN bs.length ++ bs)∧Mod (fun _=>False) w w':=by
 have h1:bs.length≤900000:=by simp only [C3] at hl;omega
 exact (RefRow_R (N:=bs.length) ⟨hr.1,hr.2.1,C0 _⟩ h1).mono fun e w' ⟨v',he,ho,hm⟩=>⟨v',he,⟨ho.1,ho.2.1,hl⟩,hm⟩
theorem RdB_arr3 {w:World} {g off:Nat} {h:List Int} (hc:∀ j u,(h.map bv)[j]? = some u→w.cell? ⟨g,off+j,none⟩=some u) (hk:HK h):RdB w (.slice (some ⟨g,off,none⟩) 32 32) h:=by
 refine ⟨hk.2,?_⟩
 rw [hk.1]
 exact Rd.mk (C0 _) dR (by simp [hk.1]) fun j y hy=>hc j y hy
def bareT (x:St):List Int:=encI x.rp ++ (nameB x.cl x.sq ++ (x.h ++ encN x.tm))
def bareP (x:Pm):List Int:=encI x.rp ++ (encI x.ep ++ (encN x.fl ++ listB ceB x.l))
def bareV (x:Vt):List Int:=encI x.kd ++ (encI x.ep ++ (encI x.rd ++ (encI x.rp ++ x.h)))
theorem acc_len {α:Type} (f:α→List Int) (bs:List Int) (l:List α) (k:Nat) {n:Nat} (h:(bs ++ (l.map f).flatten).length≤n):(bs ++ ((l.take k).map f).flatten).length≤n:=by
 have e:(l.map f).flatten=((l.take k).map f).flatten ++ ((l.drop k).map f).flatten:=by rw [← List.flatten_append,← List.map_append,List.take_append_drop]
 rw [e] at h
 simp only [C3] at h ⊢
 omega
theorem A4 (n:Int) (h:I64 n):(encI n).length≤10:=(encI_len n h.2).2
open Go.Proofs renaming Tryz.func27→va',Tryz.ntmps27→vb',Tryz.underlying27→vd' in
open Go.Gv renaming n'27→vc' in
set_option maxHeartbeats 2000000 in
theorem RefSig_Q {a b:Int} (ha:I64 a) (hb:I64 b) (w:World):Calls Tryz.prog 27 #[.agg #[.int .i64 a,.int .i64 b]] w fun e w'=>∃ v',e=.returned v'∧OwR (New w w') 900000 w' v' (sigB a b)∧Mod (fun _=>False) w w':=
 fm14'
open Go.Proofs renaming Tryz.func32→va',Tryz.ntmps32→vb',Tryz.underlying23→vd' in
open Go.Gv renaming n'23→vc' in
set_option maxHeartbeats 2000000 in
theorem RefName_Q {a b:Int} (ha:I64 a) (hb:I64 b) (w:World):Calls Tryz.prog 32 #[.agg #[.int .i64 a,.int .i64 b]] w fun e w'=>∃ v',e=.returned v'∧OwR (New w w') 900000 w' v' (nameB a b)∧Mod (fun _=>False) w w':=
 fm14'
set_option maxHeartbeats 4000000 in
theorem RefCm_Q:Makes CmR 23 cmB:=by
 intro R2 cs x w hx hB2 hl
 obtain ⟨rfl,hok⟩:=hx
 have HBT:=B8 hB2
 have HOK:=B8 hok
 have HL:=B8 hl
 clear hB2 hl hok
 unfold cmB at HL
 go_enter Tryz.func23,Tryz.ntmps23
 go_upto_region 1 with (fail)
 obtain ⟨w1,hw1⟩:∃ zz,zz=(w.alloc (.cells (x.cells:List Value).toArray 29)):=⟨_,rfl⟩
 change Code.wp _ _ _ _ (w.alloc (.cells (x.cells:List Value).toArray 29))
 rw [← hw1]
 have HB1:=hid (show Cs w1 (w.heap.size) (x.cells:List Value).toArray 29 by rw [hw1];exact Cs.new _ _ _)
 have hm:Mod (fun _=>False) w w1:=by rw [hw1];exact (Mod.refl _ _).alloc _
 have HM0:=hid (show Mod (fun _=>False) w w1 from hm.mono iB)
 have hs1:w1.heap.size=w.heap.size+1:=by rw [hw1];simp
 clear hw1 hm
 go_upto_region 1 with (fail)
 generalize ha0:Act.mk _ _=a0
 have c3:a0.eval (.tmp 1)=.pointer (some ⟨w.heap.size,0,none⟩):=by rw [← ha0];rfl
 have hsz0:a0.tmps.size=16:=by rw [← ha0];rfl
 have HA0:=hid ha0
 clear ha0
 refine A7 16 hsz0 [3,4,5,6,7,8,9,10,11,12,13,14,15,2] [qi (.pointer (some ⟨w.heap.size,0,none⟩)),qi (.agg #[.int .i64 x.cl,.int .i64 x.sq]),qv 0,qi (.pointer (some ⟨w.heap.size,2,none⟩)),qi (.slice (some ⟨w.heap.size,2,none⟩) 32 32),qi (.pointer (some ⟨w.heap.size,34,none⟩)),qi (.int .i64 x.ln),qv 1,qi (.pointer (some ⟨w.heap.size,35,none⟩)),qi (.agg #[.int .i64 x.sb,.int .i64 x.mr]),qv 2,qv 3,qv 4,qv 4] ⟨Ac,Ac,Ah,Ac,Ac,Ac,Ac,Ah,Ac,Ac,Ah,Ah,Ah,Ah,trivial⟩ [2,7,10,11,12] ⟨?_,?_,?_,?_,?_,?_,?_,?_,?_,?_,?_,?_,?_,?_,trivial⟩ ?_
 ·exact stq (fun E=>Ae rfl E7 rfl aE (E.v c3))
 ·exact stq (fun E=>Ak rfl Tryz.underlying23 rfl (off:=0) (cs:=[.int .i64 x.cl,.int .i64 x.sq]) aE (E.d 0) (Cs.preA (pre:=[.int .i64 x.cl,.int .i64 x.sq]) (mid:=x.h.map bv) (post:=[.int .i64 x.ln,.int .i64 x.sb,.int .i64 x.mr]) (HB1.o.mod E.m.old aG) rfl))
 ·exact Ad rfl
 ·exact stq (fun E=>Ae rfl E7 rfl aE (E.v c3))
 ·exact stq (fun E=>ex_sliceArr rfl D8 aE (E.d 3) aM)
 ·exact stq (fun E=>Ae rfl E7 rfl aE (E.v c3))
 ·exact stq (fun E=>Af rfl B9 rfl (E.d 5) ((HB1.o.mod E.m.old aG).c34 HOK.o.2.1))
 ·exact Ad rfl
 ·exact stq (fun E=>Ae rfl E7 rfl aE (E.v c3))
 ·exact stq (fun E=>Ak rfl Tryz.underlying27 rfl (off:=35) (cs:=[.int .i64 x.sb,.int .i64 x.mr]) aE (E.d 8) ((HB1.o.mod E.m.old aG).sig HOK.o.2.1))
 ·exact Ad rfl
 ·exact Ad rfl
 ·exact Ad rfl
 ·refine Ay rfl rfl rfl fun _ _ _ _ _ _ _ _ _ hd _ _=>?_
  have h12:=hd ⟨12,.data⟩ bA rfl _ rfl
  exact Bl rfl (Aa rfl) (An rfl rfl) QE.refl h12
 intro j4 hr
 have n5:=hr.size
 have g6:=hid (hr.new (S:=(fun _=>False)))
 clear hr
 refine QChain.go fun Z act E=>?_
 refine Aj (args:=#[.agg #[.int .i64 x.cl,.int .i64 x.sq]]) rfl (Aa rfl) rfl Tryz.func32 (Ap (E.d 1)) (RefName_Q HOK.o.1.1 HOK.o.1.2.1 _) ?_
 rintro e j5 ⟨v_a1,rfl,qa1,hm⟩
 obtain ⟨c4,c6,rfl⟩:=qa1.shape
 have n6:=hm.size
 refine ⟨_,rfl,hm.mono iB,(fun _=>rfl),?_⟩
 intro j6 hr
 have n7:=hr.size
 have g7:=hid ((qa1.widen (R':=(fun k=>(New j4 j5 k))) (fun _ h=>h) (C0 _)).mod hr aD)
 have g8:=hid (g6.out.go hm hr)
 clear g6 hm hr Z act E qa1
 refine QChain.go fun Z act E=>?_
 refine Aj (args:=#[.int .i64 x.ln]) rfl (Aa rfl) rfl E3 (Ap (E.d 6)) (Bf _ HOK.o.1.2.2.1 _) ?_
 rintro e j7 ⟨v_a2,rfl,qa2,hm⟩
 obtain ⟨c7,c8,rfl⟩:=qa2.shape
 have n8:=hm.size
 refine ⟨_,rfl,hm.mono iB,(fun _=>rfl),?_⟩
 intro j8 hr
 have o5:=hr.size
 have g9:=hid ((qa2.widen (R':=(fun k=>(New j6 j7 k))) (fun _ h=>h) (C0 _)).mod hr aD)
 have hmr:=Mod.after hm hr
 have i7:=hid (g7.out.mod hmr aD)
 clear g7
 clear hmr
 have i8:=hid (g8.out.go hm hr)
 clear g8 hm hr Z act E qa2
 refine QChain.go fun Z act E=>?_
 refine Aj (args:=#[.agg #[.int .i64 x.sb,.int .i64 x.mr]]) rfl (Aa rfl) rfl Tryz.func27 (Ap (E.d 9)) (RefSig_Q HOK.o.1.2.2.2.1 HOK.o.1.2.2.2.2 _) ?_
 rintro e j9 ⟨v_a3,rfl,qa3,hm⟩
 obtain ⟨c9,d5,rfl⟩:=qa3.shape
 have o6:=hm.size
 refine ⟨_,rfl,hm.mono iB,(fun _=>rfl),?_⟩
 intro i9 hr
 have o7:=hr.size
 have j0:=hid ((qa3.widen (R':=(fun k=>(New j8 j9 k))) (fun _ h=>h) (C0 _)).mod hr aD)
 have hmr:=Mod.after hm hr
 have Hx8:=hid (i7.out.mod hmr aD)
 have Hx9:=hid (g9.out.mod hmr aD)
 clear i7 g9
 clear hmr
 have j3:=hid (i8.out.go hm hr)
 clear i8 hm hr Z act E qa3
 refine QChain.go fun Z act E=>?_
 have ea5:act.eval (.tmp 5)=.slice c4 ((nameB x.cl x.sq).length) c6:=(chv (v:=.slice c4 ((nameB x.cl x.sq).length) c6) (E.d 2))
 have ea7:act.eval (.tmp 7)=.slice (some ⟨w.heap.size,2,none⟩) 32 32:=(E.d 4)
 have ea10:act.eval (.tmp 10)=.slice c7 ((encI x.ln).length) c8:=(chv (v:=.slice c7 ((encI x.ln).length) c8) (E.d 7))
 have ea13:act.eval (.tmp 13)=.slice c9 ((sigB x.sb x.mr).length) d5:=(chv (v:=.slice c9 ((sigB x.sb x.mr).length) d5) (E.d 10))
 refine Bv rfl (Aa rfl) rfl D7 aM (C:=#[.slice c4 ((nameB x.cl x.sq).length) c6,.slice (some ⟨w.heap.size,2,none⟩) 32 32,.slice c7 ((encI x.ln).length) c8,.slice c9 ((sigB x.sb x.mr).length) d5]) (by simp only [C8,C5,C6,ea5,ea7,ea10,ea13];kernel_rfl) ?_
 intro o8 qrow11 hm
 have o9:=qrow11.lt
 have p5:=hm.size
 refine ⟨hm.mono iB,(fun _=>rfl),?_⟩
 intro l7 hr
 have p6:=hr.size
 have d6:=hid (qrow11.mod hr aG)
 have hmr:=Mod.after hm hr
 have d7:=hid (Hx8.o.mod hmr aD)
 have d8:=hid (Hx9.o.mod hmr aD)
 have d9:=hid (j0.out.mod hmr aD)
 clear Hx8 Hx9 j0
 clear hmr
 have g5:=hid (j3.out.go hm hr)
 clear j3 hm hr Z act E qrow11 ea5 ea7 ea10 ea13
 refine QChain.go fun Z act E=>?_
 refine Aj (args:=#[.slice (some ⟨i9.heap.size,0,none⟩) 4 4]) rfl (Aa rfl) rfl E9 (Ap (chv (v:=.slice (some ⟨i9.heap.size,0,none⟩) 4 4) (E.d 11))) (Join_Q (n:=4)  d6.out [(.slice c4 ((nameB x.cl x.sq).length) c6,nameB x.cl x.sq),(.slice (some ⟨w.heap.size,2,none⟩) 32 32,x.h),(.slice c7 ((encI x.ln).length) c8,encI x.ln),(.slice c9 ((sigB x.sb x.mr).length) d5,sigB x.sb x.mr)] rfl rfl (by intro p hp;simp only [D1,C9,or_false] at hp;rcases hp with rfl|rfl|rfl|rfl<;>first|exact d7.out.rd.1|exact RdB_arr3 ((HB1.o.mod g5.out (fun h=>h)).hash) HOK.o.2|exact d8.out.rd.1|exact d9.out.rd.1) bA (show flat _=nameB x.cl x.sq ++ (x.h ++ (encI x.ln ++ sigB x.sb x.mr)) from by simp only [flat,C5,C6,List.flatten_cons,List.flatten_nil,List.append_nil]) aF) ?_
 rintro e l8 ⟨v_join1,rfl,qjoin1,hm⟩
 have p7:=hm.size
 refine ⟨_,rfl,hm.mono iB,(fun _=>rfl),?_⟩
 intro m7 hr
 have p8:=hr.size
 have m8:=hid ((qjoin1.widen (R':=(fun k=>(New l7 l8 k))) (fun _ h=>h) (C0 _)).mod hr aD)
 have hmr:=Mod.after hm hr
 have p9:=hid (d7.out.mod hmr aD)
 have q6:=hid (d8.out.mod hmr aD)
 have q7:=hid (d9.out.mod hmr aD)
 have q8:=hid (d6.out.mod hmr aG)
 clear d7 d8 d9 d6
 clear hmr
 have m9:=hid (g5.out.go hm hr)
 clear g5 hm hr Z act E qjoin1
 refine QChain.nil fun vs hl hzz hrows hne=>?_
 obtain ⟨Z,hYZ,hZb,hV⟩:=hzz
 have f2:=fvc hV hl 2
 have f7:=fvc hV hl 7
 have f10:=fvc hV hl 10
 have f11:=fvc hV hl 11
 have f12:=fvc hV hl 12
 have f13:=fvc hV hl 13
 rw [show vs=[gw vs 0,gw vs 1,gw vs 2,gw vs 3,gw vs 4,gw vs 5,gw vs 6,gw vs 7,gw vs 8,gw vs 9,gw vs 10,gw vs 11,gw vs 12,gw vs 13] from (Bi hl).trans rfl]
 have ha0:=HA0.o
 subst ha0
 clear HA0 hV hYZ hZb hsz0 hrows hne c3
 simp only [Au,Act.put,sIB,sCZ,sCS,f2,f7,f10,f11,f12,f13]
 clear hl f2 f7 f10 f11 f12 f13
 go_wp2
 go_ret
 have hq:=(m8.out.widen (R':=(fun k=>New w m7 k)) bB (C0 _))
 (try simp only [C2] at hq)
 exact ⟨v_join1,rfl,by simpa only [cmB,C2] using hq,(HM0.o.trans m9.out iB)⟩
open Go.Proofs renaming Tryz.func71→va',Tryz.ntmps71→vb',Tryz.underlying32→vd' in
open Go.Gv renaming n'32→vc' in
set_option maxHeartbeats 4000000 in
theorem RefBare_Q:Makes StR 71 bareT:=
 fm15'
open Go.Proofs renaming Tryz.func26→va',Tryz.ntmps26→vb',Tryz.underlying37→vd' in
open Go.Gv renaming n'37→vc' in
set_option maxHeartbeats 4000000 in
theorem RefBareA_Q:Makes StR 26 bareT:=
 fm15'
set_option maxHeartbeats 4000000 in
theorem RefBareV_Q:Makes VtR 31 bareV:=by
 intro R2 cs x w hx hB2 hl
 obtain ⟨rfl,hok⟩:=hx
 have HBT:=B8 hB2
 have HOK:=B8 hok
 have HL:=B8 hl
 clear hB2 hl hok
 unfold bareV at HL
 go_enter Tryz.func31,Tryz.ntmps31
 go_upto_region 1 with (fail)
 obtain ⟨w1,hw1⟩:∃ zz,zz=(w.alloc (.cells (x.cells:List Value).toArray 49)):=⟨_,rfl⟩
 change Code.wp _ _ _ _ (w.alloc (.cells (x.cells:List Value).toArray 49))
 rw [← hw1]
 have HB1:=hid (show Cs w1 (w.heap.size) (x.cells:List Value).toArray 49 by rw [hw1];exact Cs.new _ _ _)
 have hm:Mod (fun _=>False) w w1:=by rw [hw1];exact (Mod.refl _ _).alloc _
 have HM0:=hid (show Mod (fun _=>False) w w1 from hm.mono iB)
 have hs1:w1.heap.size=w.heap.size+1:=by rw [hw1];simp
 clear hw1 hm
 go_upto_region 1 with (fail)
 generalize ha0:Act.mk _ _=a0
 have c3:a0.eval (.tmp 1)=.pointer (some ⟨w.heap.size,0,none⟩):=by rw [← ha0];rfl
 have hsz0:a0.tmps.size=19:=by rw [← ha0];rfl
 have HA0:=hid ha0
 clear ha0
 refine A7 19 hsz0 [3,4,5,6,7,8,9,10,11,12,13,14,15,16,17,18,2] [qi (.pointer (some ⟨w.heap.size,0,none⟩)),qi (.int .i64 x.kd),qv 0,qi (.pointer (some ⟨w.heap.size,1,none⟩)),qi (.int .i64 x.ep),qv 1,qi (.pointer (some ⟨w.heap.size,2,none⟩)),qi (.int .i64 x.rd),qv 2,qi (.pointer (some ⟨w.heap.size,3,none⟩)),qi (.int .i64 x.rp),qv 3,qi (.pointer (some ⟨w.heap.size,4,none⟩)),qi (.slice (some ⟨w.heap.size,4,none⟩) 32 32),qv 4,qv 5,qv 5] ⟨Ac,Ac,Ah,Ac,Ac,Ah,Ac,Ac,Ah,Ac,Ac,Ah,Ac,Ac,Ah,Ah,Ah,trivial⟩ [2,5,8,11,14,15] ⟨?_,?_,?_,?_,?_,?_,?_,?_,?_,?_,?_,?_,?_,?_,?_,?_,?_,trivial⟩ ?_
 ·exact stq (fun E=>Ae rfl Tryz.underlying49 rfl aE (E.v c3))
 ·exact stq (fun E=>Af rfl B9 rfl (E.d 0) (AN (HB1.o.mod E.m.old aG) rfl))
 ·exact Ad rfl
 ·exact stq (fun E=>Ae rfl Tryz.underlying49 rfl aE (E.v c3))
 ·exact stq (fun E=>Af rfl B9 rfl (E.d 3) (AN (HB1.o.mod E.m.old aG) rfl))
 ·exact Ad rfl
 ·exact stq (fun E=>Ae rfl Tryz.underlying49 rfl aE (E.v c3))
 ·exact stq (fun E=>Af rfl B9 rfl (E.d 6) (AN (HB1.o.mod E.m.old aG) rfl))
 ·exact Ad rfl
 ·exact stq (fun E=>Ae rfl Tryz.underlying49 rfl aE (E.v c3))
 ·exact stq (fun E=>Af rfl B9 rfl (E.d 9) (AN (HB1.o.mod E.m.old aG) rfl))
 ·exact Ad rfl
 ·exact stq (fun E=>Ae rfl Tryz.underlying49 rfl aE (E.v c3))
 ·exact stq (fun E=>ex_sliceArr rfl D8 aE (E.d 12) aM)
 ·exact Ad rfl
 ·exact Ad rfl
 ·refine Ay rfl rfl rfl fun _ _ _ _ _ _ _ _ _ hd _ _=>?_
  have h15:=hd ⟨15,.data⟩ bA rfl _ rfl
  exact Bl rfl (Aa rfl) (An rfl rfl) QE.refl h15
 intro m7 hr
 have p6:=hr.size
 have g9:=hid (hr.new (S:=(fun _=>False)))
 clear hr
 refine QChain.go fun Z act E=>?_
 refine Aj (args:=#[.int .i64 x.kd]) rfl (Aa rfl) rfl E3 (Ap (E.d 1)) (Bf _ HOK.o.kd _) ?_
 rintro e m8 ⟨v_a1,rfl,qa1,hm⟩
 obtain ⟨c4,c6,rfl⟩:=qa1.shape
 have p7:=hm.size
 refine ⟨_,rfl,hm.mono iB,(fun _=>rfl),?_⟩
 intro m9 hr
 have p8:=hr.size
 have i7:=hid ((qa1.widen (R':=(fun k=>(New m7 m8 k))) (fun _ h=>h) (C0 _)).mod hr aD)
 have i8:=hid (g9.out.go hm hr)
 clear g9 hm hr Z act E qa1
 refine QChain.go fun Z act E=>?_
 refine Aj (args:=#[.int .i64 x.ep]) rfl (Aa rfl) rfl E3 (Ap (E.d 4)) (Bf _ HOK.o.ep _) ?_
 rintro e n5 ⟨v_a2,rfl,qa2,hm⟩
 obtain ⟨c7,c8,rfl⟩:=qa2.shape
 have p9:=hm.size
 refine ⟨_,rfl,hm.mono iB,(fun _=>rfl),?_⟩
 intro n6 hr
 have q6:=hr.size
 have i9:=hid ((qa2.widen (R':=(fun k=>(New m9 n5 k))) (fun _ h=>h) (C0 _)).mod hr aD)
 have hmr:=Mod.after hm hr
 have j0:=hid (i7.out.mod hmr aD)
 clear i7
 clear hmr
 have j3:=hid (i8.out.go hm hr)
 clear i8 hm hr Z act E qa2
 refine QChain.go fun Z act E=>?_
 refine Aj (args:=#[.int .i64 x.rd]) rfl (Aa rfl) rfl E3 (Ap (E.d 7)) (Bf _ HOK.o.rd _) ?_
 rintro e n7 ⟨v_a3,rfl,qa3,hm⟩
 obtain ⟨c9,d5,rfl⟩:=qa3.shape
 have q7:=hm.size
 refine ⟨_,rfl,hm.mono iB,(fun _=>rfl),?_⟩
 intro n8 hr
 have q8:=hr.size
 have j4:=hid ((qa3.widen (R':=(fun k=>(New n6 n7 k))) (fun _ h=>h) (C0 _)).mod hr aD)
 have hmr:=Mod.after hm hr
 have Hx8:=hid (j0.out.mod hmr aD)
 have Hx9:=hid (i9.out.mod hmr aD)
 clear j0 i9
 clear hmr
 have j5:=hid (j3.out.go hm hr)
 clear j3 hm hr Z act E qa3
 refine QChain.go fun Z act E=>?_
 refine Aj (args:=#[.int .i64 x.rp]) rfl (Aa rfl) rfl E3 (Ap (E.d 10)) (Bf _ HOK.o.rp _) ?_
 rintro e o5 ⟨v_a4,rfl,qa4,hm⟩
 obtain ⟨d6,d7,rfl⟩:=qa4.shape
 have q9:=hm.size
 refine ⟨_,rfl,hm.mono iB,(fun _=>rfl),?_⟩
 intro j6 hr
 have r5:=hr.size
 have j7:=hid ((qa4.widen (R':=(fun k=>(New n8 o5 k))) (fun _ h=>h) (C0 _)).mod hr aD)
 have hmr:=Mod.after hm hr
 have j8:=hid (Hx8.o.mod hmr aD)
 have j9:=hid (Hx9.o.mod hmr aD)
 have l7:=hid (j4.out.mod hmr aD)
 clear Hx8 Hx9 j4
 clear hmr
 have l8:=hid (j5.out.go hm hr)
 clear j5 hm hr Z act E qa4
 refine QChain.go fun Z act E=>?_
 have ea5:act.eval (.tmp 5)=.slice c4 ((encI x.kd).length) c6:=(chv (v:=.slice c4 ((encI x.kd).length) c6) (E.d 2))
 have ea8:act.eval (.tmp 8)=.slice c7 ((encI x.ep).length) c8:=(chv (v:=.slice c7 ((encI x.ep).length) c8) (E.d 5))
 have ea11:act.eval (.tmp 11)=.slice c9 ((encI x.rd).length) d5:=(chv (v:=.slice c9 ((encI x.rd).length) d5) (E.d 8))
 have ea14:act.eval (.tmp 14)=.slice d6 ((encI x.rp).length) d7:=(chv (v:=.slice d6 ((encI x.rp).length) d7) (E.d 11))
 have ea16:act.eval (.tmp 16)=.slice (some ⟨w.heap.size,4,none⟩) 32 32:=(E.d 13)
 refine Bv rfl (Aa rfl) rfl D7 aM (C:=#[.slice c4 ((encI x.kd).length) c6,.slice c7 ((encI x.ep).length) c8,.slice c9 ((encI x.rd).length) d5,.slice d6 ((encI x.rp).length) d7,.slice (some ⟨w.heap.size,4,none⟩) 32 32]) (by simp only [C8,C5,C6,ea5,ea8,ea11,ea14,ea16];kernel_rfl) ?_
 intro r6 qrow14 hm
 have r7:=qrow14.lt
 have r8:=hm.size
 refine ⟨hm.mono iB,(fun _=>rfl),?_⟩
 intro o6 hr
 have r9:=hr.size
 have d8:=hid (qrow14.mod hr aG)
 have hmr:=Mod.after hm hr
 have d9:=hid (j8.out.mod hmr aD)
 have g5:=hid (j9.out.mod hmr aD)
 have g6:=hid (l7.out.mod hmr aD)
 have g7:=hid (j7.out.mod hmr aD)
 clear j8 j9 l7 j7
 clear hmr
 have g8:=hid (l8.out.go hm hr)
 clear l8 hm hr Z act E qrow14 ea5 ea8 ea11 ea14 ea16
 refine QChain.go fun Z act E=>?_
 refine Aj (args:=#[.slice (some ⟨j6.heap.size,0,none⟩) 5 5]) rfl (Aa rfl) rfl E9 (Ap (chv (v:=.slice (some ⟨j6.heap.size,0,none⟩) 5 5) (E.d 14))) (Join_Q (n:=5)  d8.out [(.slice c4 ((encI x.kd).length) c6,encI x.kd),(.slice c7 ((encI x.ep).length) c8,encI x.ep),(.slice c9 ((encI x.rd).length) d5,encI x.rd),(.slice d6 ((encI x.rp).length) d7,encI x.rp),(.slice (some ⟨w.heap.size,4,none⟩) 32 32,x.h)] rfl rfl (by intro p hp;simp only [D1,C9,or_false] at hp;rcases hp with rfl|rfl|rfl|rfl|rfl<;>first|exact d9.out.rd.1|exact g5.out.rd.1|exact g6.out.rd.1|exact g7.out.rd.1|exact RdB_arr3 (Cs.midA (HB1.o.mod g8.out (fun h=>h)) rfl) HOK.o.h) bA (show flat _=encI x.kd ++ (encI x.ep ++ (encI x.rd ++ (encI x.rp ++ x.h))) from by simp only [flat,C5,C6,List.flatten_cons,List.flatten_nil,List.append_nil]) aF) ?_
 rintro e o7 ⟨v_join1,rfl,qjoin1,hm⟩
 have s0:=hm.size
 refine ⟨_,rfl,hm.mono iB,(fun _=>rfl),?_⟩
 intro o8 hr
 have s5:=hr.size
 have o9:=hid ((qjoin1.widen (R':=(fun k=>(New o6 o7 k))) (fun _ h=>h) (C0 _)).mod hr aD)
 have hmr:=Mod.after hm hr
 have s6:=hid (d9.out.mod hmr aD)
 have s7:=hid (g5.out.mod hmr aD)
 have s8:=hid (g6.out.mod hmr aD)
 have t0:=hid (g7.out.mod hmr aD)
 have t1:=hid (d8.out.mod hmr aG)
 clear d9 g5 g6 g7 d8
 clear hmr
 have p5:=hid (g8.out.go hm hr)
 clear g8 hm hr Z act E qjoin1
 refine QChain.nil fun vs hl hzz hrows hne=>?_
 obtain ⟨Z,hYZ,hZb,hV⟩:=hzz
 have f2:=fvc hV hl 2
 have f5:=fvc hV hl 5
 have f8:=fvc hV hl 8
 have f11:=fvc hV hl 11
 have f14:=fvc hV hl 14
 have f15:=fvc hV hl 15
 have f16:=fvc hV hl 16
 rw [show vs=[gw vs 0,gw vs 1,gw vs 2,gw vs 3,gw vs 4,gw vs 5,gw vs 6,gw vs 7,gw vs 8,gw vs 9,gw vs 10,gw vs 11,gw vs 12,gw vs 13,gw vs 14,gw vs 15,gw vs 16] from (Bi hl).trans rfl]
 have ha0:=HA0.o
 subst ha0
 clear HA0 hV hYZ hZb hsz0 hrows hne c3
 simp only [Au,Act.put,sIB,sCZ,sCS,f2,f5,f8,f11,f14,f15,f16]
 clear hl f2 f5 f8 f11 f14 f15 f16
 go_wp2
 go_ret
 have hq:=(o9.out.widen (R':=(fun k=>New w o8 k)) bB (C0 _))
 (try simp only [C2] at hq)
 exact ⟨v_join1,rfl,by simpa only [bareV,C2] using hq,(HM0.o.trans p5.out iB)⟩
set_option maxHeartbeats 4000000 in
theorem RefDn_Q:Makes DnR 34 dnB:=by
 intro R2 cs x w hx hB2 hl
 obtain ⟨rfl,hok⟩:=hx
 have HBT:=B8 hB2
 have HOK:=B8 hok
 have HL:=B8 hl
 clear hB2 hl hok
 unfold dnB at HL
 go_enter Tryz.func34,Tryz.ntmps34
 go_upto_region 1 with (fail)
 obtain ⟨w1,hw1⟩:∃ zz,zz=(w.alloc (.cells (x.cells:List Value).toArray 56)):=⟨_,rfl⟩
 change Code.wp _ _ _ _ (w.alloc (.cells (x.cells:List Value).toArray 56))
 rw [← hw1]
 have HB1:=hid (show Cs w1 (w.heap.size) (x.cells:List Value).toArray 56 by rw [hw1];exact Cs.new _ _ _)
 have hm:Mod (fun _=>False) w w1:=by rw [hw1];exact (Mod.refl _ _).alloc _
 have HM0:=hid (show Mod (fun _=>False) w w1 from hm.mono iB)
 have hs1:w1.heap.size=w.heap.size+1:=by rw [hw1];simp
 clear hw1 hm
 go_upto_region 1 with (fail)
 generalize ha0:Act.mk _ _=a0
 have c3:a0.eval (.tmp 1)=.pointer (some ⟨w.heap.size,0,none⟩):=by rw [← ha0];rfl
 have hsz0:a0.tmps.size=14:=by rw [← ha0];rfl
 have HA0:=hid ha0
 clear ha0
 refine A7 14 hsz0 [3,4,5,6,7,8,9,10,11,12,13,2] [qi (.pointer (some ⟨w.heap.size,0,none⟩)),qi (.int .i64 x.rp),qv 0,qi (.pointer (some ⟨w.heap.size,1,none⟩)),qi (.int .i64 x.ix),qv 1,qi (.pointer (some ⟨w.heap.size,2,none⟩)),qi (.agg #[.int .i64 x.sb,.int .i64 x.mr]),qv 2,qv 3,qv 4,qv 4] ⟨Ac,Ac,Ah,Ac,Ac,Ah,Ac,Ac,Ah,Ah,Ah,Ah,trivial⟩ [2,5,8,9,10] ⟨?_,?_,?_,?_,?_,?_,?_,?_,?_,?_,?_,?_,trivial⟩ ?_
 ·exact stq (fun E=>Ae rfl Tryz.underlying56 rfl aE (E.v c3))
 ·exact stq (fun E=>Af rfl B9 rfl (E.d 0) (AC (HB1.o.mod E.m.old aG) rfl))
 ·exact Ad rfl
 ·exact stq (fun E=>Ae rfl Tryz.underlying56 rfl aE (E.v c3))
 ·exact stq (fun E=>Af rfl B9 rfl (E.d 3) (AC (HB1.o.mod E.m.old aG) rfl))
 ·exact Ad rfl
 ·exact stq (fun E=>Ae rfl Tryz.underlying56 rfl aE (E.v c3))
 ·exact stq (fun E=>Ak rfl Tryz.underlying27 rfl (off:=2) (cs:=[.int .i64 x.sb,.int .i64 x.mr]) aE (E.d 6) (AK (HB1.o.mod E.m.old aG) rfl))
 ·exact Ad rfl
 ·exact Ad rfl
 ·exact Ad rfl
 ·refine Ay rfl rfl rfl fun _ _ _ _ _ _ _ _ _ hd _ _=>?_
  have h10:=hd ⟨10,.data⟩ bA rfl _ rfl
  exact Bl rfl (Aa rfl) (An rfl rfl) QE.refl h10
 intro j4 hr
 have n5:=hr.size
 have g5:=hid (hr.new (S:=(fun _=>False)))
 clear hr
 refine QChain.go fun Z act E=>?_
 refine Aj (args:=#[.int .i64 x.rp]) rfl (Aa rfl) rfl E3 (Ap (E.d 1)) (Bf _ HOK.o.rp _) ?_
 rintro e j5 ⟨v_a1,rfl,qa1,hm⟩
 obtain ⟨c4,c6,rfl⟩:=qa1.shape
 have n6:=hm.size
 refine ⟨_,rfl,hm.mono iB,(fun _=>rfl),?_⟩
 intro j6 hr
 have n7:=hr.size
 have g6:=hid ((qa1.widen (R':=(fun k=>(New j4 j5 k))) (fun _ h=>h) (C0 _)).mod hr aD)
 have g7:=hid (g5.out.go hm hr)
 clear g5 hm hr Z act E qa1
 refine QChain.go fun Z act E=>?_
 refine Aj (args:=#[.int .i64 x.ix]) rfl (Aa rfl) rfl E3 (Ap (E.d 4)) (Bf _ HOK.o.ix _) ?_
 rintro e j7 ⟨v_a2,rfl,qa2,hm⟩
 obtain ⟨c7,c8,rfl⟩:=qa2.shape
 have n8:=hm.size
 refine ⟨_,rfl,hm.mono iB,(fun _=>rfl),?_⟩
 intro j8 hr
 have o5:=hr.size
 have g8:=hid ((qa2.widen (R':=(fun k=>(New j6 j7 k))) (fun _ h=>h) (C0 _)).mod hr aD)
 have hmr:=Mod.after hm hr
 have g9:=hid (g6.out.mod hmr aD)
 clear g6
 clear hmr
 have i7:=hid (g7.out.go hm hr)
 clear g7 hm hr Z act E qa2
 refine QChain.go fun Z act E=>?_
 refine Aj (args:=#[.agg #[.int .i64 x.sb,.int .i64 x.mr]]) rfl (Aa rfl) rfl Tryz.func27 (Ap (E.d 7)) (RefSig_Q HOK.o.sb HOK.o.mr _) ?_
 rintro e j9 ⟨v_a3,rfl,qa3,hm⟩
 obtain ⟨c9,d5,rfl⟩:=qa3.shape
 have o6:=hm.size
 refine ⟨_,rfl,hm.mono iB,(fun _=>rfl),?_⟩
 intro i8 hr
 have o7:=hr.size
 have i9:=hid ((qa3.widen (R':=(fun k=>(New j8 j9 k))) (fun _ h=>h) (C0 _)).mod hr aD)
 have hmr:=Mod.after hm hr
 have Hx8:=hid (g9.out.mod hmr aD)
 have Hx9:=hid (g8.out.mod hmr aD)
 clear g9 g8
 clear hmr
 have j0:=hid (i7.out.go hm hr)
 clear i7 hm hr Z act E qa3
 refine QChain.go fun Z act E=>?_
 have ea5:act.eval (.tmp 5)=.slice c4 ((encI x.rp).length) c6:=(chv (v:=.slice c4 ((encI x.rp).length) c6) (E.d 2))
 have ea8:act.eval (.tmp 8)=.slice c7 ((encI x.ix).length) c8:=(chv (v:=.slice c7 ((encI x.ix).length) c8) (E.d 5))
 have ea11:act.eval (.tmp 11)=.slice c9 ((sigB x.sb x.mr).length) d5:=(chv (v:=.slice c9 ((sigB x.sb x.mr).length) d5) (E.d 8))
 refine Bv rfl (Aa rfl) rfl D7 aM (C:=#[.slice c4 ((encI x.rp).length) c6,.slice c7 ((encI x.ix).length) c8,.slice c9 ((sigB x.sb x.mr).length) d5]) (by simp only [C8,C5,C6,ea5,ea8,ea11];kernel_rfl) ?_
 intro o8 qrow9 hm
 have o9:=qrow9.lt
 have p5:=hm.size
 refine ⟨hm.mono iB,(fun _=>rfl),?_⟩
 intro l7 hr
 have p6:=hr.size
 have d6:=hid (qrow9.mod hr aG)
 have hmr:=Mod.after hm hr
 have d7:=hid (Hx8.o.mod hmr aD)
 have d8:=hid (Hx9.o.mod hmr aD)
 have d9:=hid (i9.out.mod hmr aD)
 clear Hx8 Hx9 i9
 clear hmr
 have j3:=hid (j0.out.go hm hr)
 clear j0 hm hr Z act E qrow9 ea5 ea8 ea11
 refine QChain.go fun Z act E=>?_
 refine Aj (args:=#[.slice (some ⟨i8.heap.size,0,none⟩) 3 3]) rfl (Aa rfl) rfl E9 (Ap (chv (v:=.slice (some ⟨i8.heap.size,0,none⟩) 3 3) (E.d 9))) (Join_Q (n:=3)  d6.out [(.slice c4 ((encI x.rp).length) c6,encI x.rp),(.slice c7 ((encI x.ix).length) c8,encI x.ix),(.slice c9 ((sigB x.sb x.mr).length) d5,sigB x.sb x.mr)] rfl rfl (by intro p hp;simp only [D1,C9,or_false] at hp;rcases hp with rfl|rfl|rfl<;>first|exact d7.out.rd.1|exact d8.out.rd.1|exact d9.out.rd.1) bA (show flat _=encI x.rp ++ (encI x.ix ++ sigB x.sb x.mr) from by simp only [flat,C5,C6,List.flatten_cons,List.flatten_nil,List.append_nil]) aF) ?_
 rintro e l8 ⟨v_join1,rfl,qjoin1,hm⟩
 have p7:=hm.size
 refine ⟨_,rfl,hm.mono iB,(fun _=>rfl),?_⟩
 intro m7 hr
 have p8:=hr.size
 have m8:=hid ((qjoin1.widen (R':=(fun k=>(New l7 l8 k))) (fun _ h=>h) (C0 _)).mod hr aD)
 have hmr:=Mod.after hm hr
 have p9:=hid (d7.out.mod hmr aD)
 have q6:=hid (d8.out.mod hmr aD)
 have q7:=hid (d9.out.mod hmr aD)
 have q8:=hid (d6.out.mod hmr aG)
 clear d7 d8 d9 d6
 clear hmr
 have m9:=hid (j3.out.go hm hr)
 clear j3 hm hr Z act E qjoin1
 refine QChain.nil fun vs hl hzz hrows hne=>?_
 obtain ⟨Z,hYZ,hZb,hV⟩:=hzz
 have f2:=fvc hV hl 2
 have f5:=fvc hV hl 5
 have f8:=fvc hV hl 8
 have f9:=fvc hV hl 9
 have f10:=fvc hV hl 10
 have f11:=fvc hV hl 11
 rw [show vs=[gw vs 0,gw vs 1,gw vs 2,gw vs 3,gw vs 4,gw vs 5,gw vs 6,gw vs 7,gw vs 8,gw vs 9,gw vs 10,gw vs 11] from (Bi hl).trans rfl]
 have ha0:=HA0.o
 subst ha0
 clear HA0 hV hYZ hZb hsz0 hrows hne c3
 simp only [Au,Act.put,sIB,sCZ,sCS,f2,f5,f8,f9,f10,f11]
 clear hl f2 f5 f8 f9 f10 f11
 go_wp2
 go_ret
 have hq:=(m8.out.widen (R':=(fun k=>New w m7 k)) bB (C0 _))
 (try simp only [C2] at hq)
 exact ⟨v_join1,rfl,by simpa only [dnB,C2] using hq,(HM0.o.trans m9.out iB)⟩
set_option maxHeartbeats 4000000 in
theorem RefOp_Q:Makes OpR 33 opB:=by
 intro R2 cs x w hx hB2 hl
 obtain ⟨v_pl,rfl,hok,hs0⟩:=hx
 have HS0:=B8 hs0
 clear hs0
 have HBT:=B8 hB2
 have HOK:=B8 hok
 have HL:=B8 hl
 clear hB2 hl hok
 unfold opB at HL
 go_enter Tryz.func33,Tryz.ntmps33
 go_upto_region 1 with (fail)
 obtain ⟨w1,hw1⟩:∃ zz,zz=(w.alloc (.cells (x.cells v_pl:List Value).toArray 54)):=⟨_,rfl⟩
 change Code.wp _ _ _ _ (w.alloc (.cells (x.cells v_pl:List Value).toArray 54))
 rw [← hw1]
 have HB1:=hid (show Cs w1 (w.heap.size) (x.cells v_pl:List Value).toArray 54 by rw [hw1];exact Cs.new _ _ _)
 have hm:Mod (fun _=>False) w w1:=by rw [hw1];exact (Mod.refl _ _).alloc _
 have HM0:=hid (show Mod (fun _=>False) w w1 from hm.mono iB)
 have hs1:w1.heap.size=w.heap.size+1:=by rw [hw1];simp
 have g7:=hid (HS0.o.mod hm iA)
 clear HS0
 clear hw1 hm
 go_upto_region 1 with (fail)
 generalize ha0:Act.mk _ _=a0
 have c3:a0.eval (.tmp 1)=.pointer (some ⟨w.heap.size,0,none⟩):=by rw [← ha0];rfl
 have hsz0:a0.tmps.size=13:=by rw [← ha0];rfl
 have HA0:=hid ha0
 clear ha0
 refine A7 13 hsz0 [3,4,5,6,7,8,9,10,11,12,2] [qi (.pointer (some ⟨w.heap.size,0,none⟩)),qi (.int .i64 x.ix),qv 0,qi (.pointer (some ⟨w.heap.size,1,none⟩)),qi (v_pl),qv 1,qi (.pointer (some ⟨w.heap.size,2,none⟩)),qi (.slice (some ⟨w.heap.size,2,none⟩) 32 32),qv 2,qv 3,qv 3] ⟨Ac,Ac,Ah,Ac,Ac,Ah,Ac,Ac,Ah,Ah,Ah,trivial⟩ [2,5,8,9] ⟨?_,?_,?_,?_,?_,?_,?_,?_,?_,?_,?_,trivial⟩ ?_
 ·exact stq (fun E=>Ae rfl Tryz.underlying54 rfl aE (E.v c3))
 ·exact stq (fun E=>Af rfl B9 rfl (E.d 0) (Cs.hd1 (HB1.o.mod E.m.old aG) rfl))
 ·exact Ad rfl
 ·exact stq (fun E=>Ae rfl Tryz.underlying54 rfl aE (E.v c3))
 ·exact stq (fun E=>Af rfl D2 rfl (E.d 3) (Cs.hd1 (HB1.o.mod E.m.old aG) rfl))
 ·exact Ad rfl
 ·exact stq (fun E=>Ae rfl Tryz.underlying54 rfl aE (E.v c3))
 ·exact stq (fun E=>ex_sliceArr rfl D8 aE (E.d 6) aM)
 ·exact Ad rfl
 ·exact Ad rfl
 ·refine Ay rfl rfl rfl fun _ _ _ _ _ _ _ _ _ hd _ _=>?_
  have h9:=hd ⟨9,.data⟩ bA rfl _ rfl
  exact Bl rfl (Aa rfl) (An rfl rfl) QE.refl h9
 intro g8 hr
 have j6:=hr.size
 have d6:=hid (hr.new (S:=(fun _=>False)))
 clear hr
 refine QChain.go fun Z act E=>?_
 refine Aj (args:=#[.int .i64 x.ix]) rfl (Aa rfl) rfl E3 (Ap (E.d 1)) (Bf _ HOK.o.1 _) ?_
 rintro e g9 ⟨v_a1,rfl,qa1,hm⟩
 obtain ⟨c4,c6,rfl⟩:=qa1.shape
 have j7:=hm.size
 refine ⟨_,rfl,hm.mono iB,(fun _=>rfl),?_⟩
 intro i7 hr
 have j8:=hr.size
 have d7:=hid ((qa1.widen (R':=(fun k=>(New g8 g9 k))) (fun _ h=>h) (C0 _)).mod hr aD)
 have c9:=hid (d6.out.go hm hr)
 clear d6 hm hr Z act E qa1
 refine QChain.go fun Z act E=>?_
 refine Aj (args:=#[v_pl]) rfl (Aa rfl) rfl Tryz.func35 (Ap (E.d 4)) (RefRow_Q (g7.out.mod c9.out iA) aF) ?_
 rintro e i8 ⟨v_a2,rfl,qa2,hm⟩
 obtain ⟨c7,c8,rfl⟩:=qa2.shape
 have j9:=hm.size
 refine ⟨_,rfl,hm.mono iB,(fun _=>rfl),?_⟩
 intro d8 hr
 have l7:=hr.size
 have d9:=hid ((qa2.widen (R':=(fun k=>(New i7 i8 k))) (fun _ h=>h) (C0 _)).mod hr aD)
 have hmr:=Mod.after hm hr
 have g5:=hid (d7.out.mod hmr aD)
 clear d7
 clear hmr
 have g6:=hid (c9.out.go hm hr)
 clear c9 hm hr Z act E qa2
 refine QChain.go fun Z act E=>?_
 have ea5:act.eval (.tmp 5)=.slice c4 ((encI x.ix).length) c6:=(chv (v:=.slice c4 ((encI x.ix).length) c6) (E.d 2))
 have ea8:act.eval (.tmp 8)=.slice c7 (((encN x.pl.length ++ x.pl)).length) c8:=(chv (v:=.slice c7 (((encN x.pl.length ++ x.pl)).length) c8) (E.d 5))
 have ea10:act.eval (.tmp 10)=.slice (some ⟨w.heap.size,2,none⟩) 32 32:=(E.d 7)
 refine Bv rfl (Aa rfl) rfl D7 aM (C:=#[.slice c4 ((encI x.ix).length) c6,.slice c7 (((encN x.pl.length ++ x.pl)).length) c8,.slice (some ⟨w.heap.size,2,none⟩) 32 32]) (by simp only [C8,C5,C6,ea5,ea8,ea10];kernel_rfl) ?_
 intro l8 qrow8 hm
 have m7:=qrow8.lt
 have m8:=hm.size
 refine ⟨hm.mono iB,(fun _=>rfl),?_⟩
 intro i9 hr
 have m9:=hr.size
 have Hx8:=hid (qrow8.mod hr aG)
 have hmr:=Mod.after hm hr
 have Hx9:=hid (g5.out.mod hmr aD)
 have Hx10:=hid (d9.out.mod hmr aD)
 clear g5 d9
 clear hmr
 have d5:=hid (g6.out.go hm hr)
 clear g6 hm hr Z act E qrow8 ea5 ea8 ea10
 refine QChain.go fun Z act E=>?_
 refine Aj (args:=#[.slice (some ⟨d8.heap.size,0,none⟩) 3 3]) rfl (Aa rfl) rfl E9 (Ap (chv (v:=.slice (some ⟨d8.heap.size,0,none⟩) 3 3) (E.d 8))) (Join_Q (n:=3)  Hx8.o [(.slice c4 ((encI x.ix).length) c6,encI x.ix),(.slice c7 (((encN x.pl.length ++ x.pl)).length) c8,(encN x.pl.length ++ x.pl)),(.slice (some ⟨w.heap.size,2,none⟩) 32 32,x.nc)] rfl rfl (by intro p hp;simp only [D1,C9,or_false] at hp;rcases hp with rfl|rfl|rfl<;>first|exact Hx9.o.rd.1|exact Hx10.o.rd.1|exact RdB_arr3 (Cs.tlA (HB1.o.mod d5.out (fun h=>h)) rfl) HOK.o.2) bA (show flat _=encI x.ix ++ (((encN x.pl.length ++ x.pl)) ++ x.nc) from by simp only [flat,C5,C6,List.flatten_cons,List.flatten_nil,List.append_nil]) aF) ?_
 rintro e j0 ⟨v_join1,rfl,qjoin1,hm⟩
 have n5:=hm.size
 refine ⟨_,rfl,hm.mono iB,(fun _=>rfl),?_⟩
 intro j3 hr
 have n6:=hr.size
 have j4:=hid ((qjoin1.widen (R':=(fun k=>(New i9 j0 k))) (fun _ h=>h) (C0 _)).mod hr aD)
 have hmr:=Mod.after hm hr
 have n7:=hid (Hx9.o.mod hmr aD)
 have n8:=hid (Hx10.o.mod hmr aD)
 have o5:=hid (Hx8.o.mod hmr aG)
 clear Hx9 Hx10 Hx8
 clear hmr
 have j5:=hid (d5.out.go hm hr)
 clear d5 hm hr Z act E qjoin1
 refine QChain.nil fun vs hl hzz hrows hne=>?_
 obtain ⟨Z,hYZ,hZb,hV⟩:=hzz
 have f2:=fvc hV hl 2
 have f5:=fvc hV hl 5
 have f8:=fvc hV hl 8
 have f9:=fvc hV hl 9
 have f10:=fvc hV hl 10
 rw [show vs=[gw vs 0,gw vs 1,gw vs 2,gw vs 3,gw vs 4,gw vs 5,gw vs 6,gw vs 7,gw vs 8,gw vs 9,gw vs 10] from (Bi hl).trans rfl]
 have ha0:=HA0.o
 subst ha0
 clear HA0 hV hYZ hZb hsz0 hrows hne c3
 simp only [Au,Act.put,sIB,sCZ,sCS,f2,f5,f8,f9,f10]
 clear hl f2 f5 f8 f9 f10
 go_wp2
 go_ret
 have hq:=(j4.out.widen (R':=(fun k=>New w j3 k)) bB (C0 _))
 (try simp only [C2] at hq)
 exact ⟨v_join1,rfl,by simpa only [opB,C2] using hq,(HM0.o.trans j5.out iB)⟩
set_option maxHeartbeats 4000000 in
theorem RefSt_Q:Makes StR 24 stB:=by
 intro R2 cs x w hx hB2 hl
 obtain ⟨rfl,hok⟩:=hx
 have HBT:=B8 hB2
 have HOK:=B8 hok
 have HL:=B8 hl
 clear hB2 hl hok
 unfold stB at HL
 go_enter Tryz.func24,Tryz.ntmps24
 go_upto_region 1 with (fail)
 obtain ⟨w1,hw1⟩:∃ zz,zz=(w.alloc (.cells (x.cells:List Value).toArray 32)):=⟨_,rfl⟩
 change Code.wp _ _ _ _ (w.alloc (.cells (x.cells:List Value).toArray 32))
 rw [← hw1]
 have HB1:=hid (show Cs w1 (w.heap.size) (x.cells:List Value).toArray 32 by rw [hw1];exact Cs.new _ _ _)
 have hm:Mod (fun _=>False) w w1:=by rw [hw1];exact (Mod.refl _ _).alloc _
 have HM0:=hid (show Mod (fun _=>False) w w1 from hm.mono iB)
 have hs1:w1.heap.size=w.heap.size+1:=by rw [hw1];simp
 clear hw1 hm
 go_upto_region 1 with (fail)
 generalize ha0:Act.mk _ _=a0
 have c8:a0.eval (.tmp 1)=.pointer (some ⟨w.heap.size,0,none⟩):=by rw [← ha0];rfl
 have hsz0:a0.tmps.size=10:=by rw [← ha0];rfl
 have HA0:=hid ha0
 clear ha0
 refine A7 10 hsz0 [3,4,5,6,7,8,9,2] [qi (.agg (x.cells).toArray),qv 0,qi (.pointer (some ⟨w.heap.size,36,none⟩)),qi (.agg #[.int .i64 x.sb,.int .i64 x.mr]),qv 1,qv 2,qv 3,qv 3] ⟨Ac,Ah,Ac,Ac,Ah,Ah,Ah,Ah,trivial⟩ [1,4,5,6] ⟨?_,?_,?_,?_,?_,?_,?_,?_,trivial⟩ ?_
 ·exact stq (fun E=>Ak rfl Tryz.underlying32 rfl (off:=0) (cs:=x.cells) (by rw [St.len HOK.o];kernel_rfl) (E.v c8) (Cs.whole (HB1.o.mod E.m.old aG)))
 ·exact Ad rfl
 ·exact stq (fun E=>Ae rfl Tryz.underlying32 rfl aE (E.v c8))
 ·exact stq (fun E=>Ak rfl Tryz.underlying27 rfl (off:=36) (cs:=[.int .i64 x.sb,.int .i64 x.mr]) aE (E.d 2) (Cs.postA (m:=32) (k:=1) (HB1.o.mod E.m.old aG) eH rfl rfl))
 ·exact Ad rfl
 ·exact Ad rfl
 ·exact Ad rfl
 ·refine Ay rfl rfl rfl fun _ _ _ _ _ _ _ _ _ hd _ _=>?_
  have h6:=hd ⟨6,.data⟩ bA rfl _ rfl
  exact Bl rfl (Aa rfl) (An rfl rfl) QE.refl h6
 intro g8 hr
 have j6:=hr.size
 have d5:=hid (hr.new (S:=(fun _=>False)))
 clear hr
 refine QChain.go fun Z act E=>?_
 refine Aj (args:=#[.agg (x.cells).toArray]) rfl (Aa rfl) rfl Tryz.func71 (Ap (E.d 0)) (RefBare_Q (fun _=>False) _ x _ ⟨rfl,HOK.o⟩ iC (by have:=HL.o;unfold bareT;simp only [C3] at this ⊢; omega)) ?_
 rintro e g9 ⟨v_a1,rfl,qa1,hm⟩
 obtain ⟨c3,c4,rfl⟩:=qa1.shape
 have j7:=hm.size
 refine ⟨_,rfl,hm.mono iB,(fun _=>rfl),?_⟩
 intro i7 hr
 have j8:=hr.size
 have d6:=hid ((qa1.widen (R':=(fun k=>(New g8 g9 k))) (fun _ h=>h) (C0 _)).mod hr aD)
 have d7:=hid (d5.out.go hm hr)
 clear d5 hm hr Z act E qa1
 refine QChain.go fun Z act E=>?_
 refine Aj (args:=#[.agg #[.int .i64 x.sb,.int .i64 x.mr]]) rfl (Aa rfl) rfl Tryz.func27 (Ap (E.d 3)) (RefSig_Q HOK.o.sb HOK.o.mr _) ?_
 rintro e i8 ⟨v_a2,rfl,qa2,hm⟩
 obtain ⟨c6,c7,rfl⟩:=qa2.shape
 have j9:=hm.size
 refine ⟨_,rfl,hm.mono iB,(fun _=>rfl),?_⟩
 intro d8 hr
 have l7:=hr.size
 have d9:=hid ((qa2.widen (R':=(fun k=>(New i7 i8 k))) (fun _ h=>h) (C0 _)).mod hr aD)
 have hmr:=Mod.after hm hr
 have g5:=hid (d6.out.mod hmr aD)
 clear d6
 clear hmr
 have g6:=hid (d7.out.go hm hr)
 clear d7 hm hr Z act E qa2
 refine QChain.go fun Z act E=>?_
 have ea4:act.eval (.tmp 4)=.slice c3 ((bareT x).length) c4:=(chv (v:=.slice c3 ((bareT x).length) c4) (E.d 1))
 have ea7:act.eval (.tmp 7)=.slice c6 ((sigB x.sb x.mr).length) c7:=(chv (v:=.slice c6 ((sigB x.sb x.mr).length) c7) (E.d 4))
 refine Bv rfl (Aa rfl) rfl D7 aM (C:=#[.slice c3 ((bareT x).length) c4,.slice c6 ((sigB x.sb x.mr).length) c7]) (by simp only [C8,C5,C6,ea4,ea7];kernel_rfl) ?_
 intro l8 qrow5 hm
 have m7:=qrow5.lt
 have m8:=hm.size
 refine ⟨hm.mono iB,(fun _=>rfl),?_⟩
 intro i9 hr
 have m9:=hr.size
 have c9:=hid (qrow5.mod hr aG)
 have hmr:=Mod.after hm hr
 have Hx8:=hid (g5.out.mod hmr aD)
 have Hx9:=hid (d9.out.mod hmr aD)
 clear g5 d9
 clear hmr
 have g7:=hid (g6.out.go hm hr)
 clear g6 hm hr Z act E qrow5 ea4 ea7
 refine QChain.go fun Z act E=>?_
 refine Aj (args:=#[.slice (some ⟨d8.heap.size,0,none⟩) 2 2]) rfl (Aa rfl) rfl E9 (Ap (chv (v:=.slice (some ⟨d8.heap.size,0,none⟩) 2 2) (E.d 5))) (Join_Q (n:=2)  c9.out [(.slice c3 ((bareT x).length) c4,bareT x),(.slice c6 ((sigB x.sb x.mr).length) c7,sigB x.sb x.mr)] rfl rfl fQ bA (show flat _=bareT x ++ sigB x.sb x.mr from by simp only [flat,C5,C6,List.flatten_cons,List.flatten_nil,List.append_nil]) (by have:=HL.o;simp only [bareT,C3] at this ⊢; omega)) ?_
 rintro e j0 ⟨v_join1,rfl,qjoin1,hm⟩
 have n5:=hm.size
 refine ⟨_,rfl,hm.mono iB,(fun _=>rfl),?_⟩
 intro j3 hr
 have n6:=hr.size
 have j4:=hid ((qjoin1.widen (R':=(fun k=>(New i9 j0 k))) (fun _ h=>h) (C0 _)).mod hr aD)
 have hmr:=Mod.after hm hr
 have n7:=hid (Hx8.o.mod hmr aD)
 have n8:=hid (Hx9.o.mod hmr aD)
 have o5:=hid (c9.out.mod hmr aG)
 clear Hx8 Hx9 c9
 clear hmr
 have j5:=hid (g7.out.go hm hr)
 clear g7 hm hr Z act E qjoin1
 refine QChain.nil fun vs hl hzz hrows hne=>?_
 obtain ⟨Z,hYZ,hZb,hV⟩:=hzz
 have f1:=fvc hV hl 1
 have f4:=fvc hV hl 4
 have f5:=fvc hV hl 5
 have f6:=fvc hV hl 6
 have f7:=fvc hV hl 7
 rw [show vs=[gw vs 0,gw vs 1,gw vs 2,gw vs 3,gw vs 4,gw vs 5,gw vs 6,gw vs 7] from (Bi hl).trans rfl]
 have ha0:=HA0.o
 subst ha0
 clear HA0 hV hYZ hZb hsz0 hrows hne c8
 simp only [Au,Act.put,sIB,sCZ,sCS,f1,f4,f5,f6,f7]
 clear hl f1 f4 f5 f6 f7
 go_wp2
 go_ret
 have hq:=(j4.out.widen (R':=(fun k=>New w j3 k)) bB (C0 _))
 (try simp only [C2] at hq)
 exact ⟨v_join1,rfl,by simpa only [stB,bareT,C2] using hq,(HM0.o.trans j5.out iB)⟩
set_option maxHeartbeats 4000000 in
theorem RefCe_Q:Makes CeR 25 ceB:=by
 intro R2 cs x w hx hB2 hl
 obtain ⟨v_l,rfl,hok,hs0⟩:=hx
 obtain ⟨ao_sl_l,cap_sl_l,rfl⟩:=hs0.shape
 have hb0:x.l.length≤maxLen:=hs0.bd
 rw [Ax] at hb0
 have HI0:=hid (show I64 (x.l.length:Int) by unfold I64;omega)
 have HS0:=B8 hs0
 clear hs0
 have HBT:=B8 hB2
 have HOK:=B8 hok
 have HL:=B8 hl
 clear hB2 hl hok
 unfold ceB at HL
 go_enter Tryz.func25,Tryz.ntmps25
 go_upto_region 1 with (fail)
 obtain ⟨w1,hw1⟩:∃ zz,zz=(w.alloc (.cells (x.cells (.slice ao_sl_l x.l.length cap_sl_l):List Value).toArray 35)):=⟨_,rfl⟩
 change Code.wp _ _ _ _ (w.alloc (.cells (x.cells (.slice ao_sl_l x.l.length cap_sl_l):List Value).toArray 35))
 rw [← hw1]
 have HB1:=hid (show Cs w1 (w.heap.size) (x.cells (.slice ao_sl_l x.l.length cap_sl_l):List Value).toArray 35 by rw [hw1];exact Cs.new _ _ _)
 have hm:Mod (fun _=>False) w w1:=by rw [hw1];exact (Mod.refl _ _).alloc _
 have HM0:=hid (show Mod (fun _=>False) w w1 from hm.mono iB)
 have hs1:w1.heap.size=w.heap.size+1:=by rw [hw1];simp
 have d8:=hid (HS0.o.mod hm iA)
 clear HS0
 clear hw1 hm
 go_upto_region 1 with (fail)
 generalize ha0:Act.mk _ _=a0
 have c3:a0.eval (.tmp 1)=.pointer (some ⟨w.heap.size,0,none⟩):=by rw [← ha0];rfl
 have hsz0:a0.tmps.size=30:=by rw [← ha0];rfl
 have HA0:=hid ha0
 clear ha0
 refine A7 30 hsz0 [5,6,7,8,9,10,11,12,13,3] [qi (.pointer (some ⟨w.heap.size,0,none⟩)),qi (x.c.val),qv 0,qi (.pointer (some ⟨w.heap.size,37,none⟩)),qi (.slice ao_sl_l x.l.length cap_sl_l),qi (.int .i64 x.l.length),qv 1,qv 2,qv 3,qv 3] ⟨Ac,Ac,Ah,Ac,Ac,Ac,Ah,Ah,Ah,Ah,trivial⟩ [2,6,7,8] ⟨?_,?_,?_,?_,?_,?_,?_,?_,?_,?_,trivial⟩ ?_
 ·exact stq (fun E=>Ae rfl Tryz.underlying35 rfl aE (E.v c3))
 ·exact stq (fun E=>Ak rfl E7 rfl (off:=0) (cs:=x.c.cells) (by rw [Cm.len HOK.o.2.1];exact size_commit) (E.d 0) (Cs.midA (pre:=[]) (mid:=x.c.cells) (post:=[.slice ao_sl_l x.l.length cap_sl_l]) (HB1.o.mod E.m.old aG) rfl))
 ·exact Ad rfl
 ·exact stq (fun E=>Ae rfl Tryz.underlying35 rfl aE (E.v c3))
 ·exact stq (fun E=>Af rfl Tryz.underlying33 rfl (E.d 3) (AL (pre:=[]) (mid:=x.c.cells) (post:=[.slice ao_sl_l x.l.length cap_sl_l]) (m:=37) (k:=0) (HB1.o.mod E.m.old aG) (Cm.len HOK.o.2.1) rfl rfl))
 ·exact stq (fun E=>A2 rfl (E.d 4) Tryz.underlying33)
 ·exact Ad rfl
 ·exact Ad rfl
 ·exact Ad rfl
 ·refine Ay rfl rfl rfl fun _ _ _ _ _ _ _ _ _ hd _ _=>?_
  have h8:=hd ⟨8,.data⟩ bA rfl _ rfl
  exact Bl rfl (Aa rfl) (An rfl rfl) QE.refl h8
 intro j8 hr
 have o5:=hr.size
 have d9:=hid (hr.new (S:=(fun _=>False)))
 clear hr
 refine QChain.go fun Z act E=>?_
 refine Aj (args:=#[x.c.val]) rfl (Aa rfl) rfl Tryz.func23 (Ap (E.d 1)) (RefCm_Q (fun _=>False) _ x.c _ ⟨rfl,HOK.o⟩ iC aF) ?_
 rintro e j9 ⟨v_a1,rfl,qa1,hm⟩
 obtain ⟨c4,c6,rfl⟩:=qa1.shape
 have o6:=hm.size
 refine ⟨_,rfl,hm.mono iB,(fun _=>rfl),?_⟩
 intro l7 hr
 have o7:=hr.size
 have g5:=hid ((qa1.widen (R':=(fun k=>(New j8 j9 k))) (fun _ h=>h) (C0 _)).mod hr aD)
 have g6:=hid (d9.out.go hm hr)
 clear d9 hm hr Z act E qa1
 refine QChain.go fun Z act E=>?_
 refine Aj (args:=#[.int .i64 x.l.length]) rfl (Aa rfl) rfl E3 (Ap (E.d 5)) (Bf _ HI0.o _) ?_
 rintro e l8 ⟨v_a2,rfl,qa2,hm⟩
 obtain ⟨c7,c8,rfl⟩:=qa2.shape
 have o8:=hm.size
 refine ⟨_,rfl,hm.mono iB,(fun _=>rfl),?_⟩
 intro g7 hr
 have o9:=hr.size
 have g8:=hid ((qa2.widen (R':=(fun k=>(New l7 l8 k))) (fun _ h=>h) (C0 _)).mod hr aD)
 have hmr:=Mod.after hm hr
 have g9:=hid (g5.out.mod hmr aD)
 clear g5
 clear hmr
 have i7:=hid (g6.out.go hm hr)
 clear g6 hm hr Z act E qa2
 refine QChain.go fun Z act E=>?_
 have ea7:act.eval (.tmp 7)=.slice c4 ((cmB x.c).length) c6:=(chv (v:=.slice c4 ((cmB x.c).length) c6) (E.d 2))
 have ea11:act.eval (.tmp 11)=.slice c7 ((encI x.l.length).length) c8:=(chv (v:=.slice c7 ((encI x.l.length).length) c8) (E.d 6))
 refine Bv rfl (Aa rfl) rfl D7 aM (C:=#[.slice c4 ((cmB x.c).length) c6,.slice c7 ((encI x.l.length).length) c8]) (by simp only [C8,C5,C6,ea7,ea11];kernel_rfl) ?_
 intro p5 qrow7 hm
 have p6:=qrow7.lt
 have p7:=hm.size
 refine ⟨hm.mono iB,(fun _=>rfl),?_⟩
 intro m7 hr
 have p8:=hr.size
 have Hx8:=hid (qrow7.mod hr aG)
 have hmr:=Mod.after hm hr
 have Hx9:=hid (g9.out.mod hmr aD)
 have Hx10:=hid (g8.out.mod hmr aD)
 clear g9 g8
 clear hmr
 have i8:=hid (i7.out.go hm hr)
 clear i7 hm hr Z act E qrow7 ea7 ea11
 refine QChain.go fun Z act E=>?_
 refine Aj (args:=#[.slice (some ⟨g7.heap.size,0,none⟩) 2 2]) rfl (Aa rfl) rfl E9 (Ap (chv (v:=.slice (some ⟨g7.heap.size,0,none⟩) 2 2) (E.d 7))) (Join_Q (n:=2)  Hx8.o [(.slice c4 ((cmB x.c).length) c6,cmB x.c),(.slice c7 ((encI x.l.length).length) c8,encI x.l.length)] rfl rfl fN bA (show flat _=cmB x.c ++ encI x.l.length from by simp only [flat,C5,C6,List.flatten_cons,List.flatten_nil,List.append_nil]) bU) ?_
 rintro e m8 ⟨v_join1,rfl,qjoin1,hm⟩
 have p9:=hm.size
 refine ⟨_,rfl,hm.mono iB,(fun _=>rfl),?_⟩
 intro i9 hr
 have q6:=hr.size
 have j0:=hid ((qjoin1.widen (R':=(fun k=>(New m7 m8 k))) (fun _ h=>h) (C0 _)).mod hr aD)
 have hmr:=Mod.after hm hr
 have m9:=hid (Hx9.o.mod hmr aD)
 have n5:=hid (Hx10.o.mod hmr aD)
 have n6:=hid (Hx8.o.mod hmr aG)
 clear Hx9 Hx10 Hx8
 clear hmr
 have c9:=hid (i8.out.go hm hr)
 clear i8 hm hr Z act E qjoin1
 refine QChain.nil fun vs hl hzz hrows hne=>?_
 obtain ⟨Z,hYZ,hZb,hV⟩:=hzz
 have f2:=fvc hV hl 2
 have f5:=fvi hV hl 5
 have f6:=fvc hV hl 6
 have f7:=fvc hV hl 7
 have f8:=fvc hV hl 8
 have f9:=fvc hV hl 9
 rw [show vs=[gw vs 0,gw vs 1,gw vs 2,gw vs 3,gw vs 4,gw vs 5,gw vs 6,gw vs 7,gw vs 8,gw vs 9] from (Bi hl).trans rfl]
 have ha0:=HA0.o
 subst ha0
 clear HA0 hV hYZ hZb hsz0 hrows hne c3
 simp only [Au,Act.put,sIB,sCZ,sCS,f2,f5,f6,f7,f8,f9]
 clear hl f2 f5 f6 f7 f8 f9
 go_upto_region 2 with (fail)
 refine Ab 30 [14,15,16,17] [0,1,2,3] (fun a0 HA0=>?_)
 have c3:=ev HA0 1 rfl
 refine qfd rfl 37 Tryz.underlying35 c3 ?_
 refine QSeq.pure rfl _ (fun E=>Af rfl Tryz.underlying33 rfl (E.d 0 0) (AL (pre:=[]) (mid:=x.c.cells) (post:=[.slice ao_sl_l x.l.length cap_sl_l]) (m:=37) (k:=0) (HB1.o.mod c9.out (fun h=>h)) (Cm.len HOK.o.2.1) rfl rfl)) ?_
 refine QSeq.pure rfl (.int .i64 x.l.length) (fun E=>A2 rfl (E.d 1 0) Tryz.underlying33) ?_
 refine QSeq.pure rfl (.int .i64 0) (fun E=>Al rfl rfl) ?_
 refine qe ?_
 clear HA0 c3 a0
 go_wp2
 go_loopw [3,17] (fun ta ti wr=>∃ k:Nat,ti=.int .i64 (k:Int)∧k≤x.l.length∧i9.heap.size≤wr.heap.size∧OwR (fun b=>w1.heap.size≤b∧b < wr.heap.size) 900000 wr ta ((cmB x.c ++ encI x.l.length) ++ ((x.l.take k).map stB).flatten)∧RdS StR R2 wr (.slice ao_sl_l x.l.length cap_sl_l) x.l∧Cs wr (w.heap.size) (x.cells (.slice ao_sl_l x.l.length cap_sl_l):List Value).toArray 35∧Mod (fun _=>False) w wr) (fun _ ti _=>x.l.length - (intOf ti).toNat)
 case atStart=>exact ⟨0,rfl,Nat.zero_le _,C0 _,by have hq:=(j0.out.widen (R':=(fun b=>w1.heap.size≤b∧b < i9.heap.size)) bB (C0 _));simpa only [List.take_zero,C6,List.flatten_nil,List.append_nil,C2] using hq,(d8.out.mod c9.out iA),(HB1.o.mod c9.out (fun h=>h)),(HM0.o.trans c9.out iB)⟩
 case round=>
  obtain ⟨k1,rfl,hk,hz,ha,hk_0,hk_1,hm⟩:=hrel
  obtain ⟨wl1,rfl⟩:∃ x,x=wr:=⟨_,rfl⟩
  obtain ⟨aol1,capl1,rfl⟩:=ha.shape
  have HAL1:=B8 ha
  have HKL1_0:=B8 hk_0
  have HKL1_1:=B8 hk_1
  have HML1:=B8 hm
  clear ha hm hk_0 hk_1 d8 HB1 HM0 m9 n5 n6 j0
  by_cases hlt1:k1 < x.l.length
  ·skip
   have hat:=HKL1_0.o.at hlt1
   obtain ⟨g1,o1,cs1,eao,hrg,hrd,hcs⟩:=hat
   subst eao
   have hcl:cs1.length=38:=StR.len hrd
   have HCL1:=B8 hcl
   have HAT1:=hid (show CellsAt R2 wl1 g1 (o1+k1 * 38) cs1 from ⟨hrg,hcs⟩)
   have HRD1:=B8 hrd
   clear hcl hcs hrd hrg
   have HE1:Hid (((cmB x.c ++ encI x.l.length) ++ ((x.l.take k1).map stB).flatten) ++ stB x.l[k1]=(cmB x.c ++ encI x.l.length) ++ ((x.l.take (k1+1)).map stB).flatten):=hid cZ
   have HB1':=hid (show (((cmB x.c ++ encI x.l.length) ++ ((x.l.take k1).map stB).flatten) ++ stB x.l[k1]).length≤900000 by rw [HE1.o];exact acc_len _ _ _ _ bU)
   have HBE1:=hid (show (stB x.l[k1]).length≤900000 by have:=HB1'.o;simp only [C3] at this ⊢; omega)
   go_upto_region 4 with (fail)
   refine Ab 30 [19,4] [0,1] (fun a0 HA0=>?_)
   have j3:=ev HA0 17 rfl
   refine qmo rfl j3 ?_
   refine qas rfl 0 0 ?_
   refine qe ?_
   clear HA0 j3 a0
   go_upto_region 5 with (fail)
   refine Ab 30 [20,21,22,23,24,25,26,27,3] [0,1,2,3,4,5,6,7,8] (fun a0 HA0=>?_)
   have c3:=ev HA0 1 rfl
   have j4:=ev HA0 3 rfl
   have j5:=ev HA0 4 rfl
   refine QSeq.pure rfl _ (fun E=>Al rfl (E.y 8 j4)) ?_
   refine qfd rfl 37 Tryz.underlying35 c3 ?_
   refine QSeq.pure rfl _ (fun E=>Af rfl Tryz.underlying33 rfl (E.d 1 0) (AL (pre:=[]) (mid:=x.c.cells) (post:=[.slice (some ⟨g1,o1,none⟩) x.l.length cap_sl_l]) (m:=37) (k:=0) HKL1_1.o (Cm.len HOK.o.2.1) rfl rfl)) ?_
   refine qmo rfl j5 ?_
   refine QSeq.pure rfl (.pointer (some ⟨g1,o1+k1 * 38,none⟩)) (fun E=>Bq (i:=k1) (s:=38) rfl Tryz.underlying33 aE (E.d 2 1) (E.d 3 0) hlt1) ?_
   refine QSeq.pure rfl _ (fun E=>Ak rfl Tryz.underlying32 rfl (off:=o1+k1 * 38) (cs:=cs1) eE (E.d 4 0) (fun j u hu=>(HAT1.o).2 j u hu)) ?_
   refine QSeq.call rfl rfl Tryz.func24 (RefSt_Q _ _ (x.l[k1]) _ HRD1.o aU HBE1.o) (fun E=>Ap (E.d 5 0)) ?_
   rintro e j6 ⟨v_a3,rfl,qa3,hm⟩
   obtain ⟨q7,q8,rfl⟩:=qa3.shape
   refine ⟨_,rfl,?_⟩
   have d5:=hid qa3
   have q9:=hm.size
   have d6:=hid (show Mod (fun _=>False) wl1 j6 from hm)
   clear hm
   clear qa3
   refine QSeq.go fun act E=>?_
   refine qc_appR rfl (Aa rfl) rfl (E.d 0 6) (E.d 6 0) (HAL1.o.mod d6.out iA) d5.out.rd HB1'.o ?_
   intro ao12 cap12 n7 qjoin1 hm
   have n8:=hid (qjoin1.widen (R':=(fun k=>(New w1 wl1 k)∨(New j6 n7 k))) (fun _ h=>h) (C0 _))
   have r5:=hm.size
   have j7:=hid hm
   have d7:=hid (AA (S':=(fun k=>(New w1 wl1 k))) d6.out hm iC aQ)
   clear hm d6
   clear act E qjoin1 HAL1
   refine qas rfl 7 0 ?_
   have r6:=hid (d5.out.mod j7.out aD)
   clear d5 j7
   refine qe ?_
   clear HA0 c3 j4 j5 a0
   have hq:=n8.out
   rw [HE1.o] at hq
   have HQ1:=B8 hq
   clear hq
   go_wp2
   go_roundw
   case rel=>exact ⟨k1+1,by go_num,by omega,by omega,(HQ1.o.widen cS (C0 _)),(HKL1_0.o.mod d7.out (sN HBT)),(HKL1_1.o.mod d7.out aG),(HML1.o.trans d7.out aD)⟩
   case measure=>simp [intOf];omega
  ·obtain rfl:k1=x.l.length:=by omega
   have hq:=HAL1.o
   rw [List.take_length] at hq
   have HAF1:=B8 hq
   clear hq
   rw [List.take_length]
   go_wp2
   go_ret
   have hq:=(HAF1.o.widen (R':=(fun k=>New w wl1 k)) bB (C0 _))
   have hb:((cmB x.c ++ encI x.l.length) ++ (x.l.map stB).flatten)=ceB x:=by simp only [ceB,listB,C2]
   rw [hb] at hq
   try rw [hb]
   exact ⟨_,rfl,hq,HML1.o⟩
set_option maxHeartbeats 4000000 in
theorem RefBareP_Q:Makes PmR 72 bareP:=by
 intro R2 cs x w hx hB2 hl
 obtain ⟨v_l,rfl,hok,hs0⟩:=hx
 obtain ⟨ao_sl_l,cap_sl_l,rfl⟩:=hs0.shape
 have hb0:x.l.length≤maxLen:=hs0.bd
 rw [Ax] at hb0
 have HI0:=hid (show I64 (x.l.length:Int) by unfold I64;omega)
 have HS0:=B8 hs0
 clear hs0
 have HBT:=B8 hB2
 have HOK:=B8 hok
 have HL:=B8 hl
 clear hB2 hl hok
 unfold bareP at HL
 go_enter Tryz.func72,Tryz.ntmps72
 go_upto_region 1 with (fail)
 obtain ⟨w1,hw1⟩:∃ zz,zz=(w.alloc (.cells (x.cells (.slice ao_sl_l x.l.length cap_sl_l):List Value).toArray 40)):=⟨_,rfl⟩
 change Code.wp _ _ _ _ (w.alloc (.cells (x.cells (.slice ao_sl_l x.l.length cap_sl_l):List Value).toArray 40))
 rw [← hw1]
 have HB1:=hid (show Cs w1 (w.heap.size) (x.cells (.slice ao_sl_l x.l.length cap_sl_l):List Value).toArray 40 by rw [hw1];exact Cs.new _ _ _)
 have hm:Mod (fun _=>False) w w1:=by rw [hw1];exact (Mod.refl _ _).alloc _
 have HM0:=hid (show Mod (fun _=>False) w w1 from hm.mono iB)
 have hs1:w1.heap.size=w.heap.size+1:=by rw [hw1];simp
 have i9:=hid (HS0.o.mod hm iA)
 clear HS0
 clear hw1 hm
 go_upto_region 1 with (fail)
 generalize ha0:Act.mk _ _=a0
 have c3:a0.eval (.tmp 1)=.pointer (some ⟨w.heap.size,0,none⟩):=by rw [← ha0];rfl
 have hsz0:a0.tmps.size=36:=by rw [← ha0];rfl
 have HA0:=hid ha0
 clear ha0
 refine A7 36 hsz0 [5,6,7,8,9,10,11,12,13,14,15,16,17,18,19,3] [qi (.pointer (some ⟨w.heap.size,0,none⟩)),qi (.int .i64 x.rp),qv 0,qi (.pointer (some ⟨w.heap.size,1,none⟩)),qi (.int .i64 x.ep),qv 1,qi (.pointer (some ⟨w.heap.size,2,none⟩)),qi (.int .u64 (x.fl:Nat)),qv 2,qi (.pointer (some ⟨w.heap.size,3,none⟩)),qi (.slice ao_sl_l x.l.length cap_sl_l),qi (.int .i64 x.l.length),qv 3,qv 4,qv 5,qv 5] ⟨Ac,Ac,Ah,Ac,Ac,Ah,Ac,Ac,Ah,Ac,Ac,Ac,Ah,Ah,Ah,Ah,trivial⟩ [2,5,8,12,13,14] ⟨?_,?_,?_,?_,?_,?_,?_,?_,?_,?_,?_,?_,?_,?_,?_,?_,trivial⟩ ?_
 ·exact stq (fun E=>Ae rfl Tryz.underlying40 rfl aE (E.v c3))
 ·exact stq (fun E=>Af rfl B9 rfl (E.d 0) (AC (HB1.o.mod E.m.old aG) rfl))
 ·exact Ad rfl
 ·exact stq (fun E=>Ae rfl Tryz.underlying40 rfl aE (E.v c3))
 ·exact stq (fun E=>Af rfl B9 rfl (E.d 3) (AC (HB1.o.mod E.m.old aG) rfl))
 ·exact Ad rfl
 ·exact stq (fun E=>Ae rfl Tryz.underlying40 rfl aE (E.v c3))
 ·exact stq (fun E=>Af rfl E0 rfl (E.d 6) (AC (HB1.o.mod E.m.old aG) rfl))
 ·exact Ad rfl
 ·exact stq (fun E=>Ae rfl Tryz.underlying40 rfl aE (E.v c3))
 ·exact stq (fun E=>Af rfl Tryz.underlying38 rfl (E.d 9) (AC (HB1.o.mod E.m.old aG) rfl))
 ·exact stq (fun E=>A2 rfl (E.d 10) Tryz.underlying38)
 ·exact Ad rfl
 ·exact Ad rfl
 ·exact Ad rfl
 ·refine Ay rfl rfl rfl fun _ _ _ _ _ _ _ _ _ hd _ _=>?_
  have h14:=hd ⟨14,.data⟩ bA rfl _ rfl
  exact Bl rfl (Aa rfl) (An rfl rfl) QE.refl h14
 intro o9 hr
 have s6:=hr.size
 have j0:=hid (hr.new (S:=(fun _=>False)))
 clear hr
 refine QChain.go fun Z act E=>?_
 refine Aj (args:=#[.int .i64 x.rp]) rfl (Aa rfl) rfl E3 (Ap (E.d 1)) (Bf _ HOK.o.1 _) ?_
 rintro e p5 ⟨v_a1,rfl,qa1,hm⟩
 obtain ⟨c4,c6,rfl⟩:=qa1.shape
 have s7:=hm.size
 refine ⟨_,rfl,hm.mono iB,(fun _=>rfl),?_⟩
 intro p6 hr
 have s8:=hr.size
 have j3:=hid ((qa1.widen (R':=(fun k=>(New o9 p5 k))) (fun _ h=>h) (C0 _)).mod hr aD)
 have j4:=hid (j0.out.go hm hr)
 clear j0 hm hr Z act E qa1
 refine QChain.go fun Z act E=>?_
 refine Aj (args:=#[.int .i64 x.ep]) rfl (Aa rfl) rfl E3 (Ap (E.d 4)) (Bf _ HOK.o.2.1 _) ?_
 rintro e p7 ⟨v_a2,rfl,qa2,hm⟩
 obtain ⟨c7,c8,rfl⟩:=qa2.shape
 have t0:=hm.size
 refine ⟨_,rfl,hm.mono iB,(fun _=>rfl),?_⟩
 intro p8 hr
 have t1:=hr.size
 have j5:=hid ((qa2.widen (R':=(fun k=>(New p6 p7 k))) (fun _ h=>h) (C0 _)).mod hr aD)
 have hmr:=Mod.after hm hr
 have j6:=hid (j3.out.mod hmr aD)
 clear j3
 clear hmr
 have j7:=hid (j4.out.go hm hr)
 clear j4 hm hr Z act E qa2
 refine QChain.go fun Z act E=>?_
 refine Aj (args:=#[.int .u64 (x.fl:Nat)]) rfl (Aa rfl) rfl Tryz.func28 (Ap (E.d 7)) (RefNum_Q _ HOK.o.2.2.1 _) ?_
 rintro e p9 ⟨v_a3,rfl,qa3,hm⟩
 obtain ⟨c9,d5,rfl⟩:=qa3.shape
 have t2:=hm.size
 refine ⟨_,rfl,hm.mono iB,(fun _=>rfl),?_⟩
 intro q6 hr
 have t8:=hr.size
 have Hx8:=hid ((qa3.widen (R':=(fun k=>(New p8 p9 k))) (fun _ h=>h) (C0 _)).mod hr aD)
 have hmr:=Mod.after hm hr
 have Hx9:=hid (j6.out.mod hmr aD)
 have Hx10:=hid (j5.out.mod hmr aD)
 clear j6 j5
 clear hmr
 have j8:=hid (j7.out.go hm hr)
 clear j7 hm hr Z act E qa3
 refine QChain.go fun Z act E=>?_
 refine Aj (args:=#[.int .i64 x.l.length]) rfl (Aa rfl) rfl E3 (Ap (E.d 11)) (Bf _ HI0.o _) ?_
 rintro e q7 ⟨v_a4,rfl,qa4,hm⟩
 obtain ⟨d6,d7,rfl⟩:=qa4.shape
 have t9:=hm.size
 refine ⟨_,rfl,hm.mono iB,(fun _=>rfl),?_⟩
 intro j9 hr
 have u0:=hr.size
 have l7:=hid ((qa4.widen (R':=(fun k=>(New q6 q7 k))) (fun _ h=>h) (C0 _)).mod hr aD)
 have hmr:=Mod.after hm hr
 have l8:=hid (Hx9.o.mod hmr aD)
 have m7:=hid (Hx10.o.mod hmr aD)
 have m8:=hid (Hx8.o.mod hmr aD)
 clear Hx9 Hx10 Hx8
 clear hmr
 have m9:=hid (j8.out.go hm hr)
 clear j8 hm hr Z act E qa4
 refine QChain.go fun Z act E=>?_
 have ea7:act.eval (.tmp 7)=.slice c4 ((encI x.rp).length) c6:=(chv (v:=.slice c4 ((encI x.rp).length) c6) (E.d 2))
 have ea10:act.eval (.tmp 10)=.slice c7 ((encI x.ep).length) c8:=(chv (v:=.slice c7 ((encI x.ep).length) c8) (E.d 5))
 have ea13:act.eval (.tmp 13)=.slice c9 ((encN x.fl).length) d5:=(chv (v:=.slice c9 ((encN x.fl).length) d5) (E.d 8))
 have ea17:act.eval (.tmp 17)=.slice d6 ((encI x.l.length).length) d7:=(chv (v:=.slice d6 ((encI x.l.length).length) d7) (E.d 12))
 refine Bv rfl (Aa rfl) rfl D7 aM (C:=#[.slice c4 ((encI x.rp).length) c6,.slice c7 ((encI x.ep).length) c8,.slice c9 ((encN x.fl).length) d5,.slice d6 ((encI x.l.length).length) d7]) (by simp only [C8,C5,C6,ea7,ea10,ea13,ea17];kernel_rfl) ?_
 intro u1 qrow13 hm
 have u2:=qrow13.lt
 have u3:=hm.size
 refine ⟨hm.mono iB,(fun _=>rfl),?_⟩
 intro q8 hr
 have u4:=hr.size
 have d9:=hid (qrow13.mod hr aG)
 have hmr:=Mod.after hm hr
 have g5:=hid (l8.out.mod hmr aD)
 have g6:=hid (m7.out.mod hmr aD)
 have g7:=hid (m8.out.mod hmr aD)
 have g8:=hid (l7.out.mod hmr aD)
 clear l8 m7 m8 l7
 clear hmr
 have n5:=hid (m9.out.go hm hr)
 clear m9 hm hr Z act E qrow13 ea7 ea10 ea13 ea17
 refine QChain.go fun Z act E=>?_
 refine Aj (args:=#[.slice (some ⟨j9.heap.size,0,none⟩) 4 4]) rfl (Aa rfl) rfl E9 (Ap (chv (v:=.slice (some ⟨j9.heap.size,0,none⟩) 4 4) (E.d 13))) (Join_Q (n:=4)  d9.out [(.slice c4 ((encI x.rp).length) c6,encI x.rp),(.slice c7 ((encI x.ep).length) c8,encI x.ep),(.slice c9 ((encN x.fl).length) d5,encN x.fl),(.slice d6 ((encI x.l.length).length) d7,encI x.l.length)] rfl rfl (by intro p hp;simp only [D1,C9,or_false] at hp;rcases hp with rfl|rfl|rfl|rfl<;>first|exact g5.out.rd.1|exact g6.out.rd.1|exact g7.out.rd.1|exact g8.out.rd.1) bA (show flat _=encI x.rp ++ (encI x.ep ++ (encN x.fl ++ encI x.l.length)) from by simp only [flat,C5,C6,List.flatten_cons,List.flatten_nil,List.append_nil]) bU) ?_
 rintro e q9 ⟨v_join1,rfl,qjoin1,hm⟩
 have u5:=hm.size
 refine ⟨_,rfl,hm.mono iB,(fun _=>rfl),?_⟩
 intro n6 hr
 have u6:=hr.size
 have n7:=hid ((qjoin1.widen (R':=(fun k=>(New q8 q9 k))) (fun _ h=>h) (C0 _)).mod hr aD)
 have hmr:=Mod.after hm hr
 have r5:=hid (g5.out.mod hmr aD)
 have r6:=hid (g6.out.mod hmr aD)
 have r7:=hid (g7.out.mod hmr aD)
 have r8:=hid (g8.out.mod hmr aD)
 have r9:=hid (d9.out.mod hmr aG)
 clear g5 g6 g7 g8 d9
 clear hmr
 have d8:=hid (n5.out.go hm hr)
 clear n5 hm hr Z act E qjoin1
 refine QChain.nil fun vs hl hzz hrows hne=>?_
 obtain ⟨Z,hYZ,hZb,hV⟩:=hzz
 have f2:=fvc hV hl 2
 have f5:=fvc hV hl 5
 have f8:=fvc hV hl 8
 have f11:=fvi hV hl 11
 have f12:=fvc hV hl 12
 have f13:=fvc hV hl 13
 have f14:=fvc hV hl 14
 have f15:=fvc hV hl 15
 rw [show vs=[gw vs 0,gw vs 1,gw vs 2,gw vs 3,gw vs 4,gw vs 5,gw vs 6,gw vs 7,gw vs 8,gw vs 9,gw vs 10,gw vs 11,gw vs 12,gw vs 13,gw vs 14,gw vs 15] from (Bi hl).trans rfl]
 have ha0:=HA0.o
 subst ha0
 clear HA0 hV hYZ hZb hsz0 hrows hne c3
 simp only [Au,Act.put,sIB,sCZ,sCS,f2,f5,f8,f11,f12,f13,f14,f15]
 clear hl f2 f5 f8 f11 f12 f13 f14 f15
 go_upto_region 2 with (fail)
 refine Ab 36 [20,21,22,23] [0,1,2,3] (fun a0 HA0=>?_)
 have c3:=ev HA0 1 rfl
 refine qfd rfl 3 Tryz.underlying40 c3 ?_
 refine QSeq.pure rfl _ (fun E=>Af rfl Tryz.underlying38 rfl (E.d 0 0) (AC (HB1.o.mod d8.out (fun h=>h)) rfl)) ?_
 refine QSeq.pure rfl (.int .i64 x.l.length) (fun E=>A2 rfl (E.d 1 0) Tryz.underlying38) ?_
 refine QSeq.pure rfl (.int .i64 0) (fun E=>Al rfl rfl) ?_
 refine qe ?_
 clear HA0 c3 a0
 go_wp2
 go_loopw [3,23] (fun ta ti wr=>∃ k:Nat,ti=.int .i64 (k:Int)∧k≤x.l.length∧n6.heap.size≤wr.heap.size∧OwR (fun b=>w1.heap.size≤b∧b < wr.heap.size) 900000 wr ta ((encI x.rp ++ (encI x.ep ++ (encN x.fl ++ encI x.l.length))) ++ ((x.l.take k).map ceB).flatten)∧RdS CeR R2 wr (.slice ao_sl_l x.l.length cap_sl_l) x.l∧Cs wr (w.heap.size) (x.cells (.slice ao_sl_l x.l.length cap_sl_l):List Value).toArray 40∧Mod (fun _=>False) w wr) (fun _ ti _=>x.l.length - (intOf ti).toNat)
 case atStart=>exact ⟨0,rfl,Nat.zero_le _,C0 _,by have hq:=(n7.out.widen (R':=(fun b=>w1.heap.size≤b∧b < n6.heap.size)) bB (C0 _));simpa only [List.take_zero,C6,List.flatten_nil,List.append_nil,C2] using hq,(i9.out.mod d8.out iA),(HB1.o.mod d8.out (fun h=>h)),(HM0.o.trans d8.out iB)⟩
 case round=>
  obtain ⟨k1,rfl,hk,hz,ha,hk_0,hk_1,hm⟩:=hrel
  obtain ⟨wl1,rfl⟩:∃ x,x=wr:=⟨_,rfl⟩
  obtain ⟨aol1,capl1,rfl⟩:=ha.shape
  have HAL1:=B8 ha
  have HKL1_0:=B8 hk_0
  have HKL1_1:=B8 hk_1
  have HML1:=B8 hm
  clear ha hm hk_0 hk_1 i9 HB1 HM0 r5 r6 r7 r8 r9 n7
  by_cases hlt1:k1 < x.l.length
  ·skip
   have hat:=HKL1_0.o.at hlt1
   obtain ⟨g1,o1,cs1,eao,hrg,hrd,hcs⟩:=hat
   subst eao
   have hcl:cs1.length=38:=CeR.len hrd
   have HCL1:=B8 hcl
   have HAT1:=hid (show CellsAt R2 wl1 g1 (o1+k1 * 38) cs1 from ⟨hrg,hcs⟩)
   have HRD1:=B8 hrd
   clear hcl hcs hrd hrg
   have HE1:Hid (((encI x.rp ++ (encI x.ep ++ (encN x.fl ++ encI x.l.length))) ++ ((x.l.take k1).map ceB).flatten) ++ ceB x.l[k1]=(encI x.rp ++ (encI x.ep ++ (encN x.fl ++ encI x.l.length))) ++ ((x.l.take (k1+1)).map ceB).flatten):=hid cZ
   have HB1':=hid (show (((encI x.rp ++ (encI x.ep ++ (encN x.fl ++ encI x.l.length))) ++ ((x.l.take k1).map ceB).flatten) ++ ceB x.l[k1]).length≤900000 by rw [HE1.o];exact acc_len _ _ _ _ bU)
   have HBE1:=hid (show (ceB x.l[k1]).length≤900000 by have:=HB1'.o;simp only [C3] at this ⊢; omega)
   go_upto_region 4 with (fail)
   refine Ab 36 [25,4] [0,1] (fun a0 HA0=>?_)
   have n8:=ev HA0 23 rfl
   refine qmo rfl n8 ?_
   refine qas rfl 0 0 ?_
   refine qe ?_
   clear HA0 n8 a0
   go_upto_region 5 with (fail)
   refine Ab 36 [26,27,28,29,30,31,32,33,3] [0,1,2,3,4,5,6,7,8] (fun a0 HA0=>?_)
   have c3:=ev HA0 1 rfl
   have o5:=ev HA0 3 rfl
   have o6:=ev HA0 4 rfl
   refine QSeq.pure rfl _ (fun E=>Al rfl (E.y 8 o5)) ?_
   refine qfd rfl 3 Tryz.underlying40 c3 ?_
   refine QSeq.pure rfl _ (fun E=>Af rfl Tryz.underlying38 rfl (E.d 1 0) (AC HKL1_1.o rfl)) ?_
   refine qmo rfl o6 ?_
   refine QSeq.pure rfl (.pointer (some ⟨g1,o1+k1 * 38,none⟩)) (fun E=>Bq (i:=k1) (s:=38) rfl Tryz.underlying38 aE (E.d 2 1) (E.d 3 0) hlt1) ?_
   refine QSeq.pure rfl _ (fun E=>Ak rfl Tryz.underlying35 rfl (off:=o1+k1 * 38) (cs:=cs1) eE (E.d 4 0) (fun j u hu=>(HAT1.o).2 j u hu)) ?_
   refine QSeq.call rfl rfl Tryz.func25 (RefCe_Q _ _ (x.l[k1]) _ HRD1.o aU HBE1.o) (fun E=>Ap (E.d 5 0)) ?_
   rintro e o7 ⟨v_a5,rfl,qa5,hm⟩
   obtain ⟨u7,u9,rfl⟩:=qa5.shape
   refine ⟨_,rfl,?_⟩
   have g9:=hid qa5
   have v5:=hm.size
   have i7:=hid (show Mod (fun _=>False) wl1 o7 from hm)
   clear hm
   clear qa5
   refine QSeq.go fun act E=>?_
   refine qc_appR rfl (Aa rfl) rfl (E.d 0 6) (E.d 6 0) (HAL1.o.mod i7.out iA) g9.out.rd HB1'.o ?_
   intro ao16 cap16 s0 qjoin1 hm
   have s5:=hid (qjoin1.widen (R':=(fun k=>(New w1 wl1 k)∨(New o7 s0 k))) (fun _ h=>h) (C0 _))
   have v6:=hm.size
   have o8:=hid hm
   have i8:=hid (AA (S':=(fun k=>(New w1 wl1 k))) i7.out hm iC aQ)
   clear hm i7
   clear act E qjoin1 HAL1
   refine qas rfl 7 0 ?_
   have v7:=hid (g9.out.mod o8.out aD)
   clear g9 o8
   refine qe ?_
   clear HA0 c3 o5 o6 a0
   have hq:=s5.out
   rw [HE1.o] at hq
   have HQ1:=B8 hq
   clear hq
   go_wp2
   go_roundw
   case rel=>exact ⟨k1+1,by go_num,by omega,by omega,(HQ1.o.widen cS (C0 _)),(HKL1_0.o.mod i8.out (sN HBT)),(HKL1_1.o.mod i8.out aG),(HML1.o.trans i8.out aD)⟩
   case measure=>simp [intOf];omega
  ·obtain rfl:k1=x.l.length:=by omega
   have hq:=HAL1.o
   rw [List.take_length] at hq
   have HAF1:=B8 hq
   clear hq
   rw [List.take_length]
   go_wp2
   go_ret
   have hq:=(HAF1.o.widen (R':=(fun k=>New w wl1 k)) bB (C0 _))
   have hb:((encI x.rp ++ (encI x.ep ++ (encN x.fl ++ encI x.l.length))) ++ (x.l.map ceB).flatten)=bareP x:=by simp only [bareP,listB,C2]
   rw [hb] at hq
   try rw [hb]
   exact ⟨_,rfl,hq,HML1.o⟩
set_option maxHeartbeats 4000000 in
theorem RefPm_Q:Makes PmR 29 pmB:=by
 intro R2 cs x w hx hB2 hl
 obtain ⟨v_l,rfl,hok,hs0⟩:=hx
 have HS0:=B8 hs0
 clear hs0
 have HBT:=B8 hB2
 have HOK:=B8 hok
 have HL:=B8 hl
 clear hB2 hl hok
 unfold pmB at HL
 go_enter Tryz.func29,Tryz.ntmps29
 go_upto_region 1 with (fail)
 obtain ⟨w1,hw1⟩:∃ zz,zz=(w.alloc (.cells (x.cells v_l:List Value).toArray 40)):=⟨_,rfl⟩
 change Code.wp _ _ _ _ (w.alloc (.cells (x.cells v_l:List Value).toArray 40))
 rw [← hw1]
 have HB1:=hid (show Cs w1 (w.heap.size) (x.cells v_l:List Value).toArray 40 by rw [hw1];exact Cs.new _ _ _)
 have hm:Mod (fun _=>False) w w1:=by rw [hw1];exact (Mod.refl _ _).alloc _
 have HM0:=hid (show Mod (fun _=>False) w w1 from hm.mono iB)
 have hs1:w1.heap.size=w.heap.size+1:=by rw [hw1];simp
 have g7:=hid (HS0.o.mod hm iA)
 clear HS0
 clear hw1 hm
 go_upto_region 1 with (fail)
 generalize ha0:Act.mk _ _=a0
 have c8:a0.eval (.tmp 1)=.pointer (some ⟨w.heap.size,0,none⟩):=by rw [← ha0];rfl
 have hsz0:a0.tmps.size=10:=by rw [← ha0];rfl
 have HA0:=hid ha0
 clear ha0
 refine A7 10 hsz0 [3,4,5,6,7,8,9,2] [qi (.agg (x.cells v_l).toArray),qv 0,qi (.pointer (some ⟨w.heap.size,4,none⟩)),qi (.agg #[.int .i64 x.sb,.int .i64 x.mr]),qv 1,qv 2,qv 3,qv 3] ⟨Ac,Ah,Ac,Ac,Ah,Ah,Ah,Ah,trivial⟩ [1,4,5,6] ⟨?_,?_,?_,?_,?_,?_,?_,?_,trivial⟩ ?_
 ·exact stq (fun E=>Ak rfl Tryz.underlying40 rfl (off:=0) (cs:=x.cells v_l) aE (E.v c8) (Cs.whole (HB1.o.mod E.m.old aG)))
 ·exact Ad rfl
 ·exact stq (fun E=>Ae rfl Tryz.underlying40 rfl aE (E.v c8))
 ·exact stq (fun E=>Ak rfl Tryz.underlying27 rfl (off:=4) (cs:=[.int .i64 x.sb,.int .i64 x.mr]) aE (E.d 2) (AK (HB1.o.mod E.m.old aG) rfl))
 ·exact Ad rfl
 ·exact Ad rfl
 ·exact Ad rfl
 ·refine Ay rfl rfl rfl fun _ _ _ _ _ _ _ _ _ hd _ _=>?_
  have h6:=hd ⟨6,.data⟩ bA rfl _ rfl
  exact Bl rfl (Aa rfl) (An rfl rfl) QE.refl h6
 intro g8 hr
 have j6:=hr.size
 have c9:=hid (hr.new (S:=(fun _=>False)))
 clear hr
 refine QChain.go fun Z act E=>?_
 refine Aj (args:=#[.agg (x.cells v_l).toArray]) rfl (Aa rfl) rfl Tryz.func72 (Ap (E.d 0)) (RefBareP_Q _ _ x _ ⟨_,rfl,HOK.o,(g7.out.mod c9.out iA)⟩ aU (by have:=HL.o;unfold bareP;simp only [C3] at this ⊢; omega)) ?_
 rintro e g9 ⟨v_a1,rfl,qa1,hm⟩
 obtain ⟨c3,c4,rfl⟩:=qa1.shape
 have j7:=hm.size
 refine ⟨_,rfl,hm.mono iB,(fun _=>rfl),?_⟩
 intro i7 hr
 have j8:=hr.size
 have d5:=hid ((qa1.widen (R':=(fun k=>(New g8 g9 k))) (fun _ h=>h) (C0 _)).mod hr aD)
 have d6:=hid (c9.out.go hm hr)
 clear c9 hm hr Z act E qa1
 refine QChain.go fun Z act E=>?_
 refine Aj (args:=#[.agg #[.int .i64 x.sb,.int .i64 x.mr]]) rfl (Aa rfl) rfl Tryz.func27 (Ap (E.d 3)) (RefSig_Q HOK.o.2.2.2.1 HOK.o.2.2.2.2 _) ?_
 rintro e i8 ⟨v_a2,rfl,qa2,hm⟩
 obtain ⟨c6,c7,rfl⟩:=qa2.shape
 have j9:=hm.size
 refine ⟨_,rfl,hm.mono iB,(fun _=>rfl),?_⟩
 intro d7 hr
 have l7:=hr.size
 have d8:=hid ((qa2.widen (R':=(fun k=>(New i7 i8 k))) (fun _ h=>h) (C0 _)).mod hr aD)
 have hmr:=Mod.after hm hr
 have d9:=hid (d5.out.mod hmr aD)
 clear d5
 clear hmr
 have g5:=hid (d6.out.go hm hr)
 clear d6 hm hr Z act E qa2
 refine QChain.go fun Z act E=>?_
 have ea4:act.eval (.tmp 4)=.slice c3 ((bareP x).length) c4:=(chv (v:=.slice c3 ((bareP x).length) c4) (E.d 1))
 have ea7:act.eval (.tmp 7)=.slice c6 ((sigB x.sb x.mr).length) c7:=(chv (v:=.slice c6 ((sigB x.sb x.mr).length) c7) (E.d 4))
 refine Bv rfl (Aa rfl) rfl D7 aM (C:=#[.slice c3 ((bareP x).length) c4,.slice c6 ((sigB x.sb x.mr).length) c7]) (by simp only [C8,C5,C6,ea4,ea7];kernel_rfl) ?_
 intro l8 qrow5 hm
 have m7:=qrow5.lt
 have m8:=hm.size
 refine ⟨hm.mono iB,(fun _=>rfl),?_⟩
 intro i9 hr
 have m9:=hr.size
 have Hx8:=hid (qrow5.mod hr aG)
 have hmr:=Mod.after hm hr
 have Hx9:=hid (d9.out.mod hmr aD)
 have Hx10:=hid (d8.out.mod hmr aD)
 clear d9 d8
 clear hmr
 have g6:=hid (g5.out.go hm hr)
 clear g5 hm hr Z act E qrow5 ea4 ea7
 refine QChain.go fun Z act E=>?_
 refine Aj (args:=#[.slice (some ⟨d7.heap.size,0,none⟩) 2 2]) rfl (Aa rfl) rfl E9 (Ap (chv (v:=.slice (some ⟨d7.heap.size,0,none⟩) 2 2) (E.d 5))) (Join_Q (n:=2)  Hx8.o [(.slice c3 ((bareP x).length) c4,bareP x),(.slice c6 ((sigB x.sb x.mr).length) c7,sigB x.sb x.mr)] rfl rfl fN bA (show flat _=bareP x ++ sigB x.sb x.mr from by simp only [flat,C5,C6,List.flatten_cons,List.flatten_nil,List.append_nil]) (by have:=HL.o;simp only [bareP,C3] at this ⊢; omega)) ?_
 rintro e j0 ⟨v_join1,rfl,qjoin1,hm⟩
 have n5:=hm.size
 refine ⟨_,rfl,hm.mono iB,(fun _=>rfl),?_⟩
 intro j3 hr
 have n6:=hr.size
 have j4:=hid ((qjoin1.widen (R':=(fun k=>(New i9 j0 k))) (fun _ h=>h) (C0 _)).mod hr aD)
 have hmr:=Mod.after hm hr
 have n7:=hid (Hx9.o.mod hmr aD)
 have n8:=hid (Hx10.o.mod hmr aD)
 have o5:=hid (Hx8.o.mod hmr aG)
 clear Hx9 Hx10 Hx8
 clear hmr
 have j5:=hid (g6.out.go hm hr)
 clear g6 hm hr Z act E qjoin1
 refine QChain.nil fun vs hl hzz hrows hne=>?_
 obtain ⟨Z,hYZ,hZb,hV⟩:=hzz
 have f1:=fvc hV hl 1
 have f4:=fvc hV hl 4
 have f5:=fvc hV hl 5
 have f6:=fvc hV hl 6
 have f7:=fvc hV hl 7
 rw [show vs=[gw vs 0,gw vs 1,gw vs 2,gw vs 3,gw vs 4,gw vs 5,gw vs 6,gw vs 7] from (Bi hl).trans rfl]
 have ha0:=HA0.o
 subst ha0
 clear HA0 hV hYZ hZb hsz0 hrows hne c8
 simp only [Au,Act.put,sIB,sCZ,sCS,f1,f4,f5,f6,f7]
 clear hl f1 f4 f5 f6 f7
 go_wp2
 go_ret
 have hq:=(j4.out.widen (R':=(fun k=>New w j3 k)) bB (C0 _))
 (try simp only [C2] at hq)
 exact ⟨v_join1,rfl,by simpa only [pmB,bareP,C2] using hq,(HM0.o.trans j5.out iB)⟩
set_option maxHeartbeats 8000000 in
theorem RefBa_Q:Makes BaR 30 baB:=by
 intro R2 cs x w hx hB2 hl
 obtain ⟨v_ps,v_os,v_ts,rfl,hok,hs0,hs1,hs2⟩:=hx
 obtain ⟨ao_sl_ps,cap_sl_ps,rfl⟩:=hs0.shape
 have hb0:x.ps.length≤maxLen:=hs0.bd
 rw [Ax] at hb0
 have HI0:=hid (show I64 (x.ps.length:Int) by unfold I64;omega)
 have HS0:=B8 hs0
 clear hs0
 obtain ⟨ao_sl_os,cap_sl_os,rfl⟩:=hs1.shape
 have hb1:x.os.length≤maxLen:=hs1.bd
 rw [Ax] at hb1
 have HI1:=hid (show I64 (x.os.length:Int) by unfold I64;omega)
 have HS1:=B8 hs1
 clear hs1
 obtain ⟨ao_sl_ts,cap_sl_ts,rfl⟩:=hs2.shape
 have hb2:x.ts.length≤maxLen:=hs2.bd
 rw [Ax] at hb2
 have HI2:=hid (show I64 (x.ts.length:Int) by unfold I64;omega)
 have HS2:=B8 hs2
 clear hs2
 have HBT:=B8 hB2
 have HOK:=B8 hok
 have HL:=B8 hl
 clear hB2 hl hok
 unfold baB at HL
 go_enter Tryz.func30,Tryz.ntmps30
 go_upto_region 1 with (fail)
 obtain ⟨w1,hw1⟩:∃ zz,zz=(w.alloc (.cells (x.cells (.slice ao_sl_ps x.ps.length cap_sl_ps) (.slice ao_sl_os x.os.length cap_sl_os) (.slice ao_sl_ts x.ts.length cap_sl_ts):List Value).toArray 45)):=⟨_,rfl⟩
 change Code.wp _ _ _ _ (w.alloc (.cells (x.cells (.slice ao_sl_ps x.ps.length cap_sl_ps) (.slice ao_sl_os x.os.length cap_sl_os) (.slice ao_sl_ts x.ts.length cap_sl_ts):List Value).toArray 45))
 rw [← hw1]
 have HB1:=hid (show Cs w1 (w.heap.size) (x.cells (.slice ao_sl_ps x.ps.length cap_sl_ps) (.slice ao_sl_os x.os.length cap_sl_os) (.slice ao_sl_ts x.ts.length cap_sl_ts):List Value).toArray 45 by rw [hw1];exact Cs.new _ _ _)
 have hm:Mod (fun _=>False) w w1:=by rw [hw1];exact (Mod.refl _ _).alloc _
 have HM0:=hid (show Mod (fun _=>False) w w1 from hm.mono iB)
 have hs1:w1.heap.size=w.heap.size+1:=by rw [hw1];simp
 have o9:=hid (HS0.o.mod hm iA)
 clear HS0
 have p5:=hid (HS1.o.mod hm iA)
 clear HS1
 have p6:=hid (HS2.o.mod hm iA)
 clear HS2
 clear hw1 hm
 go_upto_region 1 with (fail)
 generalize ha0:Act.mk _ _=a0
 have c3:a0.eval (.tmp 1)=.pointer (some ⟨w.heap.size,0,none⟩):=by rw [← ha0];rfl
 have hsz0:a0.tmps.size=111:=by rw [← ha0];rfl
 have HA0:=hid ha0
 clear ha0
 refine A7 111 hsz0 [8,9,10,11,12,13,14,15,16,17,18,19,3] [qi (.pointer (some ⟨w.heap.size,0,none⟩)),qi (.int .i64 x.ep),qv 0,qi (.pointer (some ⟨w.heap.size,1,none⟩)),qi (.int .u64 (x.tm:Nat)),qv 1,qi (.pointer (some ⟨w.heap.size,2,none⟩)),qi (.slice ao_sl_ps x.ps.length cap_sl_ps),qi (.int .i64 x.ps.length),qv 2,qv 3,qv 4,qv 4] ⟨Ac,Ac,Ah,Ac,Ac,Ah,Ac,Ac,Ac,Ah,Ah,Ah,Ah,trivial⟩ [2,5,9,10,11] ⟨?_,?_,?_,?_,?_,?_,?_,?_,?_,?_,?_,?_,?_,trivial⟩ ?_
 ·exact stq (fun E=>Ae rfl C7 rfl aE (E.v c3))
 ·exact stq (fun E=>Af rfl B9 rfl (E.d 0) (AC (HB1.o.mod E.m.old aG) rfl))
 ·exact Ad rfl
 ·exact stq (fun E=>Ae rfl C7 rfl aE (E.v c3))
 ·exact stq (fun E=>Af rfl E0 rfl (E.d 3) (AC (HB1.o.mod E.m.old aG) rfl))
 ·exact Ad rfl
 ·exact stq (fun E=>Ae rfl C7 rfl aE (E.v c3))
 ·exact stq (fun E=>Af rfl Tryz.underlying41 rfl (E.d 6) (AC (HB1.o.mod E.m.old aG) rfl))
 ·exact stq (fun E=>A2 rfl (E.d 7) Tryz.underlying41)
 ·exact Ad rfl
 ·exact Ad rfl
 ·exact Ad rfl
 ·refine Ay rfl rfl rfl fun _ _ _ _ _ _ _ _ _ hd _ _=>?_
  have h11:=hd ⟨11,.data⟩ bA rfl _ rfl
  exact Bl rfl (Aa rfl) (An rfl rfl) QE.refl h11
 intro x9 hr
 have az:=hr.size
 have p7:=hid (hr.new (S:=(fun _=>False)))
 clear hr
 refine QChain.go fun Z act E=>?_
 refine Aj (args:=#[.int .i64 x.ep]) rfl (Aa rfl) rfl E3 (Ap (E.d 1)) (Bf _ HOK.o.1 _) ?_
 rintro e y0 ⟨v_a1,rfl,qa1,hm⟩
 obtain ⟨d9,g5,rfl⟩:=qa1.shape
 have bb:=hm.size
 refine ⟨_,rfl,hm.mono iB,(fun _=>rfl),?_⟩
 intro y5 hr
 have bc:=hr.size
 have p8:=hid ((qa1.widen (R':=(fun k=>(New x9 y0 k))) (fun _ h=>h) (C0 _)).mod hr aD)
 have p9:=hid (p7.out.go hm hr)
 clear p7 hm hr Z act E qa1
 refine QChain.go fun Z act E=>?_
 refine Aj (args:=#[.int .u64 (x.tm:Nat)]) rfl (Aa rfl) rfl Tryz.func28 (Ap (E.d 4)) (RefNum_Q _ HOK.o.2 _) ?_
 rintro e y6 ⟨v_a2,rfl,qa2,hm⟩
 obtain ⟨g6,g7,rfl⟩:=qa2.shape
 have bf:=hm.size
 refine ⟨_,rfl,hm.mono iB,(fun _=>rfl),?_⟩
 intro y7 hr
 have bg:=hr.size
 have q6:=hid ((qa2.widen (R':=(fun k=>(New y5 y6 k))) (fun _ h=>h) (C0 _)).mod hr aD)
 have hmr:=Mod.after hm hr
 have Hx8:=hid (p8.out.mod hmr aD)
 clear p8
 clear hmr
 have q7:=hid (p9.out.go hm hr)
 clear p9 hm hr Z act E qa2
 refine QChain.go fun Z act E=>?_
 refine Aj (args:=#[.int .i64 x.ps.length]) rfl (Aa rfl) rfl E3 (Ap (E.d 8)) (Bf _ HI0.o _) ?_
 rintro e y8 ⟨v_a3,rfl,qa3,hm⟩
 obtain ⟨g8,g9,rfl⟩:=qa3.shape
 have bh:=hm.size
 refine ⟨_,rfl,hm.mono iB,(fun _=>rfl),?_⟩
 intro q8 hr
 have bj:=hr.size
 have Hx10:=hid ((qa3.widen (R':=(fun k=>(New y7 y8 k))) (fun _ h=>h) (C0 _)).mod hr aD)
 have hmr:=Mod.after hm hr
 have q9:=hid (Hx8.o.mod hmr aD)
 have r5:=hid (q6.out.mod hmr aD)
 clear Hx8 q6
 clear hmr
 have r6:=hid (q7.out.go hm hr)
 clear q7 hm hr Z act E qa3
 refine QChain.go fun Z act E=>?_
 have ea10:act.eval (.tmp 10)=.slice d9 ((encI x.ep).length) g5:=(chv (v:=.slice d9 ((encI x.ep).length) g5) (E.d 2))
 have ea13:act.eval (.tmp 13)=.slice g6 ((encN x.tm).length) g7:=(chv (v:=.slice g6 ((encN x.tm).length) g7) (E.d 5))
 have ea17:act.eval (.tmp 17)=.slice g8 ((encI x.ps.length).length) g9:=(chv (v:=.slice g8 ((encI x.ps.length).length) g9) (E.d 9))
 refine Bv rfl (Aa rfl) rfl D7 aM (C:=#[.slice d9 ((encI x.ep).length) g5,.slice g6 ((encN x.tm).length) g7,.slice g8 ((encI x.ps.length).length) g9]) (by simp only [C8,C5,C6,ea10,ea13,ea17];kernel_rfl) ?_
 intro bk qrow10 hm
 have bl:=qrow10.lt
 have bm:=hm.size
 refine ⟨hm.mono iB,(fun _=>rfl),?_⟩
 intro z0 hr
 have bn:=hr.size
 have j3:=hid (qrow10.mod hr aG)
 have hmr:=Mod.after hm hr
 have j4:=hid (q9.out.mod hmr aD)
 have j5:=hid (r5.out.mod hmr aD)
 have j6:=hid (Hx10.o.mod hmr aD)
 clear q9 r5 Hx10
 clear hmr
 have r7:=hid (r6.out.go hm hr)
 clear r6 hm hr Z act E qrow10 ea10 ea13 ea17
 refine QChain.go fun Z act E=>?_
 refine Aj (args:=#[.slice (some ⟨q8.heap.size,0,none⟩) 3 3]) rfl (Aa rfl) rfl E9 (Ap (chv (v:=.slice (some ⟨q8.heap.size,0,none⟩) 3 3) (E.d 10))) (Join_Q (n:=3)  j3.out [(.slice d9 ((encI x.ep).length) g5,encI x.ep),(.slice g6 ((encN x.tm).length) g7,encN x.tm),(.slice g8 ((encI x.ps.length).length) g9,encI x.ps.length)] rfl rfl (by intro p hp;simp only [D1,C9,or_false] at hp;rcases hp with rfl|rfl|rfl<;>first|exact j4.out.rd.1|exact j5.out.rd.1|exact j6.out.rd.1) bA (show flat _=encI x.ep ++ (encN x.tm ++ encI x.ps.length) from by simp only [flat,C5,C6,List.flatten_cons,List.flatten_nil,List.append_nil]) bU) ?_
 rintro e z3 ⟨v_join1,rfl,qjoin1,hm⟩
 have bp:=hm.size
 refine ⟨_,rfl,hm.mono iB,(fun _=>rfl),?_⟩
 intro r8 hr
 have bq:=hr.size
 have r9:=hid ((qjoin1.widen (R':=(fun k=>(New z0 z3 k))) (fun _ h=>h) (C0 _)).mod hr aD)
 have hmr:=Mod.after hm hr
 have z4:=hid (j4.out.mod hmr aD)
 have z5:=hid (j5.out.mod hmr aD)
 have z6:=hid (j6.out.mod hmr aD)
 have z7:=hid (j3.out.mod hmr aG)
 clear j4 j5 j6 j3
 clear hmr
 have c9:=hid (r7.out.go hm hr)
 clear r7 hm hr Z act E qjoin1
 refine QChain.nil fun vs hl hzz hrows hne=>?_
 obtain ⟨Z,hYZ,hZb,hV⟩:=hzz
 have f2:=fvc hV hl 2
 have f5:=fvc hV hl 5
 have f8:=fvi hV hl 8
 have f9:=fvc hV hl 9
 have f10:=fvc hV hl 10
 have f11:=fvc hV hl 11
 have f12:=fvc hV hl 12
 rw [show vs=[gw vs 0,gw vs 1,gw vs 2,gw vs 3,gw vs 4,gw vs 5,gw vs 6,gw vs 7,gw vs 8,gw vs 9,gw vs 10,gw vs 11,gw vs 12] from (Bi hl).trans rfl]
 have ha0:=HA0.o
 subst ha0
 clear HA0 hV hYZ hZb hsz0 hrows hne c3
 simp only [Au,Act.put,sIB,sCZ,sCS,f2,f5,f8,f9,f10,f11,f12]
 clear hl f2 f5 f8 f9 f10 f11 f12
 go_upto_region 2 with (fail)
 refine Ab 111 [20,21,22,23] [0,1,2,3] (fun a0 HA0=>?_)
 have c3:=ev HA0 1 rfl
 refine qfd rfl 2 C7 c3 ?_
 refine QSeq.pure rfl _ (fun E=>Af rfl Tryz.underlying41 rfl (E.d 0 0) (AC (HB1.o.mod c9.out (fun h=>h)) rfl)) ?_
 refine QSeq.pure rfl (.int .i64 x.ps.length) (fun E=>A2 rfl (E.d 1 0) Tryz.underlying41) ?_
 refine QSeq.pure rfl (.int .i64 0) (fun E=>Al rfl rfl) ?_
 refine qe ?_
 clear HA0 c3 a0
 go_wp2
 go_loopw [3,23] (fun ta ti wr=>∃ k:Nat,ti=.int .i64 (k:Int)∧k≤x.ps.length∧r8.heap.size≤wr.heap.size∧OwR (fun b=>w1.heap.size≤b∧b < wr.heap.size) 900000 wr ta ((encI x.ep ++ (encN x.tm ++ encI x.ps.length)) ++ ((x.ps.take k).map pmB).flatten)∧RdS PmR R2 wr (.slice ao_sl_ps x.ps.length cap_sl_ps) x.ps∧RdS OpR R2 wr (.slice ao_sl_os x.os.length cap_sl_os) x.os∧RdS TbR R2 wr (.slice ao_sl_ts x.ts.length cap_sl_ts) x.ts∧Cs wr (w.heap.size) (x.cells (.slice ao_sl_ps x.ps.length cap_sl_ps) (.slice ao_sl_os x.os.length cap_sl_os) (.slice ao_sl_ts x.ts.length cap_sl_ts):List Value).toArray 45∧Mod (fun _=>False) w wr) (fun _ ti _=>x.ps.length - (intOf ti).toNat)
 case atStart=>exact ⟨0,rfl,Nat.zero_le _,C0 _,by have hq:=(r9.out.widen (R':=(fun b=>w1.heap.size≤b∧b < r8.heap.size)) bB (C0 _));simpa only [List.take_zero,C6,List.flatten_nil,List.append_nil,C2] using hq,(o9.out.mod c9.out iA),(p5.out.mod c9.out iA),(p6.out.mod c9.out iA),(HB1.o.mod c9.out (fun h=>h)),(HM0.o.trans c9.out iB)⟩
 case round=>
  obtain ⟨k1,rfl,hk,hz,ha,hk_0,hk_1,hk_2,hk_3,hm⟩:=hrel
  obtain ⟨wl1,rfl⟩:∃ x,x=wr:=⟨_,rfl⟩
  obtain ⟨aol1,capl1,rfl⟩:=ha.shape
  have HAL1:=B8 ha
  have HKL1_0:=B8 hk_0
  have HKL1_1:=B8 hk_1
  have HKL1_2:=B8 hk_2
  have HKL1_3:=B8 hk_3
  have HML1:=B8 hm
  clear ha hm hk_0 hk_1 hk_2 hk_3 o9 p5 p6 HB1 HM0 z4 z5 z6 z7 r9
  by_cases hlt1:k1 < x.ps.length
  ·skip
   have hat:=HKL1_0.o.at hlt1
   obtain ⟨g1,o1,cs1,eao,hrg,hrd,hcs⟩:=hat
   subst eao
   have hcl:cs1.length=6:=PmR.len hrd
   have HCL1:=B8 hcl
   have HAT1:=hid (show CellsAt R2 wl1 g1 (o1+k1 * 6) cs1 from ⟨hrg,hcs⟩)
   have HRD1:=B8 hrd
   clear hcl hcs hrd hrg
   have HE1:Hid (((encI x.ep ++ (encN x.tm ++ encI x.ps.length)) ++ ((x.ps.take k1).map pmB).flatten) ++ pmB x.ps[k1]=(encI x.ep ++ (encN x.tm ++ encI x.ps.length)) ++ ((x.ps.take (k1+1)).map pmB).flatten):=hid cZ
   have HB1':=hid (show (((encI x.ep ++ (encN x.tm ++ encI x.ps.length)) ++ ((x.ps.take k1).map pmB).flatten) ++ pmB x.ps[k1]).length≤900000 by rw [HE1.o];exact acc_len _ _ _ _ bU)
   have HBE1:=hid (show (pmB x.ps[k1]).length≤900000 by have:=HB1'.o;simp only [C3] at this ⊢; omega)
   go_upto_region 4 with (fail)
   refine Ab 111 [25,4] [0,1] (fun a0 HA0=>?_)
   have s0:=ev HA0 23 rfl
   refine qmo rfl s0 ?_
   refine qas rfl 0 0 ?_
   refine qe ?_
   clear HA0 s0 a0
   go_upto_region 5 with (fail)
   refine Ab 111 [26,27,28,29,30,31,32,33,3] [0,1,2,3,4,5,6,7,8] (fun a0 HA0=>?_)
   have c3:=ev HA0 1 rfl
   have c4:=ev HA0 3 rfl
   have s5:=ev HA0 4 rfl
   refine QSeq.pure rfl _ (fun E=>Al rfl (E.y 8 c4)) ?_
   refine qfd rfl 2 C7 c3 ?_
   refine QSeq.pure rfl _ (fun E=>Af rfl Tryz.underlying41 rfl (E.d 1 0) (AC HKL1_3.o rfl)) ?_
   refine qmo rfl s5 ?_
   refine QSeq.pure rfl (.pointer (some ⟨g1,o1+k1 * 6,none⟩)) (fun E=>Bq (i:=k1) (s:=6) rfl Tryz.underlying41 aE (E.d 2 1) (E.d 3 0) hlt1) ?_
   refine QSeq.pure rfl _ (fun E=>Ak rfl Tryz.underlying40 rfl (off:=o1+k1 * 6) (cs:=cs1) eE (E.d 4 0) (fun j u hu=>(HAT1.o).2 j u hu)) ?_
   refine QSeq.call rfl rfl Tryz.func29 (RefPm_Q _ _ (x.ps[k1]) _ HRD1.o aU HBE1.o) (fun E=>Ap (E.d 5 0)) ?_
   rintro e s6 ⟨v_a4,rfl,qa4,hm⟩
   obtain ⟨br,bt,rfl⟩:=qa4.shape
   refine ⟨_,rfl,?_⟩
   have j7:=hid qa4
   have bu:=hm.size
   have j8:=hid (show Mod (fun _=>False) wl1 s6 from hm)
   clear hm
   clear qa4
   refine QSeq.go fun act E=>?_
   refine qc_appR rfl (Aa rfl) rfl (E.d 0 6) (E.d 6 0) (HAL1.o.mod j8.out iA) j7.out.rd HB1'.o ?_
   intro ao14 cap14 z9 qjoin1 hm
   have aa:=hid (qjoin1.widen (R':=(fun k=>(New w1 wl1 k)∨(New s6 z9 k))) (fun _ h=>h) (C0 _))
   have bw:=hm.size
   have s7:=hid hm
   have d7:=hid (AA (S':=(fun k=>(New w1 wl1 k))) j8.out hm iC aQ)
   clear hm j8
   clear act E qjoin1 HAL1
   refine qas rfl 7 0 ?_
   have bx:=hid (j7.out.mod s7.out aD)
   clear j7 s7
   refine qe ?_
   clear HA0 c3 c4 s5 a0
   have hq:=aa.out
   rw [HE1.o] at hq
   have HQ1:=B8 hq
   clear hq
   go_wp2
   go_roundw
   case rel=>exact ⟨k1+1,by go_num,by omega,by omega,(HQ1.o.widen cS (C0 _)),(HKL1_0.o.mod d7.out (sN HBT)),(HKL1_1.o.mod d7.out (sN HBT)),(HKL1_2.o.mod d7.out (sN HBT)),(HKL1_3.o.mod d7.out aG),(HML1.o.trans d7.out aD)⟩
   case measure=>simp [intOf];omega
  ·obtain rfl:k1=x.ps.length:=by omega
   have hq:=HAL1.o
   rw [List.take_length] at hq
   have HAF1:=B8 hq
   clear hq
   rw [List.take_length]
   go_upto_region 7 with (fail)
   refine Ab 111 [35,36,37,38,39,40,3] [0,1,2,3,4,5,6] (fun a0 HA0=>?_)
   have c3:=ev HA0 1 rfl
   have c4:=ev HA0 3 rfl
   refine QSeq.pure rfl _ (fun E=>Al rfl (E.y 6 c4)) ?_
   refine qfd rfl 3 C7 c3 ?_
   refine QSeq.pure rfl _ (fun E=>Af rfl Tryz.underlying42 rfl (E.d 1 0) (AC HKL1_3.o rfl)) ?_
   refine QSeq.pure rfl (.int .i64 x.os.length) (fun E=>A2 rfl (E.d 2 0) Tryz.underlying42) ?_
   refine QSeq.call rfl rfl E3 (Bf _ HI1.o _) (fun E=>Ap (E.d 3 0)) ?_
   rintro e s8 ⟨v_a5,rfl,qa5,hm⟩
   obtain ⟨bz,cd,rfl⟩:=qa5.shape
   refine ⟨_,rfl,?_⟩
   have j9:=hid qa5
   have cf:=hm.size
   have l7:=hid (show Mod (fun _=>False) wl1 s8 from hm)
   clear hm
   clear qa5
   refine QSeq.go fun act E=>?_
   refine qc_appR rfl (Aa rfl) rfl (E.d 0 4) (E.d 4 0) (HAF1.o.mod l7.out iA) j9.out.rd bU ?_
   intro ao14 cap14 l8 qjoin1 hm
   have t0:=hid (qjoin1.widen (R':=(fun k=>(New w1 wl1 k)∨(New s8 l8 k))) (fun _ h=>h) (C0 _))
   have cg:=hm.size
   have t1:=hid hm
   have d5:=hid (AA (S':=(fun k=>(New w1 wl1 k))) l7.out hm iC aQ)
   clear hm l7
   clear act E qjoin1 HAF1
   refine qas rfl 5 0 ?_
   have ac:=hid (j9.out.mod t1.out aD)
   clear j9 t1
   refine qe ?_
   clear HA0 c3 c4 a0
   go_upto_region 8 with (fail)
   refine Ab 111 [41,42,43,44] [0,1,2,3] (fun a0 HA0=>?_)
   have c3:=ev HA0 1 rfl
   refine qfd rfl 3 C7 c3 ?_
   refine QSeq.pure rfl _ (fun E=>Af rfl Tryz.underlying42 rfl (E.d 0 0) (AC (HKL1_3.o.mod d5.out aG) rfl)) ?_
   refine QSeq.pure rfl (.int .i64 x.os.length) (fun E=>A2 rfl (E.d 1 0) Tryz.underlying42) ?_
   refine QSeq.pure rfl (.int .i64 0) (fun E=>Al rfl rfl) ?_
   refine qe ?_
   clear HA0 c3 a0
   go_wp2
   go_loopw [3,44] (fun ta ti wr=>∃ k:Nat,ti=.int .i64 (k:Int)∧k≤x.os.length∧l8.heap.size≤wr.heap.size∧OwR (fun b=>w1.heap.size≤b∧b < wr.heap.size) 900000 wr ta ((((encI x.ep ++ (encN x.tm ++ encI x.ps.length)) ++ (x.ps.map pmB).flatten) ++ encI x.os.length) ++ ((x.os.take k).map opB).flatten)∧RdS PmR R2 wr (.slice ao_sl_ps x.ps.length cap_sl_ps) x.ps∧RdS OpR R2 wr (.slice ao_sl_os x.os.length cap_sl_os) x.os∧RdS TbR R2 wr (.slice ao_sl_ts x.ts.length cap_sl_ts) x.ts∧Cs wr (w.heap.size) (x.cells (.slice ao_sl_ps x.ps.length cap_sl_ps) (.slice ao_sl_os x.os.length cap_sl_os) (.slice ao_sl_ts x.ts.length cap_sl_ts):List Value).toArray 45∧Mod (fun _=>False) w wr) (fun _ ti _=>x.os.length - (intOf ti).toNat)
   case atStart=>exact ⟨0,rfl,Nat.zero_le _,C0 _,by have hq:=(t0.out.widen (R':=(fun b=>w1.heap.size≤b∧b < l8.heap.size)) bB (C0 _));simpa only [List.take_zero,C6,List.flatten_nil,List.append_nil,C2] using hq,(HKL1_0.o.mod d5.out (sN HBT)),(HKL1_1.o.mod d5.out (sN HBT)),(HKL1_2.o.mod d5.out (sN HBT)),(HKL1_3.o.mod d5.out aG),(HML1.o.trans d5.out aD)⟩
   case round=>
    obtain ⟨k2,rfl,hk,hz,ha,hk_0,hk_1,hk_2,hk_3,hm⟩:=hrel
    obtain ⟨wl2,rfl⟩:∃ x,x=wr:=⟨_,rfl⟩
    obtain ⟨aol2,capl2,rfl⟩:=ha.shape
    have HAL2:=B8 ha
    have HKL2_0:=B8 hk_0
    have HKL2_1:=B8 hk_1
    have HKL2_2:=B8 hk_2
    have HKL2_3:=B8 hk_3
    have HML2:=B8 hm
    clear ha hm hk_0 hk_1 hk_2 hk_3 HKL1_0 HKL1_1 HKL1_2 HKL1_3 HML1 t0 ac
    by_cases hlt2:k2 < x.os.length
    ·skip
     have hat:=HKL2_1.o.at hlt2
     obtain ⟨g2,o2,cs2,eao,hrg,hrd,hcs⟩:=hat
     subst eao
     have hcl:cs2.length=34:=OpR.len hrd
     have HCL2:=B8 hcl
     have HAT2:=hid (show CellsAt R2 wl2 g2 (o2+k2 * 34) cs2 from ⟨hrg,hcs⟩)
     have HRD2:=B8 hrd
     clear hcl hcs hrd hrg
     have HE2:Hid (((((encI x.ep ++ (encN x.tm ++ encI x.ps.length)) ++ (x.ps.map pmB).flatten) ++ encI x.os.length) ++ ((x.os.take k2).map opB).flatten) ++ opB x.os[k2]=(((encI x.ep ++ (encN x.tm ++ encI x.ps.length)) ++ (x.ps.map pmB).flatten) ++ encI x.os.length) ++ ((x.os.take (k2+1)).map opB).flatten):=hid (by rw [List.take_succ_eq_append_getElem hlt2,List.map_append,List.flatten_append];simp [C2])
     have HB2':=hid (show (((((encI x.ep ++ (encN x.tm ++ encI x.ps.length)) ++ (x.ps.map pmB).flatten) ++ encI x.os.length) ++ ((x.os.take k2).map opB).flatten) ++ opB x.os[k2]).length≤900000 by rw [HE2.o];exact acc_len _ _ _ _ bU)
     have HBE2:=hid (show (opB x.os[k2]).length≤900000 by have:=HB2'.o;simp only [C3] at this ⊢; omega)
     go_upto_region 10 with (fail)
     refine Ab 111 [46,5] [0,1] (fun a0 HA0=>?_)
     have t2:=ev HA0 44 rfl
     refine qmo rfl t2 ?_
     refine qas rfl 0 0 ?_
     refine qe ?_
     clear HA0 t2 a0
     go_upto_region 11 with (fail)
     refine Ab 111 [47,48,49,50,51,52,53,54,3] [0,1,2,3,4,5,6,7,8] (fun a0 HA0=>?_)
     have c3:=ev HA0 1 rfl
     have c4:=ev HA0 3 rfl
     have t8:=ev HA0 5 rfl
     refine QSeq.pure rfl _ (fun E=>Al rfl (E.y 8 c4)) ?_
     refine qfd rfl 3 C7 c3 ?_
     refine QSeq.pure rfl _ (fun E=>Af rfl Tryz.underlying42 rfl (E.d 1 0) (AC HKL2_3.o rfl)) ?_
     refine qmo rfl t8 ?_
     refine QSeq.pure rfl (.pointer (some ⟨g2,o2+k2 * 34,none⟩)) (fun E=>Bq (i:=k2) (s:=34) rfl Tryz.underlying42 aE (E.d 2 1) (E.d 3 0) hlt2) ?_
     refine QSeq.pure rfl _ (fun E=>Ak rfl Tryz.underlying54 rfl (off:=o2+k2 * 34) (cs:=cs2) fY (E.d 4 0) (fun j u hu=>(HAT2.o).2 j u hu)) ?_
     refine QSeq.call rfl rfl Tryz.func33 (RefOp_Q _ _ (x.os[k2]) _ HRD2.o aU HBE2.o) (fun E=>Ap (E.d 5 0)) ?_
     rintro e t9 ⟨v_a6,rfl,qa6,hm⟩
     obtain ⟨ch,cj,rfl⟩:=qa6.shape
     refine ⟨_,rfl,?_⟩
     have m7:=hid qa6
     have ck:=hm.size
     have m8:=hid (show Mod (fun _=>False) wl2 t9 from hm)
     clear hm
     clear qa6
     refine QSeq.go fun act E=>?_
     refine qc_appR rfl (Aa rfl) rfl (E.d 0 6) (E.d 6 0) (HAL2.o.mod m8.out iA) m7.out.rd HB2'.o ?_
     intro ao17 cap17 ae qjoin1 hm
     have af:=hid (qjoin1.widen (R':=(fun k=>(New w1 wl2 k)∨(New t9 ae k))) (fun _ h=>h) (C0 _))
     have co:=hm.size
     have u0:=hid hm
     have d8:=hid (AA (S':=(fun k=>(New w1 wl2 k))) m8.out hm iC aQ)
     clear hm m8
     clear act E qjoin1 HAL2
     refine qas rfl 7 0 ?_
     have cq:=hid (m7.out.mod u0.out aD)
     clear m7 u0
     refine qe ?_
     clear HA0 c3 c4 t8 a0
     have hq:=af.out
     rw [HE2.o] at hq
     have HQ2:=B8 hq
     clear hq
     go_wp2
     go_roundw
     case rel=>exact ⟨k2+1,by go_num,by omega,by omega,(HQ2.o.widen cS (C0 _)),(HKL2_0.o.mod d8.out (sN HBT)),(HKL2_1.o.mod d8.out (sN HBT)),(HKL2_2.o.mod d8.out (sN HBT)),(HKL2_3.o.mod d8.out aG),(HML2.o.trans d8.out aD)⟩
     case measure=>simp [intOf];omega
    ·obtain rfl:k2=x.os.length:=by omega
     have hq:=HAL2.o
     rw [List.take_length] at hq
     have HAF2:=B8 hq
     clear hq
     rw [List.take_length]
     go_upto_region 13 with (fail)
     refine Ab 111 [56,57,58,59,60,61,3] [0,1,2,3,4,5,6] (fun a0 HA0=>?_)
     have c3:=ev HA0 1 rfl
     have c4:=ev HA0 3 rfl
     refine QSeq.pure rfl _ (fun E=>Al rfl (E.y 6 c4)) ?_
     refine qfd rfl 4 C7 c3 ?_
     refine QSeq.pure rfl _ (fun E=>Af rfl D0 rfl (E.d 1 0) (AC HKL2_3.o rfl)) ?_
     refine QSeq.pure rfl (.int .i64 x.ts.length) (fun E=>A2 rfl (E.d 2 0) D0) ?_
     refine QSeq.call rfl rfl E3 (Bf _ HI2.o _) (fun E=>Ap (E.d 3 0)) ?_
     rintro e u1 ⟨v_a7,rfl,qa7,hm⟩
     obtain ⟨cr,ct,rfl⟩:=qa7.shape
     refine ⟨_,rfl,?_⟩
     have m9:=hid qa7
     have cw:=hm.size
     have n5:=hid (show Mod (fun _=>False) wl2 u1 from hm)
     clear hm
     clear qa7
     refine QSeq.go fun act E=>?_
     refine qc_appR rfl (Aa rfl) rfl (E.d 0 4) (E.d 4 0) (HAF2.o.mod n5.out iA) m9.out.rd bU ?_
     intro ao17 cap17 n6 qjoin1 hm
     have u2:=hid (qjoin1.widen (R':=(fun k=>(New w1 wl2 k)∨(New u1 n6 k))) (fun _ h=>h) (C0 _))
     have cx:=hm.size
     have u3:=hid hm
     have d6:=hid (AA (S':=(fun k=>(New w1 wl2 k))) n5.out hm iC aQ)
     clear hm n5
     clear act E qjoin1 HAF2
     refine qas rfl 5 0 ?_
     have ag:=hid (m9.out.mod u3.out aD)
     clear m9 u3
     refine qe ?_
     clear HA0 c3 c4 a0
     go_upto_region 14 with (fail)
     refine Ab 111 [62,63,64,65] [0,1,2,3] (fun a0 HA0=>?_)
     have c3:=ev HA0 1 rfl
     refine qfd rfl 4 C7 c3 ?_
     refine QSeq.pure rfl _ (fun E=>Af rfl D0 rfl (E.d 0 0) (AC (HKL2_3.o.mod d6.out aG) rfl)) ?_
     refine QSeq.pure rfl (.int .i64 x.ts.length) (fun E=>A2 rfl (E.d 1 0) D0) ?_
     refine QSeq.pure rfl (.int .i64 0) (fun E=>Al rfl rfl) ?_
     refine qe ?_
     clear HA0 c3 a0
     go_wp2
     go_loopw [3,65] (fun ta ti wr=>∃ k:Nat,ti=.int .i64 (k:Int)∧k≤x.ts.length∧n6.heap.size≤wr.heap.size∧OwR (fun b=>w1.heap.size≤b∧b < wr.heap.size) 900000 wr ta ((((((encI x.ep ++ (encN x.tm ++ encI x.ps.length)) ++ (x.ps.map pmB).flatten) ++ encI x.os.length) ++ (x.os.map opB).flatten) ++ encI x.ts.length) ++ ((x.ts.take k).map tbB).flatten)∧RdS PmR R2 wr (.slice ao_sl_ps x.ps.length cap_sl_ps) x.ps∧RdS OpR R2 wr (.slice ao_sl_os x.os.length cap_sl_os) x.os∧RdS TbR R2 wr (.slice ao_sl_ts x.ts.length cap_sl_ts) x.ts∧Cs wr (w.heap.size) (x.cells (.slice ao_sl_ps x.ps.length cap_sl_ps) (.slice ao_sl_os x.os.length cap_sl_os) (.slice ao_sl_ts x.ts.length cap_sl_ts):List Value).toArray 45∧Mod (fun _=>False) w wr) (fun _ ti _=>x.ts.length - (intOf ti).toNat)
     case atStart=>exact ⟨0,rfl,Nat.zero_le _,C0 _,by have hq:=(u2.out.widen (R':=(fun b=>w1.heap.size≤b∧b < n6.heap.size)) bB (C0 _));simpa only [List.take_zero,C6,List.flatten_nil,List.append_nil,C2] using hq,(HKL2_0.o.mod d6.out (sN HBT)),(HKL2_1.o.mod d6.out (sN HBT)),(HKL2_2.o.mod d6.out (sN HBT)),(HKL2_3.o.mod d6.out aG),(HML2.o.trans d6.out aD)⟩
     case round=>
      obtain ⟨k3,rfl,hk,hz,ha,hk_0,hk_1,hk_2,hk_3,hm⟩:=hrel
      obtain ⟨wl3,rfl⟩:∃ x,x=wr:=⟨_,rfl⟩
      obtain ⟨aol3,capl3,rfl⟩:=ha.shape
      have HAL3:=B8 ha
      have HKL3_0:=B8 hk_0
      have HKL3_1:=B8 hk_1
      have HKL3_2:=B8 hk_2
      have HKL3_3:=B8 hk_3
      have HML3:=B8 hm
      clear ha hm hk_0 hk_1 hk_2 hk_3 HKL2_0 HKL2_1 HKL2_2 HKL2_3 HML2 u2 ag
      by_cases hlt3:k3 < x.ts.length
      ·skip
       have hat:=HKL3_2.o.at hlt3
       obtain ⟨g3,o3,cs3,eao,hrg,hrd,hcs⟩:=hat
       subst eao
       have hcl:cs3.length=2:=TbR.len hrd
       have HCL3:=B8 hcl
       have HAT3:=hid (show CellsAt R2 wl3 g3 (o3+k3 * 2) cs3 from ⟨hrg,hcs⟩)
       have HRD3:=B8 hrd
       clear hcl hcs hrd hrg
       obtain ⟨y3,hy3⟩:∃ y,y=x.ts[k3]:=⟨_,rfl⟩
       rw [← hy3] at HRD3
       have HE3:Hid (((((((encI x.ep ++ (encN x.tm ++ encI x.ps.length)) ++ (x.ps.map pmB).flatten) ++ encI x.os.length) ++ (x.os.map opB).flatten) ++ encI x.ts.length) ++ ((x.ts.take k3).map tbB).flatten) ++ tbB x.ts[k3]=(((((encI x.ep ++ (encN x.tm ++ encI x.ps.length)) ++ (x.ps.map pmB).flatten) ++ encI x.os.length) ++ (x.os.map opB).flatten) ++ encI x.ts.length) ++ ((x.ts.take (k3+1)).map tbB).flatten):=hid (by rw [List.take_succ_eq_append_getElem hlt3,List.map_append,List.flatten_append];simp [C2])
       have HB3':=hid (show (((((((encI x.ep ++ (encN x.tm ++ encI x.ps.length)) ++ (x.ps.map pmB).flatten) ++ encI x.os.length) ++ (x.os.map opB).flatten) ++ encI x.ts.length) ++ ((x.ts.take k3).map tbB).flatten) ++ tbB x.ts[k3]).length≤900000 by rw [HE3.o];exact acc_len _ _ _ _ (by have:=HL.o;simp only [listB,tbB,C3] at this ⊢; omega))
       have HBE3:=hid (show (tbB x.ts[k3]).length≤900000 by have:=HB3'.o;simp only [C3] at this ⊢; omega)
       go_upto_region 16 with (fail)
       refine Ab 111 [67,6] [0,1] (fun a0 HA0=>?_)
       have u4:=ev HA0 65 rfl
       refine qmo rfl u4 ?_
       refine qas rfl 0 0 ?_
       refine qe ?_
       clear HA0 u4 a0
       rw [← hy3] at HE3 HB3' HBE3
       clear hy3
       obtain ⟨v_t,rfl,htk,hts⟩:=HRD3.o
       obtain ⟨aot,cat,rfl⟩:=hts.shape
       have htb:y3.l.length≤maxLen:=hts.bd
       rw [Ax] at htb
       have HTI:=hid (show I64 (y3.l.length:Int) by unfold I64;omega)
       have HTK:=B8 htk
       have HTS:=B8 hts
       clear hts htk HRD3
       go_upto_region 17 with (fail)
       generalize ha0:Act.mk _ _=a0
       have c3:a0.eval (.tmp 1)=.pointer (some ⟨w.heap.size,0,none⟩):=by rw [← ha0];rfl
       have c4:a0.eval (.tmp 3)=.slice aol3 (((((((encI x.ep ++ (encN x.tm ++ encI x.ps.length)) ++ (x.ps.map pmB).flatten) ++ encI x.os.length) ++ (x.os.map opB).flatten) ++ encI x.ts.length) ++ ((x.ts.take k3).map tbB).flatten).length) capl3:=by rw [← ha0];rfl
       have c6:a0.eval (.tmp 6)=.int .i64 ((k3:Nat):Int):=by rw [← ha0];rfl
       have hsz0:a0.tmps.size=111:=by rw [← ha0];rfl
       have HA0:=hid ha0
       clear ha0
       refine A7 111 hsz0 [68,69,70,71,72,73,74,75,76,77,78,79,80,81,82,83,84,85,3] [qi (.slice aol3 (((((((encI x.ep ++ (encN x.tm ++ encI x.ps.length)) ++ (x.ps.map pmB).flatten) ++ encI x.os.length) ++ (x.os.map opB).flatten) ++ encI x.ts.length) ++ ((x.ts.take k3).map tbB).flatten).length) capl3),qi (.pointer (some ⟨w.heap.size,4,none⟩)),qi (.slice (some ⟨g3,o3,none⟩) x.ts.length cap_sl_ts),qi (.int .i64 ((k3:Nat):Int)),qi (.pointer (some ⟨g3,o3+k3 * 2,none⟩)),qi (.pointer (some ⟨g3,o3+k3 * 2,none⟩)),qi (.int .i64 y3.ix),qv 0,qi (.pointer (some ⟨w.heap.size,4,none⟩)),qi (.slice (some ⟨g3,o3,none⟩) x.ts.length cap_sl_ts),qi (.int .i64 ((k3:Nat):Int)),qi (.pointer (some ⟨g3,o3+k3 * 2,none⟩)),qi (.pointer (some ⟨g3,o3+k3 * 2+1,none⟩)),qi (.slice aot y3.l.length cat),qi (.int .i64 y3.l.length),qv 1,qv 2,qv 3,qv 3] ⟨Ac,Ac,Ac,Ac,Ac,Ac,Ac,Ah,Ac,Ac,Ac,Ac,Ac,Ac,Ac,Ah,Ah,Ah,Ah,trivial⟩ [7,15,16,17] ⟨?_,?_,?_,?_,?_,?_,?_,?_,?_,?_,?_,?_,?_,?_,?_,?_,?_,?_,?_,trivial⟩ ?_
       ·exact stq (fun E=>Al rfl ((E.pre 18 3 rfl aE).trans c4))
       ·exact stq (fun E=>Ae rfl C7 rfl aE (E.v c3))
       ·exact stq (fun E=>Af rfl D0 rfl (E.d 1) (AC (HKL3_3.o.mod E.m.old aG) rfl))
       ·exact stq (fun E=>Al rfl (E.v c6))
       ·exact stq (fun E=>Bq (i:=k3) (s:=2) rfl D0 aE (E.d 2) (E.d 3) hlt3)
       ·exact stq (fun E=>Ae rfl E4 rfl aE (E.d 4))
       ·exact stq (fun E=>Af rfl B9 rfl (E.d 5) (((HAT3.o.mod E.m.old cI)).2 0 _ rfl))
       ·exact Ad rfl
       ·exact stq (fun E=>Ae rfl C7 rfl aE (E.v c3))
       ·exact stq (fun E=>Af rfl D0 rfl (E.d 8) (AC (HKL3_3.o.mod E.m.old aG) rfl))
       ·exact stq (fun E=>Al rfl (E.v c6))
       ·exact stq (fun E=>Bq (i:=k3) (s:=2) rfl D0 aE (E.d 9) (E.d 10) hlt3)
       ·exact stq (fun E=>Ae rfl E4 rfl aE (E.d 11))
       ·exact stq (fun E=>Af rfl Tryz.underlying125 rfl (E.d 12) (((HAT3.o.mod E.m.old cI)).2 1 _ rfl))
       ·exact stq (fun E=>A2 rfl (E.d 13) Tryz.underlying125)
       ·exact Ad rfl
       ·exact Ad rfl
       ·exact Ad rfl
       ·refine Ay rfl rfl rfl fun _ _ _ _ _ _ _ _ _ hd _ _=>?_
        have h17:=hd ⟨17,.data⟩ bA rfl _ rfl
        exact Bl rfl (Aa rfl) (An rfl rfl) QE.refl h17
       intro ah hr
       have cy:=hr.size
       have u5:=hid (hr.new (S:=(fun _=>False)))
       clear hr
       refine QChain.go fun Z act E=>?_
       refine Aj (args:=#[.int .i64 y3.ix]) rfl (Aa rfl) rfl E3 (Ap (E.d 6)) (Bf _ HTK.o _) ?_
       rintro e aj ⟨v_a8,rfl,qa8,hm⟩
       obtain ⟨i7,i8,rfl⟩:=qa8.shape
       have da:=hm.size
       refine ⟨_,rfl,hm.mono iB,(fun _=>rfl),?_⟩
       intro am hr
       have db:=hr.size
       have u6:=hid ((qa8.widen (R':=(fun k=>(New ah aj k))) (fun _ h=>h) (C0 _)).mod hr aD)
       have u7:=hid (u5.out.go hm hr)
       clear u5 hm hr Z act E qa8
       refine QChain.go fun Z act E=>?_
       refine Aj (args:=#[.int .i64 y3.l.length]) rfl (Aa rfl) rfl E3 (Ap (E.d 14)) (Bf _ HTI.o _) ?_
       rintro e ap ⟨v_a9,rfl,qa9,hm⟩
       obtain ⟨i9,j0,rfl⟩:=qa9.shape
       have dd:=hm.size
       refine ⟨_,rfl,hm.mono iB,(fun _=>rfl),?_⟩
       intro u9 hr
       have df:=hr.size
       have v5:=hid ((qa9.widen (R':=(fun k=>(New am ap k))) (fun _ h=>h) (C0 _)).mod hr aD)
       have hmr:=Mod.after hm hr
       have v6:=hid (u6.out.mod hmr aD)
       clear u6
       clear hmr
       have v7:=hid (u7.out.go hm hr)
       clear u7 hm hr Z act E qa9
       refine QChain.go fun Z act E=>?_
       have ea68:act.eval (.tmp 68)=.slice aol3 (((((((encI x.ep ++ (encN x.tm ++ encI x.ps.length)) ++ (x.ps.map pmB).flatten) ++ encI x.os.length) ++ (x.os.map opB).flatten) ++ encI x.ts.length) ++ ((x.ts.take k3).map tbB).flatten).length) capl3:=(E.d 0)
       have ea75:act.eval (.tmp 75)=.slice i7 ((encI y3.ix).length) i8:=(chv (v:=.slice i7 ((encI y3.ix).length) i8) (E.d 7))
       have ea83:act.eval (.tmp 83)=.slice i9 ((encI y3.l.length).length) j0:=(chv (v:=.slice i9 ((encI y3.l.length).length) j0) (E.d 15))
       refine Bv rfl (Aa rfl) rfl D7 aM (C:=#[.slice aol3 (((((((encI x.ep ++ (encN x.tm ++ encI x.ps.length)) ++ (x.ps.map pmB).flatten) ++ encI x.os.length) ++ (x.os.map opB).flatten) ++ encI x.ts.length) ++ ((x.ts.take k3).map tbB).flatten).length) capl3,.slice i7 ((encI y3.ix).length) i8,.slice i9 ((encI y3.l.length).length) j0]) (by simp only [C8,C5,C6,ea68,ea75,ea83];kernel_rfl) ?_
       intro dg qrow16 hm
       have dh:=qrow16.lt
       have di:=hm.size
       refine ⟨hm.mono iB,(fun _=>rfl),?_⟩
       intro aq hr
       have dj:=hr.size
       have n7:=hid (qrow16.mod hr aG)
       have hmr:=Mod.after hm hr
       have n8:=hid (v6.out.mod hmr aD)
       have o5:=hid (v5.out.mod hmr aD)
       clear v6 v5
       clear hmr
       have o6:=hid (v7.out.go hm hr)
       clear v7 hm hr Z act E qrow16 ea68 ea75 ea83
       refine QChain.go fun Z act E=>?_
       refine Aj (args:=#[.slice (some ⟨u9.heap.size,0,none⟩) 3 3]) rfl (Aa rfl) rfl E9 (Ap (chv (v:=.slice (some ⟨u9.heap.size,0,none⟩) 3 3) (E.d 16))) (Join_Q (n:=3)  n7.out [(.slice aol3 (((((((encI x.ep ++ (encN x.tm ++ encI x.ps.length)) ++ (x.ps.map pmB).flatten) ++ encI x.os.length) ++ (x.os.map opB).flatten) ++ encI x.ts.length) ++ ((x.ts.take k3).map tbB).flatten).length) capl3,((((((encI x.ep ++ (encN x.tm ++ encI x.ps.length)) ++ (x.ps.map pmB).flatten) ++ encI x.os.length) ++ (x.os.map opB).flatten) ++ encI x.ts.length) ++ ((x.ts.take k3).map tbB).flatten)),(.slice i7 ((encI y3.ix).length) i8,encI y3.ix),(.slice i9 ((encI y3.l.length).length) j0,encI y3.l.length)] rfl rfl (by intro p hp;simp only [D1,C9,or_false] at hp;rcases hp with rfl|rfl|rfl<;>first|exact (HAL3.o.mod o6.out iA).rd.1|exact n8.out.rd.1|exact o5.out.rd.1) bA (show flat _=(((((((encI x.ep ++ (encN x.tm ++ encI x.ps.length)) ++ (x.ps.map pmB).flatten) ++ encI x.os.length) ++ (x.os.map opB).flatten) ++ encI x.ts.length) ++ ((x.ts.take k3).map tbB).flatten)) ++ (encI y3.ix ++ encI y3.l.length) from by simp only [flat,C5,C6,List.flatten_cons,List.flatten_nil,List.append_nil]) (by have:=HB3'.o;simp only [tbB,listB,C3] at this ⊢; omega)) ?_
       rintro e ar ⟨v_join2,rfl,qjoin2,hm⟩
       have dk:=hm.size
       refine ⟨_,rfl,hm.mono iB,(fun _=>rfl),?_⟩
       intro v8 hr
       have dl:=hr.size
       have x4:=hid ((qjoin2.widen (R':=(fun k=>(New aq ar k))) (fun _ h=>h) (C0 _)).mod hr aD)
       have hmr:=Mod.after hm hr
       have au:=hid (n8.out.mod hmr aD)
       have av:=hid (o5.out.mod hmr aD)
       have aw:=hid (n7.out.mod hmr aG)
       clear n8 o5 n7
       clear hmr
       have c7:=hid (o6.out.go hm hr)
       clear o6 hm hr Z act E qjoin2
       refine QChain.nil fun vs hl hzz hrows hne=>?_
       obtain ⟨Z,hYZ,hZb,hV⟩:=hzz
       have f0:=fvi hV hl 0
       have f3:=fvi hV hl 3
       have f7:=fvc hV hl 7
       have f10:=fvi hV hl 10
       have f14:=fvi hV hl 14
       have f15:=fvc hV hl 15
       have f16:=fvc hV hl 16
       have f17:=fvc hV hl 17
       have f18:=fvc hV hl 18
       rw [show vs=[gw vs 0,gw vs 1,gw vs 2,gw vs 3,gw vs 4,gw vs 5,gw vs 6,gw vs 7,gw vs 8,gw vs 9,gw vs 10,gw vs 11,gw vs 12,gw vs 13,gw vs 14,gw vs 15,gw vs 16,gw vs 17,gw vs 18] from (Bi hl).trans rfl]
       have ha0:=HA0.o
       subst ha0
       clear HA0 hV hYZ hZb hsz0 hrows hne c3 c4 c6
       simp only [Au,Act.put,sIB,sCZ,sCS,f0,f3,f7,f10,f14,f15,f16,f17,f18]
       clear hl f0 f3 f7 f10 f14 f15 f16 f17 f18
       go_upto_region 18 with (fail)
       refine Ab 111 [86,87,88,89,90,91,92,93] [0,1,2,3,4,5,6,7] (fun a0 HA0=>?_)
       have c3:=ev HA0 1 rfl
       have c6:=ev HA0 6 rfl
       refine qfd rfl 4 C7 c3 ?_
       refine QSeq.pure rfl _ (fun E=>Af rfl D0 rfl (E.d 0 0) (AC (HKL3_3.o.mod c7.out (fun h=>h)) rfl)) ?_
       refine qmo rfl c6 ?_
       refine QSeq.pure rfl (.pointer (some ⟨g3,o3+k3 * 2,none⟩)) (fun E=>Bq (i:=k3) (s:=2) rfl D0 aE (E.d 1 1) (E.d 2 0) hlt3) ?_
       refine QSeq.pure rfl (.pointer (some ⟨g3,o3+k3 * 2+1,none⟩)) (fun E=>Ae rfl E4 rfl aE (E.d 3 0)) ?_
       refine QSeq.pure rfl (.slice aot y3.l.length cat) (fun E=>Af rfl Tryz.underlying125 rfl (E.d 4 0) (((HAT3.o.mod c7.out iA)).2 1 _ rfl)) ?_
       refine QSeq.pure rfl (.int .i64 y3.l.length) (fun E=>A2 rfl (E.d 5 0) Tryz.underlying125) ?_
       refine QSeq.pure rfl (.int .i64 0) (fun E=>Al rfl rfl) ?_
       refine qe ?_
       clear HA0 c3 c6 a0
       go_wp2
       go_loopw [3,93] (fun ta ti wr=>∃ k:Nat,ti=.int .i64 (k:Int)∧k≤y3.l.length∧v8.heap.size≤wr.heap.size∧OwR (fun b=>w1.heap.size≤b∧b < wr.heap.size) 900000 wr ta ((((((((encI x.ep ++ (encN x.tm ++ encI x.ps.length)) ++ (x.ps.map pmB).flatten) ++ encI x.os.length) ++ (x.os.map opB).flatten) ++ encI x.ts.length) ++ ((x.ts.take k3).map tbB).flatten) ++ (encI y3.ix ++ encI y3.l.length)) ++ ((y3.l.take k).map dnB).flatten)∧RdS PmR R2 wr (.slice ao_sl_ps x.ps.length cap_sl_ps) x.ps∧RdS OpR R2 wr (.slice ao_sl_os x.os.length cap_sl_os) x.os∧RdS TbR R2 wr (.slice (some ⟨g3,o3,none⟩) x.ts.length cap_sl_ts) x.ts∧Cs wr (w.heap.size) (x.cells (.slice ao_sl_ps x.ps.length cap_sl_ps) (.slice ao_sl_os x.os.length cap_sl_os) (.slice (some ⟨g3,o3,none⟩) x.ts.length cap_sl_ts):List Value).toArray 45∧CellsAt R2 wr g3 (o3+k3 * 2) (y3.cells (.slice aot y3.l.length cat))∧RdS DnR R2 wr (.slice aot y3.l.length cat) y3.l∧Mod (fun _=>False) w wr) (fun _ ti _=>y3.l.length - (intOf ti).toNat)
       case atStart=>exact ⟨0,rfl,Nat.zero_le _,C0 _,by have hq:=(x4.out.widen (R':=(fun b=>w1.heap.size≤b∧b < v8.heap.size)) bB (C0 _));simpa only [List.take_zero,C6,List.flatten_nil,List.append_nil,C2] using hq,(HKL3_0.o.mod c7.out iA),(HKL3_1.o.mod c7.out iA),(HKL3_2.o.mod c7.out iA),(HKL3_3.o.mod c7.out (fun h=>h)),(HAT3.o.mod c7.out iA),(HTS.o.mod c7.out iA),(HML3.o.trans c7.out iB)⟩
       case round=>
        obtain ⟨k4,rfl,hk,hz,ha,hk_0,hk_1,hk_2,hk_3,hk_4,hk_5,hm⟩:=hrel
        obtain ⟨wl4,rfl⟩:∃ x,x=wr:=⟨_,rfl⟩
        obtain ⟨aol4,capl4,rfl⟩:=ha.shape
        have HAL4:=B8 ha
        have HKL4_0:=B8 hk_0
        have HKL4_1:=B8 hk_1
        have HKL4_2:=B8 hk_2
        have HKL4_3:=B8 hk_3
        have HKL4_4:=B8 hk_4
        have HKL4_5:=B8 hk_5
        have HML4:=B8 hm
        clear ha hm hk_0 hk_1 hk_2 hk_3 hk_4 hk_5 HKL3_0 HKL3_1 HKL3_2 HKL3_3 HML3 HAL3 HAT3 HTS au av aw x4
        by_cases hlt4:k4 < y3.l.length
        ·skip
         have hat:=HKL4_5.o.at hlt4
         obtain ⟨g4,o4,cs4,eao,hrg,hrd,hcs⟩:=hat
         subst eao
         have hcl:cs4.length=4:=DnR.len hrd
         have HCL4:=B8 hcl
         have HAT4:=hid (show CellsAt R2 wl4 g4 (o4+k4 * 4) cs4 from ⟨hrg,hcs⟩)
         have HRD4:=B8 hrd
         clear hcl hcs hrd hrg
         have HE4:Hid (((((((((encI x.ep ++ (encN x.tm ++ encI x.ps.length)) ++ (x.ps.map pmB).flatten) ++ encI x.os.length) ++ (x.os.map opB).flatten) ++ encI x.ts.length) ++ ((x.ts.take k3).map tbB).flatten) ++ (encI y3.ix ++ encI y3.l.length)) ++ ((y3.l.take k4).map dnB).flatten) ++ dnB y3.l[k4]=(((((((encI x.ep ++ (encN x.tm ++ encI x.ps.length)) ++ (x.ps.map pmB).flatten) ++ encI x.os.length) ++ (x.os.map opB).flatten) ++ encI x.ts.length) ++ ((x.ts.take k3).map tbB).flatten) ++ (encI y3.ix ++ encI y3.l.length)) ++ ((y3.l.take (k4+1)).map dnB).flatten):=hid (by rw [List.take_succ_eq_append_getElem hlt4,List.map_append,List.flatten_append];simp [C2])
         have HB4':=hid (show (((((((((encI x.ep ++ (encN x.tm ++ encI x.ps.length)) ++ (x.ps.map pmB).flatten) ++ encI x.os.length) ++ (x.os.map opB).flatten) ++ encI x.ts.length) ++ ((x.ts.take k3).map tbB).flatten) ++ (encI y3.ix ++ encI y3.l.length)) ++ ((y3.l.take k4).map dnB).flatten) ++ dnB y3.l[k4]).length≤900000 by rw [HE4.o];exact acc_len _ _ _ _ (by have:=HB3'.o;simp only [listB,tbB,C3] at this ⊢; omega))
         have HBE4:=hid (show (dnB y3.l[k4]).length≤900000 by have:=HB4'.o;simp only [C3] at this ⊢; omega)
         go_upto_region 20 with (fail)
         refine Ab 111 [95,7] [0,1] (fun a0 HA0=>?_)
         have x5:=ev HA0 93 rfl
         refine qmo rfl x5 ?_
         refine qas rfl 0 0 ?_
         refine qe ?_
         clear HA0 x5 a0
         go_upto_region 21 with (fail)
         refine Ab 111 [96,97,98,99,100,101,102,103,104,105,106,107,3] [0,1,2,3,4,5,6,7,8,9,10,11,12] (fun a0 HA0=>?_)
         have c3:=ev HA0 1 rfl
         have c4:=ev HA0 3 rfl
         have c6:=ev HA0 6 rfl
         have x6:=ev HA0 7 rfl
         refine QSeq.pure rfl _ (fun E=>Al rfl (E.y 12 c4)) ?_
         refine qfd rfl 4 C7 c3 ?_
         refine QSeq.pure rfl _ (fun E=>Af rfl D0 rfl (E.d 1 0) (AC HKL4_3.o rfl)) ?_
         refine qmo rfl c6 ?_
         refine QSeq.pure rfl (.pointer (some ⟨g3,o3+k3 * 2,none⟩)) (fun E=>Bq (i:=k3) (s:=2) rfl D0 aE (E.d 2 1) (E.d 3 0) hlt3) ?_
         refine QSeq.pure rfl (.pointer (some ⟨g3,o3+k3 * 2+1,none⟩)) (fun E=>Ae rfl E4 rfl aE (E.d 4 0)) ?_
         refine QSeq.pure rfl (.slice (some ⟨g4,o4,none⟩) y3.l.length cat) (fun E=>Af rfl Tryz.underlying125 rfl (E.d 5 0) ((HKL4_4.o).2 1 _ rfl)) ?_
         refine qmo rfl x6 ?_
         refine QSeq.pure rfl (.pointer (some ⟨g4,o4+k4 * 4,none⟩)) (fun E=>Bq (i:=k4) (s:=4) rfl Tryz.underlying125 aE (E.d 6 1) (E.d 7 0) hlt4) ?_
         refine QSeq.pure rfl _ (fun E=>Ak rfl Tryz.underlying56 rfl (off:=o4+k4 * 4) (cs:=cs4) (by rw [HCL4.o];kernel_rfl) (E.d 8 0) (fun j u hu=>(HAT4.o).2 j u hu)) ?_
         refine QSeq.call rfl rfl Tryz.func34 (RefDn_Q _ _ (y3.l[k4]) _ HRD4.o aU HBE4.o) (fun E=>Ap (E.d 9 0)) ?_
         rintro e x7 ⟨v_a10,rfl,qa10,hm⟩
         obtain ⟨dm,dp,rfl⟩:=qa10.shape
         refine ⟨_,rfl,?_⟩
         have o7:=hid qa10
         have dq:=hm.size
         have o8:=hid (show Mod (fun _=>False) wl4 x7 from hm)
         clear hm
         clear qa10
         refine QSeq.go fun act E=>?_
         refine qc_appR rfl (Aa rfl) rfl (E.d 0 10) (E.d 10 0) (HAL4.o.mod o8.out iA) o7.out.rd HB4'.o ?_
         intro ao30 cap30 ax qjoin2 hm
         have ay:=hid (qjoin2.widen (R':=(fun k=>(New w1 wl4 k)∨(New x7 ax k))) (fun _ h=>h) (C0 _))
         have dr:=hm.size
         have x8:=hid hm
         have c8:=hid (AA (S':=(fun k=>(New w1 wl4 k))) o8.out hm iC aQ)
         clear hm o8
         clear act E qjoin2 HAL4
         refine qas rfl 11 0 ?_
         have dt:=hid (o7.out.mod x8.out aD)
         clear o7 x8
         refine qe ?_
         clear HA0 c3 c4 c6 x6 a0
         have hq:=ay.out
         rw [HE4.o] at hq
         have HQ4:=B8 hq
         clear hq
         go_wp2
         go_roundw
         case rel=>exact ⟨k4+1,by go_num,by omega,by omega,(HQ4.o.widen cS (C0 _)),(HKL4_0.o.mod c8.out (sN HBT)),(HKL4_1.o.mod c8.out (sN HBT)),(HKL4_2.o.mod c8.out (sN HBT)),(HKL4_3.o.mod c8.out aG),(HKL4_4.o.mod c8.out (sN HBT)),(HKL4_5.o.mod c8.out (sN HBT)),(HML4.o.trans c8.out aD)⟩
         case measure=>simp [intOf];omega
        ·obtain rfl:k4=y3.l.length:=by omega
         have hq:=HAL4.o
         rw [List.take_length] at hq
         have HAF4:=B8 hq
         clear hq
         rw [List.take_length]
         have hq:=HAF4.o
         have hb:(((((((encI x.ep ++ (encN x.tm ++ encI x.ps.length)) ++ (x.ps.map pmB).flatten) ++ encI x.os.length) ++ (x.os.map opB).flatten) ++ encI x.ts.length) ++ ((x.ts.take k3).map tbB).flatten) ++ (encI y3.ix ++ encI y3.l.length)) ++ (y3.l.map dnB).flatten=((((((encI x.ep ++ (encN x.tm ++ encI x.ps.length)) ++ (x.ps.map pmB).flatten) ++ encI x.os.length) ++ (x.os.map opB).flatten) ++ encI x.ts.length) ++ ((x.ts.take k3).map tbB).flatten) ++ tbB y3:=by simp only [tbB,listB,C2]
         rw [hb] at hq
         have HQB:=B8 hq
         clear hq
         rw [hb,HE3.o]
         have hq:=HQB.o
         rw [HE3.o] at hq
         have HQ3:=B8 hq
         clear hq
         go_wp2
         go_roundw
         case rel=>exact ⟨k3+1,by go_num,by omega,by omega,(HQ3.o.widen cS (C0 _)),HKL4_0.o,HKL4_1.o,HKL4_2.o,HKL4_3.o,HML4.o⟩
         case measure=>simp [intOf];omega
      ·obtain rfl:k3=x.ts.length:=by omega
       have hq:=HAL3.o
       rw [List.take_length] at hq
       have HAF3:=B8 hq
       clear hq
       rw [List.take_length]
       go_wp2
       go_ret
       have hq:=(HAF3.o.widen (R':=(fun k=>New w wl3 k)) bB (C0 _))
       have hb:((((((encI x.ep ++ (encN x.tm ++ encI x.ps.length)) ++ (x.ps.map pmB).flatten) ++ encI x.os.length) ++ (x.os.map opB).flatten) ++ encI x.ts.length) ++ (x.ts.map tbB).flatten)=baB x:=by simp only [baB,listB,C2]
       rw [hb] at hq
       try rw [hb]
       exact ⟨_,rfl,hq,HML3.o⟩
end Go.Proofs.YtnaoeginonpicaaGreat
namespace Go.Gv
open Go Go.RowKit
section
variable {P:Program} {ops:Array Oper} {Q:Exit→Act→World→Prop}
end
end Go.Gv
namespace Go.Proofs.YtnaoeginonpicaaGreat
open Go Go.RowKit Go.Gv
theorem RdS_mem {α:Type} {A:Rep α} {R:Nat→Prop} {w:World} {v:Value} {l:List α} (h:RdS A R w v l):∀ a ∈ l,∃ cs,A.rd R w cs a:=by
 obtain ⟨css,h1,h2,-⟩:=h
 intro a ha
 obtain ⟨i,hi,rfl⟩:=List.getElem_of_mem ha
 exact ⟨css[i],h2 i _ _ (List.getElem?_eq_getElem aL) (List.getElem?_eq_getElem hi)⟩
theorem flatB_le {α:Type} (f:α→List Int) (N:Nat):∀ l:List α,(∀ a ∈ l,(f a).length≤N)→((l.map f).flatten).length≤l.length * N
 | [],_=>by simp
 | a :: r,h=>by
  have h1:=h a bA
  have h2:=flatB_le f N r (fun b hb=>h b (by simp [hb]))
  simp only [C5,List.flatten_cons,C3,D6,Nat.add_mul]
  omega
theorem listB_len {α:Type} (f:α→List Int) {N M:Nat} {l:List α} (hl:l.length≤M) (hM:M≤1000000) (h:∀ a ∈ l,(f a).length≤N):(listB f l).length≤10+M * N:=by
 have h1:=flatB_le f N l h
 have h2:=A4 (l.length:Int) (by unfold I64;omega)
 have h3:=Nat.mul_le_mul_right N hl
 simp only [listB,C3]
 omega
theorem stB_len {x:St} (h:x.OK):(stB x).length≤92:=by
 have h1:=A4 _ h.rp;have h2:=A4 _ h.cl;have h3:=A4 _ h.sq;have h4:=(B7 h.tm).2;have h5:=A4 _ h.sb;have h6:=A4 _ h.mr;have h7:=h.h.1
 simp only [stB,nameB,sigB,C3];omega
theorem cmB_len {x:Cm} (h:x.OK):(cmB x).length≤82:=by
 obtain ⟨⟨a,b,c,d,e⟩,f⟩:=h
 have h1:=A4 _ a;have h2:=A4 _ b;have h3:=A4 _ c;have h4:=A4 _ d;have h5:=A4 _ e;have h7:=f.1
 simp only [cmB,nameB,sigB,C3];omega
theorem ceB_len {R:Nat→Prop} {w:World} {cs:List Value} {x:Ce} (h:CeR.rd R w cs x) (hl:x.l.length≤5):(ceB x).length≤552:=by
 obtain ⟨_,rfl,hok,hs⟩:=h
 have h1:=listB_len stB hl aM (fun a ha=>by obtain ⟨cs,e,hk⟩:=RdS_mem hs a ha;exact stB_len hk)
 have h2:=cmB_len hok
 simp only [ceB,C3];omega
theorem pmB_len {R:Nat→Prop} {w:World} {cs:List Value} {x:Pm} (h:PmR.rd R w cs x) (hl:∃ y,x=cutPm y):(pmB x).length≤1800:=by
 obtain ⟨y,rfl⟩:=hl
 obtain ⟨_,rfl,⟨a,b,c,d,e⟩,hs⟩:=h
 have h1:=A4 _ a;have h2:=A4 _ b;have h3:=(B7 c).2;have h4:=A4 _ d;have h5:=A4 _ e
 have h6:=listB_len ceB (M:=3) (show (cutPm y).l.length≤3 by simp [cutPm];omega) aM (fun z hz=>by
  obtain ⟨cs,hc⟩:=RdS_mem hs z hz
  refine ceB_len hc ?_
  obtain ⟨u,-,rfl⟩:=List.mem_map.1 hz
  simp [cutCe];omega)
 simp only [pmB,sigB,C3];omega
theorem opB_len {R:Nat→Prop} {w:World} {cs:List Value} {x:Op} (h:OpR.rd R w cs x) (hl:x.pl.length≤260):(opB x).length≤312:=by
 obtain ⟨_,rfl,⟨a,b⟩,hs⟩:=h
 have h1:=A4 _ a;have h2:=(B7 (n:=x.pl.length) fW).2;have h3:=b.1
 simp only [opB,C3];omega
theorem dnB_len {x:Dn} (h:x.OK):(dnB x).length≤40:=by
 have h1:=A4 _ h.rp;have h2:=A4 _ h.ix;have h5:=A4 _ h.sb;have h6:=A4 _ h.mr
 simp only [dnB,sigB,C3];omega
theorem tbB_len {R:Nat→Prop} {w:World} {cs:List Value} {x:Tb} (h:TbR.rd R w cs x) (hl:x.l.length≤5):(tbB x).length≤220:=by
 obtain ⟨_,rfl,a,hs⟩:=h
 have h1:=A4 _ a
 have h2:=listB_len dnB hl aM (fun z hz=>by obtain ⟨cs,e,hk⟩:=RdS_mem hs z hz;exact dnB_len hk)
 simp only [tbB,C3];omega
/-- one read behind the other -/
def gb {α β:Type} (g:RSt→α × RSt) (k:α→RSt→β × RSt) (s:RSt):β × RSt:=k (g s).1 (g s).2
/-- a number up to 2^40 -/
def gI (s:RSt):Int × RSt:=(((rInt 1099511627776 s).1:Nat),(rInt 1099511627776 s).2)
def B0 {α:Type} (g:RSt→α × RSt):Nat→List α→RSt→List α × RSt
 | 0,acc,s=>(acc,s)
 | n+1,acc,s=>if (g s).2=none then ([],none) else B0 g n (acc ++ [(g s).1]) (g s).2
def Av {α:Type} (g:RSt→α × RSt) (s:RSt):List α × RSt:=B0 g (rInt 100 s).1 [] (rInt 100 s).2
def gSig:RSt→(Int × Int) × RSt:=gb gI fun a=>gb gI fun b s=>((a,b),s)
def gCm:RSt→Cm × RSt:=gb gSig fun n=>gb A6 fun h=>gb gI fun l=>gb gSig fun g s=>(⟨n.1,n.2,h,l,g.1,g.2⟩,s)
def gSt:RSt→St × RSt:=gb gI fun p=>gb gSig fun n=>gb A6 fun h=>gb rNum fun t=>gb gSig fun g s=>(⟨p,n.1,n.2,h,t,g.1,g.2⟩,s)
def gCe:RSt→Ce × RSt:=gb gCm fun c=>gb (Av gSt) fun l s=>(⟨c,l⟩,s)
def gPm:RSt→Pm × RSt:=gb gI fun p=>gb gI fun e=>gb rNum fun f=>gb (Av gCe) fun l=>gb gSig fun g s=>(⟨p,e,f,l,g.1,g.2⟩,s)
def gOp:RSt→Op × RSt:=gb gI fun i=>gb (rRow 256) fun p=>gb A6 fun h s=>(⟨i,p,h⟩,s)
def gDn:RSt→Dn × RSt:=gb gI fun p=>gb gI fun i=>gb gSig fun g s=>(⟨p,i,g.1,g.2⟩,s)
def gTb:RSt→Tb × RSt:=gb gI fun i=>gb (Av gDn) fun l s=>(⟨i,l⟩,s)
def gBa:RSt→Ba × RSt:=gb gI fun e=>gb rNum fun t=>gb (Av gPm) fun p=>gb (Av gOp) fun o=>gb (Av gTb) fun m s=>(⟨e,t,p,o,m⟩,s)
def gVt:RSt→Vt × RSt:=gb gI fun k=>gb gI fun e=>gb gI fun r=>gb gI fun p=>gb A6 fun h=>gb gSig fun g s=>(⟨k,e,r,p,h,g.1,g.2⟩,s)
def gEn:RSt→En × RSt:=gb gSig fun n=>gb A6 fun h=>gb rNum fun t s=>(⟨n.1,n.2,h,t⟩,s)
/-- what is read was put so -/
def De {α:Type} (g:RSt→α × RSt) (Q:α→List Int→List Int→Prop):Prop:=∀ s r,(g s).2=some r→∃ l,s=some l∧(Bytes l→Q (g s).1 l r)
def Was {α:Type} (put:α→List Int) (ok:α→Prop) (x:α) (l r:List Int):Prop:=l=put x ++ r∧ok x
/-- the numbers that are read -/
def UpI (x:Int):Prop:=0≤x∧x≤1099511627776
theorem dec_can:∀ (l:List Int) (i acc n:Nat) (r:List Int),Bytes l→B2 i acc l=some (n,r)→∃ m,l=encN m ++ r∧n=acc+m * 2 ^ (7 * i)∧(0 < i→1≤m):=by
 intro l
 induction l with
 | nil=>intro i acc n r _ h;cases h
 | cons c cs ih=>
  intro i acc n r hb h
  have hc:=hb c (List.mem_cons_self ..)
  rw [B2] at h
  by_cases h1:i=9∧1 < c
  ·rw [if_pos h1] at h;cases h
  ·rw [if_neg h1] at h
   by_cases h2:c < 128
   ·rw [if_pos h2] at h
    by_cases h3:c=0∧0 < i
    ·rw [if_pos h3] at h;cases h
    ·rw [if_neg h3] at h
     simp only [Option.some.injEq,Prod.mk.injEq] at h
     obtain ⟨rfl,rfl⟩:=h
     exact ⟨c.toNat,by rw [encN_lt aL,Int.toNat_of_nonneg hc.1];rfl,rfl,fun hi=>by omega⟩
   ·rw [if_neg h2] at h
    obtain ⟨m,e1,e2,e3⟩:=ih (i+1) _ n r (fun x hx=>hb x (List.mem_cons_of_mem _ hx)) h
    have e3:=e3 aL
    refine ⟨(c.toNat - 128)+128 * m,?_,?_,fun _=>by omega⟩
    ·rw [encN_ge aL,show (c.toNat - 128+128 * m) / 128=m by omega,show (((c.toNat - 128+128 * m:Nat):Int) % 128+128)=c by omega,e1]
     rfl
    ·rw [e2,pow128,Nat.add_mul,Nat.add_assoc,Nat.mul_comm 128 m,Nat.mul_assoc m]
theorem rNum_de:De rNum (Was encN (· < U64)):=by
 intro s r h
 cases s with
 | none=>cases h
 | some l=>
  refine ⟨l,rfl,fun hb=>?_⟩
  have hlt:=rNum_lt (s:=some l) hb
  unfold Was
  revert h hlt
  cases hd:B2 0 0 l with
  | none=>rw [rNum_none hd];intro h;cases h
  | some p=>
   obtain ⟨n,q⟩:=p
   rw [rNum_some hd]
   intro h hlt
   cases h
   obtain ⟨m,e1,e2,-⟩:=dec_can l 0 0 n _ hb hd
   have:n=m:=by rw [e2];simp
   subst this
   exact ⟨e1,hlt⟩
theorem rInt_de (most:Int) (hm:0≤most):De (rInt most) (Was encN (fun n=>(n:Int)≤most)):=by
 intro s r h
 unfold rInt at h ⊢
 by_cases hc:(rNum s).2.isNone∨most < 0∨most < (rNum s).1
 ·rw [if_pos hc] at h;cases h
 ·rw [if_neg hc] at h ⊢
  obtain ⟨l,rfl,h2⟩:=rNum_de s r h
  exact ⟨l,rfl,fun hb=>⟨(h2 hb).1,by simp only [not_or] at hc;omega⟩⟩
theorem gI_de:De gI (Was encI UpI):=by
 intro s r h
 obtain ⟨l,rfl,h2⟩:=rInt_de 1099511627776 aM s r h
 refine ⟨l,rfl,fun hb=>?_⟩
 obtain ⟨h3,h4⟩:=h2 hb
 exact ⟨by unfold gI;rw [encI_nat];exact h3,by unfold gI UpI;exact ⟨by simp,h4⟩⟩
theorem rTake_de (n:Nat):∀ s r,(Bm n s).2=some r→∃ l,s=some l∧l=(Bm n s).1 ++ r∧(Bm n s).1.length=n:=by
 intro s r h
 cases s with
 | none=>cases h
 | some l=>
  refine ⟨l,rfl,?_⟩
  simp only [Bm] at h ⊢
  split at h
  ·cases h
  ·rename_i hlt
   rw [if_neg hlt]
   simp only [Option.some.injEq] at h
   subst h
   exact ⟨(List.take_append_drop _ _).symm,by simp;omega⟩
theorem rHash_de:De A6 (Was (fun h=>h) HK):=by
 intro s r h
 unfold A6 at h ⊢
 have h2:=rTake_de 32 s
 revert h h2
 generalize Bm 32 s=p
 obtain ⟨b,q⟩:=p
 cases q with
 | none=>intro h;cases h
 | some q=>
  intro h h2
  cases h
  obtain ⟨l,rfl,e1,e2⟩:=h2 _ rfl
  refine ⟨l,rfl,fun hb=>⟨e1,e2,fun x hx=>hb x ?_⟩⟩
  rw [e1]
  exact List.mem_append_left _ hx
theorem rRow_de (most:Int) (hm:0≤most):De (rRow most) (Was (fun b=>encN b.length ++ b) (fun b=>(b.length:Int)≤most)):=by
 intro s r h
 unfold rRow at h ⊢
 obtain ⟨l1,e1,e2,e3⟩:=rTake_de _ _ _ h
 obtain ⟨l,rfl,h2⟩:=rInt_de most hm _ _ e1
 refine ⟨l,rfl,fun hb=>?_⟩
 obtain ⟨h3,h4⟩:=h2 hb
 refine ⟨?_,show ((Bm _ _).1.length:Int)≤most by rw [e3];exact h4⟩
 show l=encN (Bm _ _).1.length ++ (Bm _ _).1 ++ r
 rw [e3,C2,← e2]
 exact h3
theorem De.bind {α β:Type} {g:RSt→α × RSt} {k:α→RSt→β × RSt} {put:α→List Int} {ok:α→Prop} {Q:α→β→List Int→List Int→Prop} (hg:De g (Was put ok)) (hk:∀ a,De (k a) (Q a)) :
 De (gb g k) (fun y l r=>∃ a l1,ok a∧l=put a ++ l1∧Q a y l1 r):=by
 intro s r h
 obtain ⟨l1,e1,h1⟩:=hk _ _ _ h
 obtain ⟨l,rfl,h2⟩:=hg _ _ e1
 refine ⟨l,rfl,fun hb=>?_⟩
 obtain ⟨h3,h4⟩:=h2 hb
 refine ⟨_,l1,h4,h3,h1 (fun x hx=>hb x ?_)⟩
 rw [h3]
 exact List.mem_append_right _ hx
theorem De.pure {β:Type} (y:β):De (fun s=>(y,s)) (fun y' l r=>y'=y∧l=r):=by
 intro s r h
 exact ⟨r,h,fun _=>⟨rfl,rfl⟩⟩
theorem De.mono {β:Type} {g:RSt→β × RSt} {Q Q':β→List Int→List Int→Prop} (h:De g Q) (hq:∀ y l r,Q y l r→Q' y l r):De g Q':=by
 intro s r hr
 obtain ⟨l,e,h2⟩:=h s r hr
 exact ⟨l,e,fun hb=>hq _ _ _ (h2 hb)⟩
/-- lists -/
def listOk {α:Type} (ok:α→Prop) (l:List α):Prop:=l.length≤100∧∀ a ∈ l,ok a
theorem De.none {α:Type} {g:RSt→α × RSt} {Q:α→List Int→List Int→Prop} (h:De g Q):∀ s,s=none→(g s).2=none:=by
 intro s e
 cases hq:(g s).2 with
 | none=>rfl
 | some r=>obtain ⟨l,e2,-⟩:=h s r hq;rw [e] at e2;cases e2
theorem gItems_de {α:Type} {g:RSt→α × RSt} {put:α→List Int} {ok:α→Prop} (h:De g (Was put ok)):∀ (n:Nat) (acc:List α) (s:RSt) (r:List Int),(B0 g n acc s).2=some r→
 ∃ l,s=some l∧(Bytes l→∃ t,(B0 g n acc s).1=acc ++ t∧t.length=n∧l=(t.map put).flatten ++ r∧∀ a ∈ t,ok a):=by
 intro n
 induction n with
 | zero=>
  intro acc s r hs
  exact ⟨r,hs,fun _=>⟨[],by simp [B0],rfl,rfl,by simp⟩⟩
 | succ n ih=>
  intro acc s r hs
  simp only [B0] at hs ⊢
  by_cases hc:(g s).2=none
  ·rw [if_pos hc] at hs;cases hs
  ·rw [if_neg hc] at hs ⊢
   obtain ⟨l1,e1,h1⟩:=ih _ _ _ hs
   obtain ⟨l,rfl,h2⟩:=h _ _ e1
   refine ⟨l,rfl,fun hb=>?_⟩
   obtain ⟨h3,h4⟩:=h2 hb
   obtain ⟨t,q1,q2,q3,q4⟩:=h1 (fun x hx=>hb x (by rw [h3];exact List.mem_append_right _ hx))
   refine ⟨(g (some l)).1 :: t,by rw [q1];simp,by simp [q2],?_,?_⟩
   ·rw [C5,List.flatten_cons,C2,← q3];exact h3
   ·intro a ha
    rcases List.mem_cons.1 ha with rfl|ha
    ·exact h4
    ·exact q4 a ha
theorem gList_de {α:Type} {g:RSt→α × RSt} {put:α→List Int} {ok:α→Prop} (h:De g (Was put ok)):De (Av g) (Was (listB put) (listOk ok)):=by
 intro s r hs
 unfold Av at hs ⊢
 obtain ⟨l1,e1,h1⟩:=gItems_de h _ _ _ _ hs
 obtain ⟨l,rfl,h2⟩:=rInt_de 100 aM _ _ e1
 refine ⟨l,rfl,fun hb=>?_⟩
 obtain ⟨h3,h4⟩:=h2 hb
 obtain ⟨t,q1,q2,q3,q4⟩:=h1 (fun x hx=>hb x (by rw [h3];exact List.mem_append_right _ hx))
 rw [List.nil_append] at q1
 rw [q1]
 refine ⟨?_,by omega,q4⟩
 unfold listB
 rw [q2,encI_nat,C2,← q3]
 exact h3
/-! printed -/
def sgB (p:Int × Int):List Int:=encI p.1 ++ encI p.2
def sgOk (p:Int × Int):Prop:=UpI p.1∧UpI p.2
def CmOk (x:Cm):Prop:=UpI x.cl∧UpI x.sq∧HK x.h∧UpI x.ln∧UpI x.sb∧UpI x.mr
def StOk (x:St):Prop:=UpI x.rp∧UpI x.cl∧UpI x.sq∧HK x.h∧x.tm < U64∧UpI x.sb∧UpI x.mr
def CeOk (x:Ce):Prop:=CmOk x.c∧listOk StOk x.l
def PmOk (x:Pm):Prop:=UpI x.rp∧UpI x.ep∧x.fl < U64∧listOk CeOk x.l∧UpI x.sb∧UpI x.mr
def OpOk (x:Op):Prop:=UpI x.ix∧(x.pl.length:Int)≤256∧HK x.nc
def DnOk (x:Dn):Prop:=UpI x.rp∧UpI x.ix∧UpI x.sb∧UpI x.mr
def TbOk (x:Tb):Prop:=UpI x.ix∧listOk DnOk x.l
def BaOk (x:Ba):Prop:=UpI x.ep∧x.tm < U64∧listOk PmOk x.ps∧listOk OpOk x.os∧listOk TbOk x.ts
def VtOk (x:Vt):Prop:=UpI x.kd∧UpI x.ep∧UpI x.rd∧UpI x.rp∧HK x.h∧UpI x.sb∧UpI x.mr
def EnOk (x:En):Prop:=UpI x.cl∧UpI x.sq∧HK x.h∧x.tm < U64
theorem gSig_de:De gSig (Was sgB sgOk):=by
 refine (De.bind gI_de fun a=>De.bind gI_de fun b=>De.pure _).mono ?_
 rintro y l r ⟨a,l1,ha,rfl,b,l2,hb,rfl,rfl,rfl⟩
 exact ⟨by simp only [sgB,C2],ha,hb⟩
theorem sgB_sig (a b:Int):sgB (a,b)=sigB a b:=rfl
theorem sgB_name (a b:Int):sgB (a,b)=nameB a b:=rfl
theorem gCm_de:De gCm (Was cmB CmOk):=by
 refine (De.bind gSig_de fun _=>De.bind rHash_de fun _=>De.bind gI_de fun _=>De.bind gSig_de fun _=>De.pure _).mono ?_
 rintro y l r ⟨a0,l0,h0,rfl,a1,l1,h1,rfl,a2,l2,h2,rfl,a3,l3,h3,rfl,rfl,rfl⟩
 refine ⟨by simp only [cmB,← sgB_sig,← sgB_name,C2],h0.1,h0.2,h1,h2,h3.1,h3.2⟩
theorem gSt_de:De gSt (Was stB StOk):=by
 refine (De.bind gI_de fun _=>De.bind gSig_de fun _=>De.bind rHash_de fun _=>De.bind rNum_de fun _=>De.bind gSig_de fun _=>De.pure _).mono ?_
 rintro y l r ⟨a0,l0,h0,rfl,a1,l1,h1,rfl,a2,l2,h2,rfl,a3,l3,h3,rfl,a4,l4,h4,rfl,rfl,rfl⟩
 refine ⟨by simp only [stB,← sgB_sig,← sgB_name,C2],h0,h1.1,h1.2,h2,h3,h4.1,h4.2⟩
theorem gCe_de:De gCe (Was ceB CeOk):=by
 refine (De.bind gCm_de fun _=>De.bind (gList_de gSt_de) fun _=>De.pure _).mono ?_
 rintro y l r ⟨a0,l0,h0,rfl,a1,l1,h1,rfl,rfl,rfl⟩
 refine ⟨by simp only [ceB,← sgB_sig,← sgB_name,C2],h0,h1⟩
theorem gPm_de:De gPm (Was pmB PmOk):=by
 refine (De.bind gI_de fun _=>De.bind gI_de fun _=>De.bind rNum_de fun _=>De.bind (gList_de gCe_de) fun _=>De.bind gSig_de fun _=>De.pure _).mono ?_
 rintro y l r ⟨a0,l0,h0,rfl,a1,l1,h1,rfl,a2,l2,h2,rfl,a3,l3,h3,rfl,a4,l4,h4,rfl,rfl,rfl⟩
 refine ⟨by simp only [pmB,← sgB_sig,← sgB_name,C2],h0,h1,h2,h3,h4.1,h4.2⟩
theorem gOp_de:De gOp (Was opB OpOk):=by
 refine (De.bind gI_de fun _=>De.bind (rRow_de 256 aM) fun _=>De.bind rHash_de fun _=>De.pure _).mono ?_
 rintro y l r ⟨a0,l0,h0,rfl,a1,l1,h1,rfl,a2,l2,h2,rfl,rfl,rfl⟩
 refine ⟨by simp only [opB,← sgB_sig,← sgB_name,C2],h0,h1,h2⟩
theorem gDn_de:De gDn (Was dnB DnOk):=by
 refine (De.bind gI_de fun _=>De.bind gI_de fun _=>De.bind gSig_de fun _=>De.pure _).mono ?_
 rintro y l r ⟨a0,l0,h0,rfl,a1,l1,h1,rfl,a2,l2,h2,rfl,rfl,rfl⟩
 refine ⟨by simp only [dnB,← sgB_sig,← sgB_name,C2],h0,h1,h2.1,h2.2⟩
theorem gTb_de:De gTb (Was tbB TbOk):=by
 refine (De.bind gI_de fun _=>De.bind (gList_de gDn_de) fun _=>De.pure _).mono ?_
 rintro y l r ⟨a0,l0,h0,rfl,a1,l1,h1,rfl,rfl,rfl⟩
 refine ⟨by simp only [tbB,← sgB_sig,← sgB_name,C2],h0,h1⟩
theorem gBa_de:De gBa (Was baB BaOk):=by
 refine (De.bind gI_de fun _=>De.bind rNum_de fun _=>De.bind (gList_de gPm_de) fun _=>De.bind (gList_de gOp_de) fun _=>De.bind (gList_de gTb_de) fun _=>De.pure _).mono ?_
 rintro y l r ⟨a0,l0,h0,rfl,a1,l1,h1,rfl,a2,l2,h2,rfl,a3,l3,h3,rfl,a4,l4,h4,rfl,rfl,rfl⟩
 refine ⟨by simp only [baB,← sgB_sig,← sgB_name,C2],h0,h1,h2,h3,h4⟩
theorem gVt_de:De gVt (Was vtB VtOk):=by
 refine (De.bind gI_de fun _=>De.bind gI_de fun _=>De.bind gI_de fun _=>De.bind gI_de fun _=>De.bind rHash_de fun _=>De.bind gSig_de fun _=>De.pure _).mono ?_
 rintro y l r ⟨a0,l0,h0,rfl,a1,l1,h1,rfl,a2,l2,h2,rfl,a3,l3,h3,rfl,a4,l4,h4,rfl,a5,l5,h5,rfl,rfl,rfl⟩
 refine ⟨by simp only [vtB,← sgB_sig,← sgB_name,C2],h0,h1,h2,h3,h4,h5.1,h5.2⟩
theorem gEn_de:De gEn (Was enB EnOk):=by
 refine (De.bind gSig_de fun _=>De.bind rHash_de fun _=>De.bind rNum_de fun _=>De.pure _).mono ?_
 rintro y l r ⟨a0,l0,h0,rfl,a1,l1,h1,rfl,a2,l2,h2,rfl,rfl,rfl⟩
 refine ⟨by simp only [enB,← sgB_sig,← sgB_name,C2],h0.1,h0.2,h1,h2⟩
theorem RefFail_any (r:Nat) (v:Value) (s:RSt) (w:World) (hR:Rr 100 w r v s) :
 Calls Tryz.prog 91 #[.pointer (some ⟨r,0,none⟩)] w fun e w'=>e=.returned (.tuple #[])∧RrTo 100 w r v none w':=by
 obtain ⟨hc,hr,ha⟩:=hR
 have c0:w.cell? ⟨r,0,none⟩=some v:=(hc.cell 0).trans rfl
 have c1:w.cell? ⟨r,1,none⟩=some (.bool s.isNone):=(hc.cell 1).trans rfl
 have f0:=hc.frozen 0
 have f1:=hc.frozen 1
 have HC:=B8 hc
 clear hc hr ha
 go_enter Tryz.func91,Tryz.ntmps91
 go_wp2
 go_end0
 refine ⟨rfl,.slice none 0 0,⟨((HC.o.set 0 (.slice none 0 0)).set 1 (.bool true)),RdB.nil _,Apart.zero⟩,((Mod.refl (fun k=>k=r) w).setCell (fun _=>rfl) _).setCell (fun _=>rfl) _,fun h=>by simp at h⟩
theorem acc_u64 (acc k d:Nat) (hacc:acc < 2 ^ (7 * k)) (hk:k≤9) (hd:d < 128) (h9:k=9→d≤1):acc+d * 2 ^ (7 * k) < U64:=by
 by_cases h:k=9
 ·subst h
  have:=h9 rfl
  have:d * 2 ^ (7 * 9)≤1 * 2 ^ (7 * 9):=Nat.mul_le_mul_right _ this
  unfold U64
  simp only [Nat.reduceMul,Nat.reducePow] at *
  omega
 ·have:=acc_lt acc k d hacc hd
  have h2:2 ^ (7 * (k+1))≤2 ^ 63:=Nat.pow_le_pow_right aM aL
  unfold U64
  simp only [Nat.reducePow] at h2
  omega
set_option maxHeartbeats 1000000 in
theorem RefRNum_any (r:Nat) (v:Value) (s:RSt) (w:World) (hR:Rr 100 w r v s) :
 Calls Tryz.prog 52 #[.pointer (some ⟨r,0,none⟩)] w fun e w'=>e=.returned (.int .u64 ((rNum s).1:Nat))∧RrTo 100 w r v (rNum s).2 w':=by
 have c0:w.cell? ⟨r,0,none⟩=some v:=(hR.1.cell 0).trans rfl
 have f0:=hR.1.frozen 0
 have hlt:=hR.1.lt
 have hr:=hR.2.1
 have hfail:=RefFail_any r v s w hR
 have hnone:B2 0 0 (s.getD [])=none→rNum s=(0,none):=by
  intro h
  cases s with
  | none=>rfl
  | some l=>simp only [Option.getD_some] at h;simp [rNum,h]
 have hsome:∀ n rest,B2 0 0 (s.getD [])=some (n,rest)→rNum s=(n,some rest)∧s.isNone=false:=by
  intro n rest h
  cases s with
  | none=>simp [B2] at h
  | some l=>simp only [Option.getD_some] at h;simp [rNum,h]
 generalize hres:rNum s=res at *
 have HN:=B8 hnone
 have HS:=B8 hsome
 clear hnone hsome hres
 generalize hl:s.getD []=l at *
 rcases hr.form with ⟨rfl,ao,cap,rfl,_⟩|⟨g,o,cap,hpos,rfl,hlc,hcm,hcell⟩
 ·have HF:=B8 hfail
  have HE:=B8 (HN.o rfl)
  clear hfail hR hr
  go_enter Tryz.func52,Tryz.ntmps52
  go_wp2
  refine wp_loop_rounds 1 ?_
  rw [rounds_succ]
  go_wp2_with (go_at_call 91;go_must (refine HF.o.mono ?_);rintro e w1 ⟨rfl,hR1⟩;have HR1:=B8 hR1;clear hR1)
  go_ret
  exact ⟨by rw [HE.o];rfl,by rw [HE.o];exact HR1.o⟩
 ·rw [Ax] at hcm
  have HR:=B8 hR
  have HF:=B8 hfail
  have HL:=B8 hl
  clear hR hr hfail hl
  go_enter Tryz.func52,Tryz.ntmps52
  go_wp2
  go_loop [3,4] (fun n i=>∃ (k acc:Nat),k≤l.length∧k≤10∧acc < U64∧(k≤9→acc < 2 ^ (7 * k)∧B2 k acc (l.drop k)=B2 0 0 l)∧(k=10→B2 0 0 l=none)∧i=.int .i64 k∧n=.int .u64 acc) (fun _ i=>l.length - (intOf i).toNat)
  case atStart=>exact ⟨0,0,by omega,by omega,by unfold U64;omega,fun _=>⟨by simp,by simp⟩,fun h=>absurd h aL,rfl,rfl⟩
  case round=>
   obtain ⟨k,acc,hk,hk10,hau,hdec,hten,rfl,rfl⟩:=hrel
   have HD:=B8 hdec
   have H10:=B8 hten
   have HAU:=B8 hau
   clear hdec hten hau
   by_cases hltk:k < l.length
   ·by_cases hk9:k < 10
    ·obtain ⟨hacc,hdec⟩:=HD.o aL
     have HACC:=B8 hacc
     have HDE:=B8 hdec
     clear hacc hdec
     have hc:=hcell k hltk
     have hb:0≤l[k]∧l[k] < 256:=HR.o.2.1.1.get (by rw [HL.o];exact hltk) |> fun h=>by simpa [HL.o] using h
     obtain ⟨hb0,hb1⟩:=hb
     generalize hck:l[k]=c at *
     have HCK:=B8 hck
     clear hck hcell
     have hmod:c % 128=(c.toNat % 128:Nat):=by omega
     have HMOD:=B8 hmod
     clear hmod
     have hfail:(k=9∧1 < c % 128)∨(0 < k∧c=0)→B2 0 0 l=none:=by
      intro h
      rw [← HDE.o,drop_cons hltk HCK.o,B2]
      rcases h with ⟨h1,h2⟩|⟨h1,h2⟩
      ·rw [if_pos ⟨h1,by omega⟩]
      ·subst h2
       rw [if_neg aL,if_pos aL,if_pos ⟨rfl,h1⟩]
     have HFL:=B8 hfail
     clear hfail
     by_cases h9:k=9∧1 < c % 128
     ·obtain ⟨rfl,h9b⟩:=h9
      have HE:=B8 (HN.o (HFL.o (.inl ⟨rfl,h9b⟩)))
      go_wp2_with (go_at_call 91;go_must (refine HF.o.mono ?_);rintro e w1 ⟨rfl,hR1⟩;have HR1:=B8 hR1;clear hR1)
      go_ret
      exact ⟨by rw [HE.o];rfl,by rw [HE.o];exact HR1.o⟩
     ·have hcase:(((k:Int) == 9)=false∧k≤8)∨(((k:Int) == 9)=true∧k=9∧c % 128≤1):=by
       by_cases h:k=9
       ·right;exact ⟨by simp [h],h,by omega⟩
       ·left;exact ⟨by simp;omega,by omega⟩
      have hd9:k=9→c.toNat % 128≤1:=fun h=>by omega
      have hval:=or_nat acc k (c.toNat % 128) HACC.o aL aL hd9
      rw [← HMOD.o] at hval
      have HV:=B8 hval
      have HD9:=B8 hd9
      clear hval hd9 h9
      by_cases hc128:c < 128
      ·have hmc:c % 128=c:=by omega
       rw [hmc] at HV
       by_cases hz:0 < k∧c=0
       ·obtain ⟨hk0,rfl⟩:=hz
        have HE:=B8 (HN.o (HFL.o (.inr ⟨hk0,rfl⟩)))
        rcases hcase with ⟨hcase,h8⟩|⟨hcase,h8,hc1⟩
        ·go_wp2_with (go_at_call 91;go_must (refine HF.o.mono ?_);rintro e w1 ⟨rfl,hR1⟩;have HR1:=B8 hR1;clear hR1)
         go_ret
         exact ⟨by rw [HE.o];rfl,by rw [HE.o];exact HR1.o⟩
        ·subst h8
         go_wp2_with (go_at_call 91;go_must (refine HF.o.mono ?_);rintro e w1 ⟨rfl,hR1⟩;have HR1:=B8 hR1;clear hR1)
         go_ret
         exact ⟨by rw [HE.o];rfl,by rw [HE.o];exact HR1.o⟩
       ·have hd:B2 0 0 l=some (acc+c.toNat * 2 ^ (7 * k),l.drop (k+1)):=by
         rw [← HDE.o,drop_cons hltk HCK.o,B2,if_neg (by have:=HD9.o;omega),if_pos hc128,if_neg aL]
        have HE:=B8 (HS.o _ _ hd)
        have HRL:=B8 (show RdB w (.slice (some ⟨g,o,none⟩) l.length cap) l by have:=HR.o.2.1;rwa [HL.o] at this)
        clear hd
        have hv2:=HV.o
        rw [show IntKind.u64.wrap c=c by simp only [IntKind.wrap,IntKind.bits,IntKind.signed];simp;omega,show c.toNat % 128=c.toNat by omega] at hv2
        have HV2:=B8 hv2
        clear hv2
        have hz2:(c == 0)=false∨((c == 0)=true∧k≤0∧((k:Int) == 9)=false):=by
         by_cases h:c=0
         ·right;exact ⟨by simp [h],by omega,by simp;omega⟩
         ·left;simp [h]
        clear hz
        rcases hz2 with hz2|⟨hz2,hk0,hk09⟩
        ·have hcase':(((k:Int) == 9)=false)∨(((k:Int) == 9)=true∧c≤1):=by
          rcases hcase with ⟨h,_⟩|⟨h,_,h2⟩
          ·exact .inl h
          ·exact .inr ⟨h,by omega⟩
         clear hcase
         rcases hcase' with hcase|⟨hcase,hc1⟩
         all_goals
          go_wp2
          all_goals go_ret
          all_goals
           refine ⟨?_,?_⟩
           ·rw [HE.o.1];exact ret_int HV2.o
           ·rw [HE.o.1]
            by_cases hcap:cap=k+1
            ·first|(exfalso;exact absurd hcap gU)|(subst hcap;exact Rr_tail HR.o.1 HR.o.2.2 (s2:=some (l.drop (k+1))) (RdB.tail_at HRL.o (k+1) aL rfl) (fun h=>by simp at h;omega) (Mod.refl _ _) (by rw [HL.o];simp) HE.o.2)
            ·first|(exfalso;exact absurd gU hcap)|(exact Rr_tail HR.o.1 HR.o.2.2 (s2:=some (l.drop (k+1))) (RdB.tail_in HRL.o (k+1) aL hcap) (fun _=>rfl) (Mod.refl _ _) (by rw [HL.o];simp) HE.o.2)
        ·clear hcase
         go_wp2
         all_goals go_ret
         all_goals
          refine ⟨?_,?_⟩
          ·rw [HE.o.1];exact ret_int HV2.o
          ·rw [HE.o.1]
           by_cases hcap:cap=k+1
           ·first|(exfalso;exact absurd hcap gU)|(subst hcap;exact Rr_tail HR.o.1 HR.o.2.2 (s2:=some (l.drop (k+1))) (RdB.tail_at HRL.o (k+1) aL rfl) (fun h=>by simp at h;omega) (Mod.refl _ _) (by rw [HL.o];simp) HE.o.2)
           ·first|(exfalso;exact absurd gU hcap)|(exact Rr_tail HR.o.1 HR.o.2.2 (s2:=some (l.drop (k+1))) (RdB.tail_in HRL.o (k+1) aL hcap) (fun _=>rfl) (Mod.refl _ _) (by rw [HL.o];simp) HE.o.2)
      ·have hv2:=HV.o
       rw [show IntKind.u64.wrap (c % 128)=c % 128 by simp only [IntKind.wrap,IntKind.bits,IntKind.signed];simp;omega] at hv2
       have HV2:=B8 hv2
       have HB:=B8 (acc_u64 acc k (c.toNat % 128) HACC.o aL aL HD9.o)
       have HK1:=B8 (show k+1≤9→acc+(c.toNat % 128) * 2 ^ (7 * k) < 2 ^ (7 * (k+1))∧B2 (k+1) (acc+(c.toNat % 128) * 2 ^ (7 * k)) (l.drop (k+1))=B2 0 0 l from by
        intro hk1
        refine ⟨acc_lt _ _ _ HACC.o aL,?_⟩
        rw [← HDE.o,drop_cons hltk HCK.o,B2,if_neg aL,if_neg hc128,show c.toNat % 128=c.toNat - 128 by omega])
       have HK2:=B8 (show k+1=10→B2 0 0 l=none from by
        intro hk1
        rw [← HDE.o,drop_cons hltk HCK.o,B2,if_pos aL])
       clear hv2
       have hcase':(((k:Int) == 9)=false)∨(((k:Int) == 9)=true∧c % 128≤1):=by
        rcases hcase with ⟨h,_⟩|⟨h,_,h2⟩
        ·exact .inl h
        ·exact .inr ⟨h,by omega⟩
       clear hcase
       rcases hcase' with hcase|⟨hcase,hc1⟩
       all_goals
        go_wp2
        go_round
        case rel=>exact ⟨k+1,_,by omega,by omega,HB.o,HK1.o,HK2.o,by go_num,by rw [HV2.o]⟩
        case measure=>simp [intOf];omega
    ·have HE:=B8 (HN.o (H10.o aL))
     go_wp2_with (go_at_call 91;go_must (refine HF.o.mono ?_);rintro e w1 ⟨rfl,hR1⟩;have HR1:=B8 hR1;clear hR1)
     go_ret
     exact ⟨by rw [HE.o];rfl,by rw [HE.o];exact HR1.o⟩
   ·have hd:B2 0 0 l=none:=by
     by_cases h:k=10
     ·exact H10.o h
     ·rw [← (HD.o aL).2,List.drop_of_length_le aL];rfl
    have HE:=B8 (HN.o hd)
    clear hd
    go_wp2_with (go_at_call 91;go_must (refine HF.o.mono ?_);rintro e w1 ⟨rfl,hR1⟩;have HR1:=B8 hR1;clear hR1)
    go_ret
    exact ⟨by rw [HE.o];rfl,by rw [HE.o];exact HR1.o⟩
theorem rNum_zero (s:RSt):(rNum s).2=none→(rNum s).1=0:=by
 cases s with
 | none=>intro _;rfl
 | some l=>
  simp only [rNum]
  split
  ·intro h;cases h
  ·intro _;rfl
theorem RefRInt_any (r:Nat) (most:Int) (v:Value) (s:RSt) (w:World) (hR:Rr 100 w r v s) (hm:-9223372036854775808≤most∧most≤9223372036854775807) :
 Calls Tryz.prog 46 #[.pointer (some ⟨r,0,none⟩),.int .i64 most] w fun e w'=>e=.returned (.int .i64 ((rInt most s).1:Nat))∧RrTo 100 w r v (rInt most s).2 w':=by
 have hlt:=rNum_lt hR.2.1.1
 have hz:=rNum_zero s
 have key:=RefRNum_any r v s w hR
 generalize hres:rNum s=res at *
 obtain ⟨n,s1⟩:=res
 have hI:rInt most s=if s1.isNone∨most < 0∨most < n then (0,none) else (n,s1):=by simp [rInt,hres]
 rw [hI]
 clear hI hres
 simp only at key hlt hz
 have K:=B8 key
 clear key
 obtain ⟨hm0,hm1⟩:=hm
 unfold U64 at hlt
 by_cases h2:most < 0∨most < n
 ·rw [if_pos (Or.inr h2)]
  by_cases h3:most < 0
  all_goals
   go_enter Tryz.func46,Tryz.ntmps46
   go_wp2_with fail
   refine K.o.mono ?_
   rintro e w1 ⟨rfl,v1,hR1,hm1,hb1⟩
   have HF:=B8 (RefFail_any r v1 s1 w1 hR1)
   have HM1:=B8 hm1
   have HB1:=B8 hb1
   clear hR1 hm1 hb1
   go_wp2_with fail
   refine HF.o.mono ?_
   rintro e w2 ⟨rfl,hR2⟩
   have HR2:=B8 hR2
   clear hR2
   go_wp2
   go_ret
   exact ⟨rfl,RrTo.trans HM1.o HB1.o HR2.o bA⟩
 ·have he:(if s1.isNone∨most < 0∨most < n then ((0,none):Nat × RSt) else (n,s1))=(n,s1):=by
   split
   ·rename_i h
    have h5:s1=none:=by
     rcases h with h|h
     ·simpa using h
     ·exact absurd h h2
    rw [hz h5,h5]
   ·rfl
  rw [he]
  clear he hz
  have h3:¬ most < 0:=by omega
  have h4:¬ most < n:=by omega
  clear h2
  go_enter Tryz.func46,Tryz.ntmps46
  go_wp2_with fail
  refine K.o.mono ?_
  rintro e w1 ⟨rfl,hR1⟩
  have HR1:=B8 hR1
  clear hR1
  go_wp2
  go_ret
  exact ⟨rfl,HR1.o⟩
theorem RefRRow_any (r:Nat) (most:Int) (v:Value) (s:RSt) (w:World) (hR:Rr 100 w r v s) (hm:-9223372036854775808≤most∧most≤9223372036854775807) (hlen:(s.getD []).length≤1000000000) :
 Calls Tryz.prog 59 #[.pointer (some ⟨r,0,none⟩),.int .i64 most] w fun e w'=>∃ v',e=.returned v'∧OwnB w' v' (rRow most s).1∧Fresh w v'∧RrTo 100 w r v (rRow most s).2 w':=by
 have key:=RefRInt_any r most v s w hR hm
 have hl2:=rInt_len most s
 have hn:=rInt_le most s
 have hrow:rRow most s=Bm (rInt most s).1 (rInt most s).2:=rfl
 rw [hrow]
 clear hrow
 generalize rInt most s=res at *
 obtain ⟨n,s1⟩:=res
 dsimp only at *
 have hn9:(n:Int)≤9223372036854775807:=by omega
 have K:=B8 key
 have HL:=B8 (rTake_len n s1)
 clear key hn hm
 by_cases h:(s1.getD []).length < n
 ·have hs:Bm n s1=([],none):=by
   cases s1 with
   | none=>rfl
   | some l=>simp at h;simp [Bm,h]
  have HS:=B8 hs
  clear hs
  go_enter Tryz.func59,Tryz.ntmps59
  go_wp2_with fail
  refine K.o.mono ?_
  rintro e w1 ⟨rfl,v1,hR1,hm1,hb1⟩
  have HM1:=B8 hm1
  have HB1:=B8 hb1
  have c0:w1.cell? ⟨r,0,none⟩=some v1:=(hR1.1.cell 0).trans rfl
  have HF:=B8 (RefFail_any r v1 s1 w1 hR1)
  obtain ⟨ao,cap,rfl,hlc,hcm⟩:=hR1.2.1.shape
  clear hR1 hm1 hb1 hl2
  generalize hs1:(s1.getD []).length=m at *
  have hd:(m:Int) < n:=by omega
  have HS1:=B8 hs1
  clear hs1
  go_wp2_with fail
  refine HF.o.mono ?_
  rintro e w2 ⟨rfl,hR2⟩
  have HR2:=B8 hR2
  clear hR2
  go_wp2
  go_ret
  rw [HS.o]
  exact ⟨_,rfl,OwnB.nil _,(fun g hg=>by cases hg),RrTo.trans (s1:=s1) HM1.o (by rw [HS1.o];exact HB1.o) HR2.o bA⟩
 ·have hs:Bm n s1=((s1.getD []).take n,s1.map (List.drop n)):=by
   cases s1 with
   | none=>simp [Bm]
   | some l=>simp at h;simp [Bm,h]
  have HS:=B8 hs
  clear hs
  have hgd:(s1.map (List.drop n)).getD []=(s1.getD []).drop n:=by cases s1<;>simp
  have hns:s1.isNone=(s1.map (List.drop n)).isNone:=by cases s1<;>rfl
  have HGD:=B8 hgd
  have HNS:=B8 hns
  clear hgd hns
  go_enter Tryz.func59,Tryz.ntmps59
  go_wp2_with fail
  refine K.o.mono ?_
  rintro e w1 ⟨rfl,v1,hR1,hm1,hb1⟩
  have HM1:=B8 hm1
  have HB1:=B8 hb1
  clear hm1 hb1
  have c0:w1.cell? ⟨r,0,none⟩=some v1:=(hR1.1.cell 0).trans rfl
  have f0:=hR1.1.frozen 0
  have hlt:=hR1.1.lt
  obtain ⟨hc,hr,hap⟩:=hR1
  have HC:=B8 hc
  have HAP0:=B8 hap
  clear hc
  generalize hl:s1.getD []=l at *
  have HL1:=B8 hl
  clear hl
  obtain ⟨ao,cap,rfl,hlc,hcm⟩:=hr.shape
  rw [Ax] at hcm
  have hup:=hr.upto n aL
  have Hroom:=B8 (show ([]:List Int).length+(l.take n).length≤Room by simp;unfold Room;omega)
  have HUP:=B8 hup
  have HR:=B8 hr
  have el:(l.take n).length=n:=by simp;omega
  have EL:=B8 el
  have hd:¬ (l.length:Int) < n:=by omega
  have hnl:n≤l.length:=by omega
  clear hup hr hap el hl2 hlen
  go_wp2_with (at_builtin;go_must (refine wpList_appB rfl (.const (.slice none 0 0)) (.tmp 24) rfl rfl (OwnB.nil _) (new:=l.take n) rfl HUP.o Hroom.o ?_))
  intro ao1 cap1 w2 happ
  have hm:Mod (fun _=>False) w1 w2:=happ.2.1.mono (fun k _ hk=>by simp [Value.ownBlock] at hk)
  have hc1:=HC.o.mod hm id
  have c1:w2.cell? ⟨r,0,none⟩=some (.slice ao l.length cap):=(hc1.cell 0).trans rfl
  have f1:=hc1.frozen 0
  have HA:=B8 happ
  have HM:=B8 hm
  clear happ hm hc1
  go_wp2
  all_goals go_ret
  ·obtain ⟨h1,_,h3⟩:=HA.o
   rw [HS.o]
   have hcap:cap=n:=by assumption
   subst hcap
   have HR2:=HR.o.tail_at cap aL rfl
   have hT:=Rr_tail HC.o (by rw [HL1.o];exact HAP0.o) (s2:=s1.map (List.drop cap)) (by rw [HGD.o];exact HR2) (fun h=>by rw [HGD.o] at h;simp at h;omega) HM.o (by rw [HGD.o,HL1.o];simp) HNS.o
   refine ⟨.slice ao1 cap cap1,rfl,?_,?_,RrTo.trans (s1:=s1) HM1.o (by rw [HL1.o];exact HB1.o) hT (by rw [HGD.o,HL1.o];simp)⟩
   ·refine Own.other h1 ?_ _
    intro g hg e
    rcases h3 with h3|⟨k,h3,hk⟩
    ·rw [h3] at hg;cases hg
    ·rw [h3] at hg;simp at hg;simp only at e;omega
   ·intro g hg
    have:=HM1.o.size
    rcases h3 with h3|⟨k,h3,hk⟩
    ·rw [h3] at hg;cases hg
    ·rw [h3] at hg;simp at hg;omega
  ·obtain ⟨h1,_,h3⟩:=HA.o
   rw [HS.o]
   have hcap:¬ cap=n:=by assumption
   have HR2:=HR.o.tail_in n aL hcap
   have hT:=Rr_tail HC.o (by rw [HL1.o];exact HAP0.o) (s2:=s1.map (List.drop n)) (by rw [HGD.o];exact HR2) (fun _=>ownBlock_map _ _ _ _ _ _) HM.o (by rw [HGD.o,HL1.o];simp) HNS.o
   refine ⟨.slice ao1 n cap1,rfl,?_,?_,RrTo.trans (s1:=s1) HM1.o (by rw [HL1.o];exact HB1.o) hT (by rw [HGD.o,HL1.o];simp)⟩
   ·refine Own.other h1 ?_ _
    intro g hg e
    rcases h3 with h3|⟨k,h3,hk⟩
    ·rw [h3] at hg;cases hg
    ·rw [h3] at hg;simp at hg;simp only at e;omega
   ·intro g hg
    have:=HM1.o.size
    rcases h3 with h3|⟨k,h3,hk⟩
    ·rw [h3] at hg;cases hg
    ·rw [h3] at hg;simp at hg;omega
theorem zeros_lay:lay ((List.replicate 32 0).map bv).toArray 0 ((List.replicate 32 0).map bv)=((List.replicate 32 0).map bv).toArray:=by rw [Aw];simp
/-- two hashes in blocks of their own, behind w -/
theorem two_hashes {r:Nat} {v:Value} {s:RSt} {w:World} (hR:Rr 100 w r v s) :
 ∃ w2,(w.alloc (.cells #[bv 0,bv 0,bv 0,bv 0,bv 0,bv 0,bv 0,bv 0,bv 0,bv 0,bv 0,bv 0,bv 0,bv 0,bv 0,bv 0,bv 0,bv 0,bv 0,bv 0,bv 0,bv 0,bv 0,bv 0,bv 0,bv 0,bv 0,bv 0,bv 0,bv 0,bv 0,bv 0] 25)).alloc (.cells #[bv 0,bv 0,bv 0,bv 0,bv 0,bv 0,bv 0,bv 0,bv 0,bv 0,bv 0,bv 0,bv 0,bv 0,bv 0,bv 0,bv 0,bv 0,bv 0,bv 0,bv 0,bv 0,bv 0,bv 0,bv 0,bv 0,bv 0,bv 0,bv 0,bv 0,bv 0,bv 0] 25)=w2∧Rr 100 w2 r v s∧Cs w2 w.heap.size ((List.replicate 32 0).map bv).toArray 25∧Cs w2 (w.heap.size+1) ((List.replicate 32 0).map bv).toArray 25∧Mod (fun _=>False) w w2:=by
 have hs:(w.alloc (.cells #[bv 0,bv 0,bv 0,bv 0,bv 0,bv 0,bv 0,bv 0,bv 0,bv 0,bv 0,bv 0,bv 0,bv 0,bv 0,bv 0,bv 0,bv 0,bv 0,bv 0,bv 0,bv 0,bv 0,bv 0,bv 0,bv 0,bv 0,bv 0,bv 0,bv 0,bv 0,bv 0] 25)).heap.size=w.heap.size+1:=by simp
 have h1:Cs (w.alloc (.cells #[bv 0,bv 0,bv 0,bv 0,bv 0,bv 0,bv 0,bv 0,bv 0,bv 0,bv 0,bv 0,bv 0,bv 0,bv 0,bv 0,bv 0,bv 0,bv 0,bv 0,bv 0,bv 0,bv 0,bv 0,bv 0,bv 0,bv 0,bv 0,bv 0,bv 0,bv 0,bv 0] 25)) w.heap.size ((List.replicate 32 0).map bv).toArray 25:=Cs.new w _ _
 have h2:Cs ((w.alloc (.cells #[bv 0,bv 0,bv 0,bv 0,bv 0,bv 0,bv 0,bv 0,bv 0,bv 0,bv 0,bv 0,bv 0,bv 0,bv 0,bv 0,bv 0,bv 0,bv 0,bv 0,bv 0,bv 0,bv 0,bv 0,bv 0,bv 0,bv 0,bv 0,bv 0,bv 0,bv 0,bv 0] 25)).alloc (.cells #[bv 0,bv 0,bv 0,bv 0,bv 0,bv 0,bv 0,bv 0,bv 0,bv 0,bv 0,bv 0,bv 0,bv 0,bv 0,bv 0,bv 0,bv 0,bv 0,bv 0,bv 0,bv 0,bv 0,bv 0,bv 0,bv 0,bv 0,bv 0,bv 0,bv 0,bv 0,bv 0] 25)) (w.alloc (.cells #[bv 0,bv 0,bv 0,bv 0,bv 0,bv 0,bv 0,bv 0,bv 0,bv 0,bv 0,bv 0,bv 0,bv 0,bv 0,bv 0,bv 0,bv 0,bv 0,bv 0,bv 0,bv 0,bv 0,bv 0,bv 0,bv 0,bv 0,bv 0,bv 0,bv 0,bv 0,bv 0] 25)).heap.size ((List.replicate 32 0).map bv).toArray 25:=Cs.new _ _ _
 rw [hs] at h2
 exact ⟨_,rfl,(hR.mod (S:=fun _=>False) ((Mod.refl _ _).alloc _) id Apart.none).mod (S:=fun _=>False) ((Mod.refl _ _).alloc _) id Apart.none,h1.mod (S:=fun _=>False) ((Mod.refl _ _).alloc _) id,h2,((Mod.refl _ _).alloc _).alloc _⟩
theorem RefRHash_fails (r:Nat) (v:Value) (s:RSt) (w:World) (hR:Rr 100 w r v s) (hlt32:(s.getD []).length < 32) :
 Calls Tryz.prog 51 #[.pointer (some ⟨r,0,none⟩)] w fun e w'=>e=.returned (hv (List.replicate 32 0))∧RrTo 100 w r v none w':=by
 have hlt:=hR.1.lt
 have c0:w.cell? ⟨r,0,none⟩=some v:=(hR.1.cell 0).trans rfl
 obtain ⟨ao,cap,rfl,hlc,hcm⟩:=hR.2.1.shape
 obtain ⟨w2,e2,hR2,hc2,hd2,hm2⟩:=two_hashes hR
 have HF:=B8 (RefFail_any r _ s w2 hR2)
 have E2:=B8 e2
 have HC2:=B8 hc2
 have HD2:=B8 hd2
 have HM2:=B8 hm2
 clear e2 hc2 hd2 hm2 hR2 hR
 generalize hs1:(s.getD []).length=m at *
 have HS1:=B8 hs1
 clear hs1
 go_enter Tryz.func51,Tryz.ntmps51
 go_wp2_with fail
 rw [E2.o]
 refine HF.o.mono ?_
 rintro e w3 ⟨rfl,v3,hR3,hm3,hb3⟩
 have HC3:=B8 (HC2.o.mod hm3 aL)
 have HD3:=B8 (HD2.o.mod hm3 aL)
 have HR3:=B8 hR3
 have HM3:=B8 hm3
 clear hR3 hm3 hb3
 have hdc:∀ j u,((List.replicate 32 0).map bv)[j]? = some u→w3.cell? ⟨w.heap.size+1,0+j,none⟩=some u:=fun j u hu=>by rw [Nat.zero_add,HD3.o.cell];simpa using hu
 have HDC:=B8 hdc
 clear hdc
 go_wp2_with (first
  | ((with_reducible show wpList _ _ _ (Oper.mk (some 13) _ _ _ _ _ :: _) _ _);go_must (refine wpList_loadA rfl 25 (.tmp 3) rfl D8 rfl (cs:=(List.replicate 32 0).map bv) size_hash rfl HDC.o ?_))
  | ((with_reducible show wpList _ _ _ (Oper.mk none (Op.store 25 (.tmp 2) (.tmp 13)) _ _ _ _ :: _) _ _);go_must (refine wpList_storeA rfl 25 (.tmp 2) (.tmp 13) rfl HC3.o (vs:=(List.replicate 32 0).map bv) size_hash (ints_oneCell .u8 _) bA rfl rfl ?_);intro w4 hc4 hm4;have HC4:=B8 hc4;have HM4:=B8 hm4;clear hc4 hm4))
 have hc4:=HC4.o
 rw [zeros_lay] at hc4
 refine bodyPost_ret (A0 rfl _ _ w.heap.size ((List.replicate 32 0).map bv) rfl (fun j u hu=>by rw [hc4.cell];simpa using hu) D8 rfl size_hash) rfl ⟨rfl,?_⟩
 obtain ⟨q1,q2,q3⟩:=HR3.o
 refine ⟨v3,⟨q1.mod HM4.o aL,q2.mod HM4.o (by simp [Apart]),q3⟩,?_,by simp⟩
 have m3:Mod (fun k=>k=r) w w3:=(HM2.o.mono iB).trans HM3.o iA
 exact m3.trans (HM4.o.mono (S':=fun k=>w.heap.size≤k) (fun k _ h=>by omega)) (fun i hi h=>by omega)
theorem fill_step (l:List Int) (i:Nat) (h:i < 32) (hl:32≤l.length):((l.take i ++ List.replicate (32 - i) 0).map bv).toArray.setIfInBounds i (bv l[i])=((l.take (i+1) ++ List.replicate (32 - (i+1)) 0).map bv).toArray:=by
 rw [sIB,← List.map_set]
 congr 2
 rw [show 32 - i=(32 - (i+1))+1 by omega,List.replicate_succ,List.set_append_right _ _ fD,List.take_succ_eq_append_getElem aL,List.length_take,Nat.min_eq_left aL,Nat.sub_self,sCZ,C2]
 rfl
theorem fill_get (l:List Int) (i:Nat) (h:i < 32) (hl:32≤l.length):((l.take i ++ List.replicate (32 - i) 0).map bv).toArray[i]? = some (bv 0):=by
 have h1:(l.take i).length=i:=by rw [List.length_take];omega
 have h2:(l.take i ++ List.replicate (32 - i) (0:Int))[i]? = some 0:=by
  rw [List.getElem?_append_right aL,h1,Nat.sub_self,show 32 - i=(32 - (i+1))+1 by omega,List.replicate_succ];rfl
 rw [List.getElem?_toArray,List.getElem?_map,h2];rfl
set_option maxHeartbeats 1000000 in
theorem RefRHash_works (r:Nat) (v:Value) (s:RSt) (w:World) (hR:Rr 100 w r v s) (h32:32≤(s.getD []).length) :
 Calls Tryz.prog 51 #[.pointer (some ⟨r,0,none⟩)] w fun e w'=>e=.returned (hv ((s.getD []).take 32))∧RrTo 100 w r v (s.map (List.drop 32)) w':=by
 have hlt:=hR.1.lt
 have c0:w.cell? ⟨r,0,none⟩=some v:=(hR.1.cell 0).trans rfl
 obtain ⟨w2,e2,hR2,hc2,hd2,hm2⟩:=two_hashes hR
 have hgd:(s.map (List.drop 32)).getD []=(s.getD []).drop 32:=by cases s<;>simp
 have hns:s.isNone=(s.map (List.drop 32)).isNone:=by cases s<;>rfl
 have HGD:=B8 hgd
 have HNS:=B8 hns
 have hz:=hR2.1.frozen 0
 have HR0:=B8 hR
 rcases hR.2.1.form with ⟨h0,_⟩|⟨g,o,cap,hpos,rfl,hlc,hcm,hcell⟩
 ·rw [h0] at h32;simp at h32
 have hgb:g < w.heap.size:=hR.2.1.block_lt hpos g rfl
 have hgr:g≠r:=by have:=hR.2.2 aL g rfl;simpa using this
 rw [Ax] at hcm
 have E2:=B8 e2
 have HC2:=B8 hc2
 have HD2:=B8 hd2
 have HM2:=B8 hm2
 have HR2:=B8 hR2
 have HCELL:=B8 hcell
 clear e2 hc2 hd2 hm2 hR2 hR hcell hz hgd hns
 generalize hl:s.getD []=l at *
 have HL:=B8 hl
 clear hl
 go_enter Tryz.func51,Tryz.ntmps51
 go_wp2
 rw [E2.o]
 go_loopw [14] (fun t14 wr=>∃ i:Nat,t14=.int .i64 i∧i≤32∧Cs wr (w.heap.size+1) ((l.take i ++ List.replicate (32 - i) 0).map bv).toArray 25∧Mod (fun k=>k=w.heap.size+1) w2 wr) (fun t14 _=>32 - (intOf t14).toNat)
 case atStart=>exact ⟨0,rfl,by omega,by simpa using HD2.o,Mod.refl _ _⟩
 case round=>
  obtain ⟨i,rfl,hi,hD,hm⟩:=hrel
  have hR3:Rr 100 wr r (.slice (some ⟨g,o,none⟩) l.length cap) s:=HR2.o.mod hm aL (by intro _ g' hg' h;simp [Value.ownBlock] at hg';omega)
  have c1:wr.cell? ⟨r,0,none⟩=some (.slice (some ⟨g,o,none⟩) l.length cap):=(hR3.1.cell 0).trans rfl
  have f1:=hR3.1.frozen 0
  have hlt1:=hR3.1.lt
  have HR3:=B8 hR3
  have HD:=B8 hD
  have HM:=B8 hm
  clear hR3
  by_cases hi32:i < 32
  ·have hc:wr.cell? ⟨g,o+i,none⟩=some (bv l[i]):=hm.cell (HM2.o.cell (HCELL.o i aL) id) (by show g≠_;omega)
   have hf:=hD.frozen i
   have hd:wr.cell? ⟨w.heap.size+1,i,none⟩=some (bv 0):=by
    rw [hD.cell];exact fill_get l i hi32 h32
   have HF:=B8 (fill_step l i hi32 h32)
   generalize l[i]=c at *
   clear hD hm
   go_wp2
   go_roundw
   case rel=>exact ⟨i+1,by go_num,by omega,by rw [← HF.o];exact HD.o.set i _,HM.o.setCell (fun _=>rfl) _⟩
   case measure=>simp [intOf];omega
  ·obtain rfl:i=32:=by omega
   have hdf:((l.take 32 ++ List.replicate (32 - 32) 0).map bv).toArray=((l.take 32).map bv).toArray:=by simp
   rw [hdf] at HD
   clear hdf hD hm
   have hl32:(l.take 32).length=32:=by simp;omega
   have HSB:=B8 (show (Tryz.prog.info? 25).map (·.size)=some ((l.take 32).map bv).length by rw [List.length_map,hl32];exact size_hash)
   have hc32:=HC2.o.mod HM.o aL
   have HC3:=B8 hc32
   have HL32:=B8 hl32
   clear hc32 hl32
   generalize hb32:l.take 32=b32 at *
   have HB32:=B8 hb32
   clear hb32
   have hwd:∀ u j x,(b32.map bv)[j]? = some x→(wr.setCell ⟨r,0,none⟩ u).cell? ⟨w.heap.size+1,0+j,none⟩=some x:=by
    intro u j x hx
    have h2:Cs (wr.setCell ⟨r,0,none⟩ u) (w.heap.size+1) _ _:=HD.o.other (by show w.heap.size+1≠r;omega) u
    rw [Nat.zero_add,h2.cell];simpa using hx
   have HWD:=B8 hwd
   have HFIT:=B8 (show 0+(b32.map bv).length≤((List.replicate 32 0).map bv).toArray.size by simp [HL32.o])
   clear hwd
   go_wp2_with (first
    | ((with_reducible show wpList _ _ _ (Oper.mk (some 35) _ _ _ _ _ :: _) _ _);go_must (refine wpList_loadA rfl 25 (.tmp 3) rfl D8 rfl (cs:=b32.map bv) HSB.o rfl (HWD.o _) ?_))
    | ((with_reducible show wpList _ _ _ (Oper.mk none (Op.store 25 (.tmp 2) (.tmp 35)) _ _ _ _ :: _) _ _);go_must (refine wpList_storeA rfl 25 (.tmp 2) (.tmp 35) rfl (HC3.o.other (by show w.heap.size≠r;omega) _) (vs:=b32.map bv) HSB.o (ints_oneCell .u8 _) HFIT.o rfl rfl ?_);intro w4 hc4 hm4;have HC4:=B8 hc4;have HM4:=B8 hm4;clear hc4 hm4))
   all_goals
    have hc4:=HC4.o
    rw [Aw _ _ (by simp [HL32.o])] at hc4
    refine bodyPost_ret (A0 rfl _ _ w.heap.size (b32.map bv) rfl (fun j u hu=>by rw [hc4.cell];simpa using hu) D8 rfl HSB.o) rfl ⟨by rw [HB32.o];rfl,?_⟩
    have hmw:Mod (fun _=>False) w wr:=HM2.o.trans HM.o (fun i hi h=>by omega)
    have hrl:=HR0.o.2.1
    rw [HL.o] at hrl
    have hm4:=HM4.o
   ·have hcap:cap=32:=by assumption
    subst hcap
    obtain ⟨v',q1,q2,q3⟩:=Rr_tail HR0.o.1 HR0.o.2.2 (s2:=s.map (List.drop 32)) (by rw [HGD.o];exact hrl.tail_at 32 aL rfl) (fun h=>by rw [HGD.o] at h;simp at h;omega) hmw (by rw [HGD.o,HL.o];simp) HNS.o
    refine ⟨v',⟨q1.1.mod hm4 aL,q1.2.1.mod hm4 ?_,q1.2.2⟩,q2.trans (hm4.mono (S':=fun k=>w.heap.size≤k) (fun k _ h=>by omega)) (fun i hi h=>by omega),q3⟩
    intro h0 g' hg' e
    rw [HGD.o] at h0;simp at h0;omega
   ·have hcap:¬ cap=32:=by assumption
    rw [if_neg hcap] at hm4
    obtain ⟨v',q1,q2,q3⟩:=Rr_tail HR0.o.1 HR0.o.2.2 (v2:=.slice (some ⟨g,o+32,none⟩) (l.length - 32) (cap - 32)) (s2:=s.map (List.drop 32)) (by rw [HGD.o];have:=hrl.tail_in 32 aL hcap;simpa only [Option.map_some,add_mk] using this) (fun _=>rfl) hmw (by rw [HGD.o,HL.o];simp) HNS.o
    refine ⟨v',⟨q1.1.mod hm4 aL,q1.2.1.mod hm4 ?_,q1.2.2⟩,q2.trans (hm4.mono (S':=fun k=>w.heap.size≤k) (fun k _ h=>by omega)) (fun i hi h=>by omega),q3⟩
    intro h0 g' hg' e
    have h5:=q3 h0
    rw [h5] at hg'
    simp [Value.ownBlock] at hg'
    omega
theorem RefRHash_any (r:Nat) (v:Value) (s:RSt) (w:World) (hR:Rr 100 w r v s) :
 Calls Tryz.prog 51 #[.pointer (some ⟨r,0,none⟩)] w fun e w'=>e=.returned (hv (A6 s).1)∧RrTo 100 w r v (A6 s).2 w':=by
 by_cases h:(s.getD []).length < 32
 ·have hs:A6 s=(List.replicate 32 0,none):=by
   cases s with
   | none=>rfl
   | some l=>simp at h;simp [A6,Bm,h]
  rw [hs]
  exact RefRHash_fails r v s w hR h
 ·have hs:A6 s=((s.getD []).take 32,s.map (List.drop 32)):=by
   cases s with
   | none=>simp at h
   | some l=>simp at h;simp [A6,Bm,show ¬ l.length < 32 by omega]
  rw [hs]
  exact RefRHash_works r v s w hR aL
section
variable {R:Nat→Prop} {r:Nat} {s:RSt} {w:World}
theorem RefRNum_R (hR:RrR 100 R w r s):Calls Tryz.prog 52 #[.pointer (some ⟨r,0,none⟩)] w fun e w'=>e=.returned (.int .u64 ((rNum s).1:Nat))∧RrR 100 R w' r (rNum s).2∧Mod R w w':=by
 obtain ⟨v,h1,h2,h3⟩:=hR
 exact (RefRNum_any r v s w h1).mono fun _ _ ⟨he,h⟩=>⟨he,RrTo_R h2 h3 (rNum_len s) h⟩
theorem RefRInt_R {most:Int} (hR:RrR 100 R w r s) (hm:-9223372036854775808≤most∧most≤9223372036854775807) :
 Calls Tryz.prog 46 #[.pointer (some ⟨r,0,none⟩),.int .i64 most] w fun e w'=>e=.returned (.int .i64 ((rInt most s).1:Nat))∧RrR 100 R w' r (rInt most s).2∧Mod R w w':=by
 obtain ⟨v,h1,h2,h3⟩:=hR
 exact (RefRInt_any r most v s w h1 hm).mono fun _ _ ⟨he,h⟩=>⟨he,RrTo_R h2 h3 (rInt_len most s) h⟩
theorem rTake_bd2 (n:Nat) (s:RSt):(Bm n s).1.length≤(s.getD []).length:=by
 cases s with
 | none=>simp
 | some l=>simp only [Bm];split<;>simp;omega
theorem RefRRow_R {most:Int} {N:Nat} (hR:RrR 100 R w r s) (hm:-9223372036854775808≤most∧most≤9223372036854775807) (hl:(s.getD []).length≤N) (hN:N≤1000000) :
 Calls Tryz.prog 59 #[.pointer (some ⟨r,0,none⟩),.int .i64 most] w fun e w'=>∃ v',e=.returned v'∧OwR (New w w') N w' v' (rRow most s).1∧RrR 100 R w' r (rRow most s).2∧Mod R w w':=by
 obtain ⟨v,h1,h2,h3⟩:=hR
 refine (RefRRow_any r most v s w h1 hm aL).mono fun _ _ ⟨v',he,ho,hf,h⟩=>⟨v',he,OwR_of _ ho hf ?_,RrTo_R h2 h3 (rRow_len most s) h⟩
 have:=rTake_bd2 (rInt most s).1 (rInt most s).2
 have:=rInt_len most s
 show (Bm _ _).1.length≤_
 omega
theorem RefRHash_R (hR:RrR 100 R w r s):Calls Tryz.prog 51 #[.pointer (some ⟨r,0,none⟩)] w fun e w'=>e=.returned (hv (A6 s).1)∧RrR 100 R w' r (A6 s).2∧Mod R w w':=by
 obtain ⟨v,h1,h2,h3⟩:=hR
 exact (RefRHash_any r v s w h1).mono fun _ _ ⟨he,h⟩=>⟨he,RrTo_R h2 h3 (rHash_len s) h⟩
end
end Go.Proofs.YtnaoeginonpicaaGreat
namespace Go.Gv
open Go Go.RowKit
theorem seg_get:∀ (segs:List (List Value)) (i:Nat) {seg:List Value} (hs:segs[i]? = some seg) (j:Nat) (u:Value),seg[j]? = some u→segs.flatten[((segs.map List.length).take i).sum+j]? = some u
 | [],i,seg,hs,j,u,hu=>by simp at hs
 | a :: r,0,seg,hs,j,u,hu=>by
  simp only [List.getElem?_cons_zero,Option.some.injEq] at hs
  subst hs
  rw [List.take_zero,List.sum_nil,Nat.zero_add,List.flatten_cons,List.getElem?_append_left (List.getElem?_eq_some_iff.1 hu).1]
  exact hu
 | a :: r,i+1,seg,hs,j,u,hu=>by
  rw [List.getElem?_cons_succ] at hs
  rw [C5,List.take_succ_cons,List.sum_cons,List.flatten_cons,List.getElem?_append_right aL,show a.length+((r.map List.length).take i).sum+j - a.length=((r.map List.length).take i).sum+j by omega]
  exact seg_get r i hs j u hu
theorem Cs.seg {w:World} {g:Nat} {T:TypeId} {segs:List (List Value)} (h:Cs w g segs.flatten.toArray T) {ns:List Nat} (hn:segs.map List.length=ns) (i:Nat) {seg:List Value} (hs:segs[i]? = some seg) {off:Nat} (ho:(ns.take i).sum=off):∀ j u,seg[j]? = some u→w.cell? ⟨g,off+j,none⟩=some u:=by
 intro j u hu
 rw [h.cell,← ho,← hn]
 simpa using seg_get segs i hs j u hu
theorem AD {w:World} {g:Nat} {T:TypeId} {segs:List (List Value)} (h:Cs w g segs.flatten.toArray T) {ns:List Nat} (hn:segs.map List.length=ns) (i:Nat) {seg:List Value} (hs:segs[i]? = some seg) {off o k:Nat} (ho:(ns.take i).sum=o) (hk:off=o+k) {u:Value} (hu:seg[k]? = some u):w.cell? ⟨g,off,none⟩=some u:=by
 subst hk
 exact h.seg hn i hs ho k u hu
theorem lay_mid (a m b:List Value) (vs:List Value) (h:vs.length=m.length):lay (a ++ (m ++ b)).toArray a.length vs=(a ++ (vs ++ b)).toArray:=by
 unfold lay
 congr 1
 simp [h]
theorem seg_split:∀ (segs:List (List Value)) (i:Nat) {seg:List Value} (hs:segs[i]? = some seg),∃ a b,segs.flatten=a ++ (seg ++ b)∧a.length=((segs.map List.length).take i).sum∧∀ v:List Value,(segs.set i v).flatten=a ++ (v ++ b)
 | [],i,seg,hs=>by simp at hs
 | x :: r,0,seg,hs=>by
  simp only [List.getElem?_cons_zero,Option.some.injEq] at hs
  subst hs
  exact ⟨[],r.flatten,rfl,rfl,fun v=>rfl⟩
 | x :: r,i+1,seg,hs=>by
  rw [List.getElem?_cons_succ] at hs
  obtain ⟨a,b,h1,h2,h3⟩:=seg_split r i hs
  refine ⟨x ++ a,b,by rw [List.flatten_cons,h1,C2],by simp [h2],fun v=>?_⟩
  rw [sCS,List.flatten_cons,h3,C2]
theorem Bh {segs:List (List Value)} {ns:List Nat} (hn:segs.map List.length=ns) (i:Nat) {vs:List Value} (hv:ns[i]? = some vs.length) {off:Nat} (ho:(ns.take i).sum=off):lay segs.flatten.toArray off vs=((segs.set i vs).flatten).toArray:=by
 subst hn
 rw [List.getElem?_map] at hv
 cases hs:segs[i]? with
 | none=>rw [hs] at hv;cases hv
 | some seg=>
  rw [hs] at hv
  simp only [Option.map_some,Option.some.injEq] at hv
  obtain ⟨a,b,h1,h2,h3⟩:=seg_split segs i hs
  rw [h1,h3,← ho,← h2]
  exact lay_mid a seg b vs hv.symm
/-- where parts of such lengths lie -/
def offs:Nat→List Nat→List (Nat × Nat)
 | _,[]=>[]
 | o,n :: ns=>(o,n) :: offs (o+n) ns
theorem offs_get:∀ (ns:List Nat) (o i:Nat),(offs o ns)[i]? = (ns[i]?).map fun n=>(o+(ns.take i).sum,n)
 | [],o,i=>by simp [offs]
 | n :: ns,o,0=>by simp [offs]
 | n :: ns,o,i+1=>by
  simp only [offs,List.getElem?_cons_succ,offs_get ns (o+n) i,List.take_succ_cons,List.sum_cons]
  congr 1
  funext m
  rw [Nat.add_assoc]
/-- parts, each where it belongs -/
def setAll:List (List Value)→List (Nat × Value)→List (List Value)
 | segs,[]=>segs
 | segs,(i,v) :: ps=>setAll (segs.set i v.cells.toList) ps
def PartsOk (ns:List Nat):List (Nat × Value)→Prop
 | []=>True
 | (i,v) :: ps=>ns[i]? = some v.cells.size∧PartsOk ns ps
theorem set_lens {segs:List (List Value)} {ns:List Nat} (hn:segs.map List.length=ns) (i:Nat) {vs:List Value} (hv:ns[i]? = some vs.length):(segs.set i vs).map List.length=ns:=by
 subst hn
 rw [List.map_set]
 exact List.ext_getElem? fun j=>by
  rcases Nat.lt_trichotomy i j with h|h|h
  ·rw [List.getElem?_set_ne aL]
  ·subst h
   rw [List.getElem?_set_self (List.getElem?_eq_some_iff.1 hv).1,hv]
  ·rw [List.getElem?_set_ne aL]
theorem Bn {places:List (Nat × Nat)} {ns:List Nat} (hp:places=offs 0 ns):∀ (parts:List (Nat × Value)) (segs:List (List Value)),segs.map List.length=ns→PartsOk ns parts→laid places segs.flatten parts=some (setAll segs parts).flatten
 | [],segs,_,_=>by unfold laid setAll;rfl
 | (i,v) :: ps,segs,hn,h=>by
  obtain ⟨h1,h2⟩:=h
  have h1':ns[i]? = some v.cells.toList.length:=by simpa using h1
  have hl:=Bh hn i h1' rfl
  unfold laid setAll
  rw [hp,offs_get,h1]
  simp only [Option.map_some,Nat.zero_add]
  have hlen:(ns.take i).sum+v.cells.size≤segs.flatten.length:=by
   subst hn
   rw [List.getElem?_map] at h1
   cases hs:segs[i]? with
   | none=>rw [hs] at h1;cases h1
   | some seg=>
    rw [hs] at h1
    simp only [Option.map_some,Option.some.injEq] at h1
    obtain ⟨a,b,e1,e2,-⟩:=seg_split segs i hs
    rw [e1,← e2,← h1]
    simp
  rw [if_neg aL]
  have e:(segs.flatten.take (ns.take i).sum ++ v.cells.toList ++ segs.flatten.drop ((ns.take i).sum+v.cells.size))=(segs.set i v.cells.toList).flatten:=by
   have:=congrArg Array.toList hl
   simpa [lay] using this
  simp only [e] at *
  rw [← hp]
  exact Bn hp ps _ (set_lens hn i h1') h2
end Go.Gv
namespace Go.Proofs.YtnaoeginonpicaaGreat
open Go Go.RowKit Go.Gv
/-- what is left is an end of what there was -/
def Suf {α:Type} (g:RSt→α × RSt):Prop:=∀ s,(g s).2=none∨∃ l k,s=some l∧(g s).2=some (l.drop k)
theorem Suf.no {α:Type} {g:RSt→α × RSt} (h:Suf g):(g none).2=none:=by
 rcases h none with h|⟨l,k,e,-⟩
 ·exact h
 ·cases e
theorem Suf.bytes {α:Type} {g:RSt→α × RSt} (h:Suf g) {s:RSt} (hb:Bytes (s.getD [])):Bytes ((g s).2.getD []):=by
 rcases h s with e|⟨l,k,rfl,e⟩
 ·rw [e];exact Bytes.nil
 ·rw [e];exact Bytes.drop hb k
theorem Suf.len {α:Type} {g:RSt→α × RSt} (h:Suf g) (s:RSt):((g s).2.getD []).length≤(s.getD []).length:=by
 rcases h s with e|⟨l,k,rfl,e⟩
 ·rw [e];simp
 ·rw [e];simp
theorem Br {α β:Type} {g:RSt→α × RSt} {k:α→RSt→β × RSt} (hg:Suf g) (hk:∀ a,Suf (k a)):Suf (gb g k):=by
 intro s
 rcases hg s with e|⟨l,i,rfl,e⟩
 ·left
  unfold gb
  rw [e]
  exact (hk _).no
 ·rcases hk (g (some l)).1 (g (some l)).2 with e2|⟨l2,j,e2,e3⟩
  ·exact Or.inl e2
  ·rw [e] at e2
   cases e2
   exact Or.inr ⟨l,i+j,rfl,by rw [← List.drop_drop];exact e3⟩
theorem pure_suf {β:Type} (y:β):Suf (fun s=>(y,s)):=by
 intro s
 cases s with
 | none=>exact Or.inl rfl
 | some l=>exact Or.inr ⟨l,0,rfl,rfl⟩
theorem rNum_suf:Suf rNum:=by
 intro s
 cases s with
 | none=>exact Or.inl rfl
 | some l=>
  cases hd:B2 0 0 l with
  | none=>rw [rNum_none hd];exact Or.inl rfl
  | some p=>
   obtain ⟨n,q⟩:=p
   obtain ⟨k,-,-,rfl⟩:=decGo_rest l 0 0 n q hd
   rw [rNum_some hd]
   exact Or.inr ⟨l,k,rfl,rfl⟩
theorem rInt_suf (most:Int):Suf (rInt most):=by
 intro s
 unfold rInt
 split
 ·exact Or.inl rfl
 ·exact rNum_suf s
theorem gI_suf:Suf gI:=fun s=>rInt_suf _ s
theorem rTake_suf (n:Nat):Suf (Bm n):=by
 intro s
 cases s with
 | none=>exact Or.inl rfl
 | some l=>
  simp only [Bm]
  split
  ·exact Or.inl rfl
  ·exact Or.inr ⟨l,n,rfl,rfl⟩
theorem rHash_suf:Suf A6:=by
 intro s
 have h:=rTake_suf 32 s
 unfold A6
 revert h
 generalize Bm 32 s=p
 obtain ⟨b,q⟩:=p
 cases q with
 | none=>intro _;exact Or.inl rfl
 | some q=>intro h;exact h
theorem rRow_suf (most:Int):Suf (rRow most):=by
 intro s
 unfold rRow
 exact Br (g:=rInt most) (k:=fun n=>Bm n) (rInt_suf most) (fun n=>rTake_suf n) s
theorem gItems_suf {α:Type} {g:RSt→α × RSt} (hg:Suf g):∀ (n:Nat) (acc:List α),Suf (B0 g n acc)
 | 0,acc=>pure_suf acc
 | n+1,acc=>by
  intro s
  simp only [B0]
  split
  ·exact Or.inl rfl
  ·exact Br hg (fun a=>gItems_suf hg n (acc ++ [a])) s
theorem gList_suf {α:Type} {g:RSt→α × RSt} (hg:Suf g):Suf (Av g):=by
 intro s
 exact Br (g:=rInt 100) (k:=fun n=>B0 g n []) (rInt_suf 100) (fun n=>gItems_suf hg n []) s
theorem gSig_suf:Suf gSig:=Br gI_suf fun _=>Br gI_suf fun _=>pure_suf _
theorem gCm_suf:Suf gCm:=Br gSig_suf fun _=>Br rHash_suf fun _=>Br gI_suf fun _=>Br gSig_suf fun _=>pure_suf _
theorem gSt_suf:Suf gSt:=Br gI_suf fun _=>Br gSig_suf fun _=>Br rHash_suf fun _=>Br rNum_suf fun _=>Br gSig_suf fun _=>pure_suf _
theorem gCe_suf:Suf gCe:=Br gCm_suf fun _=>Br (gList_suf gSt_suf) fun _=>pure_suf _
theorem gPm_suf:Suf gPm:=Br gI_suf fun _=>Br gI_suf fun _=>Br rNum_suf fun _=>Br (gList_suf gCe_suf) fun _=>Br gSig_suf fun _=>pure_suf _
theorem gOp_suf:Suf gOp:=Br gI_suf fun _=>Br (rRow_suf _) fun _=>Br rHash_suf fun _=>pure_suf _
theorem gDn_suf:Suf gDn:=Br gI_suf fun _=>Br gI_suf fun _=>Br gSig_suf fun _=>pure_suf _
theorem gTb_suf:Suf gTb:=Br gI_suf fun _=>Br (gList_suf gDn_suf) fun _=>pure_suf _
theorem gBa_suf:Suf gBa:=Br gI_suf fun _=>Br rNum_suf fun _=>Br (gList_suf gPm_suf) fun _=>Br (gList_suf gOp_suf) fun _=>Br (gList_suf gTb_suf) fun _=>pure_suf _
theorem gVt_suf:Suf gVt:=Br gI_suf fun _=>Br gI_suf fun _=>Br gI_suf fun _=>Br gI_suf fun _=>Br rHash_suf fun _=>Br gSig_suf fun _=>pure_suf _
/-! what is read is a thing -/
theorem A8 (s:RSt):I64 (gI s).1:=by
 have:=rInt_le 1099511627776 s
 unfold gI I64
 simp only
 omega
theorem rHash_HK {s:RSt} (hb:Bytes (s.getD [])):HK (A6 s).1:=by
 refine ⟨rHash_l s,?_⟩
 cases s with
 | none=>intro x hx;simp [A6,Bm] at hx;subst hx;decide
 | some l=>
  by_cases h:l.length < 32
  ·have e:A6 (some l)=(List.replicate 32 0,none):=by simp [A6,Bm,h]
   rw [e]
   intro x hx
   simp at hx
   subst hx
   decide
  ·have e:A6 (some l)=(l.take 32,some (l.drop 32)):=by simp [A6,Bm,h]
   rw [e]
   exact Bytes.take hb 32
theorem gCm_OK {s:RSt} (hb:Bytes (s.getD [])):(gCm s).1.OK:=⟨⟨A8 _,A8 _,A8 _,A8 _,A8 _⟩,rHash_HK (gSig_suf.bytes hb)⟩
theorem gSt_OK {s:RSt} (hb:Bytes (s.getD [])):(gSt s).1.OK:=⟨A8 _,A8 _,A8 _,rHash_HK (gSig_suf.bytes (gI_suf.bytes hb)),rNum_lt (rHash_suf.bytes (gSig_suf.bytes (gI_suf.bytes hb))),A8 _,A8 _⟩
theorem gDn_OK {s:RSt} (hb:Bytes (s.getD [])):(gDn s).1.OK:=⟨A8 _,A8 _,A8 _,A8 _⟩
theorem gVt_OK {s:RSt} (hb:Bytes (s.getD [])):(gVt s).1.OK:=⟨A8 _,A8 _,A8 _,A8 _,rHash_HK (gI_suf.bytes (gI_suf.bytes (gI_suf.bytes (gI_suf.bytes hb)))),A8 _,A8 _⟩
theorem gEn_OK {s:RSt} (hb:Bytes (s.getD [])):(gEn s).1.OK:=⟨A8 _,A8 _,rHash_HK (gSig_suf.bytes hb),rNum_lt (rHash_suf.bytes (gSig_suf.bytes hb))⟩
theorem gCe_OK {s:RSt} (hb:Bytes (s.getD [])):(gCe s).1.OK:=gCm_OK hb
theorem gPm_OK {s:RSt} (hb:Bytes (s.getD [])):(gPm s).1.OK:=⟨A8 _,A8 _,rNum_lt (gI_suf.bytes (gI_suf.bytes hb)),A8 _,A8 _⟩
theorem gOp_OK {s:RSt} (hb:Bytes (s.getD [])):(gOp s).1.OK:=⟨A8 _,rHash_HK ((rRow_suf 256).bytes (gI_suf.bytes hb))⟩
theorem gTb_OK {s:RSt} (hb:Bytes (s.getD [])):(gTb s).1.OK:=A8 _
theorem gBa_OK {s:RSt} (hb:Bytes (s.getD [])):(gBa s).1.OK:=⟨A8 _,rNum_lt (gI_suf.bytes hb)⟩
theorem RrR.bytes {T:TypeId} {R:Nat→Prop} {w:World} {r:Nat} {s:RSt} (h:RrR T R w r s):Bytes (s.getD []):=by
 obtain ⟨v,h1,-⟩:=h
 exact h1.2.1.1
theorem szv {cs:List Value} {n:Nat} (h:cs.length=n):some n=some (Value.agg cs.toArray).cells.size:=by rw [← h];rfl
/-! contracts -/
/-- a flat thing is read -/
def GetsF {α:Type} (T:TypeId) (F:FuncId) (cells:α→List Value) (g:RSt→α × RSt):Prop:=∀ (R:Nat→Prop) (r:Nat) (s:RSt) (w:World),RrR T R w r s→(∀ k,R k→k < w.heap.size)→
 Calls Tryz.prog F #[.pointer (some ⟨r,0,none⟩)] w fun e w'=>e=.returned (.agg (cells (g s).1).toArray)∧RrR T R w' r (g s).2∧Mod R w w'
/-- a thing is read -/
def Gets {α:Type} (A:Rep α) (T:TypeId) (F:FuncId) (g:RSt→α × RSt):Prop:=∀ (R:Nat→Prop) (r:Nat) (s:RSt) (w:World),RrR T R w r s→(∀ k,R k→k < w.heap.size)→(s.getD []).length≤900000→
 Calls Tryz.prog F #[.pointer (some ⟨r,0,none⟩)] w fun e w'=>∃ cs,e=.returned (.agg cs.toArray)∧A.rd (New w w') w' cs (g s).1∧RrR T R w' r (g s).2∧Mod R w w'
/-- a thing is read, as far as it goes -/
def GetsU {α:Type} (A:Rep α) (T:TypeId) (F:FuncId) (g:RSt→α × RSt):Prop:=∀ (R:Nat→Prop) (r:Nat) (s:RSt) (w:World),RrR T R w r s→(∀ k,R k→k < w.heap.size)→(s.getD []).length≤900000→
 Calls Tryz.prog F #[.pointer (some ⟨r,0,none⟩)] w fun e w'=>∃ cs y,e=.returned (.agg cs.toArray)∧A.rd (New w w') w' cs y∧RrR T R w' r (g s).2∧((g s).2≠none→y=(g s).1)∧Mod R w w'
/-- a list of things is read -/
def GetsL {α:Type} (A:Rep α) (T:TypeId) (F Fe:FuncId) (g:RSt→α × RSt):Prop:=∀ (R:Nat→Prop) (r:Nat) (s:RSt) (w:World),RrR T R w r s→(∀ k,R k→k < w.heap.size)→(s.getD []).length≤900000→
 Calls Tryz.prog F #[.pointer (some ⟨r,0,none⟩),.func (.func Fe) #[] #[]] w fun e w'=>∃ v,e=.returned v∧RdS A (New w w') w' v (Av g s).1∧RrR T R w' r (Av g s).2∧Mod R w w'
theorem Gets.to {α:Type} {A:Rep α} {T:TypeId} {F:FuncId} {g:RSt→α × RSt} (h:Gets A T F g) {s s':RSt} {x:α} (hx:(g s).1=x) (hs:(g s).2=s') {R:Nat→Prop} {r:Nat} {w:World} (h1:RrR T R w r s) (h2:∀ k,R k→k < w.heap.size) (h3:(s.getD []).length≤900000) :
 Calls Tryz.prog F #[.pointer (some ⟨r,0,none⟩)] w fun e w'=>∃ cs,e=.returned (.agg cs.toArray)∧A.rd (New w w') w' cs x∧RrR T R w' r s'∧Mod R w w':=by
 subst hx hs
 exact h R r s w h1 h2 h3
theorem GetsF.to {α:Type} {cells:α→List Value} {T:TypeId} {F:FuncId} {g:RSt→α × RSt} (h:GetsF T F cells g) {A:Rep α} (hA:∀ (R:Nat→Prop) (w:World) (s:RSt),Bytes (s.getD [])→A.rd R w (cells (g s).1) (g s).1):Gets A T F g:=by
 intro R r s w h1 h2 h3
 exact (h R r s w h1 h2).mono fun e w' ⟨he,h4,h5⟩=>⟨_,he,hA _ _ s h1.bytes,h4,h5⟩
section
variable {R:Nat→Prop} {r:Nat} {s:RSt} {w:World}
theorem cI_Q (h:RrR 132 R w r s):Calls Tryz.prog 42 #[.pointer (some ⟨r,0,none⟩),.int .i64 1099511627776] w fun e w'=>e=.returned (.int .i64 (gI s).1)∧RrR 132 R w' r (gI s).2∧Mod R w w':=RInt_R h aM
theorem dI_Q (h:RrR 100 R w r s):Calls Tryz.prog 46 #[.pointer (some ⟨r,0,none⟩),.int .i64 1099511627776] w fun e w'=>e=.returned (.int .i64 (gI s).1)∧RrR 100 R w' r (gI s).2∧Mod R w w':=RefRInt_R h aM
theorem cRow_Q (h:RrR 132 R w r s):Calls Tryz.prog 87 #[.pointer (some ⟨r,0,none⟩),.int .i64 256] w fun e w'=>∃ v',e=.returned v'∧RdR (New w w') (rRow 256 s).1.length w' v' (rRow 256 s).1∧RrR 132 R w' r (rRow 256 s).2∧Mod R w w':=
 (RRow_R h aM).mono fun _ _ ⟨v',he,ho,h2,h3⟩=>⟨v',he,⟨ho.rd.1,ho.rd.2.1,C0 _⟩,h2,h3⟩
theorem dRow_Q (h:RrR 100 R w r s) (hl:(s.getD []).length≤900000):Calls Tryz.prog 59 #[.pointer (some ⟨r,0,none⟩),.int .i64 256] w fun e w'=>∃ v',e=.returned v'∧RdR (New w w') (rRow 256 s).1.length w' v' (rRow 256 s).1∧RrR 100 R w' r (rRow 256 s).2∧Mod R w w':=
 (RefRRow_R h aM hl aM).mono fun _ _ ⟨v',he,ho,h2,h3⟩=>⟨v',he,⟨ho.rd.1,ho.rd.2.1,C0 _⟩,h2,h3⟩
end
def zCe:Ce:=⟨⟨0,0,List.replicate 32 0,0,0,0⟩,[]⟩
def zPm:Pm:=⟨0,0,0,[],0,0⟩
def zBa:Ba:=⟨0,0,[],[],[]⟩
theorem HK_zero:HK (List.replicate 32 0):=by
 refine ⟨by simp,?_⟩
 intro x hx
 simp at hx
 subst hx
 decide
theorem A9:I64 0:=by unfold I64;decide
theorem U64_0:0 < U64:=by unfold U64;decide
theorem zCe_OK:zCe.OK:=⟨⟨A9,A9,A9,A9,A9⟩,HK_zero⟩
theorem zPm_OK:zPm.OK:=⟨A9,A9,U64_0,A9,A9⟩
theorem zBa_OK:zBa.OK:=⟨A9,U64_0⟩
theorem zCe_rd (R:Nat→Prop) (w:World):CeR.rd R w (zCe.cells (.slice none 0 0)) zCe:=⟨_,rfl,zCe_OK,RdS.nil _ _ _⟩
theorem zPm_rd (R:Nat→Prop) (w:World):PmR.rd R w (zPm.cells (.slice none 0 0)) zPm:=⟨_,rfl,zPm_OK,RdS.nil _ _ _⟩
end Go.Proofs.YtnaoeginonpicaaGreat
