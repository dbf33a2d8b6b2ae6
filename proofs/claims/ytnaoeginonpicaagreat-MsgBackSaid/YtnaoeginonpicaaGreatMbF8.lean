/- Texts that are built one behind the other: XGr1, XGr2, XGr3, XTn. No condition. -/
import Derived.Test.YtnaoeginonpicaaGreatMbF7
set_option maxRecDepth 100000
set_option linter.unusedVariables false
open Go renaming Lib.hid→B5
open Go.Proofs renaming Tryz.underlying3→B6,Tryz.underlying61→B7,Tryz.underlying45→C2,Tryz.underlying47→C6,Tryz.underlying43→C8,Tryz.underlying52→D1,Tryz.underlying127→D2,Tryz.underlying59→D3,Tryz.underlying25→D5,Tryz.underlying100→D6,Tryz.func67→D7,Tryz.underlying30→D8,Tryz.underlying4→E0
open List renaming append_assoc→B8,length_append→C0,size_toArray→C3,length_nil→C4,length_cons→C5,map_toArray→C7,map_cons→C9,map_nil→D0,not_mem_nil→D4,mem_cons→D9
open Nat renaming le_refl→B9,le_trans→C1
open List renaming setIfInBounds_toArray → sIB, set_cons_zero → sCZ, set_cons_succ → sCS
namespace Go.Proofs.YtnaoeginonpicaaGreat
open Go Go.RowKit Go.Gv
/-- how far a list's reading has come: what is still to come gives the same; or it failed -/
def Ru {α:Type} (g:RSt→α × RSt) (n:Nat) (s1:RSt) (k:Nat) (acc:List α) (st:RSt):Prop:=(st≠none→Bt g (n - k) acc st=Bt g n [] s1)∧(st=none→(Bt g n [] s1).2=none)
theorem Ru.start {α:Type} {g:RSt→α × RSt} (hg:Suf g) (n:Nat) (s1:RSt):Ru g n s1 0 [] s1:=⟨fun _=>rfl,fun h=>by subst h;exact (gItems_suf hg n []).no⟩
theorem Ru.step {α:Type} {g:RSt→α × RSt} {n:Nat} {s1:RSt} {k:Nat} {acc:List α} {st st2:RSt} {x:α} (h:Ru g n s1 k acc st) (hk:k < n) (hst:st≠none) (hs:(g st).2=st2) (hx:st2≠none→x=(g st).1):Ru g n s1 (k+1) (acc ++ [x]) st2:=by
 have h1:=h.1 hst
 rw [show n - k=(n - (k+1))+1 by omega] at h1
 simp only [Bt] at h1
 subst hs
 refine ⟨fun h2=>?_,fun h2=>?_⟩
 ·rw [if_neg h2] at h1
  rw [hx h2]
  exact h1
 ·rw [if_pos h2] at h1
  rw [← h1]
theorem Ru.fin {α:Type} {g:RSt→α × RSt} {n:Nat} {s1:RSt} {k:Nat} {acc:List α} {st:RSt} (h:Ru g n s1 k acc st) (hk:¬ (k < n∧st≠none)) (hk2:k≤n):(Bt g n [] s1).2=st∧(st≠none→acc=(Bt g n [] s1).1):=by
 by_cases hs:st=none
 ·exact ⟨(h.2 hs).trans hs.symm,fun h=>absurd hs h⟩
 ·have hkn:k=n:=by
   by_cases e:k < n
   ·exact absurd ⟨e,hs⟩ hk
   ·omega
  have h1:=h.1 hs
  subst hkn
  rw [Nat.sub_self] at h1
  rw [← h1]
  exact ⟨rfl,fun _=>rfl⟩
theorem AJ {T:TypeId} {R:Nat→Prop} {w:World} {r:Nat} {s:RSt} (h:RrR T R w r s):w.cell? ⟨r,1,none⟩=some (.bool s.isNone):=by
 obtain ⟨v,h1,-⟩:=h
 exact (h1.1.cell 1).trans rfl
theorem go_false {k n:Nat} {st:RSt} {a:Bool} (h:¬ (k < n∧st≠none)) (ha:a=decide (((k:Nat):Int) < ((n:Nat):Int))):(a && (!st.isNone))=false:=by
 subst ha
 cases st with
 | none=>simp
 | some l=>
  have:¬ k < n:=fun e=>h ⟨e,by simp⟩
  simp
  omega
theorem GetsU.to {α:Type} {A:Rep α} {T:TypeId} {F:FuncId} {g:RSt→α × RSt} (h:GetsU A T F g) {s s':RSt} (hs:(g s).2=s') {R:Nat→Prop} {r:Nat} {w:World} (h1:RrR T R w r s) (h2:∀ k,R k→k < w.heap.size) (h3:(s.getD []).length≤900000) :
 Calls Tryz.prog F #[.pointer (some ⟨r,0,none⟩)] w fun e w'=>∃ cs y,e=.returned (.agg cs.toArray)∧A.rd (New w w') w' cs y∧RrR T R w' r s'∧(s'≠none→y=(g s).1)∧Mod R w w':=by
 subst hs
 exact h R r s w h1 h2 h3
theorem Gets.toU {α:Type} {A:Rep α} {T:TypeId} {F:FuncId} {g:RSt→α × RSt} (h:Gets A T F g):GetsU A T F g:=by
 intro R r s w h1 h2 h3
 exact (h R r s w h1 h2 h3).mono fun e w' ⟨cs,he,h4,h5,h6⟩=>⟨cs,_,he,h4,h5,fun _=>rfl,h6⟩
open Go.Proofs renaming Tryz.func53→va',Tryz.ntmps53→vb',Tryz.func46→vc' in
open Go.Proofs.YtnaoeginonpicaaGreat renaming dI_Q→vd' in
set_option maxHeartbeats 2000000 in
theorem dSig_Q:GetsF 100 53 (fun x:Int × Int=>[.int .i64 x.1,.int .i64 x.2]) gSig:=
 fm3'
open Go.Proofs renaming Tryz.func50→va',Tryz.ntmps50→vb',Tryz.func46→vc' in
open Go.Proofs.YtnaoeginonpicaaGreat renaming dI_Q→vd' in
set_option maxHeartbeats 2000000 in
theorem dName_Q:GetsF 100 50 (fun x:Int × Int=>[.int .i64 x.1,.int .i64 x.2]) gSig:=
 fm4'
open Go.Proofs renaming Tryz.func47→va',Tryz.ntmps47→vb',Tryz.func50→vc',Tryz.func51→ve',Tryz.func46→vg',Tryz.func53→vi' in
open Go.Proofs.YtnaoeginonpicaaGreat renaming dName_Q→vd',RefRHash_R→vf',dI_Q→vh',dSig_Q→vj' in
set_option maxHeartbeats 4000000 in
theorem dCm_Q:GetsF 100 47 Cm.cells gCm:=
 fm5'
open Go.Proofs renaming Tryz.func48→va',Tryz.ntmps48→vb',Tryz.func46→vc',Tryz.func50→ve',Tryz.func51→vg',Tryz.func52→vi',Tryz.func53→vk' in
open Go.Proofs.YtnaoeginonpicaaGreat renaming dI_Q→vd',dName_Q→vf',RefRHash_R→vh',RefRNum_R→vj',dSig_Q→vl' in
set_option maxHeartbeats 4000000 in
theorem dSt_Q:GetsF 100 48 St.cells gSt:=
 fm6'
theorem dSt_G:Gets StR 100 48 gSt:=GetsF.to (A:=StR) dSt_Q fun _ _ _ hb=>⟨rfl,gSt_OK hb⟩
open Go.Proofs renaming Tryz.func58→va',Tryz.ntmps58→vb',Tryz.func46→vc',Tryz.func53→ve' in
open Go.Proofs.YtnaoeginonpicaaGreat renaming dI_Q→vd',dSig_Q→vf' in
set_option maxHeartbeats 4000000 in
theorem dDn_Q:GetsF 100 58 Dn.cells gDn:=
 fm7'
theorem dDn_G:Gets DnR 100 58 gDn:=GetsF.to (A:=DnR) dDn_Q fun _ _ _ hb=>⟨rfl,gDn_OK hb⟩
set_option maxHeartbeats 4000000 in
theorem dOp_G:Gets OpR 100 57 gOp:=by
 intro R r s w hR hB hl
 have HRD:=B5 hR
 have HBR:=B5 hB
 have HBY:=hid hR.bytes
 clear hR hB
 have HLN:=B5 hl
 clear hl
 go_enter Tryz.func57,Tryz.ntmps57
 go_upto_region 1 with (fail)
 obtain ⟨w1,hw1⟩:∃ zz,zz=(w.alloc (.cells #[.int .i64 0,.slice none 0 0,.int .u8 0,.int .u8 0,.int .u8 0,.int .u8 0,.int .u8 0,.int .u8 0,.int .u8 0,.int .u8 0,.int .u8 0,.int .u8 0,.int .u8 0,.int .u8 0,.int .u8 0,.int .u8 0,.int .u8 0,.int .u8 0,.int .u8 0,.int .u8 0,.int .u8 0,.int .u8 0,.int .u8 0,.int .u8 0,.int .u8 0,.int .u8 0,.int .u8 0,.int .u8 0,.int .u8 0,.int .u8 0,.int .u8 0,.int .u8 0,.int .u8 0,.int .u8 0] 54)):=⟨_,rfl⟩
 change Code.wp _ _ _ _ (w.alloc (.cells #[.int .i64 0,.slice none 0 0,.int .u8 0,.int .u8 0,.int .u8 0,.int .u8 0,.int .u8 0,.int .u8 0,.int .u8 0,.int .u8 0,.int .u8 0,.int .u8 0,.int .u8 0,.int .u8 0,.int .u8 0,.int .u8 0,.int .u8 0,.int .u8 0,.int .u8 0,.int .u8 0,.int .u8 0,.int .u8 0,.int .u8 0,.int .u8 0,.int .u8 0,.int .u8 0,.int .u8 0,.int .u8 0,.int .u8 0,.int .u8 0,.int .u8 0,.int .u8 0,.int .u8 0,.int .u8 0] 54))
 rw [← hw1]
 have HB2:=hid (show Cs w1 (w.heap.size) #[.int .i64 0,.slice none 0 0,.int .u8 0,.int .u8 0,.int .u8 0,.int .u8 0,.int .u8 0,.int .u8 0,.int .u8 0,.int .u8 0,.int .u8 0,.int .u8 0,.int .u8 0,.int .u8 0,.int .u8 0,.int .u8 0,.int .u8 0,.int .u8 0,.int .u8 0,.int .u8 0,.int .u8 0,.int .u8 0,.int .u8 0,.int .u8 0,.int .u8 0,.int .u8 0,.int .u8 0,.int .u8 0,.int .u8 0,.int .u8 0,.int .u8 0,.int .u8 0,.int .u8 0,.int .u8 0] 54 by rw [hw1];exact Cs.new _ _ _)
 have hm:Mod (fun _=>False) w w1:=by rw [hw1];exact (Mod.refl _ _).alloc _
 have HM0:=hid (show Mod (fun k=>(R k)) w w1 from hm.mono (fun _ _ h=>h.elim))
 have hs1:w1.heap.size=w.heap.size+1:=by rw [hw1];simp
 have c7:=hid (HRD.o.mod hm (fun _ _ h=>h))
 clear HRD
 clear hw1 hm
 go_upto_region 1 with (fail)
 refine Aa 10 [3,4,5,6,7,8,9,17] [0,1,2,3,4,5,6,7] (fun a0 HA0=>?_)
 have c3:=ev HA0 0 rfl
 have c8:=ev HA0 2 rfl
 refine qmo rfl c3 ?_
 refine QSeq.call rfl rfl Tryz.func46 (dI_Q c7.out) (fun E=>An (E.d 0 0) rfl) ?_
 rintro e g6 ⟨rfl,qrd,hm⟩
 refine ⟨_,rfl,?_⟩
 have c9:=hid qrd
 have j0:=hm.size
 have d5:=hid (show Mod (fun k=>(R k)) w1 g6 from hm)
 clear hm
 clear qrd c7
 refine qmo rfl c3 ?_
 refine QSeq.call rfl rfl Tryz.func59 (dRow_Q c9.out (C1 (gI_suf.len _) HLN.o)) (fun E=>An (E.d 2 0) rfl) ?_
 rintro e j3 ⟨vr,rfl,qrow,qrd,hm⟩
 obtain ⟨ao_row,cap_row,rfl⟩:=qrow.shape
 refine ⟨_,rfl,?_⟩
 have d6:=hid qrow
 have d7:=hid qrd
 have j4:=hm.size
 have g7:=hid hm
 have d8:=hid (AB (S':=(fun k=>(R k))) d5.out hm (fun _ h=>h) aQ)
 clear hm d5
 clear qrow qrd c9
 refine qmo rfl c3 ?_
 refine QSeq.call rfl rfl Tryz.func51 (RefRHash_R d7.out) (fun E=>A0 (E.d 4 0)) ?_
 rintro e j5 ⟨rfl,qrd,hm⟩
 refine ⟨_,rfl,?_⟩
 have d9:=hid qrd
 have j6:=hm.size
 have g5:=hid hm
 have c4:=hid (AB (S':=(fun k=>(R k))) d8.out hm (fun _ h=>h) aQ)
 clear hm d8
 clear qrd d7
 refine QSeq.go fun act E=>?_
 refine Br rfl (Ab rfl) (v:=.agg ((gOp s).1.cells (Value.slice ao_row (rRow 256 (gI s).2).1.length cap_row):List Value).toArray) (Bj rfl (z:=[.int .i64 0,.slice none 0 0,.int .u8 0,.int .u8 0,.int .u8 0,.int .u8 0,.int .u8 0,.int .u8 0,.int .u8 0,.int .u8 0,.int .u8 0,.int .u8 0,.int .u8 0,.int .u8 0,.int .u8 0,.int .u8 0,.int .u8 0,.int .u8 0,.int .u8 0,.int .u8 0,.int .u8 0,.int .u8 0,.int .u8 0,.int .u8 0,.int .u8 0,.int .u8 0,.int .u8 0,.int .u8 0,.int .u8 0,.int .u8 0,.int .u8 0,.int .u8 0,.int .u8 0,.int .u8 0]) (places:=[(0,1),(1,1),(2,32)]) aD (parts:=[(0,.int .i64 (gI s).1),(1,.slice ao_row (rRow 256 (gI s).2).1.length cap_row),(2,hv (A3 (rRow 256 (gI s).2).2).1)]) dE (r:=(gOp s).1.cells (Value.slice ao_row (rRow 256 (gI s).2).1.length cap_row)) bN) ?_
 clear act E
 refine QSeq.go fun act E=>?_
 refine Ah rfl (Ab rfl) rfl (HB2.o.mod c4.out aH) (off:=0) (vs:=((gOp s).1.cells (Value.slice ao_row (rRow 256 (gI s).2).1.length cap_row))) cH (one_op2 _ _ rfl) fR (E.v c8) (ec (E.d 6 0)) ?_
 intro g8 qc0 hm
 have qB2:=qc0.eqv (b:=(((gOp s).1.cells (Value.slice ao_row (rRow 256 (gI s).2).1.length cap_row)):List Value).toArray) (Ap _ _ fS)
 clear qc0
 have g9:=hid qB2
 have j7:=hm.size
 have c6:=hid hm
 have i7:=hid (AB (S':=(fun k=>(R k)∨(k=w.heap.size))) c4.out hm (fun _ h=>Or.inl h) aT)
 clear hm c4
 clear act E qB2 HB2
 have i8:=hid (d9.out.mod c6.out (sB HBR))
 have i9:=hid ((d6.out.mod g5.out aV).mod c6.out aE)
 clear d9 d6 g7 g5 c6
 refine qe ?_
 clear HA0 c3 c8 a0
 go_wp2
 exact bodyPost_ret (Au rfl _ _ w.heap.size ((gOp s).1.cells (Value.slice ao_row (rRow 256 (gI s).2).1.length cap_row)) rfl (fun k u hu=>by rw [g9.out.cell];simpa using hu) Tryz.underlying54 rfl cH) rfl ⟨_,rfl,⟨_,rfl,gOp_OK HBY.o,(i9.out.widen (R':=(fun k=>New w g8 k)) bF (B9 _))⟩,i8.out,(HM0.o.trans i7.out aC)⟩
set_option maxHeartbeats 8000000 in
theorem dCe_U:GetsU CeR 100 49 gCe:=by
 intro R r s w hR hB hl
 have HRD:=B5 hR
 have HBR:=B5 hB
 have HBY:=hid hR.bytes
 have HLN:=B5 hl
 clear hR hB hl
 go_enter Tryz.func49,Tryz.ntmps49
 go_upto_region 1 with (fail)
 obtain ⟨w1,hw1⟩:∃ zz,zz=(w.alloc (.cells #[.int .i64 0,.int .i64 0,.int .u8 0,.int .u8 0,.int .u8 0,.int .u8 0,.int .u8 0,.int .u8 0,.int .u8 0,.int .u8 0,.int .u8 0,.int .u8 0,.int .u8 0,.int .u8 0,.int .u8 0,.int .u8 0,.int .u8 0,.int .u8 0,.int .u8 0,.int .u8 0,.int .u8 0,.int .u8 0,.int .u8 0,.int .u8 0,.int .u8 0,.int .u8 0,.int .u8 0,.int .u8 0,.int .u8 0,.int .u8 0,.int .u8 0,.int .u8 0,.int .u8 0,.int .u8 0,.int .i64 0,.int .i64 0,.int .i64 0,.slice none 0 0] 35)):=⟨_,rfl⟩
 change Code.wp _ _ _ _ (w.alloc (.cells #[.int .i64 0,.int .i64 0,.int .u8 0,.int .u8 0,.int .u8 0,.int .u8 0,.int .u8 0,.int .u8 0,.int .u8 0,.int .u8 0,.int .u8 0,.int .u8 0,.int .u8 0,.int .u8 0,.int .u8 0,.int .u8 0,.int .u8 0,.int .u8 0,.int .u8 0,.int .u8 0,.int .u8 0,.int .u8 0,.int .u8 0,.int .u8 0,.int .u8 0,.int .u8 0,.int .u8 0,.int .u8 0,.int .u8 0,.int .u8 0,.int .u8 0,.int .u8 0,.int .u8 0,.int .u8 0,.int .i64 0,.int .i64 0,.int .i64 0,.slice none 0 0] 35))
 rw [← hw1]
 have HB2:=hid (show Cs w1 (w.heap.size) #[.int .i64 0,.int .i64 0,.int .u8 0,.int .u8 0,.int .u8 0,.int .u8 0,.int .u8 0,.int .u8 0,.int .u8 0,.int .u8 0,.int .u8 0,.int .u8 0,.int .u8 0,.int .u8 0,.int .u8 0,.int .u8 0,.int .u8 0,.int .u8 0,.int .u8 0,.int .u8 0,.int .u8 0,.int .u8 0,.int .u8 0,.int .u8 0,.int .u8 0,.int .u8 0,.int .u8 0,.int .u8 0,.int .u8 0,.int .u8 0,.int .u8 0,.int .u8 0,.int .u8 0,.int .u8 0,.int .i64 0,.int .i64 0,.int .i64 0,.slice none 0 0] 35 by rw [hw1];exact Cs.new _ _ _)
 have hm:Mod (fun _=>False) w w1:=by rw [hw1];exact (Mod.refl _ _).alloc _
 have HM0:=hid (show Mod (fun k=>(R k)) w w1 from hm.mono (fun _ _ h=>h.elim))
 have hs1:w1.heap.size=w.heap.size+1:=by rw [hw1];simp
 have g8:=hid (HRD.o.mod hm (fun _ _ h=>h))
 clear HRD
 clear hw1 hm
 go_upto_region 1 with (fail)
 refine Aa 31 [6,7,8,3,35] [0,1,2,3,4] (fun a0 HA0=>?_)
 have c3:=ev HA0 0 rfl
 refine qmo rfl c3 ?_
 refine QSeq.call rfl rfl Tryz.func47 (dCm_Q _ _ _ _ g8.out aL) (fun E=>A0 (E.d 0 0)) ?_
 rintro e c4 ⟨rfl,qrd,hm⟩
 refine ⟨_,rfl,?_⟩
 have g9:=hid qrd
 have s6:=hm.size
 have i7:=hid (show Mod (fun k=>(R k)) w1 c4 from hm)
 clear hm
 clear qrd g8
 refine QSeq.go fun act E=>?_
 refine Br rfl (Ab rfl) (v:=.agg ((Ce.cells (Ce.mk (gCm s).1 []) (Value.slice none 0 0)):List Value).toArray) (Bj rfl (z:=[.int .i64 0,.int .i64 0,.int .u8 0,.int .u8 0,.int .u8 0,.int .u8 0,.int .u8 0,.int .u8 0,.int .u8 0,.int .u8 0,.int .u8 0,.int .u8 0,.int .u8 0,.int .u8 0,.int .u8 0,.int .u8 0,.int .u8 0,.int .u8 0,.int .u8 0,.int .u8 0,.int .u8 0,.int .u8 0,.int .u8 0,.int .u8 0,.int .u8 0,.int .u8 0,.int .u8 0,.int .u8 0,.int .u8 0,.int .u8 0,.int .u8 0,.int .u8 0,.int .u8 0,.int .u8 0,.int .i64 0,.int .i64 0,.int .i64 0,.slice none 0 0]) (places:=[(0,37),(37,1)]) aD (parts:=[(0,(gCm s).1.val)]) (by simp only [C7,C9,D0,show act.eval (.tmp 7)=(gCm s).1.val from (E.d 1 0)];try rfl) (r:=(Ce.cells (Ce.mk (gCm s).1 []) (Value.slice none 0 0))) (by exact Bi (ns:=[37,1]) rfl [(0,(gCm s).1.val)] [[.int .i64 0,.int .i64 0,.int .u8 0,.int .u8 0,.int .u8 0,.int .u8 0,.int .u8 0,.int .u8 0,.int .u8 0,.int .u8 0,.int .u8 0,.int .u8 0,.int .u8 0,.int .u8 0,.int .u8 0,.int .u8 0,.int .u8 0,.int .u8 0,.int .u8 0,.int .u8 0,.int .u8 0,.int .u8 0,.int .u8 0,.int .u8 0,.int .u8 0,.int .u8 0,.int .u8 0,.int .u8 0,.int .u8 0,.int .u8 0,.int .u8 0,.int .u8 0,.int .u8 0,.int .u8 0,.int .i64 0,.int .i64 0,.int .i64 0],[.slice none 0 0]] rfl ⟨(szv (Cm.len (rHash_HK (gSig_suf.bytes HBY.o) |>.1))),trivial⟩)) ?_
 clear act E
 refine QSeq.go fun act E=>?_
 refine B3 rfl (Ab rfl) rfl (z:=[.int .i64 0,.int .i64 0,.int .u8 0,.int .u8 0,.int .u8 0,.int .u8 0,.int .u8 0,.int .u8 0,.int .u8 0,.int .u8 0,.int .u8 0,.int .u8 0,.int .u8 0,.int .u8 0,.int .u8 0,.int .u8 0,.int .u8 0,.int .u8 0,.int .u8 0,.int .u8 0,.int .u8 0,.int .u8 0,.int .u8 0,.int .u8 0,.int .u8 0,.int .u8 0,.int .u8 0,.int .u8 0,.int .u8 0,.int .u8 0,.int .u8 0,.int .u8 0,.int .u8 0,.int .u8 0,.int .i64 0,.int .i64 0,.int .i64 0,.slice none 0 0]) aD ?_
 intro s7 qqx hm
 have s8:=qqx.lt
 have i8:=hid qqx
 have t0:=hm.size
 have i9:=hid hm
 have j0:=hid (i7.out.goE hm)
 clear hm i7
 clear act E qqx
 refine QSeq.go fun act E=>?_
 have hlz:((Ce.cells (Ce.mk (gCm s).1 []) (Value.slice none 0 0))).length=List.length ([.int .i64 0,.int .i64 0,.int .u8 0,.int .u8 0,.int .u8 0,.int .u8 0,.int .u8 0,.int .u8 0,.int .u8 0,.int .u8 0,.int .u8 0,.int .u8 0,.int .u8 0,.int .u8 0,.int .u8 0,.int .u8 0,.int .u8 0,.int .u8 0,.int .u8 0,.int .u8 0,.int .u8 0,.int .u8 0,.int .u8 0,.int .u8 0,.int .u8 0,.int .u8 0,.int .u8 0,.int .u8 0,.int .u8 0,.int .u8 0,.int .u8 0,.int .u8 0,.int .u8 0,.int .u8 0,.int .i64 0,.int .i64 0,.int .i64 0,.slice none 0 0]:List Value):=(by rw [ce_len _ _ (gCm_OK HBY.o).2.1];rfl)
 refine Ah rfl (Ab rfl) rfl i8.out (off:=0) (vs:=(Ce.cells (Ce.mk (gCm s).1 []) (Value.slice none 0 0))) cO (one_ce2 _ _ rfl) bK (E.d 3 0) (ec (E.d 2 1)) ?_
 intro q8 qc0 hm
 have qqx:=qc0.eqv (b:=((Ce.cells (Ce.mk (gCm s).1 []) (Value.slice none 0 0)):List Value).toArray) (Ap #[.int .i64 0,.int .i64 0,.int .u8 0,.int .u8 0,.int .u8 0,.int .u8 0,.int .u8 0,.int .u8 0,.int .u8 0,.int .u8 0,.int .u8 0,.int .u8 0,.int .u8 0,.int .u8 0,.int .u8 0,.int .u8 0,.int .u8 0,.int .u8 0,.int .u8 0,.int .u8 0,.int .u8 0,.int .u8 0,.int .u8 0,.int .u8 0,.int .u8 0,.int .u8 0,.int .u8 0,.int .u8 0,.int .u8 0,.int .u8 0,.int .u8 0,.int .u8 0,.int .u8 0,.int .u8 0,.int .i64 0,.int .i64 0,.int .i64 0,.slice none 0 0] _ dO)
 clear qc0 hlz
 have j3:=hid qqx
 have t1:=hm.size
 have j4:=hid hm
 have j5:=hid (AB (S':=(fun k=>(R k))) j0.out hm (fun _ h=>h) cG)
 clear hm j0
 clear act E qqx i8
 have j6:=hid ((g9.out.mod i9.out (fun _ _ h=>h)).mod j4.out (sB HBR))
 clear g9 i9 j4
 refine qe ?_
 clear HA0 c3 a0
 go_upto_region 2 with (fail)
 refine Aa 31 [9,10,4] [0,1,2] (fun a0 HA0=>?_)
 have c3:=ev HA0 0 rfl
 refine qmo rfl c3 ?_
 refine QSeq.call rfl rfl Tryz.func46 (RefRInt_R j6.out aF) (fun E=>An (E.d 0 0) rfl) ?_
 rintro e c6 ⟨rfl,qrd,hm⟩
 refine ⟨_,rfl,?_⟩
 have j7:=hid qrd
 have t2:=hm.size
 have d5:=hid (show Mod (fun k=>(R k)) q8 c6 from hm)
 clear hm
 clear qrd j6
 refine qas rfl 1 0 ?_
 refine qe ?_
 clear HA0 c3 a0
 obtain ⟨n1,hn⟩:∃ n,n=(rInt 100 (gCm s).2).1:=⟨_,rfl⟩
 obtain ⟨s1,hs1⟩:∃ z,z=(rInt 100 (gCm s).2).2:=⟨_,rfl⟩
 have hn100_1:n1≤100:=by have:=rInt_le 100 (gCm s).2;omega
 have HLS1:=hid (show (s1.getD []).length≤900000 by rw [hs1];exact C1 ((rInt_suf 100).len _) (C1 (gCm_suf.len _) HLN.o))
 have HGL1:=hid (show Av gSt (gCm s).2=Bt gSt n1 [] s1 by rw [hn,hs1];rfl)
 rw [← hn]
 have hq:=j7.out
 rw [← hs1] at hq
 have HR1:=B5 hq
 clear hq hn hs1 j7
 go_upto_region 3 with (fail)
 refine Aa 31 [5] [0] (fun a0 HA0=>?_)
 refine QSeq.pure rfl (.int .i64 0) (fun E=>Aw rfl rfl) ?_
 refine qe ?_
 clear HA0 a0
 go_wp2
 go_loopw [5] (fun ti wr=>∃ (k:Nat) (acc:List St) (st:RSt) (v:Value),ti=.int .i64 (k:Int)∧k≤n1∧acc.length=k∧(st.getD []).length≤900000∧Ru gSt n1 s1 k acc st∧c6.heap.size≤wr.heap.size∧OwS StR 32 (fun b=>c6.heap.size≤b∧b < wr.heap.size) (fun b=>c6.heap.size≤b∧b < wr.heap.size) wr v acc∧Cs wr (c4.heap.size) ((Ce.cells (Ce.mk (gCm s).1 acc) (v)):List Value).toArray 35∧RrR 100 R wr r st∧Cs wr (w.heap.size) #[.int .i64 0,.int .i64 0,.int .u8 0,.int .u8 0,.int .u8 0,.int .u8 0,.int .u8 0,.int .u8 0,.int .u8 0,.int .u8 0,.int .u8 0,.int .u8 0,.int .u8 0,.int .u8 0,.int .u8 0,.int .u8 0,.int .u8 0,.int .u8 0,.int .u8 0,.int .u8 0,.int .u8 0,.int .u8 0,.int .u8 0,.int .u8 0,.int .u8 0,.int .u8 0,.int .u8 0,.int .u8 0,.int .u8 0,.int .u8 0,.int .u8 0,.int .u8 0,.int .u8 0,.int .u8 0,.int .i64 0,.int .i64 0,.int .i64 0,.slice none 0 0] 35∧Mod R w wr) (fun ti _=>n1 - (intOf ti).toNat)
 case atStart=>exact ⟨0,[],s1,.slice none 0 0,rfl,Nat.zero_le _,rfl,HLS1.o,Ru.start gSt_suf _ _,B9 _,OwS.nil _ _ _ _ _,(j3.out.mod d5.out aH),HR1.o,((HB2.o.mod j5.out aH).mod d5.out aH),((HM0.o.trans j5.out (fun _ _ h=>h)).trans d5.out (fun _ _ h=>h))⟩
 case round=>
  obtain ⟨k1,acc1,st1,v1,rfl,hk,hka,hst,hru,hz,ha,hbx,hr,hk_0,hm⟩:=hrel
  obtain ⟨wl1,rfl⟩:∃ x,x=wr:=⟨_,rfl⟩
  obtain ⟨aol1,capl1,rfl⟩:=ha.shape
  have HAL1:=B5 ha
  have HBXL1:=B5 hbx
  have HRL1:=B5 hr
  have HML1:=B5 hm
  have HST1:=B5 hst
  have HRU1:=B5 hru
  have HKA1:=B5 hka
  have HKP1_0:=B5 hk_0
  clear ha hbx hr hm hst hru hka hk_0 HR1 HB2 HM0 j3
  by_cases hgo1:k1 < n1∧st1≠none
  ·obtain ⟨hlt1,hsn1⟩:=hgo1
   cases st1 with
   | none=>exact absurd rfl hsn1
   | some l1=>
    go_upto_region 4 with (fail)
    refine Aa 31 [11,12,13,14,15,16,17,18,19,20] [0,1,2,3,4,5,6,7,8,9] (fun a0 HA0=>?_)
    have c3:=ev HA0 0 rfl
    have c9:=ev HA0 4 rfl
    have c7:=ev HA0 5 rfl
    refine qmo rfl c7 ?_
    refine qmo rfl c9 ?_
    refine QSeq.pure rfl (.bool true) (fun E=>Am rfl (E.d 0 1) (E.d 1 0) (Ag _ _ _ _ _ _) (Ay _ _ _ B6) (congrArg Value.bool (decide_eq_true aM))) ?_
    refine qmv rfl 2 0 ?_
    refine AC rfl (.pointer (some ⟨r,0,none⟩)) (fun E=>((Ac rfl rfl (E.sz 14 aF) (E.d 3 0)).trans rfl)) (fun E=>Al rfl (E.v c3)) ?_
    refine AC rfl (.pointer (some ⟨r,0,none⟩)) (fun E=>((Ac rfl rfl (E.sz 14 aF) (E.d 3 1)).trans rfl)) (fun E=>ex_nil rfl (E.d 4 0)) ?_
    refine AC rfl (.pointer (some ⟨r,1,none⟩)) (fun E=>((Ac rfl rfl (E.sz 14 aF) (E.d 3 2)).trans rfl)) (fun E=>Ae rfl D6 rfl aD (E.d 5 0)) ?_
    refine AC rfl (.bool false) (fun E=>((Ac rfl rfl (E.sz 14 aF) (E.d 3 3)).trans rfl)) (fun E=>Af rfl E0 rfl (E.d 6 0) (AJ HRL1.o)) ?_
    refine AC rfl (.bool true) (fun E=>((Ac rfl rfl (E.sz 14 aF) (E.d 3 4)).trans rfl)) (fun E=>Bm rfl (E.d 7 0)) ?_
    refine QSeq.pure rfl (.bool true) (fun E=>Bg rfl (E.d 3 5) (E.d 8 0) rfl) ?_
    refine qe ?_
    clear HA0 c3 c9 c7 a0
    obtain ⟨st2_1,hp2⟩:∃ z,z=(gSt (some l1)).2:=⟨_,rfl⟩
    have HP2_1:=hid hp2.symm
    clear hp2
    have HST2_1:=hid (show (st2_1.getD []).length≤900000 by rw [← HP2_1.o];exact C1 (gSt_suf.len _) HST1.o)
    go_upto_region 6 with (fail)
    generalize ha0:Act.mk _ _=a0
    have c3:a0.eval (.tmp 0)=.pointer (some ⟨r,0,none⟩):=by rw [← ha0];rfl
    have c8:a0.eval (.tmp 3)=.pointer (some ⟨c4.heap.size,0,none⟩):=by rw [← ha0];rfl
    have hsz0:a0.tmps.size=31:=by rw [← ha0];rfl
    have HA0:=hid ha0
    clear ha0
    refine A8 31 hsz0 [23,24,25,26,27,28,29,38] (fun k=>(R k)∨(New c6 wl1 k)∨(k=c4.heap.size)) (fun k j=>(k=0∧((R j)))∨(k=2∧((New c6 wl1 j)))∨(k=3∧((j=c4.heap.size)))) bJ [qi (.pointer (some ⟨c4.heap.size,37,none⟩)),qi (.slice aol1 acc1.length capl1),qi (.pointer (some ⟨r,0,none⟩)),qv 0,qv 1,qv 2,qi (.pointer (some ⟨c4.heap.size,37,none⟩)),qv 3] ⟨Ad,Ad,Ad,Ar,Ar,Ar,Ad,Ar,trivial⟩ [3,4,5,7] ⟨?_,?_,?_,?_,?_,?_,?_,?_,trivial⟩ ?_
    ·exact stq (fun E=>Ae rfl Tryz.underlying35 rfl aD (E.v c8))
    ·refine A5 rfl rfl rfl fun _ _ _ _ _ _ hm0 _ _ hd hub _=>?_
     have h0:=hd ⟨0,.data⟩ bD rfl _ rfl
     refine Bo rfl (Ab rfl) (Af rfl Tryz.underlying33 rfl h0 (AL (pre:=[]) (mid:=(Ce.mk (gCm s).1 acc1).c.cells) (post:=[.slice aol1 acc1.length capl1]) (m:=37) (k:=0) (HBXL1.o.mod hm0 bH) (Cm.len (gCm_OK HBY.o).2.1) rfl rfl)) QE.refl ?_
     rfl
    ·exact stq (fun E=>Al rfl (E.v c3))
    ·exact Ai rfl
    ·exact Ai rfl
    ·exact Ai rfl
    ·exact stq (fun E=>Ae rfl Tryz.underlying35 rfl aD (E.v c8))
    ·exact Ai rfl
    intro d6 hr
    have t4:=hr.size
    have j8:=hid (hr.new (S:=(fun k=>(R k)∨(New c6 wl1 k)∨(k=c4.heap.size))))
    have j9:=hid (HAL1.o.mod hr aE aE)
    clear HAL1
    have l7:=hid (HBXL1.o.mod hr aJ)
    clear HBXL1
    have l8:=hid (HRL1.o.mod hr aO)
    clear HRL1
    clear hr
    refine QChain.go fun Z act E=>?_
    refine Aq (args:=#[.pointer (some ⟨r,0,none⟩)]) rfl (Ab rfl) rfl Tryz.func48 (A0 (E.d 2)) (dSt_G.toU.to HP2_1.o l8.out aL HST1.o) ?_
    rintro e d7 ⟨cs1,y1,rfl,qel,qrd,hy1,hm⟩
    have HY1:=B5 hy1
    clear hy1
    have t8:=hm.size
    refine ⟨_,rfl,hm.mono aX,(fun _=>rfl),?_⟩
    intro d8 hr
    have t9:=hr.size
    have d9:=hid ((qel.widen (R':=(fun k=>(New d6 d7 k))) (fun _ h=>h)).mod hr aE)
    have m7:=hid (qrd.mod hr aO)
    have hmr:=hm.two hr
    have m8:=hid (j9.out.mod hmr bC bC)
    have m9:=hid (l7.out.mod hmr bL)
    clear j9 l7
    clear hmr
    have n5:=hid (j8.out.goM hm hr aU)
    clear j8 hm hr Z act E qel qrd l8
    refine QChain.go fun Z act E=>?_
    refine qc_buildS (e:=32) (cs:=cs1) (zc:=[.int .i64 0,.int .i64 0,.int .i64 0,.int .u8 0,.int .u8 0,.int .u8 0,.int .u8 0,.int .u8 0,.int .u8 0,.int .u8 0,.int .u8 0,.int .u8 0,.int .u8 0,.int .u8 0,.int .u8 0,.int .u8 0,.int .u8 0,.int .u8 0,.int .u8 0,.int .u8 0,.int .u8 0,.int .u8 0,.int .u8 0,.int .u8 0,.int .u8 0,.int .u8 0,.int .u8 0,.int .u8 0,.int .u8 0,.int .u8 0,.int .u8 0,.int .u8 0,.int .u8 0,.int .u8 0,.int .u8 0,.int .u64 0,.int .i64 0,.int .i64 0]) (sz:=38) rfl (Ab rfl) rfl Tryz.underlying33 aD rfl aF aF (chv (v:=.agg cs1.toArray) (E.d 3)) (StR.len d9.out) ?_
    intro u0 qrow hm
    have u1:=qrow.lt
    have u2:=hm.size
    refine ⟨hm.mono (fun _ _ h=>h.elim),(fun _=>rfl),?_⟩
    intro q9 hr
    have u3:=hr.size
    have g5:=hid (qrow.mod hr aJ)
    have hmr:=Mod.after hm hr
    have n6:=hid (m8.out.mod hmr aE aE)
    have n7:=hid (m9.out.mod hmr aJ)
    have n8:=hid (m7.out.mod hmr aO)
    have g6:=hid (d9.out.mod hmr aE)
    clear m8 m9 m7 d9
    clear hmr
    have o4:=hid (n5.out.go hm hr)
    clear n5 hm hr Z act E qrow
    refine QChain.go fun Z act E=>?_
    refine qc_appS (A:=StR) (e:=32) rfl (Ab rfl) rfl (.agg #[.int .i64 0,.int .i64 0,.int .i64 0,.int .u8 0,.int .u8 0,.int .u8 0,.int .u8 0,.int .u8 0,.int .u8 0,.int .u8 0,.int .u8 0,.int .u8 0,.int .u8 0,.int .u8 0,.int .u8 0,.int .u8 0,.int .u8 0,.int .u8 0,.int .u8 0,.int .u8 0,.int .u8 0,.int .u8 0,.int .u8 0,.int .u8 0,.int .u8 0,.int .u8 0,.int .u8 0,.int .u8 0,.int .u8 0,.int .u8 0,.int .u8 0,.int .u8 0,.int .u8 0,.int .u8 0,.int .u8 0,.int .u64 0,.int .i64 0,.int .i64 0]) 80 Tryz.underlying33 info_St (by rfl) (of_decide_eq_true aD) (E.d 1) (chv (v:=.slice (some ⟨d8.heap.size,0,none⟩) 1 1) (E.d 4)) (n6.out) (AI (R:=(fun k=>(New d6 d7 k)∨(k=d8.heap.size))) g5.out (g6.out.widen bB) bV) aE fV eU ?_
    intro ao11 cap11 r3 qacc1 hm
    have u4:=hm.size
    refine ⟨hm.mono bM,(fun _=>rfl),?_⟩
    intro u5 hr
    have u6:=hr.size
    have o5:=hid ((qacc1.widen (R':=(fun k=>(New c6 wl1 k)∨(New q9 r3 k))) (E':=(fun k=>(New c6 wl1 k)∨(New d6 d7 k)∨(k=d8.heap.size))) (fun _ h=>h) aZ).mod hr aE aE)
    have hmr:=hm.two hr
    have o6:=hid (n7.out.mod hmr aJ)
    have o7:=hid (n8.out.mod hmr aO)
    have o8:=hid (g6.out.mod hmr aE)
    have o9:=hid (g5.out.mod hmr aJ)
    clear n7 n8 g6 g5
    clear hmr
    have p4:=hid (o4.out.goM hm hr aU)
    clear o4 hm hr Z act E qacc1 n6
    refine QChain.go fun Z act E=>?_
    refine Ah rfl (Ab rfl) rfl o6.out (off:=37) (vs:=[Value.slice ao11 (acc1.length+1) cap11]) aD fJ (by show 37+1≤_;rw [C3,ce_len _ _ (gCm_OK HBY.o).2.1];decide) (E.d 6) (by rw [show act.eval ((.tmp 28))=_ from (chv (v:=.slice ao11 (acc1.length+1) cap11) (E.d 5))];rfl) ?_
    intro r4 qc0 hm
    have qqx:Cs r4 (c4.heap.size) ((Ce.cells (Ce.mk (gCm s).1 (acc1 ++ [y1])) (Value.slice ao11 (acc1.length+1) cap11)):List Value).toArray 35:=by rw [show lay _ 37 _=((Ce.cells (Ce.mk (gCm s).1 (acc1 ++ [y1])) (Value.slice ao11 (acc1.length+1) cap11)):List Value).toArray from lay_l (gCm s).1 _ _ (gCm_OK HBY.o).2.1] at qc0;exact qc0
    clear qc0
    have u7:=hm.size
    refine ⟨hm.mono bM,(fun _=>rfl),?_⟩
    intro u9 hr
    have v5:=hr.size
    have r5:=hid (qqx.mod hr aJ)
    have hmr:=hm.two hr
    have r6:=hid (o5.out.mod hmr aE aE)
    have r7:=hid (o7.out.mod hmr aO)
    have r8:=hid (o8.out.mod hmr aE)
    have r9:=hid (o9.out.mod hmr aJ)
    clear o5 o7 o8 o9
    clear hmr
    have p5:=hid (p4.out.goM hm hr aU)
    clear p4 hm hr Z act E qqx o6
    refine QChain.nil fun vs hl hzz hrows hne=>?_
    obtain ⟨Z,hYZ,hZb,hV⟩:=hzz
    have f2:=fvi hV hl 2
    have f3:=fvc hV hl 3
    have f4:=fvc hV hl 4
    have f5:=fvc hV hl 5
    rw [show vs=[gw vs 0,gw vs 1,gw vs 2,gw vs 3,gw vs 4,gw vs 5,gw vs 6,gw vs 7] from (Bv hl).trans rfl]
    have ha0:=HA0.o
    subst ha0
    clear HA0 hV hYZ hZb hsz0 hrows hne c3 c8
    simp only [Ax,Act.put,sIB,sCZ,sCS,List.set_nil,f2,f3,f4,f5]
    clear hl f2 f3 f4 f5
    clear r8
    clear r9
    go_upto_region 5 with (fail)
    refine Aa 31 [21,22,5] [0,1,2] (fun a0 HA0=>?_)
    have c7:=ev HA0 5 rfl
    refine QSeq.pure rfl _ (fun E=>Al rfl (E.y 2 c7)) ?_
    refine QSeq.pure rfl (.int .i64 (((k1:Nat):Int)+1)) (fun E=>Am rfl (E.d 0 0) rfl (Ag _ _ _ _ _ _) (B2 _ _ B6) (congrArg (Value.int .i64) (IntWalk.i64_in _ aM))) ?_
    refine qas rfl 1 0 ?_
    refine qe ?_
    clear HA0 c7 a0
    go_wp2
    go_roundw
    case rel=>exact ⟨k1+1,acc1 ++ [y1],st2_1,_,by go_num,by omega,by rw [C0,HKA1.o];rfl,HST2_1.o,HRU1.o.step hlt1 bD HP2_1.o HY1.o,by omega,(r6.out.widen eD cA),r5.out,r7.out,(HKP1_0.o.mod p5.out bQ),(HML1.o.trans p5.out bI)⟩
    case measure=>simp [intOf]<;>omega
  ·skip
   obtain ⟨bA1,hbA1⟩:∃ b:Bool,b=decide (((k1:Nat):Int) < ((n1:Nat):Int)):=⟨_,rfl⟩
   go_upto_region 4 with (fail)
   refine Aa 31 [11,12,13,14,15,16,17,18,19,20] [0,1,2,3,4,5,6,7,8,9] (fun a0 HA0=>?_)
   have c3:=ev HA0 0 rfl
   have c9:=ev HA0 4 rfl
   have c7:=ev HA0 5 rfl
   refine qmo rfl c7 ?_
   refine qmo rfl c9 ?_
   refine QSeq.pure rfl (.bool bA1) (fun E=>Am rfl (E.d 0 1) (E.d 1 0) (Ag _ _ _ _ _ _) (Ay _ _ _ B6) (congrArg Value.bool hbA1.symm)) ?_
   refine qmv rfl 2 0 ?_
   refine AA (b:=bA1) rfl (.pointer (some ⟨r,0,none⟩)) (fun E=>((Ac rfl rfl (E.sz 14 aF) (E.d 3 0)).trans (Ak _))) (fun E hb=>Al rfl (E.v c3)) ?_
   intro v6 hw
   have p6:=hid hw
   clear hw
   refine AA (b:=bA1) rfl (.pointer (some ⟨r,0,none⟩)) (fun E=>((Ac rfl rfl (E.sz 14 aF) (E.d 3 1)).trans (Ak _))) (fun E hb=>ex_nil rfl ((E.q 4 0 p6.out).1 hb)) ?_
   intro v7 hw
   have p7:=hid hw
   clear hw
   refine AA (b:=bA1) rfl (.pointer (some ⟨r,1,none⟩)) (fun E=>((Ac rfl rfl (E.sz 14 aF) (E.d 3 2)).trans (Ak _))) (fun E hb=>Ae rfl D6 rfl aD ((E.q 5 0 p7.out).1 hb)) ?_
   intro v8 hw
   have p8:=hid hw
   clear hw
   refine AA (b:=bA1) rfl (.bool st1.isNone) (fun E=>((Ac rfl rfl (E.sz 14 aF) (E.d 3 3)).trans (Ak _))) (fun E hb=>Af rfl E0 rfl ((E.q 6 0 p8.out).1 hb) (AJ HRL1.o)) ?_
   intro x4 hw
   have p9:=hid hw
   clear hw
   refine AA (b:=bA1) rfl (.bool (!st1.isNone)) (fun E=>((Ac rfl rfl (E.sz 14 aF) (E.d 3 4)).trans (Ak _))) (fun E hb=>Bm rfl ((E.q 7 0 p9.out).1 hb)) ?_
   intro x5 hw
   have q6:=hid hw
   clear hw
   refine QSeq.pure rfl (.bool (bA1 && (!st1.isNone))) (fun E=>A6 rfl (E.d 3 5) rfl rfl (Be fun hb=>(E.q 8 0 q6.out).1 hb)) ?_
   clear p6 p7 p8 p9 q6
   refine qe ?_
   clear HA0 c3 c9 c7 a0
   rw [go_false hgo1 hbA1]
   have HF1:=hid (HRU1.o.fin hgo1 hk)
   clear hbA1 hgo1
   go_upto_region 7 with (fail)
   refine Aa 31 [30,32] [0,1] (fun a0 HA0=>?_)
   have q7:=ev HA0 2 rfl
   have c8:=ev HA0 3 rfl
   refine QSeq.pure rfl _ (fun E=>Aj rfl Tryz.underlying35 rfl (off:=0) (cs:=(Ce.cells (Ce.mk (gCm s).1 acc1) (Value.slice aol1 acc1.length capl1))) gZ (E.v c8) (Cs.whole HBXL1.o)) ?_
   refine QSeq.go fun act E=>?_
   refine Ah rfl (Ab rfl) rfl HKP1_0.o (off:=0) (vs:=(Ce.cells (Ce.mk (gCm s).1 acc1) (Value.slice aol1 acc1.length capl1))) gZ (one_ce2 _ _ rfl) (by rw [ce_len _ _ (gCm_OK HBY.o).2.1];decide) (E.v q7) (ec (E.d 0 0)) ?_
   intro s0 qc0 hm
   have qB2:=qc0.eqv (b:=((Ce.cells (Ce.mk (gCm s).1 acc1) (Value.slice aol1 acc1.length capl1)):List Value).toArray) (Ap _ _ (by rw [ce_len _ _ (gCm_OK HBY.o).2.1];rfl))
   clear qc0
   have s5:=hid qB2
   have x6:=hm.size
   have g7:=hid (show Mod (fun k=>(k=w.heap.size)) wl1 s0 from hm)
   clear hm
   clear act E qB2 HKP1_0
   refine qe ?_
   clear HA0 q7 c8 a0
   have hse:(gCe s).2=st1:=(congrArg Prod.snd HGL1.o).trans HF1.o.1
   go_wp2
   exact bodyPost_ret (Au rfl _ _ w.heap.size ((Ce.cells (Ce.mk (gCm s).1 acc1) (Value.slice aol1 acc1.length capl1))) rfl (fun k u hu=>by rw [s5.out.cell];simpa using hu) Tryz.underlying35 rfl gZ) rfl ⟨_,(Ce.mk (gCm s).1 acc1),rfl,⟨_,rfl,gCm_OK HBY.o,(HAL1.o.mod g7.out aE aE).rd.widen cE⟩,(by rw [hse];exact (HRL1.o.mod g7.out (sB HBR))),(fun h=>by rw [hse] at h;show Ce.mk _ _=Ce.mk _ (Av gSt (gCm s).2).1;rw [HGL1.o,← HF1.o.2 h]),(HML1.o.trans g7.out cT)⟩
set_option maxHeartbeats 8000000 in
theorem dPm_U:GetsU PmR 100 54 gPm:=by
 intro R r s w hR hB hl
 have HRD:=B5 hR
 have HBR:=B5 hB
 have HBY:=hid hR.bytes
 have HLN:=B5 hl
 clear hR hB hl
 go_enter Tryz.func54,Tryz.ntmps54
 go_upto_region 1 with (fail)
 obtain ⟨w1,hw1⟩:∃ zz,zz=(w.alloc (.cells #[.int .i64 0,.int .i64 0,.int .u64 0,.slice none 0 0,.int .i64 0,.int .i64 0] 40)):=⟨_,rfl⟩
 change Code.wp _ _ _ _ (w.alloc (.cells #[.int .i64 0,.int .i64 0,.int .u64 0,.slice none 0 0,.int .i64 0,.int .i64 0] 40))
 rw [← hw1]
 have HB2:=hid (show Cs w1 (w.heap.size) #[.int .i64 0,.int .i64 0,.int .u64 0,.slice none 0 0,.int .i64 0,.int .i64 0] 40 by rw [hw1];exact Cs.new _ _ _)
 have hm:Mod (fun _=>False) w w1:=by rw [hw1];exact (Mod.refl _ _).alloc _
 have HM0:=hid (show Mod (fun k=>(R k)) w w1 from hm.mono (fun _ _ h=>h.elim))
 have hs1:w1.heap.size=w.heap.size+1:=by rw [hw1];simp
 have i7:=hid (HRD.o.mod hm (fun _ _ h=>h))
 clear HRD
 clear hw1 hm
 go_upto_region 1 with (fail)
 refine Aa 38 [6,7,8,9,10,11,12,3,46] [0,1,2,3,4,5,6,7,8] (fun a0 HA0=>?_)
 have c3:=ev HA0 0 rfl
 refine qmo rfl c3 ?_
 refine QSeq.call rfl rfl Tryz.func46 (dI_Q i7.out) (fun E=>An (E.d 0 0) rfl) ?_
 rintro e r9 ⟨rfl,qrd,hm⟩
 refine ⟨_,rfl,?_⟩
 have i8:=hid qrd
 have u6:=hm.size
 have i9:=hid (show Mod (fun k=>(R k)) w1 r9 from hm)
 clear hm
 clear qrd i7
 refine qmo rfl c3 ?_
 refine QSeq.call rfl rfl Tryz.func46 (dI_Q i8.out) (fun E=>An (E.d 2 0) rfl) ?_
 rintro e u7 ⟨rfl,qrd,hm⟩
 refine ⟨_,rfl,?_⟩
 have j0:=hid qrd
 have u9:=hm.size
 have s0:=hid hm
 have j3:=hid (AB (S':=(fun k=>(R k))) i9.out hm (fun _ h=>h) aQ)
 clear hm i9
 clear qrd i8
 refine qmo rfl c3 ?_
 refine QSeq.call rfl rfl Tryz.func52 (RefRNum_R j0.out) (fun E=>A0 (E.d 4 0)) ?_
 rintro e c4 ⟨rfl,qrd,hm⟩
 refine ⟨_,rfl,?_⟩
 have j4:=hid qrd
 have v5:=hm.size
 have s5:=hid hm
 have j5:=hid (AB (S':=(fun k=>(R k))) j3.out hm (fun _ h=>h) aQ)
 clear hm j3
 clear qrd j0
 refine QSeq.go fun act E=>?_
 refine Br rfl (Ab rfl) (v:=.agg ((Pm.cells (Pm.mk (gI s).1 (gI (gI s).2).1 (rNum (gI (gI s).2).2).1 [] 0 0) (Value.slice none 0 0)):List Value).toArray) (Bj rfl (z:=[.int .i64 0,.int .i64 0,.int .u64 0,.slice none 0 0,.int .i64 0,.int .i64 0]) (places:=[(0,1),(1,1),(2,1),(3,1),(4,2)]) aD (parts:=[(0,.int .i64 (gI s).1),(1,.int .i64 (gI (gI s).2).1),(2,.int .u64 ((rNum (gI (gI s).2).2).1:Nat))]) (by simp only [C7,C9,D0,show act.eval (.tmp 7)=.int .i64 (gI s).1 from (E.d 1 4),show act.eval (.tmp 9)=.int .i64 (gI (gI s).2).1 from (E.d 3 2),show act.eval (.tmp 11)=.int .u64 ((rNum (gI (gI s).2).2).1:Nat) from (E.d 5 0)];try rfl) (r:=(Pm.cells (Pm.mk (gI s).1 (gI (gI s).2).1 (rNum (gI (gI s).2).2).1 [] 0 0) (Value.slice none 0 0))) (by exact Bi (ns:=[1,1,1,1,2]) rfl [(0,.int .i64 (gI s).1),(1,.int .i64 (gI (gI s).2).1),(2,.int .u64 ((rNum (gI (gI s).2).2).1:Nat))] [[.int .i64 0],[.int .i64 0],[.int .u64 0],[.slice none 0 0],[.int .i64 0,.int .i64 0]] rfl ⟨rfl,rfl,rfl,trivial⟩)) ?_
 clear act E
 refine QSeq.go fun act E=>?_
 refine B3 rfl (Ab rfl) rfl (z:=[.int .i64 0,.int .i64 0,.int .u64 0,.slice none 0 0,.int .i64 0,.int .i64 0]) aD ?_
 intro v6 qqx hm
 have v7:=qqx.lt
 have j6:=hid qqx
 have v8:=hm.size
 have j7:=hid hm
 have j8:=hid (j5.out.goE hm)
 clear hm j5
 clear act E qqx
 refine QSeq.go fun act E=>?_
 have hlz:((Pm.cells (Pm.mk (gI s).1 (gI (gI s).2).1 (rNum (gI (gI s).2).2).1 [] 0 0) (Value.slice none 0 0))).length=List.length ([.int .i64 0,.int .i64 0,.int .u64 0,.slice none 0 0,.int .i64 0,.int .i64 0]:List Value):=rfl
 refine Ah rfl (Ab rfl) rfl j6.out (off:=0) (vs:=(Pm.cells (Pm.mk (gI s).1 (gI (gI s).2).1 (rNum (gI (gI s).2).2).1 [] 0 0) (Value.slice none 0 0))) cO dL bK (E.d 7 0) (ec (E.d 6 1)) ?_
 intro s6 qc0 hm
 have qqx:=qc0.eqv (b:=((Pm.cells (Pm.mk (gI s).1 (gI (gI s).2).1 (rNum (gI (gI s).2).2).1 [] 0 0) (Value.slice none 0 0)):List Value).toArray) (Ap #[.int .i64 0,.int .i64 0,.int .u64 0,.slice none 0 0,.int .i64 0,.int .i64 0] _ dO)
 clear qc0 hlz
 have j9:=hid qqx
 have x4:=hm.size
 have l7:=hid hm
 have l8:=hid (AB (S':=(fun k=>(R k))) j8.out hm (fun _ h=>h) cG)
 clear hm j8
 clear act E qqx j6
 have m7:=hid ((j4.out.mod j7.out (fun _ _ h=>h)).mod l7.out (sB HBR))
 clear j4 s0 s5 j7 l7
 refine qe ?_
 clear HA0 c3 a0
 go_upto_region 2 with (fail)
 refine Aa 38 [13,14,4] [0,1,2] (fun a0 HA0=>?_)
 have c3:=ev HA0 0 rfl
 refine qmo rfl c3 ?_
 refine QSeq.call rfl rfl Tryz.func46 (RefRInt_R m7.out aF) (fun E=>An (E.d 0 0) rfl) ?_
 rintro e c6 ⟨rfl,qrd,hm⟩
 refine ⟨_,rfl,?_⟩
 have m8:=hid qrd
 have x5:=hm.size
 have d5:=hid (show Mod (fun k=>(R k)) s6 c6 from hm)
 clear hm
 clear qrd m7
 refine qas rfl 1 0 ?_
 refine qe ?_
 clear HA0 c3 a0
 obtain ⟨n1,hn⟩:∃ n,n=(rInt 100 (rNum (gI (gI s).2).2).2).1:=⟨_,rfl⟩
 obtain ⟨s1,hs1⟩:∃ z,z=(rInt 100 (rNum (gI (gI s).2).2).2).2:=⟨_,rfl⟩
 have hn100_1:n1≤100:=by have:=rInt_le 100 (rNum (gI (gI s).2).2).2;omega
 have HLS1:=hid (show (s1.getD []).length≤900000 by rw [hs1];exact C1 ((rInt_suf 100).len _) (C1 (rNum_suf.len _) (C1 (gI_suf.len _) (C1 (gI_suf.len _) HLN.o))))
 have HGL1:=hid (show Av gCe (rNum (gI (gI s).2).2).2=Bt gCe n1 [] s1 by rw [hn,hs1];rfl)
 rw [← hn]
 have hq:=m8.out
 rw [← hs1] at hq
 have HR1:=B5 hq
 clear hq hn hs1 m8
 go_upto_region 3 with (fail)
 refine Aa 38 [5] [0] (fun a0 HA0=>?_)
 refine QSeq.pure rfl (.int .i64 0) (fun E=>Aw rfl rfl) ?_
 refine qe ?_
 clear HA0 a0
 go_wp2
 go_loopw [5] (fun ti wr=>∃ (k:Nat) (acc:List Ce) (st:RSt) (v:Value),ti=.int .i64 (k:Int)∧k≤n1∧acc.length=k∧(st.getD []).length≤900000∧Ru gCe n1 s1 k acc st∧c6.heap.size≤wr.heap.size∧OwS CeR 35 (fun b=>c6.heap.size≤b∧b < wr.heap.size) (fun b=>c6.heap.size≤b∧b < wr.heap.size) wr v acc∧Cs wr (c4.heap.size) ((Pm.cells (Pm.mk (gI s).1 (gI (gI s).2).1 (rNum (gI (gI s).2).2).1 acc 0 0) (v)):List Value).toArray 40∧RrR 100 R wr r st∧Cs wr (w.heap.size) #[.int .i64 0,.int .i64 0,.int .u64 0,.slice none 0 0,.int .i64 0,.int .i64 0] 40∧Mod R w wr) (fun ti _=>n1 - (intOf ti).toNat)
 case atStart=>exact ⟨0,[],s1,.slice none 0 0,rfl,Nat.zero_le _,rfl,HLS1.o,Ru.start gCe_suf _ _,B9 _,OwS.nil _ _ _ _ _,(j9.out.mod d5.out aH),HR1.o,((HB2.o.mod l8.out aH).mod d5.out aH),((HM0.o.trans l8.out (fun _ _ h=>h)).trans d5.out (fun _ _ h=>h))⟩
 case round=>
  obtain ⟨k1,acc1,st1,v1,rfl,hk,hka,hst,hru,hz,ha,hbx,hr,hk_0,hm⟩:=hrel
  obtain ⟨wl1,rfl⟩:∃ x,x=wr:=⟨_,rfl⟩
  obtain ⟨aol1,capl1,rfl⟩:=ha.shape
  have HAL1:=B5 ha
  have HBXL1:=B5 hbx
  have HRL1:=B5 hr
  have HML1:=B5 hm
  have HST1:=B5 hst
  have HRU1:=B5 hru
  have HKA1:=B5 hka
  have HKP1_0:=B5 hk_0
  clear ha hbx hr hm hst hru hka hk_0 HR1 HB2 HM0 j9
  by_cases hgo1:k1 < n1∧st1≠none
  ·obtain ⟨hlt1,hsn1⟩:=hgo1
   cases st1 with
   | none=>exact absurd rfl hsn1
   | some l1=>
    go_upto_region 4 with (fail)
    refine Aa 38 [15,16,17,18,19,20,21,22,23,24] [0,1,2,3,4,5,6,7,8,9] (fun a0 HA0=>?_)
    have c3:=ev HA0 0 rfl
    have c9:=ev HA0 4 rfl
    have c8:=ev HA0 5 rfl
    refine qmo rfl c8 ?_
    refine qmo rfl c9 ?_
    refine QSeq.pure rfl (.bool true) (fun E=>Am rfl (E.d 0 1) (E.d 1 0) (Ag _ _ _ _ _ _) (Ay _ _ _ B6) (congrArg Value.bool (decide_eq_true aM))) ?_
    refine qmv rfl 2 0 ?_
    refine AC rfl (.pointer (some ⟨r,0,none⟩)) (fun E=>((Ac rfl rfl (E.sz 18 aF) (E.d 3 0)).trans rfl)) (fun E=>Al rfl (E.v c3)) ?_
    refine AC rfl (.pointer (some ⟨r,0,none⟩)) (fun E=>((Ac rfl rfl (E.sz 18 aF) (E.d 3 1)).trans rfl)) (fun E=>ex_nil rfl (E.d 4 0)) ?_
    refine AC rfl (.pointer (some ⟨r,1,none⟩)) (fun E=>((Ac rfl rfl (E.sz 18 aF) (E.d 3 2)).trans rfl)) (fun E=>Ae rfl D6 rfl aD (E.d 5 0)) ?_
    refine AC rfl (.bool false) (fun E=>((Ac rfl rfl (E.sz 18 aF) (E.d 3 3)).trans rfl)) (fun E=>Af rfl E0 rfl (E.d 6 0) (AJ HRL1.o)) ?_
    refine AC rfl (.bool true) (fun E=>((Ac rfl rfl (E.sz 18 aF) (E.d 3 4)).trans rfl)) (fun E=>Bm rfl (E.d 7 0)) ?_
    refine QSeq.pure rfl (.bool true) (fun E=>Bg rfl (E.d 3 5) (E.d 8 0) rfl) ?_
    refine qe ?_
    clear HA0 c3 c9 c8 a0
    obtain ⟨st2_1,hp2⟩:∃ z,z=(gCe (some l1)).2:=⟨_,rfl⟩
    have HP2_1:=hid hp2.symm
    clear hp2
    have HST2_1:=hid (show (st2_1.getD []).length≤900000 by rw [← HP2_1.o];exact C1 (gCe_suf.len _) HST1.o)
    go_upto_region 6 with (fail)
    generalize ha0:Act.mk _ _=a0
    have c3:a0.eval (.tmp 0)=.pointer (some ⟨r,0,none⟩):=by rw [← ha0];rfl
    have c7:a0.eval (.tmp 3)=.pointer (some ⟨c4.heap.size,0,none⟩):=by rw [← ha0];rfl
    have hsz0:a0.tmps.size=38:=by rw [← ha0];rfl
    have HA0:=hid ha0
    clear ha0
    refine A8 38 hsz0 [27,28,29,30,31,32,33,45] (fun k=>(R k)∨(New c6 wl1 k)∨(k=c4.heap.size)) (fun k j=>(k=0∧((R j)))∨(k=2∧((New c6 wl1 j)))∨(k=3∧((j=c4.heap.size)))) bJ [qi (.pointer (some ⟨c4.heap.size,3,none⟩)),qi (.slice aol1 acc1.length capl1),qi (.pointer (some ⟨r,0,none⟩)),qv 0,qv 1,qv 2,qi (.pointer (some ⟨c4.heap.size,3,none⟩)),qv 3] ⟨Ad,Ad,Ad,Ar,Ar,Ar,Ad,Ar,trivial⟩ [3,4,5,7] ⟨?_,?_,?_,?_,?_,?_,?_,?_,trivial⟩ ?_
    ·exact stq (fun E=>Ae rfl Tryz.underlying40 rfl aD (E.v c7))
    ·refine A5 rfl rfl rfl fun _ _ _ _ _ _ hm0 _ _ hd hub _=>?_
     have h0:=hd ⟨0,.data⟩ bD rfl _ rfl
     refine Bo rfl (Ab rfl) (Af rfl Tryz.underlying38 rfl h0 (AD (HBXL1.o.mod hm0 bH) rfl)) QE.refl ?_
     rfl
    ·exact stq (fun E=>Al rfl (E.v c3))
    ·exact Ai rfl
    ·exact Ai rfl
    ·exact Ai rfl
    ·exact stq (fun E=>Ae rfl Tryz.underlying40 rfl aD (E.v c7))
    ·exact Ai rfl
    intro d6 hr
    have x6:=hr.size
    have m9:=hid (hr.new (S:=(fun k=>(R k)∨(New c6 wl1 k)∨(k=c4.heap.size))))
    have n5:=hid (HAL1.o.mod hr aE aE)
    clear HAL1
    have n6:=hid (HBXL1.o.mod hr aJ)
    clear HBXL1
    have n7:=hid (HRL1.o.mod hr aO)
    clear HRL1
    clear hr
    refine QChain.go fun Z act E=>?_
    refine Aq (args:=#[.pointer (some ⟨r,0,none⟩)]) rfl (Ab rfl) rfl Tryz.func49 (A0 (E.d 2)) (dCe_U.to HP2_1.o n7.out aL HST1.o) ?_
    rintro e d7 ⟨cs1,y1,rfl,qel,qrd,hy1,hm⟩
    have HY1:=B5 hy1
    clear hy1
    have x7:=hm.size
    refine ⟨_,rfl,hm.mono aX,(fun _=>rfl),?_⟩
    intro d8 hr
    have x8:=hr.size
    have d9:=hid ((qel.widen (R':=(fun k=>(New d6 d7 k))) (fun _ h=>h)).mod hr aE)
    have n8:=hid (qrd.mod hr aO)
    have hmr:=hm.two hr
    have o4:=hid (n5.out.mod hmr bC bC)
    have o5:=hid (n6.out.mod hmr bL)
    clear n5 n6
    clear hmr
    have o6:=hid (m9.out.goM hm hr aU)
    clear m9 hm hr Z act E qel qrd n7
    refine QChain.go fun Z act E=>?_
    refine qc_buildS (e:=35) (cs:=cs1) (zc:=[.int .i64 0,.int .i64 0,.int .u8 0,.int .u8 0,.int .u8 0,.int .u8 0,.int .u8 0,.int .u8 0,.int .u8 0,.int .u8 0,.int .u8 0,.int .u8 0,.int .u8 0,.int .u8 0,.int .u8 0,.int .u8 0,.int .u8 0,.int .u8 0,.int .u8 0,.int .u8 0,.int .u8 0,.int .u8 0,.int .u8 0,.int .u8 0,.int .u8 0,.int .u8 0,.int .u8 0,.int .u8 0,.int .u8 0,.int .u8 0,.int .u8 0,.int .u8 0,.int .u8 0,.int .u8 0,.int .i64 0,.int .i64 0,.int .i64 0,.slice none 0 0]) (sz:=38) rfl (Ab rfl) rfl Tryz.underlying38 aD rfl aF aF (chv (v:=.agg cs1.toArray) (E.d 3)) (CeR.len d9.out) ?_
    intro x9 qrow hm
    have y0:=qrow.lt
    have y5:=hm.size
    refine ⟨hm.mono (fun _ _ h=>h.elim),(fun _=>rfl),?_⟩
    intro s7 hr
    have y6:=hr.size
    have g5:=hid (qrow.mod hr aJ)
    have hmr:=Mod.after hm hr
    have o7:=hid (o4.out.mod hmr aE aE)
    have o8:=hid (o5.out.mod hmr aJ)
    have o9:=hid (n8.out.mod hmr aO)
    have g6:=hid (d9.out.mod hmr aE)
    clear o4 o5 n8 d9
    clear hmr
    have p4:=hid (o6.out.go hm hr)
    clear o6 hm hr Z act E qrow
    refine QChain.go fun Z act E=>?_
    refine qc_appS (A:=CeR) (e:=35) rfl (Ab rfl) rfl (.agg #[.int .i64 0,.int .i64 0,.int .u8 0,.int .u8 0,.int .u8 0,.int .u8 0,.int .u8 0,.int .u8 0,.int .u8 0,.int .u8 0,.int .u8 0,.int .u8 0,.int .u8 0,.int .u8 0,.int .u8 0,.int .u8 0,.int .u8 0,.int .u8 0,.int .u8 0,.int .u8 0,.int .u8 0,.int .u8 0,.int .u8 0,.int .u8 0,.int .u8 0,.int .u8 0,.int .u8 0,.int .u8 0,.int .u8 0,.int .u8 0,.int .u8 0,.int .u8 0,.int .u8 0,.int .u8 0,.int .i64 0,.int .i64 0,.int .i64 0,.slice none 0 0]) 96 Tryz.underlying38 info_Ce (by rfl) (of_decide_eq_true aD) (E.d 1) (chv (v:=.slice (some ⟨d8.heap.size,0,none⟩) 1 1) (E.d 4)) (o7.out) (AI (R:=(fun k=>(New d6 d7 k)∨(k=d8.heap.size))) g5.out (g6.out.widen bB) bV) aE fV eU ?_
    intro ao13 cap13 s8 qacc1 hm
    have y7:=hm.size
    refine ⟨hm.mono bM,(fun _=>rfl),?_⟩
    intro y8 hr
    have z0:=hr.size
    have p5:=hid ((qacc1.widen (R':=(fun k=>(New c6 wl1 k)∨(New s7 s8 k))) (E':=(fun k=>(New c6 wl1 k)∨(New d6 d7 k)∨(k=d8.heap.size))) (fun _ h=>h) aZ).mod hr aE aE)
    have hmr:=hm.two hr
    have p6:=hid (o8.out.mod hmr aJ)
    have p7:=hid (o9.out.mod hmr aO)
    have p8:=hid (g6.out.mod hmr aE)
    have p9:=hid (g5.out.mod hmr aJ)
    clear o8 o9 g6 g5
    clear hmr
    have q6:=hid (p4.out.goM hm hr aU)
    clear p4 hm hr Z act E qacc1 o7
    refine QChain.go fun Z act E=>?_
    refine Ah rfl (Ab rfl) rfl p6.out (off:=3) (vs:=[Value.slice ao13 (acc1.length+1) cap13]) aD fJ (by show 3+1≤6;decide) (E.d 6) (by rw [show act.eval ((.tmp 32))=_ from (chv (v:=.slice ao13 (acc1.length+1) cap13) (E.d 5))];rfl) ?_
    intro t0 qc0 hm
    have qqx:Cs t0 (c4.heap.size) ((Pm.cells (Pm.mk (gI s).1 (gI (gI s).2).1 (rNum (gI (gI s).2).2).1 (acc1 ++ [y1]) 0 0) (Value.slice ao13 (acc1.length+1) cap13)):List Value).toArray 40:=by rw [show lay _ 3 _=((Pm.cells (Pm.mk (gI s).1 (gI (gI s).2).1 (rNum (gI (gI s).2).2).1 (acc1 ++ [y1]) 0 0) (Value.slice ao13 (acc1.length+1) cap13)):List Value).toArray from rfl] at qc0;exact qc0
    clear qc0
    have z7:=hm.size
    refine ⟨hm.mono bM,(fun _=>rfl),?_⟩
    intro z9 hr
    have aa:=hr.size
    have t1:=hid (qqx.mod hr aJ)
    have hmr:=hm.two hr
    have t2:=hid (p5.out.mod hmr aE aE)
    have t4:=hid (p7.out.mod hmr aO)
    have t8:=hid (p8.out.mod hmr aE)
    have t9:=hid (p9.out.mod hmr aJ)
    clear p5 p7 p8 p9
    clear hmr
    have q7:=hid (q6.out.goM hm hr aU)
    clear q6 hm hr Z act E qqx p6
    refine QChain.nil fun vs hl hzz hrows hne=>?_
    obtain ⟨Z,hYZ,hZb,hV⟩:=hzz
    have f2:=fvi hV hl 2
    have f3:=fvc hV hl 3
    have f4:=fvc hV hl 4
    have f5:=fvc hV hl 5
    rw [show vs=[gw vs 0,gw vs 1,gw vs 2,gw vs 3,gw vs 4,gw vs 5,gw vs 6,gw vs 7] from (Bv hl).trans rfl]
    have ha0:=HA0.o
    subst ha0
    clear HA0 hV hYZ hZb hsz0 hrows hne c3 c7
    simp only [Ax,Act.put,sIB,sCZ,sCS,List.set_nil,f2,f3,f4,f5]
    clear hl f2 f3 f4 f5
    clear t8
    clear t9
    go_upto_region 5 with (fail)
    refine Aa 38 [25,26,5] [0,1,2] (fun a0 HA0=>?_)
    have c8:=ev HA0 5 rfl
    refine QSeq.pure rfl _ (fun E=>Al rfl (E.y 2 c8)) ?_
    refine QSeq.pure rfl (.int .i64 (((k1:Nat):Int)+1)) (fun E=>Am rfl (E.d 0 0) rfl (Ag _ _ _ _ _ _) (B2 _ _ B6) (congrArg (Value.int .i64) (IntWalk.i64_in _ aM))) ?_
    refine qas rfl 1 0 ?_
    refine qe ?_
    clear HA0 c8 a0
    go_wp2
    go_roundw
    case rel=>exact ⟨k1+1,acc1 ++ [y1],st2_1,_,by go_num,by omega,by rw [C0,HKA1.o];rfl,HST2_1.o,HRU1.o.step hlt1 bD HP2_1.o HY1.o,by omega,(t2.out.widen eD cA),t1.out,t4.out,(HKP1_0.o.mod q7.out bQ),(HML1.o.trans q7.out bI)⟩
    case measure=>simp [intOf]<;>omega
  ·skip
   obtain ⟨bA1,hbA1⟩:∃ b:Bool,b=decide (((k1:Nat):Int) < ((n1:Nat):Int)):=⟨_,rfl⟩
   go_upto_region 4 with (fail)
   refine Aa 38 [15,16,17,18,19,20,21,22,23,24] [0,1,2,3,4,5,6,7,8,9] (fun a0 HA0=>?_)
   have c3:=ev HA0 0 rfl
   have c9:=ev HA0 4 rfl
   have c8:=ev HA0 5 rfl
   refine qmo rfl c8 ?_
   refine qmo rfl c9 ?_
   refine QSeq.pure rfl (.bool bA1) (fun E=>Am rfl (E.d 0 1) (E.d 1 0) (Ag _ _ _ _ _ _) (Ay _ _ _ B6) (congrArg Value.bool hbA1.symm)) ?_
   refine qmv rfl 2 0 ?_
   refine AA (b:=bA1) rfl (.pointer (some ⟨r,0,none⟩)) (fun E=>((Ac rfl rfl (E.sz 18 aF) (E.d 3 0)).trans (Ak _))) (fun E hb=>Al rfl (E.v c3)) ?_
   intro ab hw
   have q8:=hid hw
   clear hw
   refine AA (b:=bA1) rfl (.pointer (some ⟨r,0,none⟩)) (fun E=>((Ac rfl rfl (E.sz 18 aF) (E.d 3 1)).trans (Ak _))) (fun E hb=>ex_nil rfl ((E.q 4 0 q8.out).1 hb)) ?_
   intro ac hw
   have q9:=hid hw
   clear hw
   refine AA (b:=bA1) rfl (.pointer (some ⟨r,1,none⟩)) (fun E=>((Ac rfl rfl (E.sz 18 aF) (E.d 3 2)).trans (Ak _))) (fun E hb=>Ae rfl D6 rfl aD ((E.q 5 0 q9.out).1 hb)) ?_
   intro ae hw
   have r3:=hid hw
   clear hw
   refine AA (b:=bA1) rfl (.bool st1.isNone) (fun E=>((Ac rfl rfl (E.sz 18 aF) (E.d 3 3)).trans (Ak _))) (fun E hb=>Af rfl E0 rfl ((E.q 6 0 r3.out).1 hb) (AJ HRL1.o)) ?_
   intro af hw
   have r4:=hid hw
   clear hw
   refine AA (b:=bA1) rfl (.bool (!st1.isNone)) (fun E=>((Ac rfl rfl (E.sz 18 aF) (E.d 3 4)).trans (Ak _))) (fun E hb=>Bm rfl ((E.q 7 0 r4.out).1 hb)) ?_
   intro ag hw
   have r5:=hid hw
   clear hw
   refine QSeq.pure rfl (.bool (bA1 && (!st1.isNone))) (fun E=>A6 rfl (E.d 3 5) rfl rfl (Be fun hb=>(E.q 8 0 r5.out).1 hb)) ?_
   clear q8 q9 r3 r4 r5
   refine qe ?_
   clear HA0 c3 c9 c8 a0
   rw [go_false hgo1 hbA1]
   have HF1:=hid (HRU1.o.fin hgo1 hk)
   clear hbA1 hgo1
   go_upto_region 7 with (fail)
   refine Aa 38 [34,35,36,41] [0,1,2,3] (fun a0 HA0=>?_)
   have c3:=ev HA0 0 rfl
   have c7:=ev HA0 3 rfl
   refine qmo rfl c3 ?_
   refine QSeq.call rfl rfl Tryz.func53 (dSig_Q _ _ _ _ HRL1.o aL) (fun E=>A0 (E.d 0 0)) ?_
   rintro e u0 ⟨rfl,qrd,hm⟩
   refine ⟨_,rfl,?_⟩
   have r6:=hid qrd
   have ah:=hm.size
   have g7:=hid (show Mod (fun k=>(R k)) wl1 u0 from hm)
   clear hm
   clear qrd HRL1
   refine qfd rfl 4 Tryz.underlying40 c7 ?_
   refine QSeq.go fun act E=>?_
   refine Ah rfl (Ab rfl) rfl (HBXL1.o.mod g7.out aH) (off:=4) (vs:=[.int .i64 (gSig st1).1.1,.int .i64 (gSig st1).1.2]) aD gG (by show 4+2≤6;decide) (E.d 2 0) (ec (E.d 1 1)) ?_
   intro u1 qc0 hm
   have qqx:=qc0.eqv (b:=((Pm.cells (Pm.mk (gI s).1 (gI (gI s).2).1 (rNum (gI (gI s).2).2).1 acc1 (gSig st1).1.1 (gSig st1).1.2) (Value.slice aol1 acc1.length capl1)):List Value).toArray) rfl
   clear qc0
   have u2:=hid qqx
   have ai:=hm.size
   have r7:=hid hm
   have g8:=hid (AB (S':=(fun k=>(R k)∨(k=c4.heap.size))) g7.out hm (fun _ h=>Or.inl h) aT)
   clear hm g7
   clear act E qqx HBXL1
   have u3:=hid (r6.out.mod r7.out (sB HBR))
   clear r6 r7
   refine qe ?_
   clear HA0 c3 c7 a0
   go_upto_region 8 with (fail)
   refine Aa 38 [37,39] [0,1] (fun a0 HA0=>?_)
   have r8:=ev HA0 2 rfl
   have c7:=ev HA0 3 rfl
   refine QSeq.pure rfl _ (fun E=>Aj rfl Tryz.underlying40 rfl (off:=0) (cs:=(Pm.cells (Pm.mk (gI s).1 (gI (gI s).2).1 (rNum (gI (gI s).2).2).1 acc1 (gSig st1).1.1 (gSig st1).1.2) (Value.slice aol1 acc1.length capl1))) aD (E.v c7) (Cs.whole u2.out)) ?_
   refine QSeq.go fun act E=>?_
   refine Ah rfl (Ab rfl) rfl (HKP1_0.o.mod g8.out bL) (off:=0) (vs:=(Pm.cells (Pm.mk (gI s).1 (gI (gI s).2).1 (rNum (gI (gI s).2).2).1 acc1 (gSig st1).1.1 (gSig st1).1.2) (Value.slice aol1 acc1.length capl1))) aD dL (by show 6≤6;decide) (E.v r8) (ec (E.d 0 0)) ?_
   intro u4 qc0 hm
   have qB2:=qc0.eqv (b:=((Pm.cells (Pm.mk (gI s).1 (gI (gI s).2).1 (rNum (gI (gI s).2).2).1 acc1 (gSig st1).1.1 (gSig st1).1.2) (Value.slice aol1 acc1.length capl1)):List Value).toArray) (Ap #[.int .i64 0,.int .i64 0,.int .u64 0,.slice none 0 0,.int .i64 0,.int .i64 0] _ rfl)
   clear qc0
   have u5:=hid qB2
   have aj:=hm.size
   have g9:=hid (show Mod (fun k=>(k=w.heap.size)) u1 u4 from hm)
   clear hm
   clear act E qB2 HKP1_0
   refine qe ?_
   clear HA0 r8 c7 a0
   have hse:(gPm s).2=(gSig st1).2:=by show (gSig (Av gCe _).2).2=_;rw [HGL1.o,HF1.o.1]
   go_wp2
   exact bodyPost_ret (Au rfl _ _ w.heap.size ((Pm.cells (Pm.mk (gI s).1 (gI (gI s).2).1 (rNum (gI (gI s).2).2).1 acc1 (gSig st1).1.1 (gSig st1).1.2) (Value.slice aol1 acc1.length capl1))) rfl (fun k u hu=>by rw [u5.out.cell];simpa using hu) Tryz.underlying40 rfl aD) rfl ⟨_,(Pm.mk (gI s).1 (gI (gI s).2).1 (rNum (gI (gI s).2).2).1 acc1 (gSig st1).1.1 (gSig st1).1.2),rfl,⟨_,rfl,⟨A9 _,A9 _,rNum_lt (gI_suf.bytes (gI_suf.bytes HBY.o)),A9 _,A9 _⟩,((HAL1.o.mod g8.out bC bC).mod g9.out aE aE).rd.widen cE⟩,(by rw [hse];exact (u3.out.mod g9.out (sB HBR))),(fun h=>by rw [hse] at h;have hne:st1≠none:=fun e=>h (by rw [e];exact gSig_suf.no);show Pm.mk _ _ _ _ _ _=Pm.mk _ _ _ (Av gCe _).1 (gSig (Av gCe _).2).1.1 (gSig (Av gCe _).2).1.2;rw [HGL1.o,← HF1.o.2 hne,HF1.o.1]),((HML1.o.trans g8.out aC).trans g9.out cT)⟩
set_option maxHeartbeats 16000000 in
theorem dBa_U:GetsU BaR 100 55 gBa:=by
 intro R r s w hR hB hl
 have HRD:=B5 hR
 have HBR:=B5 hB
 have HBY:=hid hR.bytes
 have HLN:=B5 hl
 clear hR hB hl
 go_enter Tryz.func55,Tryz.ntmps55
 go_upto_region 1 with (fail)
 obtain ⟨w1,hw1⟩:∃ zz,zz=(w.alloc (.cells #[.int .i64 0,.int .u64 0,.slice none 0 0,.slice none 0 0,.slice none 0 0] 45)):=⟨_,rfl⟩
 change Code.wp _ _ _ _ (w.alloc (.cells #[.int .i64 0,.int .u64 0,.slice none 0 0,.slice none 0 0,.slice none 0 0] 45))
 rw [← hw1]
 have HB2:=hid (show Cs w1 (w.heap.size) #[.int .i64 0,.int .u64 0,.slice none 0 0,.slice none 0 0,.slice none 0 0] 45 by rw [hw1];exact Cs.new _ _ _)
 have hm:Mod (fun _=>False) w w1:=by rw [hw1];exact (Mod.refl _ _).alloc _
 have HM0:=hid (show Mod (fun k=>(R k)) w w1 from hm.mono (fun _ _ h=>h.elim))
 have hs1:w1.heap.size=w.heap.size+1:=by rw [hw1];simp
 have p8:=hid (HRD.o.mod hm (fun _ _ h=>h))
 clear HRD
 clear hw1 hm
 go_upto_region 1 with (fail)
 refine Aa 103 [11,12,13,14,15,3,109] [0,1,2,3,4,5,6] (fun a0 HA0=>?_)
 have c3:=ev HA0 0 rfl
 refine qmo rfl c3 ?_
 refine QSeq.call rfl rfl Tryz.func46 (dI_Q p8.out) (fun E=>An (E.d 0 0) rfl) ?_
 rintro e df ⟨rfl,qrd,hm⟩
 refine ⟨_,rfl,?_⟩
 have p9:=hid qrd
 have fc:=hm.size
 have q6:=hid (show Mod (fun k=>(R k)) w1 df from hm)
 clear hm
 clear qrd p8
 refine qmo rfl c3 ?_
 refine QSeq.call rfl rfl Tryz.func52 (RefRNum_R p9.out) (fun E=>A0 (E.d 2 0)) ?_
 rintro e c4 ⟨rfl,qrd,hm⟩
 refine ⟨_,rfl,?_⟩
 have q7:=hid qrd
 have fe:=hm.size
 have dg:=hid hm
 have q8:=hid (AB (S':=(fun k=>(R k))) q6.out hm (fun _ h=>h) aQ)
 clear hm q6
 clear qrd p9
 refine QSeq.go fun act E=>?_
 refine Br rfl (Ab rfl) (v:=.agg ((Ba.cells (Ba.mk (gI s).1 (rNum (gI s).2).1 [] [] []) (Value.slice none 0 0) (Value.slice none 0 0) (Value.slice none 0 0)):List Value).toArray) (Bj rfl (z:=[.int .i64 0,.int .u64 0,.slice none 0 0,.slice none 0 0,.slice none 0 0]) (places:=[(0,1),(1,1),(2,1),(3,1),(4,1)]) aD (parts:=[(0,.int .i64 (gI s).1),(1,.int .u64 ((rNum (gI s).2).1:Nat))]) (by simp only [C7,C9,D0,show act.eval (.tmp 12)=.int .i64 (gI s).1 from (E.d 1 2),show act.eval (.tmp 14)=.int .u64 ((rNum (gI s).2).1:Nat) from (E.d 3 0)];try rfl) (r:=(Ba.cells (Ba.mk (gI s).1 (rNum (gI s).2).1 [] [] []) (Value.slice none 0 0) (Value.slice none 0 0) (Value.slice none 0 0))) (by exact Bi (ns:=[1,1,1,1,1]) rfl [(0,.int .i64 (gI s).1),(1,.int .u64 ((rNum (gI s).2).1:Nat))] [[.int .i64 0],[.int .u64 0],[.slice none 0 0],[.slice none 0 0],[.slice none 0 0]] rfl ⟨rfl,rfl,trivial⟩)) ?_
 clear act E
 refine QSeq.go fun act E=>?_
 refine B3 rfl (Ab rfl) rfl (z:=[.int .i64 0,.int .u64 0,.slice none 0 0,.slice none 0 0,.slice none 0 0]) aD ?_
 intro ff qqx hm
 have fg:=qqx.lt
 have q9:=hid qqx
 have fh:=hm.size
 have r3:=hid hm
 have r4:=hid (q8.out.goE hm)
 clear hm q8
 clear act E qqx
 refine QSeq.go fun act E=>?_
 have hlz:((Ba.cells (Ba.mk (gI s).1 (rNum (gI s).2).1 [] [] []) (Value.slice none 0 0) (Value.slice none 0 0) (Value.slice none 0 0))).length=List.length ([.int .i64 0,.int .u64 0,.slice none 0 0,.slice none 0 0,.slice none 0 0]:List Value):=rfl
 refine Ah rfl (Ab rfl) rfl q9.out (off:=0) (vs:=(Ba.cells (Ba.mk (gI s).1 (rNum (gI s).2).1 [] [] []) (Value.slice none 0 0) (Value.slice none 0 0) (Value.slice none 0 0))) cO dP bK (E.d 5 0) (ec (E.d 4 1)) ?_
 intro dh qc0 hm
 have qqx:=qc0.eqv (b:=((Ba.cells (Ba.mk (gI s).1 (rNum (gI s).2).1 [] [] []) (Value.slice none 0 0) (Value.slice none 0 0) (Value.slice none 0 0)):List Value).toArray) (Ap #[.int .i64 0,.int .u64 0,.slice none 0 0,.slice none 0 0,.slice none 0 0] _ dO)
 clear qc0 hlz
 have r5:=hid qqx
 have fi:=hm.size
 have r6:=hid hm
 have r7:=hid (AB (S':=(fun k=>(R k))) r4.out hm (fun _ h=>h) cG)
 clear hm r4
 clear act E qqx q9
 have r8:=hid ((q7.out.mod r3.out (fun _ _ h=>h)).mod r6.out (sB HBR))
 clear q7 dg r3 r6
 refine qe ?_
 clear HA0 c3 a0
 go_upto_region 2 with (fail)
 refine Aa 103 [16,17,4] [0,1,2] (fun a0 HA0=>?_)
 have c3:=ev HA0 0 rfl
 refine qmo rfl c3 ?_
 refine QSeq.call rfl rfl Tryz.func46 (RefRInt_R r8.out aF) (fun E=>An (E.d 0 0) rfl) ?_
 rintro e c7 ⟨rfl,qrd,hm⟩
 refine ⟨_,rfl,?_⟩
 have r9:=hid qrd
 have fj:=hm.size
 have j6:=hid (show Mod (fun k=>(R k)) dh c7 from hm)
 clear hm
 clear qrd r8
 refine qas rfl 1 0 ?_
 refine qe ?_
 clear HA0 c3 a0
 obtain ⟨n1,hn⟩:∃ n,n=(rInt 100 (rNum (gI s).2).2).1:=⟨_,rfl⟩
 obtain ⟨s1,hs1⟩:∃ z,z=(rInt 100 (rNum (gI s).2).2).2:=⟨_,rfl⟩
 have hn100_1:n1≤100:=by have:=rInt_le 100 (rNum (gI s).2).2;omega
 have HLS1:=hid (show (s1.getD []).length≤900000 by rw [hs1];exact C1 ((rInt_suf 100).len _) (C1 (rNum_suf.len _) (C1 (gI_suf.len _) HLN.o)))
 have HGL1:=hid (show Av gPm (rNum (gI s).2).2=Bt gPm n1 [] s1 by rw [hn,hs1];rfl)
 rw [← hn]
 have hq:=r9.out
 rw [← hs1] at hq
 have HR1:=B5 hq
 clear hq hn hs1 r9
 go_upto_region 3 with (fail)
 refine Aa 103 [5] [0] (fun a0 HA0=>?_)
 refine QSeq.pure rfl (.int .i64 0) (fun E=>Aw rfl rfl) ?_
 refine qe ?_
 clear HA0 a0
 go_wp2
 go_loopw [5] (fun ti wr=>∃ (k:Nat) (acc:List Pm) (st:RSt) (v:Value),ti=.int .i64 (k:Int)∧k≤n1∧acc.length=k∧(st.getD []).length≤900000∧Ru gPm n1 s1 k acc st∧c7.heap.size≤wr.heap.size∧OwS PmR 40 (fun b=>c7.heap.size≤b∧b < wr.heap.size) (fun b=>c7.heap.size≤b∧b < wr.heap.size) wr v acc∧Cs wr (c4.heap.size) ((Ba.cells (Ba.mk (gI s).1 (rNum (gI s).2).1 acc [] []) (v) (Value.slice none 0 0) (Value.slice none 0 0)):List Value).toArray 45∧RrR 100 R wr r st∧Cs wr (w.heap.size) #[.int .i64 0,.int .u64 0,.slice none 0 0,.slice none 0 0,.slice none 0 0] 45∧Mod R w wr) (fun ti _=>n1 - (intOf ti).toNat)
 case atStart=>exact ⟨0,[],s1,.slice none 0 0,rfl,Nat.zero_le _,rfl,HLS1.o,Ru.start gPm_suf _ _,B9 _,OwS.nil _ _ _ _ _,(r5.out.mod j6.out aH),HR1.o,((HB2.o.mod r7.out aH).mod j6.out aH),((HM0.o.trans r7.out (fun _ _ h=>h)).trans j6.out (fun _ _ h=>h))⟩
 case round=>
  obtain ⟨k1,acc1,st1,v1,rfl,hk,hka,hst,hru,hz,ha,hbx,hr,hk_0,hm⟩:=hrel
  obtain ⟨wl1,rfl⟩:∃ x,x=wr:=⟨_,rfl⟩
  obtain ⟨aol1,capl1,rfl⟩:=ha.shape
  have HAL1:=B5 ha
  have HBXL1:=B5 hbx
  have HRL1:=B5 hr
  have HML1:=B5 hm
  have HST1:=B5 hst
  have HRU1:=B5 hru
  have HKA1:=B5 hka
  have HKP1_0:=B5 hk_0
  clear ha hbx hr hm hst hru hka hk_0 HR1 HB2 HM0 r5
  by_cases hgo1:k1 < n1∧st1≠none
  ·obtain ⟨hlt1,hsn1⟩:=hgo1
   cases st1 with
   | none=>exact absurd rfl hsn1
   | some l1=>
    go_upto_region 4 with (fail)
    refine Aa 103 [18,19,20,21,22,23,24,25,26,27] [0,1,2,3,4,5,6,7,8,9] (fun a0 HA0=>?_)
    have c3:=ev HA0 0 rfl
    have c6:=ev HA0 4 rfl
    have d8:=ev HA0 5 rfl
    refine qmo rfl d8 ?_
    refine qmo rfl c6 ?_
    refine QSeq.pure rfl (.bool true) (fun E=>Am rfl (E.d 0 1) (E.d 1 0) (Ag _ _ _ _ _ _) (Ay _ _ _ B6) (congrArg Value.bool (decide_eq_true aM))) ?_
    refine qmv rfl 2 0 ?_
    refine AC rfl (.pointer (some ⟨r,0,none⟩)) (fun E=>((Ac rfl rfl (E.sz 21 aF) (E.d 3 0)).trans rfl)) (fun E=>Al rfl (E.v c3)) ?_
    refine AC rfl (.pointer (some ⟨r,0,none⟩)) (fun E=>((Ac rfl rfl (E.sz 21 aF) (E.d 3 1)).trans rfl)) (fun E=>ex_nil rfl (E.d 4 0)) ?_
    refine AC rfl (.pointer (some ⟨r,1,none⟩)) (fun E=>((Ac rfl rfl (E.sz 21 aF) (E.d 3 2)).trans rfl)) (fun E=>Ae rfl D6 rfl aD (E.d 5 0)) ?_
    refine AC rfl (.bool false) (fun E=>((Ac rfl rfl (E.sz 21 aF) (E.d 3 3)).trans rfl)) (fun E=>Af rfl E0 rfl (E.d 6 0) (AJ HRL1.o)) ?_
    refine AC rfl (.bool true) (fun E=>((Ac rfl rfl (E.sz 21 aF) (E.d 3 4)).trans rfl)) (fun E=>Bm rfl (E.d 7 0)) ?_
    refine QSeq.pure rfl (.bool true) (fun E=>Bg rfl (E.d 3 5) (E.d 8 0) rfl) ?_
    refine qe ?_
    clear HA0 c3 c6 d8 a0
    obtain ⟨st2_1,hp2⟩:∃ z,z=(gPm (some l1)).2:=⟨_,rfl⟩
    have HP2_1:=hid hp2.symm
    clear hp2
    have HST2_1:=hid (show (st2_1.getD []).length≤900000 by rw [← HP2_1.o];exact C1 (gPm_suf.len _) HST1.o)
    go_upto_region 6 with (fail)
    generalize ha0:Act.mk _ _=a0
    have c3:a0.eval (.tmp 0)=.pointer (some ⟨r,0,none⟩):=by rw [← ha0];rfl
    have c8:a0.eval (.tmp 3)=.pointer (some ⟨c4.heap.size,0,none⟩):=by rw [← ha0];rfl
    have hsz0:a0.tmps.size=103:=by rw [← ha0];rfl
    have HA0:=hid ha0
    clear ha0
    refine A8 103 hsz0 [30,31,32,33,34,35,36,110] (fun k=>(R k)∨(New c7 wl1 k)∨(k=c4.heap.size)) (fun k j=>(k=0∧((R j)))∨(k=2∧((New c7 wl1 j)))∨(k=3∧((j=c4.heap.size)))) bJ [qi (.pointer (some ⟨c4.heap.size,2,none⟩)),qi (.slice aol1 acc1.length capl1),qi (.pointer (some ⟨r,0,none⟩)),qv 0,qv 1,qv 2,qi (.pointer (some ⟨c4.heap.size,2,none⟩)),qv 3] ⟨Ad,Ad,Ad,Ar,Ar,Ar,Ad,Ar,trivial⟩ [3,4,5,7] ⟨?_,?_,?_,?_,?_,?_,?_,?_,trivial⟩ ?_
    ·exact stq (fun E=>Ae rfl C2 rfl aD (E.v c8))
    ·refine A5 rfl rfl rfl fun _ _ _ _ _ _ hm0 _ _ hd hub _=>?_
     have h0:=hd ⟨0,.data⟩ bD rfl _ rfl
     refine Bo rfl (Ab rfl) (Af rfl Tryz.underlying41 rfl h0 (AD (HBXL1.o.mod hm0 bH) rfl)) QE.refl ?_
     rfl
    ·exact stq (fun E=>Al rfl (E.v c3))
    ·exact Ai rfl
    ·exact Ai rfl
    ·exact Ai rfl
    ·exact stq (fun E=>Ae rfl C2 rfl aD (E.v c8))
    ·exact Ai rfl
    intro j7 hr
    have fk:=hr.size
    have s0:=hid (hr.new (S:=(fun k=>(R k)∨(New c7 wl1 k)∨(k=c4.heap.size))))
    have s5:=hid (HAL1.o.mod hr aE aE)
    clear HAL1
    have s6:=hid (HBXL1.o.mod hr aJ)
    clear HBXL1
    have s7:=hid (HRL1.o.mod hr aO)
    clear HRL1
    clear hr
    refine QChain.go fun Z act E=>?_
    refine Aq (args:=#[.pointer (some ⟨r,0,none⟩)]) rfl (Ab rfl) rfl Tryz.func54 (A0 (E.d 2)) (dPm_U.to HP2_1.o s7.out aL HST1.o) ?_
    rintro e j8 ⟨cs1,y1,rfl,qel,qrd,hy1,hm⟩
    have HY1:=B5 hy1
    clear hy1
    have fm:=hm.size
    refine ⟨_,rfl,hm.mono aX,(fun _=>rfl),?_⟩
    intro j9 hr
    have fo:=hr.size
    have l7:=hid ((qel.widen (R':=(fun k=>(New j7 j8 k))) (fun _ h=>h)).mod hr aE)
    have s8:=hid (qrd.mod hr aO)
    have hmr:=hm.two hr
    have t0:=hid (s5.out.mod hmr bC bC)
    have t1:=hid (s6.out.mod hmr bL)
    clear s5 s6
    clear hmr
    have t2:=hid (s0.out.goM hm hr aU)
    clear s0 hm hr Z act E qel qrd s7
    refine QChain.go fun Z act E=>?_
    refine qc_buildS (e:=40) (cs:=cs1) (zc:=[.int .i64 0,.int .i64 0,.int .u64 0,.slice none 0 0,.int .i64 0,.int .i64 0]) (sz:=6) rfl (Ab rfl) rfl Tryz.underlying41 aD rfl aF aF (chv (v:=.agg cs1.toArray) (E.d 3)) (PmR.len l7.out) ?_
    intro fp qrow hm
    have fq:=qrow.lt
    have ft:=hm.size
    refine ⟨hm.mono (fun _ _ h=>h.elim),(fun _=>rfl),?_⟩
    intro di hr
    have fv:=hr.size
    have l8:=hid (qrow.mod hr aJ)
    have hmr:=Mod.after hm hr
    have t4:=hid (t0.out.mod hmr aE aE)
    have t8:=hid (t1.out.mod hmr aJ)
    have t9:=hid (s8.out.mod hmr aO)
    have m7:=hid (l7.out.mod hmr aE)
    clear t0 t1 s8 l7
    clear hmr
    have u0:=hid (t2.out.go hm hr)
    clear t2 hm hr Z act E qrow
    refine QChain.go fun Z act E=>?_
    refine qc_appS (A:=PmR) (e:=40) rfl (Ab rfl) rfl (.agg #[.int .i64 0,.int .i64 0,.int .u64 0,.slice none 0 0,.int .i64 0,.int .i64 0]) 64 Tryz.underlying41 info_Pm (by rfl) (of_decide_eq_true aD) (E.d 1) (chv (v:=.slice (some ⟨j9.heap.size,0,none⟩) 1 1) (E.d 4)) (t4.out) (AI (R:=(fun k=>(New j7 j8 k)∨(k=j9.heap.size))) l8.out (m7.out.widen bB) bV) aE fV eU ?_
    intro ao12 cap12 dj qacc1 hm
    have fw:=hm.size
    refine ⟨hm.mono bM,(fun _=>rfl),?_⟩
    intro fx hr
    have fy:=hr.size
    have u1:=hid ((qacc1.widen (R':=(fun k=>(New c7 wl1 k)∨(New di dj k))) (E':=(fun k=>(New c7 wl1 k)∨(New j7 j8 k)∨(k=j9.heap.size))) (fun _ h=>h) aZ).mod hr aE aE)
    have hmr:=hm.two hr
    have u2:=hid (t8.out.mod hmr aJ)
    have u3:=hid (t9.out.mod hmr aO)
    have u4:=hid (m7.out.mod hmr aE)
    have u5:=hid (l8.out.mod hmr aJ)
    clear t8 t9 m7 l8
    clear hmr
    have u6:=hid (u0.out.goM hm hr aU)
    clear u0 hm hr Z act E qacc1 t4
    refine QChain.go fun Z act E=>?_
    refine Ah rfl (Ab rfl) rfl u2.out (off:=2) (vs:=[Value.slice ao12 (acc1.length+1) cap12]) aD fJ (by show 2+1≤5;decide) (E.d 6) (by rw [show act.eval ((.tmp 35))=_ from (chv (v:=.slice ao12 (acc1.length+1) cap12) (E.d 5))];rfl) ?_
    intro dk qc0 hm
    have qqx:Cs dk (c4.heap.size) ((Ba.cells (Ba.mk (gI s).1 (rNum (gI s).2).1 (acc1 ++ [y1]) [] []) (Value.slice ao12 (acc1.length+1) cap12) (Value.slice none 0 0) (Value.slice none 0 0)):List Value).toArray 45:=by rw [show lay _ 2 _=((Ba.cells (Ba.mk (gI s).1 (rNum (gI s).2).1 (acc1 ++ [y1]) [] []) (Value.slice ao12 (acc1.length+1) cap12) (Value.slice none 0 0) (Value.slice none 0 0)):List Value).toArray from rfl] at qc0;exact qc0
    clear qc0
    have fz:=hm.size
    refine ⟨hm.mono bM,(fun _=>rfl),?_⟩
    intro gc hr
    have gd:=hr.size
    have dl:=hid (qqx.mod hr aJ)
    have hmr:=hm.two hr
    have dm:=hid (u1.out.mod hmr aE aE)
    have dp:=hid (u3.out.mod hmr aO)
    have dq:=hid (u4.out.mod hmr aE)
    have dr:=hid (u5.out.mod hmr aJ)
    clear u1 u3 u4 u5
    clear hmr
    have u7:=hid (u6.out.goM hm hr aU)
    clear u6 hm hr Z act E qqx u2
    refine QChain.nil fun vs hl hzz hrows hne=>?_
    obtain ⟨Z,hYZ,hZb,hV⟩:=hzz
    have f2:=fvi hV hl 2
    have f3:=fvc hV hl 3
    have f4:=fvc hV hl 4
    have f5:=fvc hV hl 5
    rw [show vs=[gw vs 0,gw vs 1,gw vs 2,gw vs 3,gw vs 4,gw vs 5,gw vs 6,gw vs 7] from (Bv hl).trans rfl]
    have ha0:=HA0.o
    subst ha0
    clear HA0 hV hYZ hZb hsz0 hrows hne c3 c8
    simp only [Ax,Act.put,sIB,sCZ,sCS,List.set_nil,f2,f3,f4,f5]
    clear hl f2 f3 f4 f5
    clear dq
    clear dr
    go_upto_region 5 with (fail)
    refine Aa 103 [28,29,5] [0,1,2] (fun a0 HA0=>?_)
    have d8:=ev HA0 5 rfl
    refine QSeq.pure rfl _ (fun E=>Al rfl (E.y 2 d8)) ?_
    refine QSeq.pure rfl (.int .i64 (((k1:Nat):Int)+1)) (fun E=>Am rfl (E.d 0 0) rfl (Ag _ _ _ _ _ _) (B2 _ _ B6) (congrArg (Value.int .i64) (IntWalk.i64_in _ aM))) ?_
    refine qas rfl 1 0 ?_
    refine qe ?_
    clear HA0 d8 a0
    go_wp2
    go_roundw
    case rel=>exact ⟨k1+1,acc1 ++ [y1],st2_1,_,by go_num,by omega,by rw [C0,HKA1.o];rfl,HST2_1.o,HRU1.o.step hlt1 bD HP2_1.o HY1.o,by omega,(dm.out.widen eD cA),dl.out,dp.out,(HKP1_0.o.mod u7.out bQ),(HML1.o.trans u7.out bI)⟩
    case measure=>simp [intOf]<;>omega
  ·skip
   obtain ⟨bA1,hbA1⟩:∃ b:Bool,b=decide (((k1:Nat):Int) < ((n1:Nat):Int)):=⟨_,rfl⟩
   go_upto_region 4 with (fail)
   refine Aa 103 [18,19,20,21,22,23,24,25,26,27] [0,1,2,3,4,5,6,7,8,9] (fun a0 HA0=>?_)
   have c3:=ev HA0 0 rfl
   have c6:=ev HA0 4 rfl
   have d8:=ev HA0 5 rfl
   refine qmo rfl d8 ?_
   refine qmo rfl c6 ?_
   refine QSeq.pure rfl (.bool bA1) (fun E=>Am rfl (E.d 0 1) (E.d 1 0) (Ag _ _ _ _ _ _) (Ay _ _ _ B6) (congrArg Value.bool hbA1.symm)) ?_
   refine qmv rfl 2 0 ?_
   refine AA (b:=bA1) rfl (.pointer (some ⟨r,0,none⟩)) (fun E=>((Ac rfl rfl (E.sz 21 aF) (E.d 3 0)).trans (Ak _))) (fun E hb=>Al rfl (E.v c3)) ?_
   intro ge hw
   have u9:=hid hw
   clear hw
   refine AA (b:=bA1) rfl (.pointer (some ⟨r,0,none⟩)) (fun E=>((Ac rfl rfl (E.sz 21 aF) (E.d 3 1)).trans (Ak _))) (fun E hb=>ex_nil rfl ((E.q 4 0 u9.out).1 hb)) ?_
   intro gf hw
   have v5:=hid hw
   clear hw
   refine AA (b:=bA1) rfl (.pointer (some ⟨r,1,none⟩)) (fun E=>((Ac rfl rfl (E.sz 21 aF) (E.d 3 2)).trans (Ak _))) (fun E hb=>Ae rfl D6 rfl aD ((E.q 5 0 v5.out).1 hb)) ?_
   intro gg hw
   have v6:=hid hw
   clear hw
   refine AA (b:=bA1) rfl (.bool st1.isNone) (fun E=>((Ac rfl rfl (E.sz 21 aF) (E.d 3 3)).trans (Ak _))) (fun E hb=>Af rfl E0 rfl ((E.q 6 0 v6.out).1 hb) (AJ HRL1.o)) ?_
   intro gh hw
   have v7:=hid hw
   clear hw
   refine AA (b:=bA1) rfl (.bool (!st1.isNone)) (fun E=>((Ac rfl rfl (E.sz 21 aF) (E.d 3 4)).trans (Ak _))) (fun E hb=>Bm rfl ((E.q 7 0 v7.out).1 hb)) ?_
   intro gi hw
   have v8:=hid hw
   clear hw
   refine QSeq.pure rfl (.bool (bA1 && (!st1.isNone))) (fun E=>A6 rfl (E.d 3 5) rfl rfl (Be fun hb=>(E.q 8 0 v8.out).1 hb)) ?_
   clear u9 v5 v6 v7 v8
   refine qe ?_
   clear HA0 c3 c6 d8 a0
   rw [go_false hgo1 hbA1]
   have HF1:=hid (HRU1.o.fin hgo1 hk)
   clear hbA1 hgo1
   go_upto_region 7 with (fail)
   refine Aa 103 [37,38,4] [0,1,2] (fun a0 HA0=>?_)
   have c3:=ev HA0 0 rfl
   refine qmo rfl c3 ?_
   refine QSeq.call rfl rfl Tryz.func46 (RefRInt_R HRL1.o aF) (fun E=>An (E.d 0 0) rfl) ?_
   rintro e c9 ⟨rfl,qrd,hm⟩
   refine ⟨_,rfl,?_⟩
   have x4:=hid qrd
   have gj:=hm.size
   have j4:=hid (show Mod (fun k=>(R k)) wl1 c9 from hm)
   clear hm
   clear qrd HRL1
   refine qas rfl 1 0 ?_
   refine qe ?_
   clear HA0 c3 a0
   obtain ⟨n2,hn⟩:∃ n,n=(rInt 100 st1).1:=⟨_,rfl⟩
   obtain ⟨s2,hs1⟩:∃ z,z=(rInt 100 st1).2:=⟨_,rfl⟩
   have hn100_2:n2≤100:=by have:=rInt_le 100 st1;omega
   have HLS2:=hid (show (s2.getD []).length≤900000 by rw [hs1];exact C1 ((rInt_suf 100).len _) HST1.o)
   have HGL2:=hid (show Av gOp st1=Bt gOp n2 [] s2 by rw [hn,hs1];rfl)
   rw [← hn]
   have hq:=x4.out
   rw [← hs1] at hq
   have HR2:=B5 hq
   clear hq hn hs1 x4
   go_upto_region 8 with (fail)
   refine Aa 103 [6] [0] (fun a0 HA0=>?_)
   refine QSeq.pure rfl (.int .i64 0) (fun E=>Aw rfl rfl) ?_
   refine qe ?_
   clear HA0 a0
   go_wp2
   go_loopw [6] (fun ti wr=>∃ (k:Nat) (acc:List Op) (st:RSt) (v:Value),ti=.int .i64 (k:Int)∧k≤n2∧acc.length=k∧(st.getD []).length≤900000∧Ru gOp n2 s2 k acc st∧c9.heap.size≤wr.heap.size∧OwS OpR 54 (fun b=>c9.heap.size≤b∧b < wr.heap.size) (fun b=>c9.heap.size≤b∧b < wr.heap.size) wr v acc∧Cs wr (c4.heap.size) ((Ba.cells (Ba.mk (gI s).1 (rNum (gI s).2).1 acc1 acc []) (Value.slice aol1 acc1.length capl1) (v) (Value.slice none 0 0)):List Value).toArray 45∧RrR 100 R wr r st∧Cs wr (w.heap.size) #[.int .i64 0,.int .u64 0,.slice none 0 0,.slice none 0 0,.slice none 0 0] 45∧OwS PmR 40 (fun b=>c7.heap.size≤b∧b < wl1.heap.size) (fun b=>c7.heap.size≤b∧b < wl1.heap.size) wr (.slice aol1 acc1.length capl1) acc1∧Mod R w wr) (fun ti _=>n2 - (intOf ti).toNat)
   case atStart=>exact ⟨0,[],s2,.slice none 0 0,rfl,Nat.zero_le _,rfl,HLS2.o,Ru.start gOp_suf _ _,B9 _,OwS.nil _ _ _ _ _,(HBXL1.o.mod j4.out aH),HR2.o,(HKP1_0.o.mod j4.out aH),(HAL1.o.mod j4.out aV aV),(HML1.o.trans j4.out (fun _ _ h=>h))⟩
   case round=>
    obtain ⟨k2,acc2,st2,v2,rfl,hk,hka,hst,hru,hz,ha,hbx,hr,hk_0,hk_1,hm⟩:=hrel
    obtain ⟨wl2,rfl⟩:∃ x,x=wr:=⟨_,rfl⟩
    obtain ⟨aol2,capl2,rfl⟩:=ha.shape
    have HAL2:=B5 ha
    have HBXL2:=B5 hbx
    have HRL2:=B5 hr
    have HML2:=B5 hm
    have HST2:=B5 hst
    have HRU2:=B5 hru
    have HKA2:=B5 hka
    have HKP2_0:=B5 hk_0
    have HKP2_1:=B5 hk_1
    clear ha hbx hr hm hst hru hka hk_0 hk_1 HAL1 HBXL1 HR2 HML1 HKP1_0
    by_cases hgo2:k2 < n2∧st2≠none
    ·obtain ⟨hlt2,hsn2⟩:=hgo2
     cases st2 with
     | none=>exact absurd rfl hsn2
     | some l2=>
      go_upto_region 9 with (fail)
      refine Aa 103 [39,40,41,42,43,44,45,46,47,48] [0,1,2,3,4,5,6,7,8,9] (fun a0 HA0=>?_)
      have c3:=ev HA0 0 rfl
      have c6:=ev HA0 4 rfl
      have d9:=ev HA0 6 rfl
      refine qmo rfl d9 ?_
      refine qmo rfl c6 ?_
      refine QSeq.pure rfl (.bool true) (fun E=>Am rfl (E.d 0 1) (E.d 1 0) (Ag _ _ _ _ _ _) (Ay _ _ _ B6) (congrArg Value.bool (decide_eq_true aM))) ?_
      refine qmv rfl 2 0 ?_
      refine AC rfl (.pointer (some ⟨r,0,none⟩)) (fun E=>((Ac rfl rfl (E.sz 42 aF) (E.d 3 0)).trans rfl)) (fun E=>Al rfl (E.v c3)) ?_
      refine AC rfl (.pointer (some ⟨r,0,none⟩)) (fun E=>((Ac rfl rfl (E.sz 42 aF) (E.d 3 1)).trans rfl)) (fun E=>ex_nil rfl (E.d 4 0)) ?_
      refine AC rfl (.pointer (some ⟨r,1,none⟩)) (fun E=>((Ac rfl rfl (E.sz 42 aF) (E.d 3 2)).trans rfl)) (fun E=>Ae rfl D6 rfl aD (E.d 5 0)) ?_
      refine AC rfl (.bool false) (fun E=>((Ac rfl rfl (E.sz 42 aF) (E.d 3 3)).trans rfl)) (fun E=>Af rfl E0 rfl (E.d 6 0) (AJ HRL2.o)) ?_
      refine AC rfl (.bool true) (fun E=>((Ac rfl rfl (E.sz 42 aF) (E.d 3 4)).trans rfl)) (fun E=>Bm rfl (E.d 7 0)) ?_
      refine QSeq.pure rfl (.bool true) (fun E=>Bg rfl (E.d 3 5) (E.d 8 0) rfl) ?_
      refine qe ?_
      clear HA0 c3 c6 d9 a0
      obtain ⟨st2_2,hp2⟩:∃ z,z=(gOp (some l2)).2:=⟨_,rfl⟩
      have HP2_2:=hid hp2.symm
      clear hp2
      have HST2_2:=hid (show (st2_2.getD []).length≤900000 by rw [← HP2_2.o];exact C1 (gOp_suf.len _) HST2.o)
      go_upto_region 11 with (fail)
      generalize ha0:Act.mk _ _=a0
      have c3:a0.eval (.tmp 0)=.pointer (some ⟨r,0,none⟩):=by rw [← ha0];rfl
      have c8:a0.eval (.tmp 3)=.pointer (some ⟨c4.heap.size,0,none⟩):=by rw [← ha0];rfl
      have hsz0:a0.tmps.size=103:=by rw [← ha0];rfl
      have HA0:=hid ha0
      clear ha0
      refine A8 103 hsz0 [51,52,53,54,55,56,57,110] (fun k=>(R k)∨(New c9 wl2 k)∨(k=c4.heap.size)) (fun k j=>(k=0∧((R j)))∨(k=2∧((New c9 wl2 j)))∨(k=3∧((j=c4.heap.size)))) bJ [qi (.pointer (some ⟨c4.heap.size,3,none⟩)),qi (.slice aol2 acc2.length capl2),qi (.pointer (some ⟨r,0,none⟩)),qv 0,qv 1,qv 2,qi (.pointer (some ⟨c4.heap.size,3,none⟩)),qv 3] ⟨Ad,Ad,Ad,Ar,Ar,Ar,Ad,Ar,trivial⟩ [3,4,5,7] ⟨?_,?_,?_,?_,?_,?_,?_,?_,trivial⟩ ?_
      ·exact stq (fun E=>Ae rfl C2 rfl aD (E.v c8))
      ·refine A5 rfl rfl rfl fun _ _ _ _ _ _ hm0 _ _ hd hub _=>?_
       have h0:=hd ⟨0,.data⟩ bD rfl _ rfl
       refine Bo rfl (Ab rfl) (Af rfl Tryz.underlying42 rfl h0 (AD (HBXL2.o.mod hm0 bH) rfl)) QE.refl ?_
       rfl
      ·exact stq (fun E=>Al rfl (E.v c3))
      ·exact Ai rfl
      ·exact Ai rfl
      ·exact Ai rfl
      ·exact stq (fun E=>Ae rfl C2 rfl aD (E.v c8))
      ·exact Ai rfl
      intro m8 hr
      have gk:=hr.size
      have x5:=hid (hr.new (S:=(fun k=>(R k)∨(New c9 wl2 k)∨(k=c4.heap.size))))
      have x6:=hid (HAL2.o.mod hr aE aE)
      clear HAL2
      have x7:=hid (HBXL2.o.mod hr aJ)
      clear HBXL2
      have x8:=hid (HRL2.o.mod hr aO)
      clear HRL2
      clear hr
      refine QChain.go fun Z act E=>?_
      refine Aq (args:=#[.pointer (some ⟨r,0,none⟩)]) rfl (Ab rfl) rfl Tryz.func57 (A0 (E.d 2)) (dOp_G.toU.to HP2_2.o x8.out aL HST2.o) ?_
      rintro e m9 ⟨cs2,y2,rfl,qel,qrd,hy2,hm⟩
      have HY2:=B5 hy2
      clear hy2
      have gm:=hm.size
      refine ⟨_,rfl,hm.mono aX,(fun _=>rfl),?_⟩
      intro n5 hr
      have gn:=hr.size
      have n6:=hid ((qel.widen (R':=(fun k=>(New m8 m9 k))) (fun _ h=>h)).mod hr aE)
      have x9:=hid (qrd.mod hr aO)
      have hmr:=hm.two hr
      have y0:=hid (x6.out.mod hmr bC bC)
      have y5:=hid (x7.out.mod hmr bL)
      clear x6 x7
      clear hmr
      have y6:=hid (x5.out.goM hm hr aU)
      clear x5 hm hr Z act E qel qrd x8
      refine QChain.go fun Z act E=>?_
      refine qc_buildS (e:=54) (cs:=cs2) (zc:=[.int .i64 0,.slice none 0 0,.int .u8 0,.int .u8 0,.int .u8 0,.int .u8 0,.int .u8 0,.int .u8 0,.int .u8 0,.int .u8 0,.int .u8 0,.int .u8 0,.int .u8 0,.int .u8 0,.int .u8 0,.int .u8 0,.int .u8 0,.int .u8 0,.int .u8 0,.int .u8 0,.int .u8 0,.int .u8 0,.int .u8 0,.int .u8 0,.int .u8 0,.int .u8 0,.int .u8 0,.int .u8 0,.int .u8 0,.int .u8 0,.int .u8 0,.int .u8 0,.int .u8 0,.int .u8 0]) (sz:=34) rfl (Ab rfl) rfl Tryz.underlying42 aD rfl aF aF (chv (v:=.agg cs2.toArray) (E.d 3)) (OpR.len n6.out) ?_
      intro gq qrow hm
      have gr:=qrow.lt
      have gu:=hm.size
      refine ⟨hm.mono (fun _ _ h=>h.elim),(fun _=>rfl),?_⟩
      intro dt hr
      have gv:=hr.size
      have n7:=hid (qrow.mod hr aJ)
      have hmr:=Mod.after hm hr
      have y7:=hid (y0.out.mod hmr aE aE)
      have y8:=hid (y5.out.mod hmr aJ)
      have z0:=hid (x9.out.mod hmr aO)
      have n8:=hid (n6.out.mod hmr aE)
      clear y0 y5 x9 n6
      clear hmr
      have z7:=hid (y6.out.go hm hr)
      clear y6 hm hr Z act E qrow
      refine QChain.go fun Z act E=>?_
      refine qc_appS (A:=OpR) (e:=54) rfl (Ab rfl) rfl (.agg #[.int .i64 0,.slice none 0 0,.int .u8 0,.int .u8 0,.int .u8 0,.int .u8 0,.int .u8 0,.int .u8 0,.int .u8 0,.int .u8 0,.int .u8 0,.int .u8 0,.int .u8 0,.int .u8 0,.int .u8 0,.int .u8 0,.int .u8 0,.int .u8 0,.int .u8 0,.int .u8 0,.int .u8 0,.int .u8 0,.int .u8 0,.int .u8 0,.int .u8 0,.int .u8 0,.int .u8 0,.int .u8 0,.int .u8 0,.int .u8 0,.int .u8 0,.int .u8 0,.int .u8 0,.int .u8 0]) 64 Tryz.underlying42 info_Op (by rfl) (of_decide_eq_true aD) (E.d 1) (chv (v:=.slice (some ⟨n5.heap.size,0,none⟩) 1 1) (E.d 4)) (y7.out) (AI (R:=(fun k=>(New m8 m9 k)∨(k=n5.heap.size))) n7.out (n8.out.widen bB) bV) aE (by rw [HKA2.o];simp only [C5,C4];omega) (by rw [HKA2.o];simp only [C5,C4];rw [A7];omega) ?_
      intro ao14 cap14 du qacc2 hm
      have gx:=hm.size
      refine ⟨hm.mono bM,(fun _=>rfl),?_⟩
      intro gy hr
      have gz:=hr.size
      have z9:=hid ((qacc2.widen (R':=(fun k=>(New c9 wl2 k)∨(New dt du k))) (E':=(fun k=>(New c9 wl2 k)∨(New m8 m9 k)∨(k=n5.heap.size))) (fun _ h=>h) aZ).mod hr aE aE)
      have hmr:=hm.two hr
      have aa:=hid (y8.out.mod hmr aJ)
      have ab:=hid (z0.out.mod hmr aO)
      have ac:=hid (n8.out.mod hmr aE)
      have ae:=hid (n7.out.mod hmr aJ)
      clear y8 z0 n8 n7
      clear hmr
      have af:=hid (z7.out.goM hm hr aU)
      clear z7 hm hr Z act E qacc2 y7
      refine QChain.go fun Z act E=>?_
      refine Ah rfl (Ab rfl) rfl aa.out (off:=3) (vs:=[Value.slice ao14 (acc2.length+1) cap14]) aD fJ (by show 3+1≤5;decide) (E.d 6) (by rw [show act.eval ((.tmp 56))=_ from (chv (v:=.slice ao14 (acc2.length+1) cap14) (E.d 5))];rfl) ?_
      intro dv qc0 hm
      have qqx:Cs dv (c4.heap.size) ((Ba.cells (Ba.mk (gI s).1 (rNum (gI s).2).1 acc1 (acc2 ++ [y2]) []) (Value.slice aol1 acc1.length capl1) (Value.slice ao14 (acc2.length+1) cap14) (Value.slice none 0 0)):List Value).toArray 45:=by rw [show lay _ 3 _=((Ba.cells (Ba.mk (gI s).1 (rNum (gI s).2).1 acc1 (acc2 ++ [y2]) []) (Value.slice aol1 acc1.length capl1) (Value.slice ao14 (acc2.length+1) cap14) (Value.slice none 0 0)):List Value).toArray from rfl] at qc0;exact qc0
      clear qc0
      have ia:=hm.size
      refine ⟨hm.mono bM,(fun _=>rfl),?_⟩
      intro ib hr
      have ic:=hr.size
      have dw:=hid (qqx.mod hr aJ)
      have hmr:=hm.two hr
      have dx:=hid (z9.out.mod hmr aE aE)
      have dy:=hid (ab.out.mod hmr aO)
      have dz:=hid (ac.out.mod hmr aE)
      have eb:=hid (ae.out.mod hmr aJ)
      clear z9 ab ac ae
      clear hmr
      have o4:=hid (af.out.goM hm hr aU)
      clear af hm hr Z act E qqx aa
      refine QChain.nil fun vs hl hzz hrows hne=>?_
      obtain ⟨Z,hYZ,hZb,hV⟩:=hzz
      have f2:=fvi hV hl 2
      have f3:=fvc hV hl 3
      have f4:=fvc hV hl 4
      have f5:=fvc hV hl 5
      rw [show vs=[gw vs 0,gw vs 1,gw vs 2,gw vs 3,gw vs 4,gw vs 5,gw vs 6,gw vs 7] from (Bv hl).trans rfl]
      have ha0:=HA0.o
      subst ha0
      clear HA0 hV hYZ hZb hsz0 hrows hne c3 c8
      simp only [Ax,Act.put,sIB,sCZ,sCS,List.set_nil,f2,f3,f4,f5]
      clear hl f2 f3 f4 f5
      clear dz
      clear eb
      go_upto_region 10 with (fail)
      refine Aa 103 [49,50,6] [0,1,2] (fun a0 HA0=>?_)
      have d9:=ev HA0 6 rfl
      refine QSeq.pure rfl _ (fun E=>Al rfl (E.y 2 d9)) ?_
      refine QSeq.pure rfl (.int .i64 (((k2:Nat):Int)+1)) (fun E=>Am rfl (E.d 0 0) rfl (Ag _ _ _ _ _ _) (B2 _ _ B6) (congrArg (Value.int .i64) (IntWalk.i64_in _ aM))) ?_
      refine qas rfl 1 0 ?_
      refine qe ?_
      clear HA0 d9 a0
      go_wp2
      go_roundw
      case rel=>exact ⟨k2+1,acc2 ++ [y2],st2_2,_,by go_num,by omega,by rw [C0,HKA2.o];rfl,HST2_2.o,HRU2.o.step hlt2 bD HP2_2.o HY2.o,by omega,(dx.out.widen eD cA),dw.out,dy.out,(HKP2_0.o.mod o4.out bQ),(HKP2_1.o.mod o4.out bR bR),(HML2.o.trans o4.out bI)⟩
      case measure=>simp [intOf]<;>omega
    ·skip
     obtain ⟨bA2,hbA2⟩:∃ b:Bool,b=decide (((k2:Nat):Int) < ((n2:Nat):Int)):=⟨_,rfl⟩
     go_upto_region 9 with (fail)
     refine Aa 103 [39,40,41,42,43,44,45,46,47,48] [0,1,2,3,4,5,6,7,8,9] (fun a0 HA0=>?_)
     have c3:=ev HA0 0 rfl
     have c6:=ev HA0 4 rfl
     have d9:=ev HA0 6 rfl
     refine qmo rfl d9 ?_
     refine qmo rfl c6 ?_
     refine QSeq.pure rfl (.bool bA2) (fun E=>Am rfl (E.d 0 1) (E.d 1 0) (Ag _ _ _ _ _ _) (Ay _ _ _ B6) (congrArg Value.bool hbA2.symm)) ?_
     refine qmv rfl 2 0 ?_
     refine AA (b:=bA2) rfl (.pointer (some ⟨r,0,none⟩)) (fun E=>((Ac rfl rfl (E.sz 42 aF) (E.d 3 0)).trans (Ak _))) (fun E hb=>Al rfl (E.v c3)) ?_
     intro ig hw
     have ag:=hid hw
     clear hw
     refine AA (b:=bA2) rfl (.pointer (some ⟨r,0,none⟩)) (fun E=>((Ac rfl rfl (E.sz 42 aF) (E.d 3 1)).trans (Ak _))) (fun E hb=>ex_nil rfl ((E.q 4 0 ag.out).1 hb)) ?_
     intro ii hw
     have ah:=hid hw
     clear hw
     refine AA (b:=bA2) rfl (.pointer (some ⟨r,1,none⟩)) (fun E=>((Ac rfl rfl (E.sz 42 aF) (E.d 3 2)).trans (Ak _))) (fun E hb=>Ae rfl D6 rfl aD ((E.q 5 0 ah.out).1 hb)) ?_
     intro ij hw
     have ai:=hid hw
     clear hw
     refine AA (b:=bA2) rfl (.bool st2.isNone) (fun E=>((Ac rfl rfl (E.sz 42 aF) (E.d 3 3)).trans (Ak _))) (fun E hb=>Af rfl E0 rfl ((E.q 6 0 ai.out).1 hb) (AJ HRL2.o)) ?_
     intro ik hw
     have aj:=hid hw
     clear hw
     refine AA (b:=bA2) rfl (.bool (!st2.isNone)) (fun E=>((Ac rfl rfl (E.sz 42 aF) (E.d 3 4)).trans (Ak _))) (fun E hb=>Bm rfl ((E.q 7 0 aj.out).1 hb)) ?_
     intro il hw
     have am:=hid hw
     clear hw
     refine QSeq.pure rfl (.bool (bA2 && (!st2.isNone))) (fun E=>A6 rfl (E.d 3 5) rfl rfl (Be fun hb=>(E.q 8 0 am.out).1 hb)) ?_
     clear ag ah ai aj am
     refine qe ?_
     clear HA0 c3 c6 d9 a0
     rw [go_false hgo2 hbA2]
     have HF2:=hid (HRU2.o.fin hgo2 hk)
     clear hbA2 hgo2
     go_upto_region 12 with (fail)
     refine Aa 103 [58,59,4] [0,1,2] (fun a0 HA0=>?_)
     have c3:=ev HA0 0 rfl
     refine qmo rfl c3 ?_
     refine QSeq.call rfl rfl Tryz.func46 (RefRInt_R HRL2.o aF) (fun E=>An (E.d 0 0) rfl) ?_
     rintro e d6 ⟨rfl,qrd,hm⟩
     refine ⟨_,rfl,?_⟩
     have ap:=hid qrd
     have im:=hm.size
     have i8:=hid (show Mod (fun k=>(R k)) wl2 d6 from hm)
     clear hm
     clear qrd HRL2
     refine qas rfl 1 0 ?_
     refine qe ?_
     clear HA0 c3 a0
     obtain ⟨n3,hn⟩:∃ n,n=(rInt 100 st2).1:=⟨_,rfl⟩
     obtain ⟨s3,hs1⟩:∃ z,z=(rInt 100 st2).2:=⟨_,rfl⟩
     have hn100_3:n3≤100:=by have:=rInt_le 100 st2;omega
     have HLS3:=hid (show (s3.getD []).length≤900000 by rw [hs1];exact C1 ((rInt_suf 100).len _) HST2.o)
     have HGL3:=hid (show Av gTb st2=Bt gTb n3 [] s3 by rw [hn,hs1];rfl)
     rw [← hn]
     have hq:=ap.out
     rw [← hs1] at hq
     have HR3:=B5 hq
     clear hq hn hs1 ap
     go_upto_region 13 with (fail)
     refine Aa 103 [7] [0] (fun a0 HA0=>?_)
     refine QSeq.pure rfl (.int .i64 0) (fun E=>Aw rfl rfl) ?_
     refine qe ?_
     clear HA0 a0
     go_wp2
     go_loopw [7] (fun ti wr=>∃ (k:Nat) (acc:List Tb) (st:RSt) (v:Value),ti=.int .i64 (k:Int)∧k≤n3∧acc.length=k∧(st.getD []).length≤900000∧Ru gTb n3 s3 k acc st∧d6.heap.size≤wr.heap.size∧OwS TbR 127 (fun b=>d6.heap.size≤b∧b < wr.heap.size) (fun b=>d6.heap.size≤b∧b < wr.heap.size) wr v acc∧Cs wr (c4.heap.size) ((Ba.cells (Ba.mk (gI s).1 (rNum (gI s).2).1 acc1 acc2 acc) (Value.slice aol1 acc1.length capl1) (Value.slice aol2 acc2.length capl2) (v)):List Value).toArray 45∧RrR 100 R wr r st∧Cs wr (w.heap.size) #[.int .i64 0,.int .u64 0,.slice none 0 0,.slice none 0 0,.slice none 0 0] 45∧OwS PmR 40 (fun b=>c7.heap.size≤b∧b < wl1.heap.size) (fun b=>c7.heap.size≤b∧b < wl1.heap.size) wr (.slice aol1 acc1.length capl1) acc1∧OwS OpR 54 (fun b=>c9.heap.size≤b∧b < wl2.heap.size) (fun b=>c9.heap.size≤b∧b < wl2.heap.size) wr (.slice aol2 acc2.length capl2) acc2∧Mod R w wr) (fun ti _=>n3 - (intOf ti).toNat)
     case atStart=>exact ⟨0,[],s3,.slice none 0 0,rfl,Nat.zero_le _,rfl,HLS3.o,Ru.start gTb_suf _ _,B9 _,OwS.nil _ _ _ _ _,(HBXL2.o.mod i8.out aH),HR3.o,(HKP2_0.o.mod i8.out aH),(HKP2_1.o.mod i8.out aV aV),(HAL2.o.mod i8.out aV aV),(HML2.o.trans i8.out (fun _ _ h=>h))⟩
     case round=>
      obtain ⟨k3,acc3,st3,v3,rfl,hk,hka,hst,hru,hz,ha,hbx,hr,hk_0,hk_1,hk_2,hm⟩:=hrel
      obtain ⟨wl3,rfl⟩:∃ x,x=wr:=⟨_,rfl⟩
      obtain ⟨aol3,capl3,rfl⟩:=ha.shape
      have HAL3:=B5 ha
      have HBXL3:=B5 hbx
      have HRL3:=B5 hr
      have HML3:=B5 hm
      have HST3:=B5 hst
      have HRU3:=B5 hru
      have HKA3:=B5 hka
      have HKP3_0:=B5 hk_0
      have HKP3_1:=B5 hk_1
      have HKP3_2:=B5 hk_2
      clear ha hbx hr hm hst hru hka hk_0 hk_1 hk_2 HAL2 HBXL2 HR3 HML2 HKP2_0 HKP2_1
      by_cases hgo3:k3 < n3∧st3≠none
      ·obtain ⟨hlt3,hsn3⟩:=hgo3
       cases st3 with
       | none=>exact absurd rfl hsn3
       | some l3=>
        go_upto_region 14 with (fail)
        refine Aa 103 [60,61,62,63,64,65,66,67,68,69] [0,1,2,3,4,5,6,7,8,9] (fun a0 HA0=>?_)
        have c3:=ev HA0 0 rfl
        have c6:=ev HA0 4 rfl
        have g5:=ev HA0 7 rfl
        refine qmo rfl g5 ?_
        refine qmo rfl c6 ?_
        refine QSeq.pure rfl (.bool true) (fun E=>Am rfl (E.d 0 1) (E.d 1 0) (Ag _ _ _ _ _ _) (Ay _ _ _ B6) (congrArg Value.bool (decide_eq_true aM))) ?_
        refine qmv rfl 2 0 ?_
        refine AC rfl (.pointer (some ⟨r,0,none⟩)) (fun E=>((Ac rfl rfl (E.sz 63 aF) (E.d 3 0)).trans rfl)) (fun E=>Al rfl (E.v c3)) ?_
        refine AC rfl (.pointer (some ⟨r,0,none⟩)) (fun E=>((Ac rfl rfl (E.sz 63 aF) (E.d 3 1)).trans rfl)) (fun E=>ex_nil rfl (E.d 4 0)) ?_
        refine AC rfl (.pointer (some ⟨r,1,none⟩)) (fun E=>((Ac rfl rfl (E.sz 63 aF) (E.d 3 2)).trans rfl)) (fun E=>Ae rfl D6 rfl aD (E.d 5 0)) ?_
        refine AC rfl (.bool false) (fun E=>((Ac rfl rfl (E.sz 63 aF) (E.d 3 3)).trans rfl)) (fun E=>Af rfl E0 rfl (E.d 6 0) (AJ HRL3.o)) ?_
        refine AC rfl (.bool true) (fun E=>((Ac rfl rfl (E.sz 63 aF) (E.d 3 4)).trans rfl)) (fun E=>Bm rfl (E.d 7 0)) ?_
        refine QSeq.pure rfl (.bool true) (fun E=>Bg rfl (E.d 3 5) (E.d 8 0) rfl) ?_
        refine qe ?_
        clear HA0 c3 c6 g5 a0
        go_upto_region 16 with (fail)
        refine Aa 103 [72,73,74,8,107] [0,1,2,3,4] (fun a0 HA0=>?_)
        have c3:=ev HA0 0 rfl
        refine qmo rfl c3 ?_
        refine QSeq.call rfl rfl Tryz.func46 (dI_Q HRL3.o) (fun E=>An (E.d 0 0) rfl) ?_
        rintro e d7 ⟨rfl,qrd,hm⟩
        refine ⟨_,rfl,?_⟩
        have aq:=hid qrd
        have io:=hm.size
        have ar:=hid (show Mod (fun k=>(R k)) wl3 d7 from hm)
        clear hm
        clear qrd HRL3
        refine QSeq.go fun act E=>?_
        refine Br rfl (Ab rfl) (v:=.agg ((Tb.cells (Tb.mk (gI (some l3)).1 []) (Value.slice none 0 0)):List Value).toArray) (Bj rfl (z:=[.int .i64 0,.slice none 0 0]) (places:=[(0,1),(1,1)]) aD (parts:=[(0,.int .i64 (gI (some l3)).1)]) (by simp only [C7,C9,D0,show act.eval (.tmp 73)=.int .i64 (gI (some l3)).1 from (E.d 1 0)];try rfl) (r:=(Tb.cells (Tb.mk (gI (some l3)).1 []) (Value.slice none 0 0))) (by exact Bi (ns:=[1,1]) rfl [(0,.int .i64 (gI (some l3)).1)] [[.int .i64 0],[.slice none 0 0]] rfl ⟨rfl,trivial⟩)) ?_
        clear act E
        refine QSeq.go fun act E=>?_
        refine B3 rfl (Ab rfl) rfl (z:=[.int .i64 0,.slice none 0 0]) aD ?_
        intro ip qqt hm
        have iq:=qqt.lt
        have au:=hid qqt
        have ir:=hm.size
        have av:=hid hm
        have aw:=hid (ar.out.goE hm)
        clear hm ar
        clear act E qqt
        refine QSeq.go fun act E=>?_
        have hlz:((Tb.cells (Tb.mk (gI (some l3)).1 []) (Value.slice none 0 0))).length=List.length ([.int .i64 0,.slice none 0 0]:List Value):=rfl
        refine Ah rfl (Ab rfl) rfl au.out (off:=0) (vs:=(Tb.cells (Tb.mk (gI (some l3)).1 []) (Value.slice none 0 0))) cO gF bK (E.d 3 0) (ec (E.d 2 1)) ?_
        intro ed qc0 hm
        have qqt:=qc0.eqv (b:=((Tb.cells (Tb.mk (gI (some l3)).1 []) (Value.slice none 0 0)):List Value).toArray) (Ap #[.int .i64 0,.slice none 0 0] _ dO)
        clear qc0 hlz
        have ax:=hid qqt
        have iu:=hm.size
        have ay:=hid hm
        have g8:=hid (AB (S':=(fun k=>(R k))) aw.out hm (fun _ h=>h) cG)
        clear hm aw
        clear act E qqt au
        have az:=hid ((aq.out.mod av.out (fun _ _ h=>h)).mod ay.out (sB HBR))
        clear aq av ay
        refine qe ?_
        clear HA0 c3 a0
        go_upto_region 17 with (fail)
        refine Aa 103 [75,76,9] [0,1,2] (fun a0 HA0=>?_)
        have c3:=ev HA0 0 rfl
        refine qmo rfl c3 ?_
        refine QSeq.call rfl rfl Tryz.func46 (RefRInt_R az.out aF) (fun E=>An (E.d 0 0) rfl) ?_
        rintro e d5 ⟨rfl,qrd,hm⟩
        refine ⟨_,rfl,?_⟩
        have bc:=hid qrd
        have iv:=hm.size
        have g7:=hid (show Mod (fun k=>(R k)) ed d5 from hm)
        clear hm
        clear qrd az
        refine qas rfl 1 0 ?_
        refine qe ?_
        clear HA0 c3 a0
        obtain ⟨n4,hn⟩:∃ n,n=(rInt 100 (gI (some l3)).2).1:=⟨_,rfl⟩
        obtain ⟨s4,hs1⟩:∃ z,z=(rInt 100 (gI (some l3)).2).2:=⟨_,rfl⟩
        have hn100_4:n4≤100:=by have:=rInt_le 100 (gI (some l3)).2;omega
        have HLS4:=hid (show (s4.getD []).length≤900000 by rw [hs1];exact C1 ((rInt_suf 100).len _) (C1 (gI_suf.len _) HST3.o))
        have HGL4:=hid (show Av gDn (gI (some l3)).2=Bt gDn n4 [] s4 by rw [hn,hs1];rfl)
        rw [← hn]
        have hq:=bc.out
        rw [← hs1] at hq
        have HR4:=B5 hq
        clear hq hn hs1 bc
        go_upto_region 18 with (fail)
        refine Aa 103 [10] [0] (fun a0 HA0=>?_)
        refine QSeq.pure rfl (.int .i64 0) (fun E=>Aw rfl rfl) ?_
        refine qe ?_
        clear HA0 a0
        go_wp2
        go_loopw [10] (fun ti wr=>∃ (k:Nat) (acc:List Dn) (st:RSt) (v:Value),ti=.int .i64 (k:Int)∧k≤n4∧acc.length=k∧(st.getD []).length≤900000∧Ru gDn n4 s4 k acc st∧d5.heap.size≤wr.heap.size∧OwS DnR 56 (fun b=>d5.heap.size≤b∧b < wr.heap.size) (fun b=>d5.heap.size≤b∧b < wr.heap.size) wr v acc∧Cs wr (d7.heap.size) ((Tb.cells (Tb.mk (gI (some l3)).1 acc) (v)):List Value).toArray 127∧RrR 100 R wr r st∧Cs wr (w.heap.size) #[.int .i64 0,.int .u64 0,.slice none 0 0,.slice none 0 0,.slice none 0 0] 45∧OwS PmR 40 (fun b=>c7.heap.size≤b∧b < wl1.heap.size) (fun b=>c7.heap.size≤b∧b < wl1.heap.size) wr (.slice aol1 acc1.length capl1) acc1∧OwS OpR 54 (fun b=>c9.heap.size≤b∧b < wl2.heap.size) (fun b=>c9.heap.size≤b∧b < wl2.heap.size) wr (.slice aol2 acc2.length capl2) acc2∧Cs wr (c4.heap.size) ((Ba.cells (Ba.mk (gI s).1 (rNum (gI s).2).1 acc1 acc2 acc3) (Value.slice aol1 acc1.length capl1) (Value.slice aol2 acc2.length capl2) (Value.slice aol3 acc3.length capl3)):List Value).toArray 45∧OwS TbR 127 (fun b=>d6.heap.size≤b∧b < wl3.heap.size) (fun b=>d6.heap.size≤b∧b < wl3.heap.size) wr (.slice aol3 acc3.length capl3) acc3∧Mod R w wr) (fun ti _=>n4 - (intOf ti).toNat)
        case atStart=>exact ⟨0,[],s4,.slice none 0 0,rfl,Nat.zero_le _,rfl,HLS4.o,Ru.start gDn_suf _ _,B9 _,OwS.nil _ _ _ _ _,(ax.out.mod g7.out aH),HR4.o,((HKP3_0.o.mod g8.out aH).mod g7.out aH),((HKP3_1.o.mod g8.out aV aV).mod g7.out aV aV),((HKP3_2.o.mod g8.out aV aV).mod g7.out aV aV),((HBXL3.o.mod g8.out aH).mod g7.out aH),((HAL3.o.mod g8.out aV aV).mod g7.out aV aV),((HML3.o.trans g8.out (fun _ _ h=>h)).trans g7.out (fun _ _ h=>h))⟩
        case round=>
         obtain ⟨k4,acc4,st4,v4,rfl,hk,hka,hst,hru,hz,ha,hbx,hr,hk_0,hk_1,hk_2,hk_3,hk_4,hm⟩:=hrel
         obtain ⟨wl4,rfl⟩:∃ x,x=wr:=⟨_,rfl⟩
         obtain ⟨aol4,capl4,rfl⟩:=ha.shape
         have HAL4:=B5 ha
         have HBXL4:=B5 hbx
         have HRL4:=B5 hr
         have HML4:=B5 hm
         have HST4:=B5 hst
         have HRU4:=B5 hru
         have HKA4:=B5 hka
         have HKP4_0:=B5 hk_0
         have HKP4_1:=B5 hk_1
         have HKP4_2:=B5 hk_2
         have HKP4_3:=B5 hk_3
         have HKP4_4:=B5 hk_4
         clear ha hbx hr hm hst hru hka hk_0 hk_1 hk_2 hk_3 hk_4 HAL3 HBXL3 HR4 HML3 HKP3_0 HKP3_1 HKP3_2 ax
         by_cases hgo4:k4 < n4∧st4≠none
         ·obtain ⟨hlt4,hsn4⟩:=hgo4
          cases st4 with
          | none=>exact absurd rfl hsn4
          | some l4=>
           go_upto_region 19 with (fail)
           refine Aa 103 [77,78,79,80,81,82,83,84,85,86] [0,1,2,3,4,5,6,7,8,9] (fun a0 HA0=>?_)
           have c3:=ev HA0 0 rfl
           have i9:=ev HA0 9 rfl
           have g6:=ev HA0 10 rfl
           refine qmo rfl g6 ?_
           refine qmo rfl i9 ?_
           refine QSeq.pure rfl (.bool true) (fun E=>Am rfl (E.d 0 1) (E.d 1 0) (Ag _ _ _ _ _ _) (Ay _ _ _ B6) (congrArg Value.bool (decide_eq_true aM))) ?_
           refine qmv rfl 2 0 ?_
           refine AC rfl (.pointer (some ⟨r,0,none⟩)) (fun E=>((Ac rfl rfl (E.sz 80 aF) (E.d 3 0)).trans rfl)) (fun E=>Al rfl (E.v c3)) ?_
           refine AC rfl (.pointer (some ⟨r,0,none⟩)) (fun E=>((Ac rfl rfl (E.sz 80 aF) (E.d 3 1)).trans rfl)) (fun E=>ex_nil rfl (E.d 4 0)) ?_
           refine AC rfl (.pointer (some ⟨r,1,none⟩)) (fun E=>((Ac rfl rfl (E.sz 80 aF) (E.d 3 2)).trans rfl)) (fun E=>Ae rfl D6 rfl aD (E.d 5 0)) ?_
           refine AC rfl (.bool false) (fun E=>((Ac rfl rfl (E.sz 80 aF) (E.d 3 3)).trans rfl)) (fun E=>Af rfl E0 rfl (E.d 6 0) (AJ HRL4.o)) ?_
           refine AC rfl (.bool true) (fun E=>((Ac rfl rfl (E.sz 80 aF) (E.d 3 4)).trans rfl)) (fun E=>Bm rfl (E.d 7 0)) ?_
           refine QSeq.pure rfl (.bool true) (fun E=>Bg rfl (E.d 3 5) (E.d 8 0) rfl) ?_
           refine qe ?_
           clear HA0 c3 i9 g6 a0
           obtain ⟨st2_4,hp2⟩:∃ z,z=(gDn (some l4)).2:=⟨_,rfl⟩
           have HP2_4:=hid hp2.symm
           clear hp2
           have HST2_4:=hid (show (st2_4.getD []).length≤900000 by rw [← HP2_4.o];exact C1 (gDn_suf.len _) HST4.o)
           go_upto_region 21 with (fail)
           generalize ha0:Act.mk _ _=a0
           have c3:a0.eval (.tmp 0)=.pointer (some ⟨r,0,none⟩):=by rw [← ha0];rfl
           have g9:a0.eval (.tmp 8)=.pointer (some ⟨d7.heap.size,0,none⟩):=by rw [← ha0];rfl
           have hsz0:a0.tmps.size=103:=by rw [← ha0];rfl
           have HA0:=hid ha0
           clear ha0
           refine A8 103 hsz0 [89,90,91,92,93,94,95,110] (fun k=>(R k)∨(New d5 wl4 k)∨(k=d7.heap.size)) (fun k j=>(k=0∧((R j)))∨(k=2∧((New d5 wl4 j)))∨(k=3∧((j=d7.heap.size)))) bJ [qi (.pointer (some ⟨d7.heap.size,1,none⟩)),qi (.slice aol4 acc4.length capl4),qi (.pointer (some ⟨r,0,none⟩)),qv 0,qv 1,qv 2,qi (.pointer (some ⟨d7.heap.size,1,none⟩)),qv 3] ⟨Ad,Ad,Ad,Ar,Ar,Ar,Ad,Ar,trivial⟩ [3,4,5,7] ⟨?_,?_,?_,?_,?_,?_,?_,?_,trivial⟩ ?_
           ·exact stq (fun E=>Ae rfl D2 rfl aD (E.v g9))
           ·refine A5 rfl rfl rfl fun _ _ _ _ _ _ hm0 _ _ hd hub _=>?_
            have h0:=hd ⟨0,.data⟩ bD rfl _ rfl
            refine Bo rfl (Ab rfl) (Af rfl Tryz.underlying125 rfl h0 (AD (HBXL4.o.mod hm0 bH) rfl)) QE.refl ?_
            rfl
           ·exact stq (fun E=>Al rfl (E.v c3))
           ·exact Ai rfl
           ·exact Ai rfl
           ·exact Ai rfl
           ·exact stq (fun E=>Ae rfl D2 rfl aD (E.v g9))
           ·exact Ai rfl
           intro o5 hr
           have iw:=hr.size
           have bf:=hid (hr.new (S:=(fun k=>(R k)∨(New d5 wl4 k)∨(k=d7.heap.size))))
           have bg:=hid (HAL4.o.mod hr aE aE)
           clear HAL4
           have bh:=hid (HBXL4.o.mod hr aJ)
           clear HBXL4
           have bi:=hid (HRL4.o.mod hr aO)
           clear HRL4
           clear hr
           refine QChain.go fun Z act E=>?_
           refine Aq (args:=#[.pointer (some ⟨r,0,none⟩)]) rfl (Ab rfl) rfl Tryz.func58 (A0 (E.d 2)) (dDn_G.toU.to HP2_4.o bi.out aL HST4.o) ?_
           rintro e o6 ⟨cs4,y4,rfl,qel,qrd,hy4,hm⟩
           have HY4:=B5 hy4
           clear hy4
           have iy:=hm.size
           refine ⟨_,rfl,hm.mono aX,(fun _=>rfl),?_⟩
           intro o7 hr
           have iz:=hr.size
           have o8:=hid ((qel.widen (R':=(fun k=>(New o5 o6 k))) (fun _ h=>h)).mod hr aE)
           have bj:=hid (qrd.mod hr aO)
           have hmr:=hm.two hr
           have bk:=hid (bg.out.mod hmr bC bC)
           have bl:=hid (bh.out.mod hmr bL)
           clear bg bh
           clear hmr
           have bm:=hid (bf.out.goM hm hr aU)
           clear bf hm hr Z act E qel qrd bi
           refine QChain.go fun Z act E=>?_
           refine qc_buildS (e:=56) (cs:=cs4) (zc:=[.int .i64 0,.int .i64 0,.int .i64 0,.int .i64 0]) (sz:=4) rfl (Ab rfl) rfl Tryz.underlying125 aD rfl aF aF (chv (v:=.agg cs4.toArray) (E.d 3)) (DnR.len o8.out) ?_
           intro ja qrow hm
           have jb:=qrow.lt
           have jc:=hm.size
           refine ⟨hm.mono (fun _ _ h=>h.elim),(fun _=>rfl),?_⟩
           intro ee hr
           have jd:=hr.size
           have o9:=hid (qrow.mod hr aJ)
           have hmr:=Mod.after hm hr
           have bn:=hid (bk.out.mod hmr aE aE)
           have bp:=hid (bl.out.mod hmr aJ)
           have bq:=hid (bj.out.mod hmr aO)
           have p4:=hid (o8.out.mod hmr aE)
           clear bk bl bj o8
           clear hmr
           have br:=hid (bm.out.go hm hr)
           clear bm hm hr Z act E qrow
           refine QChain.go fun Z act E=>?_
           refine qc_appS (A:=DnR) (e:=56) rfl (Ab rfl) rfl (.agg #[.int .i64 0,.int .i64 0,.int .i64 0,.int .i64 0]) 32 Tryz.underlying125 info_Dn (by rfl) (of_decide_eq_true aD) (E.d 1) (chv (v:=.slice (some ⟨o7.heap.size,0,none⟩) 1 1) (E.d 4)) (bn.out) (AI (R:=(fun k=>(New o5 o6 k)∨(k=o7.heap.size))) o9.out (p4.out.widen bB) bV) aE (by rw [HKA4.o];simp only [C5,C4];omega) (by rw [HKA4.o];simp only [C5,C4];rw [A7];omega) ?_
           intro ao21 cap21 eg qacc4 hm
           have je:=hm.size
           refine ⟨hm.mono bM,(fun _=>rfl),?_⟩
           intro jf hr
           have jg:=hr.size
           have bt:=hid ((qacc4.widen (R':=(fun k=>(New d5 wl4 k)∨(New ee eg k))) (E':=(fun k=>(New d5 wl4 k)∨(New o5 o6 k)∨(k=o7.heap.size))) (fun _ h=>h) aZ).mod hr aE aE)
           have hmr:=hm.two hr
           have bu:=hid (bp.out.mod hmr aJ)
           have bw:=hid (bq.out.mod hmr aO)
           have bx:=hid (p4.out.mod hmr aE)
           have bz:=hid (o9.out.mod hmr aJ)
           clear bp bq p4 o9
           clear hmr
           have cd:=hid (br.out.goM hm hr aU)
           clear br hm hr Z act E qacc4 bn
           refine QChain.go fun Z act E=>?_
           refine Ah rfl (Ab rfl) rfl bu.out (off:=1) (vs:=[Value.slice ao21 (acc4.length+1) cap21]) aD fJ (by show 1+1≤2;decide) (E.d 6) (by rw [show act.eval ((.tmp 94))=_ from (chv (v:=.slice ao21 (acc4.length+1) cap21) (E.d 5))];rfl) ?_
           intro eh qc0 hm
           have qqt:Cs eh (d7.heap.size) ((Tb.cells (Tb.mk (gI (some l3)).1 (acc4 ++ [y4])) (Value.slice ao21 (acc4.length+1) cap21)):List Value).toArray 127:=by rw [show lay _ 1 _=((Tb.cells (Tb.mk (gI (some l3)).1 (acc4 ++ [y4])) (Value.slice ao21 (acc4.length+1) cap21)):List Value).toArray from rfl] at qc0;exact qc0
           clear qc0
           have jh:=hm.size
           refine ⟨hm.mono bM,(fun _=>rfl),?_⟩
           intro ji hr
           have jj:=hr.size
           have ei:=hid (qqt.mod hr aJ)
           have hmr:=hm.two hr
           have ej:=hid (bt.out.mod hmr aE aE)
           have eo:=hid (bw.out.mod hmr aO)
           have eq:=hid (bx.out.mod hmr aE)
           have er:=hid (bz.out.mod hmr aJ)
           clear bt bw bx bz
           clear hmr
           have i7:=hid (cd.out.goM hm hr aU)
           clear cd hm hr Z act E qqt bu
           refine QChain.nil fun vs hl hzz hrows hne=>?_
           obtain ⟨Z,hYZ,hZb,hV⟩:=hzz
           have f2:=fvi hV hl 2
           have f3:=fvc hV hl 3
           have f4:=fvc hV hl 4
           have f5:=fvc hV hl 5
           rw [show vs=[gw vs 0,gw vs 1,gw vs 2,gw vs 3,gw vs 4,gw vs 5,gw vs 6,gw vs 7] from (Bv hl).trans rfl]
           have ha0:=HA0.o
           subst ha0
           clear HA0 hV hYZ hZb hsz0 hrows hne c3 g9
           simp only [Ax,Act.put,sIB,sCZ,sCS,List.set_nil,f2,f3,f4,f5]
           clear hl f2 f3 f4 f5
           clear eq
           clear er
           go_upto_region 20 with (fail)
           refine Aa 103 [87,88,10] [0,1,2] (fun a0 HA0=>?_)
           have g6:=ev HA0 10 rfl
           refine QSeq.pure rfl _ (fun E=>Al rfl (E.y 2 g6)) ?_
           refine QSeq.pure rfl (.int .i64 (((k4:Nat):Int)+1)) (fun E=>Am rfl (E.d 0 0) rfl (Ag _ _ _ _ _ _) (B2 _ _ B6) (congrArg (Value.int .i64) (IntWalk.i64_in _ aM))) ?_
           refine qas rfl 1 0 ?_
           refine qe ?_
           clear HA0 g6 a0
           go_wp2
           go_roundw
           case rel=>exact ⟨k4+1,acc4 ++ [y4],st2_4,_,by go_num,by omega,by rw [C0,HKA4.o];rfl,HST2_4.o,HRU4.o.step hlt4 bD HP2_4.o HY4.o,by omega,(ej.out.widen eD cA),ei.out,eo.out,(HKP4_0.o.mod i7.out bQ),(HKP4_1.o.mod i7.out bR bR),(HKP4_2.o.mod i7.out bR bR),(HKP4_3.o.mod i7.out bQ),(HKP4_4.o.mod i7.out bR bR),(HML4.o.trans i7.out bI)⟩
           case measure=>simp [intOf]<;>omega
         ·skip
          obtain ⟨bA4,hbA4⟩:∃ b:Bool,b=decide (((k4:Nat):Int) < ((n4:Nat):Int)):=⟨_,rfl⟩
          go_upto_region 19 with (fail)
          refine Aa 103 [77,78,79,80,81,82,83,84,85,86] [0,1,2,3,4,5,6,7,8,9] (fun a0 HA0=>?_)
          have c3:=ev HA0 0 rfl
          have i9:=ev HA0 9 rfl
          have g6:=ev HA0 10 rfl
          refine qmo rfl g6 ?_
          refine qmo rfl i9 ?_
          refine QSeq.pure rfl (.bool bA4) (fun E=>Am rfl (E.d 0 1) (E.d 1 0) (Ag _ _ _ _ _ _) (Ay _ _ _ B6) (congrArg Value.bool hbA4.symm)) ?_
          refine qmv rfl 2 0 ?_
          refine AA (b:=bA4) rfl (.pointer (some ⟨r,0,none⟩)) (fun E=>((Ac rfl rfl (E.sz 80 aF) (E.d 3 0)).trans (Ak _))) (fun E hb=>Al rfl (E.v c3)) ?_
          intro jk hw
          have cf:=hid hw
          clear hw
          refine AA (b:=bA4) rfl (.pointer (some ⟨r,0,none⟩)) (fun E=>((Ac rfl rfl (E.sz 80 aF) (E.d 3 1)).trans (Ak _))) (fun E hb=>ex_nil rfl ((E.q 4 0 cf.out).1 hb)) ?_
          intro jl hw
          have cg:=hid hw
          clear hw
          refine AA (b:=bA4) rfl (.pointer (some ⟨r,1,none⟩)) (fun E=>((Ac rfl rfl (E.sz 80 aF) (E.d 3 2)).trans (Ak _))) (fun E hb=>Ae rfl D6 rfl aD ((E.q 5 0 cg.out).1 hb)) ?_
          intro jm hw
          have ch:=hid hw
          clear hw
          refine AA (b:=bA4) rfl (.bool st4.isNone) (fun E=>((Ac rfl rfl (E.sz 80 aF) (E.d 3 3)).trans (Ak _))) (fun E hb=>Af rfl E0 rfl ((E.q 6 0 ch.out).1 hb) (AJ HRL4.o)) ?_
          intro jn hw
          have ci:=hid hw
          clear hw
          refine AA (b:=bA4) rfl (.bool (!st4.isNone)) (fun E=>((Ac rfl rfl (E.sz 80 aF) (E.d 3 4)).trans (Ak _))) (fun E hb=>Bm rfl ((E.q 7 0 ci.out).1 hb)) ?_
          intro jo hw
          have cj:=hid hw
          clear hw
          refine QSeq.pure rfl (.bool (bA4 && (!st4.isNone))) (fun E=>A6 rfl (E.d 3 5) rfl rfl (Be fun hb=>(E.q 8 0 cj.out).1 hb)) ?_
          clear cf cg ch ci cj
          refine qe ?_
          clear HA0 c3 i9 g6 a0
          rw [go_false hgo4 hbA4]
          have HF4:=hid (HRU4.o.fin hgo4 hk)
          clear hbA4 hgo4
          have HEL:=hid (show TbR.rd (fun k=>(New d5 wl4 k)) wl4 (Tb.cells (Tb.mk (gI (some l3)).1 acc4) (Value.slice aol4 acc4.length capl4)) (Tb.mk (gI (some l3)).1 acc4) from ⟨_,rfl,A9 _,HAL4.o.rd.widen cE⟩)
          go_upto_region 22 with (fail)
          refine Aa 103 [96,97,98,99,100,101,109] [0,1,2,3,4,5,6] (fun a0 HA0=>?_)
          have c8:=ev HA0 3 rfl
          have g9:=ev HA0 8 rfl
          refine qfd rfl 4 C2 c8 ?_
          refine QSeq.pure rfl _ (fun E=>Af rfl C8 rfl (E.d 0 0) (AD HKP4_3.o rfl)) ?_
          refine QSeq.pure rfl _ (fun E=>Aj rfl D2 rfl (off:=0) (cs:=(Tb.cells (Tb.mk (gI (some l3)).1 acc4) (Value.slice aol4 acc4.length capl4))) aD (E.v g9) (Cs.whole HBXL4.o)) ?_
          refine QSeq.go fun act E=>?_
          refine qc_buildS (e:=127) (cs:=(Tb.cells (Tb.mk (gI (some l3)).1 acc4) (Value.slice aol4 acc4.length capl4))) (zc:=[.int .i64 0,.slice none 0 0]) (sz:=2) rfl (Ab rfl) rfl C8 aD rfl aF aF (E.d 2 0) (TbR.len HEL.o) ?_
          intro ck qrow hm
          have jp:=qrow.lt
          have p5:=hid qrow
          have jq:=hm.size
          have j5:=hid (show Mod (fun _=>False) wl4 ck from hm)
          clear hm
          clear act E qrow
          refine QSeq.go fun act E=>?_
          refine qc_appS (A:=TbR) (e:=127) rfl (Ab rfl) rfl (.agg #[.int .i64 0,.slice none 0 0]) 32 C8 info_Tb (by rfl) (of_decide_eq_true aD) (E.d 1 2) (E.d 3 0) ((HKP4_4.o.mod j5.out (fun _ _ h=>h) (fun _ _ h=>h))) (AI (R:=(fun k=>(New d5 wl4 k)∨(k=wl4.heap.size))) p5.out ((HEL.o.mod j5.out (fun _ _ h=>h)).widen bB) bV) aE (by rw [HKA3.o];simp only [C5,C4];omega) (by rw [HKA3.o];simp only [C5,C4];rw [A7];omega) ?_
          intro ao17 cap17 et qacc3 hm
          have co:=hid (qacc3.widen (R':=(fun k=>(New d6 wl3 k)∨(New ck et k))) (E':=(fun k=>(New d6 wl3 k)∨(New d5 wl4 k)∨(k=wl4.heap.size))) (fun _ h=>h) aZ)
          have jr:=hm.size
          have cq:=hid hm
          have p6:=hid (AB (S':=(fun k=>(New d6 wl3 k))) j5.out hm (fun _ h=>h.elim) aQ)
          clear hm j5
          clear act E qacc3 HKP4_4
          refine qfd rfl 4 C2 c8 ?_
          refine QSeq.go fun act E=>?_
          refine Ah rfl (Ab rfl) rfl (HKP4_3.o.mod p6.out aJ) (off:=4) (vs:=[Value.slice ao17 (acc3.length+1) cap17]) aD one1 (by show 4+1≤5;decide) (E.d 5 0) (ec (E.d 4 1)) ?_
          intro js qc0 hm
          have qqx:=qc0.eqv (b:=((Ba.cells (Ba.mk (gI s).1 (rNum (gI s).2).1 acc1 acc2 (acc3 ++ [(Tb.mk (gI (some l3)).1 acc4)])) (Value.slice aol1 acc1.length capl1) (Value.slice aol2 acc2.length capl2) (Value.slice ao17 (acc3.length+1) cap17)):List Value).toArray) rfl
          clear qc0
          have eu:=hid qqx
          have jt:=hm.size
          have p7:=hid hm
          have j0:=hid (AB (S':=(fun k=>(New d6 wl3 k)∨(k=c4.heap.size))) p6.out hm (fun _ h=>Or.inl h) aT)
          clear hm p6
          clear act E qqx HKP4_3
          have ew:=hid (co.out.mod p7.out aE aE)
          have ex:=hid ((p5.out.mod cq.out aJ).mod p7.out aJ)
          clear co p5 cq p7
          refine qe ?_
          clear HA0 c8 g9 a0
          clear HEL
          clear ex
          have hp2:(gTb (some l3)).2=st4:=(congrArg Prod.snd HGL4.o).trans HF4.o.1
          have HP2_3:=B5 hp2
          have HY3:=hid (show st4≠none→(Tb.mk (gI (some l3)).1 acc4)=(gTb (some l3)).1 from fun h=>by show Tb.mk _ _=Tb.mk _ (Av gDn _).1;rw [HGL4.o,← HF4.o.2 h])
          clear hp2
          clear HAL4
          clear HBXL4
          go_upto_region 15 with (fail)
          refine Aa 103 [70,71,7] [0,1,2] (fun a0 HA0=>?_)
          have g5:=ev HA0 7 rfl
          refine QSeq.pure rfl _ (fun E=>Al rfl (E.y 2 g5)) ?_
          refine QSeq.pure rfl (.int .i64 (((k3:Nat):Int)+1)) (fun E=>Am rfl (E.d 0 0) rfl (Ag _ _ _ _ _ _) (B2 _ _ B6) (congrArg (Value.int .i64) (IntWalk.i64_in _ aM))) ?_
          refine qas rfl 1 0 ?_
          refine qe ?_
          clear HA0 g5 a0
          go_wp2
          go_roundw
          case rel=>exact ⟨k3+1,acc3 ++ [(Tb.mk (gI (some l3)).1 acc4)],st4,_,by go_num,by omega,by rw [C0,HKA3.o];rfl,HST4.o,HRU3.o.step hlt3 bD HP2_3.o HY3.o,by omega,(ew.out.widen eD cA),eu.out,(HRL4.o.mod j0.out aO),(HKP4_0.o.mod j0.out aJ),(HKP4_1.o.mod j0.out aE aE),(HKP4_2.o.mod j0.out aE aE),(HML4.o.trans j0.out (by intro k h1 h2;rcases h2 with h2|h2<;>first|exact h2|omega))⟩
          case measure=>simp [intOf]<;>omega
      ·skip
       obtain ⟨bA3,hbA3⟩:∃ b:Bool,b=decide (((k3:Nat):Int) < ((n3:Nat):Int)):=⟨_,rfl⟩
       go_upto_region 14 with (fail)
       refine Aa 103 [60,61,62,63,64,65,66,67,68,69] [0,1,2,3,4,5,6,7,8,9] (fun a0 HA0=>?_)
       have c3:=ev HA0 0 rfl
       have c6:=ev HA0 4 rfl
       have g5:=ev HA0 7 rfl
       refine qmo rfl g5 ?_
       refine qmo rfl c6 ?_
       refine QSeq.pure rfl (.bool bA3) (fun E=>Am rfl (E.d 0 1) (E.d 1 0) (Ag _ _ _ _ _ _) (Ay _ _ _ B6) (congrArg Value.bool hbA3.symm)) ?_
       refine qmv rfl 2 0 ?_
       refine AA (b:=bA3) rfl (.pointer (some ⟨r,0,none⟩)) (fun E=>((Ac rfl rfl (E.sz 63 aF) (E.d 3 0)).trans (Ak _))) (fun E hb=>Al rfl (E.v c3)) ?_
       intro ju hw
       have cr:=hid hw
       clear hw
       refine AA (b:=bA3) rfl (.pointer (some ⟨r,0,none⟩)) (fun E=>((Ac rfl rfl (E.sz 63 aF) (E.d 3 1)).trans (Ak _))) (fun E hb=>ex_nil rfl ((E.q 4 0 cr.out).1 hb)) ?_
       intro jv hw
       have ct:=hid hw
       clear hw
       refine AA (b:=bA3) rfl (.pointer (some ⟨r,1,none⟩)) (fun E=>((Ac rfl rfl (E.sz 63 aF) (E.d 3 2)).trans (Ak _))) (fun E hb=>Ae rfl D6 rfl aD ((E.q 5 0 ct.out).1 hb)) ?_
       intro jw hw
       have cx:=hid hw
       clear hw
       refine AA (b:=bA3) rfl (.bool st3.isNone) (fun E=>((Ac rfl rfl (E.sz 63 aF) (E.d 3 3)).trans (Ak _))) (fun E hb=>Af rfl E0 rfl ((E.q 6 0 cx.out).1 hb) (AJ HRL3.o)) ?_
       intro jx hw
       have da:=hid hw
       clear hw
       refine AA (b:=bA3) rfl (.bool (!st3.isNone)) (fun E=>((Ac rfl rfl (E.sz 63 aF) (E.d 3 4)).trans (Ak _))) (fun E hb=>Bm rfl ((E.q 7 0 da.out).1 hb)) ?_
       intro jy hw
       have db:=hid hw
       clear hw
       refine QSeq.pure rfl (.bool (bA3 && (!st3.isNone))) (fun E=>A6 rfl (E.d 3 5) rfl rfl (Be fun hb=>(E.q 8 0 db.out).1 hb)) ?_
       clear cr ct cx da db
       refine qe ?_
       clear HA0 c3 c6 g5 a0
       rw [go_false hgo3 hbA3]
       have HF3:=hid (HRU3.o.fin hgo3 hk)
       clear hbA3 hgo3
       go_upto_region 23 with (fail)
       refine Aa 103 [102,104] [0,1] (fun a0 HA0=>?_)
       have dd:=ev HA0 2 rfl
       have c8:=ev HA0 3 rfl
       refine QSeq.pure rfl _ (fun E=>Aj rfl C2 rfl (off:=0) (cs:=(Ba.cells (Ba.mk (gI s).1 (rNum (gI s).2).1 acc1 acc2 acc3) (Value.slice aol1 acc1.length capl1) (Value.slice aol2 acc2.length capl2) (Value.slice aol3 acc3.length capl3))) aD (E.v c8) (Cs.whole HBXL3.o)) ?_
       refine QSeq.go fun act E=>?_
       refine Ah rfl (Ab rfl) rfl HKP3_0.o (off:=0) (vs:=(Ba.cells (Ba.mk (gI s).1 (rNum (gI s).2).1 acc1 acc2 acc3) (Value.slice aol1 acc1.length capl1) (Value.slice aol2 acc2.length capl2) (Value.slice aol3 acc3.length capl3))) aD dP (by show 5≤5;decide) (E.v dd) (ec (E.d 0 0)) ?_
       intro ey qc0 hm
       have qB2:=qc0.eqv (b:=((Ba.cells (Ba.mk (gI s).1 (rNum (gI s).2).1 acc1 acc2 acc3) (Value.slice aol1 acc1.length capl1) (Value.slice aol2 acc2.length capl2) (Value.slice aol3 acc3.length capl3)):List Value).toArray) (Ap #[.int .i64 0,.int .u64 0,.slice none 0 0,.slice none 0 0,.slice none 0 0] _ rfl)
       clear qc0
       have ez:=hid qB2
       have jz:=hm.size
       have j3:=hid (show Mod (fun k=>(k=w.heap.size)) wl3 ey from hm)
       clear hm
       clear act E qB2 HKP3_0
       refine qe ?_
       clear HA0 dd c8 a0
       have h1:(Av gPm (rNum (gI s).2).2).2=st1:=(congrArg Prod.snd HGL1.o).trans HF1.o.1
       have h2:(Av gOp st1).2=st2:=(congrArg Prod.snd HGL2.o).trans HF2.o.1
       have h3:(Av gTb st2).2=st3:=(congrArg Prod.snd HGL3.o).trans HF3.o.1
       have hse:(gBa s).2=st3:=by show (Av gTb (Av gOp (Av gPm _).2).2).2=_;rw [h1,h2,h3]
       go_wp2
       exact bodyPost_ret (Au rfl _ _ w.heap.size ((Ba.cells (Ba.mk (gI s).1 (rNum (gI s).2).1 acc1 acc2 acc3) (Value.slice aol1 acc1.length capl1) (Value.slice aol2 acc2.length capl2) (Value.slice aol3 acc3.length capl3))) rfl (fun k u hu=>by rw [ez.out.cell];simpa using hu) C2 rfl aD) rfl ⟨_,(Ba.mk (gI s).1 (rNum (gI s).2).1 acc1 acc2 acc3),rfl,⟨_,_,_,rfl,⟨A9 _,rNum_lt (gI_suf.bytes HBY.o)⟩,(HKP3_1.o.mod j3.out aE aE).rd.widen cE,(HKP3_2.o.mod j3.out aE aE).rd.widen cE,(HAL3.o.mod j3.out aE aE).rd.widen cE⟩,(by rw [hse];exact (HRL3.o.mod j3.out (sB HBR))),(fun h=>by rw [hse] at h;have hn2:st2≠none:=fun e=>h (by rw [← h3,e];exact (gList_suf gTb_suf).no);have hn1:st1≠none:=fun e=>hn2 (by rw [← h2,e];exact (gList_suf gOp_suf).no);show Ba.mk _ _ _ _ _=Ba.mk _ _ (Av gPm _).1 (Av gOp (Av gPm _).2).1 (Av gTb (Av gOp (Av gPm _).2).2).1;rw [h1,h2,HGL1.o,HGL2.o,HGL3.o,← HF1.o.2 hn1,← HF2.o.2 hn2,← HF3.o.2 h]),(HML3.o.trans j3.out cT)⟩
open Go.Proofs renaming Tryz.func56→va',Tryz.ntmps56→vb',Tryz.func46→vc',Tryz.func51→ve',Tryz.func53→vg' in
open Go.Proofs.YtnaoeginonpicaaGreat renaming dI_Q→vd',RefRHash_R→vf',dSig_Q→vh' in
set_option maxHeartbeats 4000000 in
theorem dVt_Q:GetsF 100 56 Vt.cells gVt:=
 fm8'
theorem dVt_G:Gets VtR 100 56 gVt:=GetsF.to (A:=VtR) dVt_Q fun _ _ _ hb=>⟨rfl,gVt_OK hb⟩
/-- the block of bytes that are one's own: one of them may be written -/
theorem OwR.cs {R:Nat→Prop} {N n cap:Nat} {ao:Option Addr} {w:World} {bs:List Int} (h:OwR R N w (.slice ao n cap) bs) (hp:0 < bs.length) :
 ∃ g cl,ao=some ⟨g,0,none⟩∧Cs w g (List.toArray cl) 5∧R g∧(∀ i (hi:i < bs.length),cl[i]? = some (bv bs[i]))∧bs.length≤cl.length∧
  ∀ w' i x,i < bs.length→0≤x∧x < 256→Cs w' g (List.toArray (cl.set i (bv x))) 5→OwR R N w' (.slice ao n cap) (bs.set i x):=by
 obtain ⟨h1,h2,h3⟩:=h
 have hby:=h1.bytes
 obtain ⟨hl,hE,⟨e,hn⟩|⟨g,cap',cur,e,hc,q1,q2,q3,q4,q5⟩⟩:=h1
 ·have:bs.length=0:=by simpa using hn
  omega
 ·injection e with e1 e2 e3
  subst e1 e2 e3
  have hget:∀ i (hi:i < bs.length),cur.toList[i]? = some (bv bs[i]):=by
   intro i hi
   have e:(cur.toList.take (bs.length * 1))[i]? = (bs.map bv)[i]?:=by rw [q4]
   rw [List.getElem?_take,if_pos aM] at e
   rw [e]
   simp [hi]
  have hlen:bs.length≤cur.toList.length:=by have:cur.toList.length=cur.size:=rfl;omega
  refine ⟨g,cur.toList,rfl,hc,h2 g rfl,hget,hlen,fun w' i x hi hx hc'=>⟨?_,h2,by simpa using h3⟩⟩
  have hbx:∀ z ∈ bs.set i x,0≤z∧z < 256:=fun z hz=>by
   rcases List.mem_or_eq_of_mem_set hz with hz|rfl
   ·exact hby z hz
   ·exact hx
  refine ⟨by simp,isB_all hbx,.inr ⟨g,cap,_,by simp,hc',by simpa using q1,q2,?_,?_,?_⟩⟩
  ·simpa using q3
  ·have:((cur.toList.set i (bv x)).toArray.toList.take ((bs.set i x).length * 1))=(bs.set i x).map bv:=by
    simp only [List.length_set,List.map_set,Nat.mul_one]
    rw [List.take_set,← q4,Nat.mul_one]
   exact this
  ·intro u hu
   have hu':u ∈ cur.toList.set i (bv x):=hu
   rcases List.mem_or_eq_of_mem_set hu' with hu'|rfl
   ·exact q5 u hu'
   ·exact ⟨x,rfl,hx⟩
end Go.Proofs.YtnaoeginonpicaaGreat
