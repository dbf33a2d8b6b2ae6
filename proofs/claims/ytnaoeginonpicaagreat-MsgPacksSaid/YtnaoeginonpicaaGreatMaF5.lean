/- Texts that are built one behind the other: XMg, XZm, XCo2, XOm, XOn, XSq, XOl. No condition. -/
import Derived.Test.YtnaoeginonpicaaGreatMaF4
import Derived.Deep.CutBlock
set_option maxRecDepth 100000
set_option linter.unusedVariables false
open List renaming setIfInBounds_toArray → sIB, set_cons_zero → sCZ, set_cons_succ → sCS
/- Messages: their cells, what reads as one, their bytes. No walk here. -/
namespace Go.Proofs.YtnaoeginonpicaaGreat
open Go Go.RowKit Go.Gv
/-- a decided round -/
structure Dc where
 ep:Int
 rn:Int
 ba:Ba
 l:List Vt
abbrev Dc.cells (x:Dc) (v_ps v_os v_ts v_l:Value):List Value:=[.int .i64 x.ep,.int .i64 x.rn,.int .i64 x.ba.ep,.int .u64 (x.ba.tm:Nat),v_ps,v_os,v_ts,v_l]
def Dc.OK (x:Dc):Prop:=I64 x.ep∧I64 x.rn∧x.ba.OK
def Dc.rd (R:Nat→Prop) (w:World) (cs:List Value) (x:Dc):Prop:=∃ v_ps v_os v_ts v_l,cs=x.cells v_ps v_os v_ts v_l∧x.OK∧RdS PmR R w v_ps x.ba.ps∧RdS OpR R w v_os x.ba.os∧RdS TbR R w v_ts x.ba.ts∧RdS VtR R w v_l x.l
def DcR:Rep Dc where
 sz:=8
 pos:=by decide
 rd:=Dc.rd
 len h:=by
  obtain ⟨v_ps,v_os,v_ts,v_l,rfl,hok,h0,h1,h2,h3⟩:=h
  rfl
 one h:=by
  obtain ⟨v_ps,v_os,v_ts,v_l,rfl,hok,h0,h1,h2,h3⟩:=h
  obtain ⟨_,_,e_ps⟩:=h0.shape
  obtain ⟨_,_,e_os⟩:=h1.shape
  obtain ⟨_,_,e_ts⟩:=h2.shape
  obtain ⟨_,_,e_l⟩:=h3.shape
  subst e_ps e_os e_ts e_l
  intro u hu
  simp only [Dc.cells,List.mem_append,List.mem_cons,List.not_mem_nil,or_false,List.mem_map] at hu
  rcases hu with rfl|rfl|rfl|rfl|rfl|rfl|rfl|rfl<;>rfl
 keep h hk:=by
  obtain ⟨v_ps,v_os,v_ts,v_l,rfl,hok,h0,h1,h2,h3⟩:=h
  exact ⟨_,_,_,_,rfl,hok,h0.keep hk,h1.keep hk,h2.keep hk,h3.keep hk⟩
 wid h hs:=by
  obtain ⟨v_ps,v_os,v_ts,v_l,rfl,hok,h0,h1,h2,h3⟩:=h
  exact ⟨_,_,_,_,rfl,hok,h0.widen hs,h1.widen hs,h2.widen hs,h3.widen hs⟩
 tight h:=by
  obtain ⟨v_ps,v_os,v_ts,v_l,rfl,hok,h0,h1,h2,h3⟩:=h
  exact ⟨_,_,_,_,rfl,hok,h0.tight,h1.tight,h2.tight,h3.tight⟩
/-- a message -/
structure Mg where
 kd:Int
 fr:Int
 «to»:Int
 cm:Cm
 st:St
 ce:Ce
 ak:St
 ep:Int
 rn:Int
 tm:Nat
 pm:Pm
 pr:Pr
 vt:Vt
 ix:Int
 en:En
 op:Op
 dn:Dn
 rp:ByteArray
 dc:Dc
/-- its cells, part by part -/
def Mg.segs (x:Mg) (c5 c10 c11 c15 c18:List Value):List (List Value):=[[.int .i64 x.kd],[.int .i64 x.fr],[.int .i64 x.to],x.cm.cells,x.st.cells,c5,x.ak.cells,[.int .i64 x.ep],[.int .i64 x.rn],[.int .u64 (x.tm:Nat)],c10,c11,x.vt.cells,[.int .i64 x.ix],x.en.cells,c15,x.dn.cells,[.string x.rp],c18]
structure Mg.OK (x:Mg):Prop where
 kd:I64 x.kd
 fr:I64 x.fr
 «to»:I64 x.to
 cm:x.cm.OK
 st:x.st.OK
 ak:x.ak.OK
 ep:I64 x.ep
 rn:I64 x.rn
 tm:x.tm < U64
 vt:x.vt.OK
 ix:I64 x.ix
 en:x.en.OK
 dn:x.dn.OK
abbrev mgN:List Nat:=[1,1,1,37,38,38,38,1,1,1,6,11,38,1,35,34,4,1,8]
theorem Mg.lens {x:Mg} (h:x.OK) {c5 c10 c11 c15 c18:List Value} (h5:c5.length=38) (h10:c10.length=6) (h11:c11.length=11) (h15:c15.length=34) (h18:c18.length=8):(x.segs c5 c10 c11 c15 c18).map List.length=mgN:=by
 simp only [Mg.segs,List.map_cons,List.map_nil,h5,h10,h11,h15,h18,Cm.len h.cm.2.1,St.len h.st,St.len h.ak,Vt.len h.vt,En.len h.en,List.length_cons,List.length_nil]
def Mg.rd (R:Nat→Prop) (w:World) (cs:List Value) (x:Mg):Prop:=∃ c5 c10 c11 c15 c18,cs=(x.segs c5 c10 c11 c15 c18).flatten∧x.OK∧CeR.rd R w c5 x.ce∧PmR.rd R w c10 x.pm∧PrR.rd R w c11 x.pr∧OpR.rd R w c15 x.op∧DcR.rd R w c18 x.dc
theorem Mg.lns {x:Mg} (h:x.OK) {R R2 R3 R4 R5:Nat→Prop} {w w2 w3 w4 w5:World} {c5 c10 c11 c15 c18:List Value} (h5:CeR.rd R w c5 x.ce) (h10:PmR.rd R2 w2 c10 x.pm) (h11:PrR.rd R3 w3 c11 x.pr) (h15:OpR.rd R4 w4 c15 x.op) (h18:DcR.rd R5 w5 c18 x.dc):(x.segs c5 c10 c11 c15 c18).map List.length=mgN:=
 Mg.lens h (CeR.len h5) (PmR.len h10) (PrR.len h11) (OpR.len h15) (DcR.len h18)
theorem Bn (l:List (List Value)):l.flatten.length=(l.map List.length).sum:=by rw [List.length_flatten]
def MgR:Rep Mg where
 sz:=295
 pos:=by decide
 rd:=Mg.rd
 len h:=by
  obtain ⟨c5,c10,c11,c15,c18,rfl,hok,h5,h10,h11,h15,h18⟩:=h
  rw [Bn,Mg.lns hok h5 h10 h11 h15 h18]
  rfl
 one h:=by
  obtain ⟨c5,c10,c11,c15,c18,rfl,hok,h5,h10,h11,h15,h18⟩:=h
  intro u hu
  obtain ⟨s,hs,hv⟩:=List.mem_flatten.1 hu
  simp only [Mg.segs,List.mem_cons,List.not_mem_nil,or_false] at hs
  rcases hs with rfl|rfl|rfl|rfl|rfl|rfl|rfl|rfl|rfl|rfl|rfl|rfl|rfl|rfl|rfl|rfl|rfl|rfl|rfl
  ·rw [List.mem_singleton] at hv;rw [hv];rfl
  ·rw [List.mem_singleton] at hv;rw [hv];rfl
  ·rw [List.mem_singleton] at hv;rw [hv];rfl
  ·exact Cm_one _ _ hv
  ·exact St.one _ _ hv
  ·exact CeR.one h5 _ hv
  ·exact St.one _ _ hv
  ·rw [List.mem_singleton] at hv;rw [hv];rfl
  ·rw [List.mem_singleton] at hv;rw [hv];rfl
  ·rw [List.mem_singleton] at hv;rw [hv];rfl
  ·exact PmR.one h10 _ hv
  ·exact PrR.one h11 _ hv
  ·exact Vt.one _ _ hv
  ·rw [List.mem_singleton] at hv;rw [hv];rfl
  ·exact En.one _ _ hv
  ·exact OpR.one h15 _ hv
  ·exact Dn.one _ _ hv
  ·rw [List.mem_singleton] at hv;rw [hv];rfl
  ·exact DcR.one h18 _ hv
 keep h hk:=by
  obtain ⟨c5,c10,c11,c15,c18,rfl,hok,h5,h10,h11,h15,h18⟩:=h
  exact ⟨_,_,_,_,_,rfl,hok,CeR.keep h5 hk,PmR.keep h10 hk,PrR.keep h11 hk,OpR.keep h15 hk,DcR.keep h18 hk⟩
 wid h hs:=by
  obtain ⟨c5,c10,c11,c15,c18,rfl,hok,h5,h10,h11,h15,h18⟩:=h
  exact ⟨_,_,_,_,_,rfl,hok,CeR.wid h5 hs,PmR.wid h10 hs,PrR.wid h11 hs,OpR.wid h15 hs,DcR.wid h18 hs⟩
 tight h:=by
  obtain ⟨c5,c10,c11,c15,c18,rfl,hok,h5,h10,h11,h15,h18⟩:=h
  exact ⟨_,_,_,_,_,rfl,hok,CeR.tight h5,PmR.tight h10,PrR.tight h11,OpR.tight h15,DcR.tight h18⟩
theorem Cs.segA {w:World} {g:Nat} {T:TypeId} {segs:List (List Value)} (h:Cs w g segs.flatten.toArray T) {ns:List Nat} (hn:segs.map List.length=ns) (i:Nat) {seg:List Value} (hs:segs[i]? = some seg) {off o k:Nat} {M:List Value} (ho:(ns.take i).sum=o) (hk:off=o+k) (hM:(seg.drop k).take M.length=M):∀ j u,M[j]? = some u→w.cell? ⟨g,off+j,none⟩=some u:=by
 intro j u hu
 subst hk
 rw [Nat.add_assoc]
 refine Cs.seg h hn i hs ho (k+j) u ?_
 rw [← hM,List.getElem?_take] at hu
 split at hu
 ·rw [List.getElem?_drop] at hu;exact hu
 ·cases hu
/-- what a message's kind names -/
def dcB (d:Dc):List Int:=encI d.ep ++ encI d.rn ++ baB d.ba ++ listB vtB d.l
def A8 (x:Mg):List Int:=
 if x.kd=1 then cmB x.cm else
 if x.kd=2 then stB x.st else
 if x.kd=3 then ceB x.ce else
 if x.kd=4 then stB x.ak else
 if x.kd=5 then encI x.ep ++ encI x.rn ++ encN x.tm else
 if x.kd=6 then pmB x.pm else
 if x.kd=7 then prB x.pr else
 if x.kd=8 then vtB x.vt else
 if x.kd=9 then encI x.ix ++ enB x.en else
 if x.kd=10 then opB x.op else
 if x.kd=11 then encI x.ix else
 if x.kd=12 then dnB x.dn else
 if x.kd=13 then encI x.ix ++ (encN (Bg x.rp).length ++ Bg x.rp) else
 if x.kd=14 then dcB x.dc else []
theorem Bi {a b:Int} (h:a=b):(a == b)=true:=by simp [h]
theorem Bb {a b:Int} (h:¬ a=b):(a == b)=false:=by simp [h]
def okKd (k:Int):Bool:=decide (1≤k∧k≤14)
def Bj (x:Mg):List Int:=encI x.kd ++ encI x.fr ++ encI x.to ++ A8 x
def packs (x:Mg):Bool:=okKd x.kd && decide ((Bj x).length≤65536)
end Go.Proofs.YtnaoeginonpicaaGreat

/- The message that is nothing. No walk here. -/
namespace Go.Proofs.YtnaoeginonpicaaGreat
open Go Go.RowKit Go.Gv
def zH32:List Int:=List.replicate 32 0
def zCm:Cm:=⟨0,0,zH32,0,0,0⟩
def zSt:St:=⟨0,0,0,zH32,0,0,0⟩
def zPr:Pr:=⟨0,0,0,0,zBa,0,0⟩
def zVt:Vt:=⟨0,0,0,0,zH32,0,0⟩
def zEn:En:=⟨0,0,zH32,0⟩
def zOp:Op:=⟨0,[],zH32⟩
def zDn:Dn:=⟨0,0,0,0⟩
def zDc:Dc:=⟨0,0,zBa,[]⟩
def zMg:Mg:=⟨0,0,0,zCm,zSt,zCe,zSt,0,0,0,zPm,zPr,zVt,0,zEn,zOp,zDn,ByteArray.empty,zDc⟩
theorem zCm_OK:zCm.OK:=⟨⟨A4,A4,A4,A4,A4⟩,HK_zero⟩
theorem zSt_OK:zSt.OK:=⟨A4,A4,A4,HK_zero,U64_0,A4,A4⟩
theorem zVt_OK:zVt.OK:=⟨A4,A4,A4,A4,HK_zero,A4,A4⟩
theorem zEn_OK:zEn.OK:=⟨A4,A4,HK_zero,U64_0⟩
theorem zDn_OK:zDn.OK:=⟨A4,A4,A4,A4⟩
theorem zMg_OK:zMg.OK:=⟨A4,A4,A4,zCm_OK,zSt_OK,zSt_OK,A4,A4,U64_0,zVt_OK,A4,zEn_OK,zDn_OK⟩
abbrev zS:Value:=.slice none 0 0
def mg0 (k f t:Int):Mg:={ zMg with kd:=k,fr:=f,«to»:=t }
/-- a message's cells with nothing in it but its kind, whom it is from and to -/
def mg0C (k f t:Int):List Value:=((mg0 k f t).segs (zCe.cells zS) (zPm.cells zS) (zPr.cells zS zS zS) (zOp.cells zS) (zDc.cells zS zS zS zS)).flatten
theorem mg0_rd {k f t:Int} (hk:I64 k) (hf:I64 f) (ht:I64 t) (R:Nat→Prop) (w:World):MgR.rd R w (mg0C k f t) (mg0 k f t):=
 ⟨_,_,_,_,_,rfl,{ zMg_OK with kd:=hk,fr:=hf,«to»:=ht },zCe_rd _ _,zPm_rd _ _,⟨_,_,_,rfl,⟨A4,A4,A4,A4,zBa_OK,A4,A4⟩,RdS.nil _ _ _,RdS.nil _ _ _,RdS.nil _ _ _⟩,
  ⟨_,rfl,⟨A4,HK_zero⟩,⟨⟨(fun b hb=>by cases hb),Rd.nil _ _⟩,(fun h=>absurd h (show ¬ 0 < ([]:List Int).length by decide)),Nat.le_refl _⟩⟩,⟨_,_,_,_,rfl,⟨A4,A4,zBa_OK⟩,RdS.nil _ _ _,RdS.nil _ _ _,RdS.nil _ _ _,RdS.nil _ _ _⟩⟩
end Go.Proofs.YtnaoeginonpicaaGreat

/- msgs.Copy. -/
namespace Go.Proofs.YtnaoeginonpicaaGreat
open Go Go.RowKit Go.Gv
/-- what is asked of a message that is copied: short lists -/
def cpMg (x:Mg):Prop:=cpCe x.ce∧cpPm x.pm∧cpOp x.op∧cpBa x.pr.ba∧cpBa x.dc.ba∧x.dc.l.length≤1000
theorem lay_sub {segs:List (List Value)} {ns:List Nat} (hn:segs.map List.length=ns) (i:Nat) {seg:List Value} (hs:segs[i]? = some seg) {off o k n:Nat} (ho:(ns.take i).sum=o) (hk:off=o+k) {vs:List Value} (hv:vs.length=n) (hl:k+n≤seg.length) :
 lay segs.flatten.toArray off vs=((segs.set i (seg.take k ++ (vs ++ seg.drop (k+n)))).flatten).toArray:=by
 subst hn hk hv
 obtain ⟨a,b,h1,h2,h3⟩:=seg_split segs i hs
 have e1:seg=seg.take k ++ ((seg.drop k).take vs.length ++ seg.drop (k+vs.length)):=by
  rw [← List.drop_drop,List.take_append_drop,List.take_append_drop]
 have h4:=lay_mid (a ++ seg.take k) ((seg.drop k).take vs.length) (seg.drop (k+vs.length) ++ b) vs (by rw [List.length_take,List.length_drop];omega)
 have e2:(a ++ seg.take k).length=o+k:=by rw [List.length_append,List.length_take,h2,ho];omega
 rw [e2] at h4
 rw [h1,h3]
 have e3:a ++ (seg ++ b)=(a ++ seg.take k) ++ ((seg.drop k).take vs.length ++ (seg.drop (k+vs.length) ++ b)):=by
  conv=>lhs;rw [e1]
  simp only [List.append_assoc]
 rw [e3,h4]
 simp only [List.append_assoc]
set_option maxHeartbeats 8000000 in
theorem cop_Mg:CopR MgR cpMg 70:=by
 intro R2 x cs w hx hB2 hP
 obtain ⟨c5,c10,c11,c15,c18,rfl,hok,h5,h10,h11,h15,h18⟩:=hx
 have HC5:=hid (CeR.len h5)
 have HC10:=hid (PmR.len h10)
 have HC15:=hid (OpR.len h15)
 have HLN:=hid (Mg.lns hok h5 h10 h11 h15 h18)
 obtain ⟨p_ps,p_os,p_ts,rfl,hokp,hp0,hp1,hp2⟩:=h11
 obtain ⟨d_ps,d_os,d_ts,d_l,rfl,hokd,hd0,hd1,hd2,hd3⟩:=h18
 have H5:=Lib.hid h5
 have H10:=Lib.hid h10
 have H15:=Lib.hid h15
 have HP0:=Lib.hid hp0
 have HP1:=Lib.hid hp1
 have HP2:=Lib.hid hp2
 have HD0:=Lib.hid hd0
 have HD1:=Lib.hid hd1
 have HD2:=Lib.hid hd2
 have HD3:=Lib.hid hd3
 have HBT:=Lib.hid hB2
 have HOK:=Lib.hid hok
 have HOP:=Lib.hid hokp
 have HOD:=Lib.hid hokd
 have HP:=Lib.hid hP
 clear hB2 hok hokp hokd hP h5 h10 h15 hp0 hp1 hp2 hd0 hd1 hd2 hd3
 go_enter Tryz.func70,Tryz.ntmps70
 go_upto_region 1 with (fail)
 obtain ⟨w1,hw1⟩:∃ zz,zz=((w.alloc (.cells ((Mg.segs x c5 c10 (x.pr.cells p_ps p_os p_ts) c15 (x.dc.cells d_ps d_os d_ts d_l)).flatten:List Value).toArray 61)).alloc (.cells ((mg0C 0 0 0):List Value).toArray 61)):=⟨_,rfl⟩
 change Code.wp _ _ _ _ ((w.alloc (.cells ((Mg.segs x c5 c10 (x.pr.cells p_ps p_os p_ts) c15 (x.dc.cells d_ps d_os d_ts d_l)).flatten:List Value).toArray 61)).alloc (.cells ((mg0C 0 0 0):List Value).toArray 61))
 rw [← hw1]
 have HB1:=hid (show Cs w1 (w.heap.size) ((Mg.segs x c5 c10 (x.pr.cells p_ps p_os p_ts) c15 (x.dc.cells d_ps d_os d_ts d_l)).flatten:List Value).toArray 61 by rw [hw1];exact (Cs.new _ _ _).alloc _)
 have HB2:=hid (show Cs w1 (w.heap.size+1) ((mg0C 0 0 0):List Value).toArray 61 by rw [hw1];exact Cs_newN _ _ _ (by simp))
 have hm:Mod (fun _=>False) w w1:=by rw [hw1];exact ((Mod.refl _ _).alloc _).alloc _
 have HM0:=hid (show Mod (fun _=>False) w w1 from hm.mono (fun _ _ h=>h.elim))
 have hs1:w1.heap.size=w.heap.size+2:=by rw [hw1];simp
 have Hx1:=hid (H5.out.mod hm (fun _ _ h=>h))
 clear H5
 have Hx2:=hid (H10.out.mod hm (fun _ _ h=>h))
 clear H10
 have Hx3:=hid (H15.out.mod hm (fun _ _ h=>h))
 clear H15
 have Hx4:=hid (HP0.out.mod hm (fun _ _ h=>h))
 clear HP0
 have Hx5:=hid (HP1.out.mod hm (fun _ _ h=>h))
 clear HP1
 have Hx6:=hid (HP2.out.mod hm (fun _ _ h=>h))
 clear HP2
 have Hx7:=hid (HD0.out.mod hm (fun _ _ h=>h))
 clear HD0
 have Hx8:=hid (HD1.out.mod hm (fun _ _ h=>h))
 clear HD1
 have Hx9:=hid (HD2.out.mod hm (fun _ _ h=>h))
 clear HD2
 have Hx10:=hid (HD3.out.mod hm (fun _ _ h=>h))
 clear HD3
 clear hw1 hm
 go_upto_region 1 with (fail)
 generalize ha0:Act.mk _ _=a0
 have oe1:a0.eval (.tmp 1)=.pointer (some ⟨w.heap.size,0,none⟩):=by rw [← ha0];rfl
 have hsz0:a0.tmps.size=34:=by rw [← ha0];rfl
 have HA0:=hid ha0
 clear ha0
 refine A3 34 hsz0 [3,4,5,6,7,8,9,10,11,12,44,13,46,14,48] (fun k=>(k=w.heap.size)) (fun k j=>(k=3∧((j=w.heap.size)))∨(k=4∧((j=w.heap.size)))∨(k=5∧((j=w.heap.size)))) (by intro k j h;(try dsimp only at h ⊢);omega) [qi (.pointer (some ⟨w.heap.size,78,none⟩)),qi (.agg (c5).toArray),qv 0,qi (.pointer (some ⟨w.heap.size,157,none⟩)),qi (.agg (c10).toArray),qv 1,qi (.pointer (some ⟨w.heap.size,248,none⟩)),qi (.agg (c15).toArray),qv 2,qi (.pointer (some ⟨w.heap.size,78,none⟩)),qv 3,qi (.pointer (some ⟨w.heap.size,157,none⟩)),qv 4,qi (.pointer (some ⟨w.heap.size,248,none⟩)),qv 5] ⟨Ab,Ab,Ak,Ab,Ab,Ak,Ab,Ab,Ak,Ab,Ak,Ab,Ak,Ab,Ak,trivial⟩ [2,5,8,10,12,14] ⟨?_,?_,?_,?_,?_,?_,?_,?_,?_,?_,?_,?_,?_,?_,?_,trivial⟩ ?_
 ·exact stq (fun E=>Ad rfl Tryz.underlying61 rfl (by kernel_rfl) (E.v oe1))
 ·refine Av rfl rfl rfl fun _ _ _ _ _ _ hm0 _ _ hd hub _=>?_
  have h0:=hd ⟨0,.data⟩ (by simp) rfl _ rfl
  refine Bd rfl (Ac rfl) (Am rfl Tryz.underlying35 rfl (off:=78) (cs:=(c5)) (by rw [HC5.out];kernel_rfl) h0 (Cs.seg (HB1.out.mod hm0 (by intro h2;have hu:=hub 3 10 rfl (by kernel_rfl);rcases h2 with ⟨h0,kk,hk,h2⟩|h2<;>omega)) HLN.out 5 rfl rfl)) QE.refl ?_
  rfl
 ·exact Ah rfl
 ·exact stq (fun E=>Ad rfl Tryz.underlying61 rfl (by kernel_rfl) (E.v oe1))
 ·refine Av rfl rfl rfl fun _ _ _ _ _ _ hm0 _ _ hd hub _=>?_
  have h3:=hd ⟨3,.data⟩ (by simp) rfl _ rfl
  refine Bd rfl (Ac rfl) (Am rfl Tryz.underlying40 rfl (off:=157) (cs:=(c10)) (by rw [HC10.out];kernel_rfl) h3 (Cs.seg (HB1.out.mod hm0 (by intro h2;have hu:=hub 3 10 rfl (by kernel_rfl);rcases h2 with ⟨h0,kk,hk,h2⟩|h2<;>omega)) HLN.out 10 rfl rfl)) QE.refl ?_
  rfl
 ·exact Ah rfl
 ·exact stq (fun E=>Ad rfl Tryz.underlying61 rfl (by kernel_rfl) (E.v oe1))
 ·refine Av rfl rfl rfl fun _ _ _ _ _ _ hm0 _ _ hd hub _=>?_
  have h6:=hd ⟨6,.data⟩ (by simp) rfl _ rfl
  refine Bd rfl (Ac rfl) (Am rfl Tryz.underlying54 rfl (off:=248) (cs:=(c15)) (by rw [HC15.out];kernel_rfl) h6 (Cs.seg (HB1.out.mod hm0 (by intro h2;have hu:=hub 3 10 rfl (by kernel_rfl);rcases h2 with ⟨h0,kk,hk,h2⟩|h2<;>omega)) HLN.out 15 rfl rfl)) QE.refl ?_
  rfl
 ·exact Ah rfl
 ·exact stq (fun E=>Ad rfl Tryz.underlying61 rfl (by kernel_rfl) (E.v oe1))
 ·exact Ah rfl
 ·exact stq (fun E=>Ad rfl Tryz.underlying61 rfl (by kernel_rfl) (E.v oe1))
 ·exact Ah rfl
 ·exact stq (fun E=>Ad rfl Tryz.underlying61 rfl (by kernel_rfl) (E.v oe1))
 ·exact Ah rfl
 intro u1_0 hr
 have zu1_0:=hr.size
 have Cx11:=hid (hr.new (S:=(fun k=>(k=w.heap.size))))
 have Hx12:=hid (HB1.out.mod hr (by intro h2;omega))
 clear HB1
 clear hr
 refine QChain.go fun Z act E=>?_
 refine Ap (args:=#[.agg (c5).toArray]) rfl (Ac rfl) rfl Tryz.func110 (Aw (E.d 1)) (cop_Ce R2 _ _ _ (Hx1.out.mod Cx11.out (sB HBT)) (by intro k h1;have hb:=HBT.out k h1;omega) HP.out.1) ?_
 rintro e u1_1a ⟨cn5,rfl,qn5,hm⟩
 have HLn5:=hid (CeR.len qn5)
 have HOn5:=hid (CeR.one qn5)
 have zu1_1a:=hm.size
 refine ⟨_,rfl,hm.mono (fun _ _ h=>h.elim),(fun _=>rfl),?_⟩
 intro u1_1 hr
 have zu1_1:=hr.size
 have Hx13:=hid ((qn5.widen (R':=(fun k=>(New u1_0 u1_1a k))) (fun _ h=>h)).mod hr (by intro k h1 h2;omega))
 have hmr:=Mod.after hm hr
 have Hx14:=hid (Hx12.out.mod hmr (by intro h2;omega))
 clear Hx12
 clear hmr
 have Cx15:=hid (Cx11.out.go hm hr)
 clear Cx11 hm hr Z act E qn5
 refine QChain.go fun Z act E=>?_
 refine Ap (args:=#[.agg (c10).toArray]) rfl (Ac rfl) rfl Tryz.func111 (Aw (E.d 4)) (cop_Pm R2 _ _ _ (Hx2.out.mod Cx15.out (sB HBT)) (by intro k h1;have hb:=HBT.out k h1;omega) HP.out.2.1) ?_
 rintro e u1_2a ⟨cn10,rfl,qn10,hm⟩
 have HLn10:=hid (PmR.len qn10)
 have HOn10:=hid (PmR.one qn10)
 have zu1_2a:=hm.size
 refine ⟨_,rfl,hm.mono (fun _ _ h=>h.elim),(fun _=>rfl),?_⟩
 intro u1_2 hr
 have zu1_2:=hr.size
 have Hx16:=hid ((qn10.widen (R':=(fun k=>(New u1_1 u1_2a k))) (fun _ h=>h)).mod hr (by intro k h1 h2;omega))
 have hmr:=Mod.after hm hr
 have Hx17:=hid (Hx14.out.mod hmr (by intro h2;omega))
 have Hx18:=hid (Hx13.out.mod hmr (by intro k h1 h2;omega))
 clear Hx14 Hx13
 clear hmr
 have Cx19:=hid (Cx15.out.go hm hr)
 clear Cx15 hm hr Z act E qn10
 refine QChain.go fun Z act E=>?_
 refine Ap (args:=#[.agg (c15).toArray]) rfl (Ac rfl) rfl Tryz.func112 (Aw (E.d 7)) (cop_Op R2 _ _ _ (Hx3.out.mod Cx19.out (sB HBT)) (by intro k h1;have hb:=HBT.out k h1;omega) HP.out.2.2.1) ?_
 rintro e u1_3a ⟨cn15,rfl,qn15,hm⟩
 have HLn15:=hid (OpR.len qn15)
 have HOn15:=hid (OpR.one qn15)
 have zu1_3a:=hm.size
 refine ⟨_,rfl,hm.mono (fun _ _ h=>h.elim),(fun _=>rfl),?_⟩
 intro u1_3 hr
 have zu1_3:=hr.size
 have Hx20:=hid ((qn15.widen (R':=(fun k=>(New u1_2 u1_3a k))) (fun _ h=>h)).mod hr (by intro k h1 h2;omega))
 have hmr:=Mod.after hm hr
 have Hx21:=hid (Hx17.out.mod hmr (by intro h2;omega))
 have Hx22:=hid (Hx18.out.mod hmr (by intro k h1 h2;omega))
 have Hx23:=hid (Hx16.out.mod hmr (by intro k h1 h2;omega))
 clear Hx17 Hx18 Hx16
 clear hmr
 have Cx24:=hid (Cx19.out.go hm hr)
 clear Cx19 hm hr Z act E qn15
 refine QChain.go fun Z act E=>?_
 refine Aq rfl (Ac rfl) rfl Hx21.out (off:=78) (vs:=cn5) (by rw [HLn5.out];kernel_rfl) HOn5.out (by rw [List.size_toArray,Bn,(Mg.lens HOK.out HC5.out HC10.out rfl HC15.out rfl)];show 78+_≤295;rw [HLn5.out];decide) (E.d 9) (ec (chv (v:=.agg cn5.toArray) (E.d 2))) ?_
 intro u1_4a qc0 hm
 have qB1:=qc0.eqv (b:=((Mg.segs x cn5 c10 (x.pr.cells p_ps p_os p_ts) c15 (x.dc.cells d_ps d_os d_ts d_l)).flatten:List Value).toArray) ((Bc (Mg.lens HOK.out HC5.out HC10.out rfl HC15.out rfl) 5 (by rw [HLn5.out];rfl) rfl).trans rfl)
 clear qc0
 have zu1_4a:=hm.size
 refine ⟨hm.mono (by intro k hk h;omega),(fun _=>rfl),?_⟩
 intro u1_4 hr
 have zu1_4:=hr.size
 have Hx25:=hid (qB1.mod hr (by intro h2;omega))
 have hmr:=hm.two hr
 have Hx26:=hid (Hx22.out.mod hmr (by intro k h1 h2;omega))
 have Hx27:=hid (Hx23.out.mod hmr (by intro k h1 h2;omega))
 have Hx28:=hid (Hx20.out.mod hmr (by intro k h1 h2;omega))
 clear Hx22 Hx23 Hx20
 clear hmr
 have Cx29:=hid (Cx24.out.goM hm hr (fun _ _ h=>h))
 clear Cx24 hm hr Z act E qB1 Hx21
 refine QChain.go fun Z act E=>?_
 refine Aq rfl (Ac rfl) rfl Hx25.out (off:=157) (vs:=cn10) (by rw [HLn10.out];kernel_rfl) HOn10.out (by rw [List.size_toArray,Bn,(Mg.lens HOK.out HLn5.out HC10.out rfl HC15.out rfl)];show 157+_≤295;rw [HLn10.out];decide) (E.d 11) (ec (chv (v:=.agg cn10.toArray) (E.d 5))) ?_
 intro u1_5a qc0 hm
 have qB1:=qc0.eqv (b:=((Mg.segs x cn5 cn10 (x.pr.cells p_ps p_os p_ts) c15 (x.dc.cells d_ps d_os d_ts d_l)).flatten:List Value).toArray) ((Bc (Mg.lens HOK.out HLn5.out HC10.out rfl HC15.out rfl) 10 (by rw [HLn10.out];rfl) rfl).trans rfl)
 clear qc0
 have zu1_5a:=hm.size
 refine ⟨hm.mono (by intro k hk h;omega),(fun _=>rfl),?_⟩
 intro u1_5 hr
 have zu1_5:=hr.size
 have Hx30:=hid (qB1.mod hr (by intro h2;omega))
 have hmr:=hm.two hr
 have Hx31:=hid (Hx26.out.mod hmr (by intro k h1 h2;omega))
 have Hx32:=hid (Hx27.out.mod hmr (by intro k h1 h2;omega))
 have Hx33:=hid (Hx28.out.mod hmr (by intro k h1 h2;omega))
 clear Hx26 Hx27 Hx28
 clear hmr
 have Cx34:=hid (Cx29.out.goM hm hr (fun _ _ h=>h))
 clear Cx29 hm hr Z act E qB1 Hx25
 refine QChain.go fun Z act E=>?_
 refine Aq rfl (Ac rfl) rfl Hx30.out (off:=248) (vs:=cn15) (by rw [HLn15.out];kernel_rfl) HOn15.out (by rw [List.size_toArray,Bn,(Mg.lens HOK.out HLn5.out HLn10.out rfl HC15.out rfl)];show 248+_≤295;rw [HLn15.out];decide) (E.d 13) (ec (chv (v:=.agg cn15.toArray) (E.d 8))) ?_
 intro u1_6a qc0 hm
 have qB1:=qc0.eqv (b:=((Mg.segs x cn5 cn10 (x.pr.cells p_ps p_os p_ts) cn15 (x.dc.cells d_ps d_os d_ts d_l)).flatten:List Value).toArray) ((Bc (Mg.lens HOK.out HLn5.out HLn10.out rfl HC15.out rfl) 15 (by rw [HLn15.out];rfl) rfl).trans rfl)
 clear qc0
 have zu1_6a:=hm.size
 refine ⟨hm.mono (by intro k hk h;omega),(fun _=>rfl),?_⟩
 intro u1_6 hr
 have zu1_6:=hr.size
 have Hx35:=hid (qB1.mod hr (by intro h2;omega))
 have hmr:=hm.two hr
 have Hx36:=hid (Hx31.out.mod hmr (by intro k h1 h2;omega))
 have Hx37:=hid (Hx32.out.mod hmr (by intro k h1 h2;omega))
 have Hx38:=hid (Hx33.out.mod hmr (by intro k h1 h2;omega))
 clear Hx31 Hx32 Hx33
 clear hmr
 have Cx39:=hid (Cx34.out.goM hm hr (fun _ _ h=>h))
 clear Cx34 hm hr Z act E qB1 Hx30
 refine QChain.nil fun vs hl hzz hrows hne=>?_
 obtain ⟨Z,hYZ,hZb,hV⟩:=hzz
 have f2:=fvc hV hl 2
 have f5:=fvc hV hl 5
 have f8:=fvc hV hl 8
 rw [show vs=[gw vs 0,gw vs 1,gw vs 2,gw vs 3,gw vs 4,gw vs 5,gw vs 6,gw vs 7,gw vs 8,gw vs 9,gw vs 10,gw vs 11,gw vs 12,gw vs 13,gw vs 14] from (Be hl).trans rfl]
 have ha0:=HA0.out
 subst ha0
 clear HA0 hV hYZ hZb hsz0 hrows hne oe1
 simp only [Au,Act.put,sIB,sCZ,sCS,List.set_nil,f2,f5,f8]
 clear hl f2 f5 f8
 go_upto_region 2 with (fail)
 refine Aa 34 [15,16,17,18,19,20,40] [0,1,2,3,4,5,6] (fun a0 HA0=>?_)
 have oe1:=ev HA0 1 rfl
 refine QSeq.pure rfl (.pointer (some ⟨w.heap.size,163,none⟩)) (fun E=>Ad rfl Tryz.underlying61 rfl (by kernel_rfl) (E.v oe1)) ?_
 refine QSeq.pure rfl (.pointer (some ⟨w.heap.size,167,none⟩)) (fun E=>Ad rfl Tryz.underlying47 rfl (by kernel_rfl) (E.d 0 0)) ?_
 refine QSeq.pure rfl _ (fun E=>Am rfl Tryz.underlying45 rfl (off:=167) (cs:=[.int .i64 x.pr.ba.ep,.int .u64 (x.pr.ba.tm:Nat),p_ps,p_os,p_ts]) (by kernel_rfl) (E.d 1 0) (Cs.segA Hx35.out (Mg.lens HOK.out HLn5.out HLn10.out rfl HLn15.out rfl) 11 rfl (o:=163) (k:=4) rfl rfl rfl)) ?_
 refine QSeq.call rfl rfl Tryz.func113 (cop_Ba R2 _ _ _ ⟨_,_,_,rfl,HOP.out.2.2.2.2.1,(Hx4.out.mod Cx39.out (sB HBT)),(Hx5.out.mod Cx39.out (sB HBT)),(Hx6.out.mod Cx39.out (sB HBT))⟩ (by intro k h1;have hb:=HBT.out k h1;omega) HP.out.2.2.2.1) (fun E=>Aw (E.d 2 0)) ?_
 rintro e u2_3 ⟨cbe,rfl,qe0,hm⟩
 have HOe:=hid (BaR.one qe0)
 obtain ⟨e_ps,e_os,e_ts,rfl,hokb,qe0,qe1,qe2⟩:=qe0
 clear hokb
 refine ⟨_,rfl,?_⟩
 have Hx40:=hid qe0
 have Hx41:=hid qe1
 have Hx42:=hid qe2
 have zu2_3:=hm.size
 have Cx43:=hid (show Mod (fun _=>False) u1_6 u2_3 from hm)
 clear hm
 clear qe0 qe1 qe2
 refine QSeq.pure rfl (.pointer (some ⟨w.heap.size,163,none⟩)) (fun E=>Ad rfl Tryz.underlying61 rfl (by kernel_rfl) (E.v oe1)) ?_
 refine QSeq.pure rfl (.pointer (some ⟨w.heap.size,167,none⟩)) (fun E=>Ad rfl Tryz.underlying47 rfl (by kernel_rfl) (E.d 4 0)) ?_
 refine QSeq.go fun act E=>?_
 refine Aq rfl (Ac rfl) rfl (Hx35.out.mod Cx43.out (fun h=>h)) (off:=167) (vs:=[.int .i64 x.pr.ba.ep,.int .u64 (x.pr.ba.tm:Nat),e_ps,e_os,e_ts]) (by kernel_rfl) HOe.out (by rw [List.size_toArray,Bn,(Mg.lens HOK.out HLn5.out HLn10.out rfl HLn15.out rfl)];show 167+5≤295;decide) (E.d 5 0) (ec (E.d 3 2)) ?_
 intro u2_6 qc0 hm
 have qB1:=qc0.eqv (b:=((Mg.segs x cn5 cn10 (x.pr.cells e_ps e_os e_ts) cn15 (x.dc.cells d_ps d_os d_ts d_l)).flatten:List Value).toArray) ((lay_sub (Mg.lens HOK.out HLn5.out HLn10.out rfl HLn15.out rfl) 11 rfl (o:=163) (k:=4) (n:=5) rfl rfl rfl (by show 4+5≤11;decide)).trans rfl)
 clear qc0
 have Hx44:=hid qB1
 have zu2_6:=hm.size
 have HMu2_6:=hid hm
 have Cx45:=hid (Mod.goS (S':=(fun k=>(k=w.heap.size))) Cx43.out hm (fun _ h=>h.elim) (by intro k h0 h2;exact h2))
 clear hm Cx43
 clear act E qB1 Hx35
 have Hx46:=hid (Hx40.out.mod HMu2_6.out (by intro k h1 h2;omega))
 have Hx47:=hid (Hx41.out.mod HMu2_6.out (by intro k h1 h2;omega))
 have Hx48:=hid (Hx42.out.mod HMu2_6.out (by intro k h1 h2;omega))
 clear Hx40 Hx41 Hx42 HMu2_6
 refine QSeq.nil (t':=[_,_,_,_,_,_,_]) rfl ?_
 obtain rfl:=HA0.out
 clear HA0 oe1
 simp only [pz,Act.put,sIB,sCZ,sCS,List.set_nil]
 go_upto_region 3 with (fail)
 generalize ha0:Act.mk _ _=a0
 have oe1:a0.eval (.tmp 1)=.pointer (some ⟨w.heap.size,0,none⟩):=by rw [← ha0];rfl
 have hsz0:a0.tmps.size=34:=by rw [← ha0];rfl
 have HA0:=hid ha0
 clear ha0
 refine A3 34 hsz0 [21,22,23,24,25,26,27,28,29,30,44,31,32,47] (fun k=>(k=w.heap.size)) (fun k j=>(k=2∧((j=w.heap.size)))∨(k=3∧((j=w.heap.size)))) (by intro k j h;(try dsimp only at h ⊢);omega) [qi (.pointer (some ⟨w.heap.size,287,none⟩)),qi (.pointer (some ⟨w.heap.size,289,none⟩)),qi (.agg #[.int .i64 x.dc.ba.ep,.int .u64 (x.dc.ba.tm:Nat),d_ps,d_os,d_ts]),qv 0,qi (.pointer (some ⟨w.heap.size,287,none⟩)),qi (.pointer (some ⟨w.heap.size,294,none⟩)),qi (d_l),qv 1,qi (.pointer (some ⟨w.heap.size,287,none⟩)),qi (.pointer (some ⟨w.heap.size,289,none⟩)),qv 2,qi (.pointer (some ⟨w.heap.size,287,none⟩)),qi (.pointer (some ⟨w.heap.size,294,none⟩)),qv 3] ⟨Ab,Ab,Ab,Ak,Ab,Ab,Ab,Ak,Ab,Ab,Ak,Ab,Ab,Ak,trivial⟩ [3,7,10,13] ⟨?_,?_,?_,?_,?_,?_,?_,?_,?_,?_,?_,?_,?_,?_,trivial⟩ ?_
 ·exact stq (fun E=>Ad rfl Tryz.underlying61 rfl (by kernel_rfl) (E.v oe1))
 ·exact stq (fun E=>Ad rfl Tryz.underlying59 rfl (by kernel_rfl) (E.d 0))
 ·refine Av rfl rfl rfl fun _ _ _ _ _ _ hm0 _ _ hd hub _=>?_
  have h1:=hd ⟨1,.data⟩ (by simp) rfl _ rfl
  refine Bd rfl (Ac rfl) (Am rfl Tryz.underlying45 rfl (off:=289) (cs:=[.int .i64 x.dc.ba.ep,.int .u64 (x.dc.ba.tm:Nat),d_ps,d_os,d_ts]) (by kernel_rfl) h1 (Cs.segA (Hx44.out.mod hm0 (by intro h2;have hu:=hub 2 10 rfl (by kernel_rfl);rcases h2 with ⟨h0,kk,hk,h2⟩|h2<;>omega)) (Mg.lens HOK.out HLn5.out HLn10.out rfl HLn15.out rfl) 18 rfl (o:=287) (k:=2) rfl rfl rfl)) QE.refl ?_
  rfl
 ·exact Ah rfl
 ·exact stq (fun E=>Ad rfl Tryz.underlying61 rfl (by kernel_rfl) (E.v oe1))
 ·exact stq (fun E=>Ad rfl Tryz.underlying59 rfl (by kernel_rfl) (E.d 4))
 ·refine Av rfl rfl rfl fun _ _ _ _ _ _ hm0 _ _ hd hub _=>?_
  have h5:=hd ⟨5,.data⟩ (by simp) rfl _ rfl
  refine Bd rfl (Ac rfl) (Aj rfl Tryz.underlying57 rfl h5 (Cs.seg1 (Hx44.out.mod hm0 (by intro h2;have hu:=hub 2 10 rfl (by kernel_rfl);rcases h2 with ⟨h0,kk,hk,h2⟩|h2<;>omega)) (Mg.lens HOK.out HLn5.out HLn10.out rfl HLn15.out rfl) 18 rfl (o:=287) (k:=7) rfl rfl rfl)) QE.refl ?_
  rfl
 ·exact Ah rfl
 ·exact stq (fun E=>Ad rfl Tryz.underlying61 rfl (by kernel_rfl) (E.v oe1))
 ·exact stq (fun E=>Ad rfl Tryz.underlying59 rfl (by kernel_rfl) (E.d 8))
 ·exact Ah rfl
 ·exact stq (fun E=>Ad rfl Tryz.underlying61 rfl (by kernel_rfl) (E.v oe1))
 ·exact stq (fun E=>Ad rfl Tryz.underlying59 rfl (by kernel_rfl) (E.d 11))
 ·exact Ah rfl
 intro u3_0 hr
 have zu3_0:=hr.size
 have Cx49:=hid (hr.new (S:=(fun k=>(k=w.heap.size))))
 have Hx50:=hid (Hx44.out.mod hr (by intro h2;omega))
 clear Hx44
 clear hr
 refine QChain.go fun Z act E=>?_
 refine Ap (args:=#[.agg #[.int .i64 x.dc.ba.ep,.int .u64 (x.dc.ba.tm:Nat),d_ps,d_os,d_ts]]) rfl (Ac rfl) rfl Tryz.func113 (Aw (E.d 2)) (cop_Ba R2 _ _ _ ⟨_,_,_,rfl,HOD.out.2.2,(((Hx7.out.mod Cx39.out (sB HBT)).mod Cx45.out (sB HBT)).mod Cx49.out (sB HBT)),(((Hx8.out.mod Cx39.out (sB HBT)).mod Cx45.out (sB HBT)).mod Cx49.out (sB HBT)),(((Hx9.out.mod Cx39.out (sB HBT)).mod Cx45.out (sB HBT)).mod Cx49.out (sB HBT))⟩ (by intro k h1;have hb:=HBT.out k h1;omega) HP.out.2.2.2.2.1) ?_
 rintro e u3_1a ⟨cbf,rfl,qf0,hm⟩
 have HOf:=hid (BaR.one qf0)
 obtain ⟨f_ps,f_os,f_ts,rfl,hokb,qf0,qf1,qf2⟩:=qf0
 clear hokb
 have zu3_1a:=hm.size
 refine ⟨_,rfl,hm.mono (fun _ _ h=>h.elim),(fun _=>rfl),?_⟩
 intro u3_1 hr
 have zu3_1:=hr.size
 have Hx51:=hid ((qf0.widen (R':=(fun k=>(New u3_0 u3_1a k))) (fun _ h=>h)).mod hr (by intro k h1 h2;omega))
 have Hx52:=hid ((qf1.widen (R':=(fun k=>(New u3_0 u3_1a k))) (fun _ h=>h)).mod hr (by intro k h1 h2;omega))
 have Hx53:=hid ((qf2.widen (R':=(fun k=>(New u3_0 u3_1a k))) (fun _ h=>h)).mod hr (by intro k h1 h2;omega))
 have hmr:=Mod.after hm hr
 have Hx54:=hid (Hx50.out.mod hmr (by intro h2;omega))
 clear Hx50
 clear hmr
 have Cx55:=hid (Cx49.out.go hm hr)
 clear Cx49 hm hr Z act E qf0 qf1 qf2
 refine QChain.go fun Z act E=>?_
 refine Ap (args:=#[d_l,.func (.func 115) #[] #[]]) rfl (Ac rfl) rfl Tryz.func114 (Az (E.d 6) rfl) (copied_Vt _ x.dc.l _ _ (((Hx10.out.mod Cx39.out (sB HBT)).mod Cx45.out (sB HBT)).mod Cx55.out (sB HBT)) (by intro k h1;have hb:=HBT.out k h1;omega) HP.out.2.2.2.2.2 (fun _ _=>trivial)) ?_
 rintro e u3_2a ⟨vg,rfl,qg,hm⟩
 obtain ⟨ao_g,cap_g,rfl⟩:=qg.shape
 have zu3_2a:=hm.size
 refine ⟨_,rfl,hm.mono (fun _ _ h=>h.elim),(fun _=>rfl),?_⟩
 intro u3_2 hr
 have zu3_2:=hr.size
 have Hx56:=hid ((qg.widen (R':=(fun k=>(New u3_1 u3_2a k))) (fun _ h=>h)).mod hr (by intro k h1 h2;omega))
 have hmr:=Mod.after hm hr
 have Hx57:=hid (Hx54.out.mod hmr (by intro h2;omega))
 have Hx58:=hid (Hx51.out.mod hmr (by intro k h1 h2;omega))
 have Hx59:=hid (Hx52.out.mod hmr (by intro k h1 h2;omega))
 have Hx60:=hid (Hx53.out.mod hmr (by intro k h1 h2;omega))
 clear Hx54 Hx51 Hx52 Hx53
 clear hmr
 have Cx61:=hid (Cx55.out.go hm hr)
 clear Cx55 hm hr Z act E qg
 refine QChain.go fun Z act E=>?_
 refine Aq rfl (Ac rfl) rfl Hx57.out (off:=289) (vs:=[.int .i64 x.dc.ba.ep,.int .u64 (x.dc.ba.tm:Nat),f_ps,f_os,f_ts]) (by kernel_rfl) HOf.out (by rw [List.size_toArray,Bn,(Mg.lens HOK.out HLn5.out HLn10.out rfl HLn15.out rfl)];show 289+5≤295;decide) (E.d 9) (ec (chv (v:=.agg #[.int .i64 x.dc.ba.ep,.int .u64 (x.dc.ba.tm:Nat),f_ps,f_os,f_ts]) (E.d 3))) ?_
 intro u3_3a qc0 hm
 have qB1:=qc0.eqv (b:=((Mg.segs x cn5 cn10 (x.pr.cells e_ps e_os e_ts) cn15 (x.dc.cells f_ps f_os f_ts d_l)).flatten:List Value).toArray) ((lay_sub (Mg.lens HOK.out HLn5.out HLn10.out rfl HLn15.out rfl) 18 rfl (o:=287) (k:=2) (n:=5) rfl rfl rfl (by show 2+5≤8;decide)).trans rfl)
 clear qc0
 have zu3_3a:=hm.size
 refine ⟨hm.mono (by intro k hk h;omega),(fun _=>rfl),?_⟩
 intro u3_3 hr
 have zu3_3:=hr.size
 have Hx62:=hid (qB1.mod hr (by intro h2;omega))
 have hmr:=hm.two hr
 have Hx63:=hid (Hx58.out.mod hmr (by intro k h1 h2;omega))
 have Hx64:=hid (Hx59.out.mod hmr (by intro k h1 h2;omega))
 have Hx65:=hid (Hx60.out.mod hmr (by intro k h1 h2;omega))
 have Hx66:=hid (Hx56.out.mod hmr (by intro k h1 h2;omega))
 clear Hx58 Hx59 Hx60 Hx56
 clear hmr
 have Cx67:=hid (Cx61.out.goM hm hr (fun _ _ h=>h))
 clear Cx61 hm hr Z act E qB1 Hx57
 refine QChain.go fun Z act E=>?_
 refine Aq rfl (Ac rfl) rfl Hx62.out (off:=294) (vs:=[Value.slice ao_g x.dc.l.length cap_g]) (by kernel_rfl) one1 (by rw [List.size_toArray,Bn,(Mg.lens HOK.out HLn5.out HLn10.out rfl HLn15.out rfl)];show 294+1≤295;decide) (E.d 12) (ec (chv (v:=.slice ao_g x.dc.l.length cap_g) (E.d 7))) ?_
 intro u3_4a qc0 hm
 have qB1:=qc0.eqv (b:=((Mg.segs x cn5 cn10 (x.pr.cells e_ps e_os e_ts) cn15 (x.dc.cells f_ps f_os f_ts (Value.slice ao_g x.dc.l.length cap_g))).flatten:List Value).toArray) ((lay_sub (Mg.lens HOK.out HLn5.out HLn10.out rfl HLn15.out rfl) 18 rfl (o:=287) (k:=7) (n:=1) rfl rfl rfl (by show 7+1≤8;decide)).trans rfl)
 clear qc0
 have zu3_4a:=hm.size
 refine ⟨hm.mono (by intro k hk h;omega),(fun _=>rfl),?_⟩
 intro u3_4 hr
 have zu3_4:=hr.size
 have Hx68:=hid (qB1.mod hr (by intro h2;omega))
 have hmr:=hm.two hr
 have Hx69:=hid (Hx63.out.mod hmr (by intro k h1 h2;omega))
 have Hx70:=hid (Hx64.out.mod hmr (by intro k h1 h2;omega))
 have Hx71:=hid (Hx65.out.mod hmr (by intro k h1 h2;omega))
 have Hx72:=hid (Hx66.out.mod hmr (by intro k h1 h2;omega))
 clear Hx63 Hx64 Hx65 Hx66
 clear hmr
 have Cx73:=hid (Cx67.out.goM hm hr (fun _ _ h=>h))
 clear Cx67 hm hr Z act E qB1 Hx62
 refine QChain.nil fun vs hl hzz hrows hne=>?_
 obtain ⟨Z,hYZ,hZb,hV⟩:=hzz
 have f3:=fvc hV hl 3
 have f7:=fvc hV hl 7
 rw [show vs=[gw vs 0,gw vs 1,gw vs 2,gw vs 3,gw vs 4,gw vs 5,gw vs 6,gw vs 7,gw vs 8,gw vs 9,gw vs 10,gw vs 11,gw vs 12,gw vs 13] from (Be hl).trans rfl]
 have ha0:=HA0.out
 subst ha0
 clear HA0 hV hYZ hZb hsz0 hrows hne oe1
 simp only [Au,Act.put,sIB,sCZ,sCS,List.set_nil,f3,f7]
 clear hl f3 f7
 have HSZ:=hid (show ((Mg.segs x cn5 cn10 (x.pr.cells e_ps e_os e_ts) cn15 (x.dc.cells f_ps f_os f_ts (Value.slice ao_g x.dc.l.length cap_g))).flatten).length=295 by rw [Bn,(Mg.lens HOK.out HLn5.out HLn10.out rfl HLn15.out rfl)];rfl)
 have HRM:=hid (show MgR.rd (fun k=>(New w1 u3_4 k)) u3_4 ((Mg.segs x cn5 cn10 (x.pr.cells e_ps e_os e_ts) cn15 (x.dc.cells f_ps f_os f_ts (Value.slice ao_g x.dc.l.length cap_g))).flatten) x from ⟨_,_,_,_,_,rfl,HOK.out,((Hx36.out.mod Cx45.out (by intro k h1 h2;omega)).mod Cx73.out (by intro k h1 h2;omega)).widen (by intro k h1;omega),((Hx37.out.mod Cx45.out (by intro k h1 h2;omega)).mod Cx73.out (by intro k h1 h2;omega)).widen (by intro k h1;omega),⟨_,_,_,rfl,HOP.out,(Hx46.out.mod Cx73.out (by intro k h1 h2;omega)).widen (by intro k h1;omega),(Hx47.out.mod Cx73.out (by intro k h1 h2;omega)).widen (by intro k h1;omega),(Hx48.out.mod Cx73.out (by intro k h1 h2;omega)).widen (by intro k h1;omega)⟩,((Hx38.out.mod Cx45.out (by intro k h1 h2;omega)).mod Cx73.out (by intro k h1 h2;omega)).widen (by intro k h1;omega),⟨_,_,_,_,rfl,HOD.out,Hx69.out.widen (by intro k h1;omega),Hx70.out.widen (by intro k h1;omega),Hx71.out.widen (by intro k h1;omega),Hx72.out.widen (by intro k h1;omega)⟩⟩)
 have HON:=hid (MgR.one HRM.out)
 clear Hx36
 clear Hx37
 clear Hx38
 clear Hx46
 clear Hx47
 clear Hx48
 clear Hx69
 clear Hx70
 clear Hx71
 clear Hx72
 go_upto_region 4 with (fail)
 refine Aa 34 [33,35] [0,1] (fun a0 HA0=>?_)
 have oe1:=ev HA0 1 rfl
 have oe2:=ev HA0 2 rfl
 refine QSeq.pure rfl _ (fun E=>Am rfl Tryz.underlying61 rfl (off:=0) (cs:=((Mg.segs x cn5 cn10 (x.pr.cells e_ps e_os e_ts) cn15 (x.dc.cells f_ps f_os f_ts (Value.slice ao_g x.dc.l.length cap_g))).flatten)) (by rw [HSZ.out];kernel_rfl) (E.v oe1) (Cs.whole Hx68.out)) ?_
 refine QSeq.go fun act E=>?_
 refine Aq rfl (Ac rfl) rfl (((HB2.out.mod Cx39.out (by intro h2;omega)).mod Cx45.out (by intro h2;omega)).mod Cx73.out (by intro h2;omega)) (off:=0) (vs:=((Mg.segs x cn5 cn10 (x.pr.cells e_ps e_os e_ts) cn15 (x.dc.cells f_ps f_os f_ts (Value.slice ao_g x.dc.l.length cap_g))).flatten)) (by rw [HSZ.out];kernel_rfl) HON.out (by rw [HSZ.out];show 0+295≤295;decide) (E.v oe2) (ec (E.d 0 0)) ?_
 intro u4_1 qc0 hm
 have qB2:=qc0.eqv (b:=(((Mg.segs x cn5 cn10 (x.pr.cells e_ps e_os e_ts) cn15 (x.dc.cells f_ps f_os f_ts (Value.slice ao_g x.dc.l.length cap_g))).flatten):List Value).toArray) (A5 _ _ (by rw [HSZ.out];rfl))
 clear qc0
 have Hx74:=hid qB2
 have zu4_1:=hm.size
 have Cx75:=hid (show Mod (fun k=>(k=w.heap.size+1)) u3_4 u4_1 from hm)
 clear hm
 clear act E qB2 HB2
 refine QSeq.nil (t':=[_,_]) rfl ?_
 obtain rfl:=HA0.out
 clear HA0 oe1 oe2
 simp only [pz,Act.put,sIB,sCZ,sCS,List.set_nil]
 go_wp2
 exact bodyPost_ret (A7 rfl _ _ (w.heap.size+1) ((Mg.segs x cn5 cn10 (x.pr.cells e_ps e_os e_ts) cn15 (x.dc.cells f_ps f_os f_ts (Value.slice ao_g x.dc.l.length cap_g))).flatten) rfl (fun k u hu=>by rw [Hx74.out.cell];simpa using hu) Tryz.underlying61 rfl (by rw [HSZ.out];kernel_rfl)) rfl ⟨_,rfl,(HRM.out.mod Cx75.out (by intro k h1 h2;omega)).widen (by intro k h1;(try dsimp only at h1 ⊢);omega),((((HM0.out.trans Cx39.out (by intro k h1 h2;omega)).trans Cx45.out (by intro k h1 h2;omega)).trans Cx73.out (by intro k h1 h2;omega)).trans Cx75.out (by intro k h1 h2;omega))⟩
end Go.Proofs.YtnaoeginonpicaaGreat

/- What a kind names. No walk here. -/
namespace Go.Proofs.YtnaoeginonpicaaGreat
open Go Go.RowKit Go.Gv
/-- a message with what its kind names alone -/
def Bf (x:Mg):Mg:=
 if x.kd=1 then { mg0 x.kd x.fr x.to with cm:=x.cm } else
 if x.kd=2 then { mg0 x.kd x.fr x.to with st:=x.st } else
 if x.kd=3 then { mg0 x.kd x.fr x.to with ce:=x.ce } else
 if x.kd=4 then { mg0 x.kd x.fr x.to with ak:=x.ak } else
 if x.kd=5 then { mg0 x.kd x.fr x.to with ep:=x.ep,rn:=x.rn,tm:=x.tm } else
 if x.kd=6 then { mg0 x.kd x.fr x.to with pm:=x.pm } else
 if x.kd=7 then { mg0 x.kd x.fr x.to with pr:=x.pr } else
 if x.kd=8 then { mg0 x.kd x.fr x.to with vt:=x.vt } else
 if x.kd=9 then { mg0 x.kd x.fr x.to with ix:=x.ix,en:=x.en } else
 if x.kd=10 then { mg0 x.kd x.fr x.to with op:=x.op } else
 if x.kd=11 then { mg0 x.kd x.fr x.to with ix:=x.ix } else
 if x.kd=12 then { mg0 x.kd x.fr x.to with dn:=x.dn } else
 if x.kd=13 then { mg0 x.kd x.fr x.to with ix:=x.ix,rp:=x.rp } else
 if x.kd=14 then { mg0 x.kd x.fr x.to with dc:=x.dc } else
 zMg
end Go.Proofs.YtnaoeginonpicaaGreat

/- msgs.Only. -/
namespace Go.Proofs.YtnaoeginonpicaaGreat
open Go Go.RowKit Go.Gv
theorem ite_p {α:Type} {P:α→Prop} {c:Prop} [Decidable c] {a b:α} (ha:P a) (hb:P b):P (if c then a else b):=by
 by_cases h:c
 ·rw [if_pos h];exact ha
 ·rw [if_neg h];exact hb
theorem z_pr (R:Nat→Prop) (w:World):PrR.rd R w (zPr.cells zS zS zS) zPr:=⟨_,_,_,rfl,⟨A4,A4,A4,A4,zBa_OK,A4,A4⟩,RdS.nil _ _ _,RdS.nil _ _ _,RdS.nil _ _ _⟩
theorem z_op (R:Nat→Prop) (w:World):OpR.rd R w (zOp.cells zS) zOp:=⟨_,rfl,⟨A4,HK_zero⟩,⟨⟨(fun b hb=>by cases hb),Rd.nil _ _⟩,(fun h=>absurd h (show ¬ 0 < ([]:List Int).length by decide)),Nat.le_refl _⟩⟩
theorem z_dc (R:Nat→Prop) (w:World):DcR.rd R w (zDc.cells zS zS zS zS) zDc:=⟨_,_,_,_,rfl,⟨A4,A4,zBa_OK⟩,RdS.nil _ _ _,RdS.nil _ _ _,RdS.nil _ _ _,RdS.nil _ _ _⟩
theorem cp_zce:cpCe zCe:=Nat.zero_le _
theorem cp_zpm:cpPm zPm:=⟨Nat.zero_le _,fun y hy=>by cases hy⟩
theorem cp_zop:cpOp zOp:=Nat.zero_le _
theorem cp_zba:cpBa zBa:=⟨⟨Nat.zero_le _,fun y hy=>by cases hy⟩,⟨Nat.zero_le _,fun y hy=>by cases hy⟩,⟨Nat.zero_le _,fun y hy=>by cases hy⟩⟩
theorem cp_only {x:Mg} (h:cpMg x):cpMg (Bf x):=by
 obtain ⟨h1,h2,h3,h4,h5,h6⟩:=h
 unfold Bf
 repeat' (refine ite_p ?_ ?_)
 all_goals exact ⟨by first|exact h1|exact cp_zce,by first|exact h2|exact cp_zpm,by first|exact h3|exact cp_zop,by first|exact h4|exact cp_zba,by first|exact h5|exact cp_zba,by first|exact h6|exact Nat.zero_le _⟩
set_option maxHeartbeats 8000000 in
theorem Only_Q:∀ (R2:Nat→Prop) (x:Mg) (cs:List Value) (w:World),MgR.rd R2 w cs x→(∀ k,R2 k→k < w.heap.size)→cpMg x→
 Calls Tryz.prog 18 #[.agg cs.toArray] w fun e w'=>∃ cs',e=.returned (.agg cs'.toArray)∧MgR.rd (New w w') w' cs' (Bf x)∧Mod (fun _=>False) w w':=by
 intro R2 x cs w hx hB2 hP
 obtain ⟨c5,c10,c11,c15,c18,rfl,hok,h5,h10,h11,h15,h18⟩:=hx
 have HLN:=hid (Mg.lns hok h5 h10 h11 h15 h18)
 have HC5:=hid (CeR.len h5)
 have HO5:=hid (CeR.one h5)
 have H5:=Lib.hid h5
 have HC10:=hid (PmR.len h10)
 have HO10:=hid (PmR.one h10)
 have H10:=Lib.hid h10
 have HC11:=hid (PrR.len h11)
 have HO11:=hid (PrR.one h11)
 have H11:=Lib.hid h11
 have HC15:=hid (OpR.len h15)
 have HO15:=hid (OpR.one h15)
 have H15:=Lib.hid h15
 have HC18:=hid (DcR.len h18)
 have HO18:=hid (DcR.one h18)
 have H18:=Lib.hid h18
 have HBT:=Lib.hid hB2
 have HOK:=Lib.hid hok
 have HP:=Lib.hid hP
 clear hP
 clear hB2 hok h5 h10 h11 h15 h18
 have HZL:=hid (show (Mg.segs (mg0 x.kd x.fr x.to) (zCe.cells zS) (zPm.cells zS) (zPr.cells zS zS zS) (zOp.cells zS) (zDc.cells zS zS zS zS)).map List.length=mgN from rfl)
 have HZK:=hid (show Mg.OK (mg0 x.kd x.fr x.to) from { zMg_OK with kd:=HOK.out.kd,fr:=HOK.out.fr,«to»:=HOK.out.to })
 have HO0:=hid (MgR.one (mg0_rd HOK.out.kd HOK.out.fr HOK.out.to (fun _=>False) w))
 have HZO:=hid (MgR.one (mg0_rd (k:=0) (f:=0) (t:=0) A4 A4 A4 (fun _=>False) w))
 go_enter Tryz.func18,Tryz.ntmps18
 go_upto_region 1 with (fail)
 obtain ⟨w1,hw1⟩:∃ zz,zz=((w.alloc (.cells ((x.segs c5 c10 c11 c15 c18).flatten:List Value).toArray 61)).alloc (.cells ((mg0C 0 0 0):List Value).toArray 61)):=⟨_,rfl⟩
 change Code.wp _ _ _ _ ((w.alloc (.cells ((x.segs c5 c10 c11 c15 c18).flatten:List Value).toArray 61)).alloc (.cells ((mg0C 0 0 0):List Value).toArray 61))
 rw [← hw1]
 have HB1:=hid (show Cs w1 (w.heap.size) ((x.segs c5 c10 c11 c15 c18).flatten:List Value).toArray 61 by rw [hw1];exact (Cs.new _ _ _).alloc _)
 have HB2:=hid (show Cs w1 (w.heap.size+1) ((mg0C 0 0 0):List Value).toArray 61 by rw [hw1];exact Cs_newN _ _ _ (by simp))
 have hm:Mod (fun _=>False) w w1:=by rw [hw1];exact ((Mod.refl _ _).alloc _).alloc _
 have HM0:=hid (show Mod (fun _=>False) w w1 from hm.mono (fun _ _ h=>h.elim))
 have hs1:w1.heap.size=w.heap.size+2:=by rw [hw1];simp
 have Hx1:=hid (H5.out.mod hm (fun _ _ h=>h))
 clear H5
 have Hx2:=hid (H10.out.mod hm (fun _ _ h=>h))
 clear H10
 have Hx3:=hid (H11.out.mod hm (fun _ _ h=>h))
 clear H11
 have Hx4:=hid (H15.out.mod hm (fun _ _ h=>h))
 clear H15
 have Hx5:=hid (H18.out.mod hm (fun _ _ h=>h))
 clear H18
 clear hw1 hm
 go_upto_region 1 with (fail)
 refine Aa 98 [4,5,6,7,8,9,10,3,106] [0,1,2,3,4,5,6,7,8] (fun a0 HA0=>?_)
 have oe1:=ev HA0 1 rfl
 refine QSeq.pure rfl (.pointer (some ⟨w.heap.size,0,none⟩)) (fun E=>Ad rfl Tryz.underlying61 rfl (by kernel_rfl) (E.v oe1)) ?_
 refine QSeq.pure rfl (.int .i64 x.kd) (fun E=>Aj rfl Tryz.underlying3 rfl (E.d 0 0) (Cs.seg1 HB1.out HLN.out 0 rfl (o:=0) (k:=0) rfl rfl rfl)) ?_
 refine QSeq.pure rfl (.pointer (some ⟨w.heap.size,1,none⟩)) (fun E=>Ad rfl Tryz.underlying61 rfl (by kernel_rfl) (E.v oe1)) ?_
 refine QSeq.pure rfl (.int .i64 x.fr) (fun E=>Aj rfl Tryz.underlying3 rfl (E.d 2 0) (Cs.seg1 HB1.out HLN.out 1 rfl (o:=1) (k:=0) rfl rfl rfl)) ?_
 refine QSeq.pure rfl (.pointer (some ⟨w.heap.size,2,none⟩)) (fun E=>Ad rfl Tryz.underlying61 rfl (by kernel_rfl) (E.v oe1)) ?_
 refine QSeq.pure rfl (.int .i64 x.to) (fun E=>Aj rfl Tryz.underlying3 rfl (E.d 4 0) (Cs.seg1 HB1.out HLN.out 2 rfl (o:=2) (k:=0) rfl rfl rfl)) ?_
 refine QSeq.go fun act E=>?_
 refine qc_run rfl (Ac rfl) (v:=.agg ((mg0C x.kd x.fr x.to):List Value).toArray) (ex_build rfl (z:=(mg0C 0 0 0)) (places:=[(0,1),(1,1),(2,1),(3,37),(40,38),(78,38),(116,38),(154,1),(155,1),(156,1),(157,6),(163,11),(174,38),(212,1),(213,35),(248,34),(282,4),(286,1),(287,8)]) (by kernel_rfl) (parts:=[(0,.int .i64 x.kd),(1,.int .i64 x.fr),(2,.int .i64 x.to)]) (by simp only [List.map_toArray,List.map_cons,List.map_nil,show act.eval (.tmp 5)=.int .i64 x.kd from (E.d 1 4),show act.eval (.tmp 7)=.int .i64 x.fr from (E.d 3 2),show act.eval (.tmp 9)=.int .i64 x.to from (E.d 5 0)];try rfl) (r:=(mg0C x.kd x.fr x.to)) (by exact (laid_segs (ns:=mgN) rfl [(0,.int .i64 x.kd),(1,.int .i64 x.fr),(2,.int .i64 x.to)] (zMg.segs (zCe.cells zS) (zPm.cells zS) (zPr.cells zS zS zS) (zOp.cells zS) (zDc.cells zS zS zS zS)) rfl ⟨rfl,rfl,rfl,trivial⟩).trans rfl)) ?_
 clear act E
 refine QSeq.go fun act E=>?_
 refine qc_alloc rfl (Ac rfl) rfl (z:=(mg0C 0 0 0)) (by kernel_rfl) ?_
 intro u1_7 qb5 hm
 have zl1_7:=qb5.lt
 have Hx6:=hid qb5
 have zu1_7:=hm.size
 have Cx7:=hid (show Mod (fun _=>False) w1 u1_7 from hm)
 clear hm
 clear act E qb5
 refine QSeq.go fun act E=>?_
 have hlz:((mg0C x.kd x.fr x.to)).length=List.length ((mg0C 0 0 0):List Value):=rfl
 refine Aq rfl (Ac rfl) rfl Hx6.out (off:=0) (vs:=(mg0C x.kd x.fr x.to)) (by rw [hlz];kernel_rfl) HO0.out (by rw [hlz];exact Nat.le_of_eq (Nat.zero_add _)) (E.d 7 0) (ec (E.d 6 1)) ?_
 intro u1_8 qc0 hm
 have qb5:=qc0.eqv (b:=((mg0C x.kd x.fr x.to):List Value).toArray) (A5 (((mg0C 0 0 0):List Value).toArray) _ (by rw [hlz];rfl))
 clear qc0 hlz
 have Hx8:=hid qb5
 have zu1_8:=hm.size
 have HMu1_8:=hid hm
 have Cx9:=hid (Mod.goS (S':=(fun _=>False)) Cx7.out hm (fun _ h=>h) (by intro k h0 h2;omega))
 clear hm Cx7
 clear act E qb5 Hx6
 clear HMu1_8
 refine QSeq.nil (t':=[_,_,_,_,_,_,_,_,_]) rfl ?_
 obtain rfl:=HA0.out
 clear HA0 oe1
 simp only [pz,Act.put,sIB,sCZ,sCS,List.set_nil]
 go_upto_region 2 with (fail)
 refine Aa 98 [11,12] [0,1] (fun a0 HA0=>?_)
 have oe1:=ev HA0 1 rfl
 refine QSeq.pure rfl (.pointer (some ⟨w.heap.size,0,none⟩)) (fun E=>Ad rfl Tryz.underlying61 rfl (by kernel_rfl) (E.v oe1)) ?_
 refine QSeq.pure rfl (.int .i64 x.kd) (fun E=>Aj rfl Tryz.underlying3 rfl (E.d 0 0) (Cs.seg1 (HB1.out.mod Cx9.out (fun h=>h)) HLN.out 0 rfl (o:=0) (k:=0) rfl rfl rfl)) ?_
 refine QSeq.nil (t':=[_,_]) rfl ?_
 obtain rfl:=HA0.out
 clear HA0 oe1
 simp only [pz,Act.put,sIB,sCZ,sCS]
 go_upto_block 0 with (fail)
 go_cut [3] from 14 (fun t3 w'=>t3=.pointer (some ⟨w1.heap.size,0,none⟩)∧∃ (y:Mg) (cy:List Value),y=Bf x∧Cs w' (w1.heap.size) cy.toArray 61∧MgR.rd R2 w' cy y∧Mod (fun k=>k=w1.heap.size) u1_8 w')
 case first=>
  have hmz:=hid (Mod.refl (fun k=>k=w1.heap.size) u1_8)
  by_cases h1:x.kd=1
  ·have KK:=Lib.hid h1
   clear h1
   go_upto_region 4 with (fail)
   refine Aa 98 [15,14] [0,1] (fun a0 HA0=>?_)
   have oe12:=ev HA0 12 rfl
   refine QSeq.pure rfl (.bool true) (fun E=>An rfl (E.v oe12) rfl (Ag _ _ _ _ _ _) (Al _ _ _ Tryz.underlying3) (congrArg Value.bool (Bi KK.out))) ?_
   refine QSeq.pure rfl _ (fun E=>Af rfl (E.d 0 0)) ?_
   refine QSeq.nil (t':=[_,_]) rfl ?_
   obtain rfl:=HA0.out
   clear HA0 oe12
   simp only [pz,Act.put,sIB,sCZ,sCS]
   have HE:=hid (show Bf x=({ mg0 x.kd x.fr x.to with cm:=x.cm }:Mg) by unfold Bf;rw [if_pos KK.out]<;>rfl)
   go_upto_region 5 with (fail)
   refine Aa 98 [16,17,18,101] [0,1,2,3] (fun a0 HA0=>?_)
   have oe1:=ev HA0 1 rfl
   have oe3:=ev HA0 3 rfl
   refine QSeq.pure rfl (.pointer (some ⟨w.heap.size,3,none⟩)) (fun E=>Ad rfl Tryz.underlying61 rfl (by kernel_rfl) (E.v oe1)) ?_
   refine QSeq.pure rfl _ (fun E=>Am rfl Tryz.underlying29 rfl (off:=3) (cs:=(x.cm.cells)) (by rw [Cm.len HOK.out.cm.2.1];exact size_commit) (E.d 0 0) (Cs.seg (HB1.out.mod Cx9.out (fun h=>h)) HLN.out 3 rfl rfl)) ?_
   refine QSeq.pure rfl (.pointer (some ⟨w1.heap.size,3,none⟩)) (fun E=>Ad rfl Tryz.underlying61 rfl (by kernel_rfl) (E.v oe3)) ?_
   refine QSeq.go fun act E=>?_
   refine Aq rfl (Ac rfl) rfl Hx8.out (off:=3) (vs:=(x.cm.cells)) (by rw [Cm.len HOK.out.cm.2.1];kernel_rfl) (Cm_one _) (by show 3+_≤295;rw [Cm.len HOK.out.cm.2.1];decide) (E.d 2 0) (ec (E.d 1 1)) ?_
   intro u5_3 qc0 hm
   have qb5:=qc0.eqv (b:=((Mg.segs ({ mg0 x.kd x.fr x.to with cm:=x.cm }:Mg) (zCe.cells zS) (zPm.cells zS) (zPr.cells zS zS zS) (zOp.cells zS) (zDc.cells zS zS zS zS)).flatten:List Value).toArray) ((Bc HZL.out 3 (by rw [Cm.len HOK.out.cm.2.1];rfl) rfl).trans rfl)
   clear qc0
   have Hx10:=hid qb5
   have zu5_3:=hm.size
   have Cx11:=hid (show Mod (fun k=>(k=w1.heap.size)) u1_8 u5_3 from hm)
   clear hm
   clear act E qb5 Hx8
   refine QSeq.nil (t':=[_,_,_,_]) rfl ?_
   obtain rfl:=HA0.out
   clear HA0 oe1 oe3
   simp only [pz,Act.put,sIB,sCZ,sCS,List.set_nil]
   have hrz:MgR.rd R2 u5_3 ((Mg.segs ({ mg0 x.kd x.fr x.to with cm:=x.cm }:Mg) (zCe.cells zS) (zPm.cells zS) (zPr.cells zS zS zS) (zOp.cells zS) (zDc.cells zS zS zS zS)).flatten) ({ mg0 x.kd x.fr x.to with cm:=x.cm }:Mg):=⟨_,_,_,_,_,rfl,{ HZK.out with cm:=HOK.out.cm },zCe_rd _ _,zPm_rd _ _,z_pr _ _,z_op _ _,z_dc _ _⟩
   have HRZ:=Lib.hid hrz
   clear hrz
   go_wp2_with fail
   go_meet
   case rel=>exact ⟨congrArg (fun z=>Value.pointer (some ⟨z,0,none⟩)) (by omega),_,_,HE.out.symm,Hx10.out,HRZ.out,(hmz.out.trans Cx11.out (fun _ _ h=>h))⟩
  have K1:=Lib.hid h1
  clear h1
  go_upto_region 4 with (fail)
  refine Aa 98 [15,14] [0,1] (fun a0 HA0=>?_)
  have oe12:=ev HA0 12 rfl
  refine QSeq.pure rfl (.bool false) (fun E=>An rfl (E.v oe12) rfl (Ag _ _ _ _ _ _) (Al _ _ _ Tryz.underlying3) (congrArg Value.bool (Bb K1.out))) ?_
  refine QSeq.pure rfl _ (fun E=>Af rfl (E.d 0 0)) ?_
  refine QSeq.nil (t':=[_,_]) rfl ?_
  obtain rfl:=HA0.out
  clear HA0 oe12
  simp only [pz,Act.put,sIB,sCZ,sCS]
  by_cases h2:x.kd=2
  ·have KK:=Lib.hid h2
   clear h2
   go_upto_region 6 with (fail)
   refine Aa 98 [20,19] [0,1] (fun a0 HA0=>?_)
   have oe12:=ev HA0 12 rfl
   refine QSeq.pure rfl (.bool true) (fun E=>An rfl (E.v oe12) rfl (Ag _ _ _ _ _ _) (Al _ _ _ Tryz.underlying3) (congrArg Value.bool (Bi KK.out))) ?_
   refine QSeq.pure rfl _ (fun E=>Af rfl (E.d 0 0)) ?_
   refine QSeq.nil (t':=[_,_]) rfl ?_
   obtain rfl:=HA0.out
   clear HA0 oe12
   simp only [pz,Act.put,sIB,sCZ,sCS]
   have HE:=hid (show Bf x=({ mg0 x.kd x.fr x.to with st:=x.st }:Mg) by unfold Bf;rw [if_neg K1.out,if_pos KK.out]<;>rfl)
   go_upto_region 7 with (fail)
   refine Aa 98 [21,22,23,101] [0,1,2,3] (fun a0 HA0=>?_)
   have oe1:=ev HA0 1 rfl
   have oe3:=ev HA0 3 rfl
   refine QSeq.pure rfl (.pointer (some ⟨w.heap.size,40,none⟩)) (fun E=>Ad rfl Tryz.underlying61 rfl (by kernel_rfl) (E.v oe1)) ?_
   refine QSeq.pure rfl _ (fun E=>Am rfl Tryz.underlying32 rfl (off:=40) (cs:=(x.st.cells)) (by rw [St.len HOK.out.st];kernel_rfl) (E.d 0 0) (Cs.seg (HB1.out.mod Cx9.out (fun h=>h)) HLN.out 4 rfl rfl)) ?_
   refine QSeq.pure rfl (.pointer (some ⟨w1.heap.size,40,none⟩)) (fun E=>Ad rfl Tryz.underlying61 rfl (by kernel_rfl) (E.v oe3)) ?_
   refine QSeq.go fun act E=>?_
   refine Aq rfl (Ac rfl) rfl Hx8.out (off:=40) (vs:=(x.st.cells)) (by rw [St.len HOK.out.st];kernel_rfl) (St.one _) (by show 40+_≤295;rw [St.len HOK.out.st];decide) (E.d 2 0) (ec (E.d 1 1)) ?_
   intro u7_3 qc0 hm
   have qb5:=qc0.eqv (b:=((Mg.segs ({ mg0 x.kd x.fr x.to with st:=x.st }:Mg) (zCe.cells zS) (zPm.cells zS) (zPr.cells zS zS zS) (zOp.cells zS) (zDc.cells zS zS zS zS)).flatten:List Value).toArray) ((Bc HZL.out 4 (by rw [St.len HOK.out.st];rfl) rfl).trans rfl)
   clear qc0
   have Hx12:=hid qb5
   have zu7_3:=hm.size
   have Cx13:=hid (show Mod (fun k=>(k=w1.heap.size)) u1_8 u7_3 from hm)
   clear hm
   clear act E qb5 Hx8
   refine QSeq.nil (t':=[_,_,_,_]) rfl ?_
   obtain rfl:=HA0.out
   clear HA0 oe1 oe3
   simp only [pz,Act.put,sIB,sCZ,sCS,List.set_nil]
   have hrz:MgR.rd R2 u7_3 ((Mg.segs ({ mg0 x.kd x.fr x.to with st:=x.st }:Mg) (zCe.cells zS) (zPm.cells zS) (zPr.cells zS zS zS) (zOp.cells zS) (zDc.cells zS zS zS zS)).flatten) ({ mg0 x.kd x.fr x.to with st:=x.st }:Mg):=⟨_,_,_,_,_,rfl,{ HZK.out with st:=HOK.out.st },zCe_rd _ _,zPm_rd _ _,z_pr _ _,z_op _ _,z_dc _ _⟩
   have HRZ:=Lib.hid hrz
   clear hrz
   go_wp2_with fail
   go_meet
   case rel=>exact ⟨congrArg (fun z=>Value.pointer (some ⟨z,0,none⟩)) (by omega),_,_,HE.out.symm,Hx12.out,HRZ.out,(hmz.out.trans Cx13.out (fun _ _ h=>h))⟩
  have K2:=Lib.hid h2
  clear h2
  go_upto_region 6 with (fail)
  refine Aa 98 [20,19] [0,1] (fun a0 HA0=>?_)
  have oe12:=ev HA0 12 rfl
  refine QSeq.pure rfl (.bool false) (fun E=>An rfl (E.v oe12) rfl (Ag _ _ _ _ _ _) (Al _ _ _ Tryz.underlying3) (congrArg Value.bool (Bb K2.out))) ?_
  refine QSeq.pure rfl _ (fun E=>Af rfl (E.d 0 0)) ?_
  refine QSeq.nil (t':=[_,_]) rfl ?_
  obtain rfl:=HA0.out
  clear HA0 oe12
  simp only [pz,Act.put,sIB,sCZ,sCS]
  by_cases h3:x.kd=3
  ·have KK:=Lib.hid h3
   clear h3
   go_upto_region 8 with (fail)
   refine Aa 98 [25,24] [0,1] (fun a0 HA0=>?_)
   have oe12:=ev HA0 12 rfl
   refine QSeq.pure rfl (.bool true) (fun E=>An rfl (E.v oe12) rfl (Ag _ _ _ _ _ _) (Al _ _ _ Tryz.underlying3) (congrArg Value.bool (Bi KK.out))) ?_
   refine QSeq.pure rfl _ (fun E=>Af rfl (E.d 0 0)) ?_
   refine QSeq.nil (t':=[_,_]) rfl ?_
   obtain rfl:=HA0.out
   clear HA0 oe12
   simp only [pz,Act.put,sIB,sCZ,sCS]
   have HE:=hid (show Bf x=({ mg0 x.kd x.fr x.to with ce:=x.ce }:Mg) by unfold Bf;rw [if_neg K1.out,if_neg K2.out,if_pos KK.out]<;>rfl)
   go_upto_region 9 with (fail)
   refine Aa 98 [26,27,28,101] [0,1,2,3] (fun a0 HA0=>?_)
   have oe1:=ev HA0 1 rfl
   have oe3:=ev HA0 3 rfl
   refine QSeq.pure rfl (.pointer (some ⟨w.heap.size,78,none⟩)) (fun E=>Ad rfl Tryz.underlying61 rfl (by kernel_rfl) (E.v oe1)) ?_
   refine QSeq.pure rfl _ (fun E=>Am rfl Tryz.underlying35 rfl (off:=78) (cs:=(c5)) (by rw [HC5.out];kernel_rfl) (E.d 0 0) (Cs.seg (HB1.out.mod Cx9.out (fun h=>h)) HLN.out 5 rfl rfl)) ?_
   refine QSeq.pure rfl (.pointer (some ⟨w1.heap.size,78,none⟩)) (fun E=>Ad rfl Tryz.underlying61 rfl (by kernel_rfl) (E.v oe3)) ?_
   refine QSeq.go fun act E=>?_
   refine Aq rfl (Ac rfl) rfl Hx8.out (off:=78) (vs:=c5) (by rw [HC5.out];kernel_rfl) HO5.out (by show 78+_≤295;rw [HC5.out];decide) (E.d 2 0) (ec (E.d 1 1)) ?_
   intro u9_3 qc0 hm
   have qb5:=qc0.eqv (b:=((Mg.segs ({ mg0 x.kd x.fr x.to with ce:=x.ce }:Mg) c5 (zPm.cells zS) (zPr.cells zS zS zS) (zOp.cells zS) (zDc.cells zS zS zS zS)).flatten:List Value).toArray) ((Bc HZL.out 5 (by rw [HC5.out];rfl) rfl).trans rfl)
   clear qc0
   have Hx14:=hid qb5
   have zu9_3:=hm.size
   have Cx15:=hid (show Mod (fun k=>(k=w1.heap.size)) u1_8 u9_3 from hm)
   clear hm
   clear act E qb5 Hx8
   refine QSeq.nil (t':=[_,_,_,_]) rfl ?_
   obtain rfl:=HA0.out
   clear HA0 oe1 oe3
   simp only [pz,Act.put,sIB,sCZ,sCS,List.set_nil]
   have hrz:MgR.rd R2 u9_3 ((Mg.segs ({ mg0 x.kd x.fr x.to with ce:=x.ce }:Mg) c5 (zPm.cells zS) (zPr.cells zS zS zS) (zOp.cells zS) (zDc.cells zS zS zS zS)).flatten) ({ mg0 x.kd x.fr x.to with ce:=x.ce }:Mg):=⟨_,_,_,_,_,rfl,{ HZK.out with },((Hx1.out.mod Cx9.out (fun _ _ h=>h)).mod Cx15.out (sB HBT)),zPm_rd _ _,z_pr _ _,z_op _ _,z_dc _ _⟩
   have HRZ:=Lib.hid hrz
   clear hrz
   go_wp2_with fail
   go_meet
   case rel=>exact ⟨congrArg (fun z=>Value.pointer (some ⟨z,0,none⟩)) (by omega),_,_,HE.out.symm,Hx14.out,HRZ.out,(hmz.out.trans Cx15.out (fun _ _ h=>h))⟩
  have K3:=Lib.hid h3
  clear h3
  go_upto_region 8 with (fail)
  refine Aa 98 [25,24] [0,1] (fun a0 HA0=>?_)
  have oe12:=ev HA0 12 rfl
  refine QSeq.pure rfl (.bool false) (fun E=>An rfl (E.v oe12) rfl (Ag _ _ _ _ _ _) (Al _ _ _ Tryz.underlying3) (congrArg Value.bool (Bb K3.out))) ?_
  refine QSeq.pure rfl _ (fun E=>Af rfl (E.d 0 0)) ?_
  refine QSeq.nil (t':=[_,_]) rfl ?_
  obtain rfl:=HA0.out
  clear HA0 oe12
  simp only [pz,Act.put,sIB,sCZ,sCS]
  by_cases h4:x.kd=4
  ·have KK:=Lib.hid h4
   clear h4
   go_upto_region 10 with (fail)
   refine Aa 98 [30,29] [0,1] (fun a0 HA0=>?_)
   have oe12:=ev HA0 12 rfl
   refine QSeq.pure rfl (.bool true) (fun E=>An rfl (E.v oe12) rfl (Ag _ _ _ _ _ _) (Al _ _ _ Tryz.underlying3) (congrArg Value.bool (Bi KK.out))) ?_
   refine QSeq.pure rfl _ (fun E=>Af rfl (E.d 0 0)) ?_
   refine QSeq.nil (t':=[_,_]) rfl ?_
   obtain rfl:=HA0.out
   clear HA0 oe12
   simp only [pz,Act.put,sIB,sCZ,sCS]
   have HE:=hid (show Bf x=({ mg0 x.kd x.fr x.to with ak:=x.ak }:Mg) by unfold Bf;rw [if_neg K1.out,if_neg K2.out,if_neg K3.out,if_pos KK.out]<;>rfl)
   go_upto_region 11 with (fail)
   refine Aa 98 [31,32,33,101] [0,1,2,3] (fun a0 HA0=>?_)
   have oe1:=ev HA0 1 rfl
   have oe3:=ev HA0 3 rfl
   refine QSeq.pure rfl (.pointer (some ⟨w.heap.size,116,none⟩)) (fun E=>Ad rfl Tryz.underlying61 rfl (by kernel_rfl) (E.v oe1)) ?_
   refine QSeq.pure rfl _ (fun E=>Am rfl Tryz.underlying37 rfl (off:=116) (cs:=(x.ak.cells)) (by rw [St.len HOK.out.ak];kernel_rfl) (E.d 0 0) (Cs.seg (HB1.out.mod Cx9.out (fun h=>h)) HLN.out 6 rfl rfl)) ?_
   refine QSeq.pure rfl (.pointer (some ⟨w1.heap.size,116,none⟩)) (fun E=>Ad rfl Tryz.underlying61 rfl (by kernel_rfl) (E.v oe3)) ?_
   refine QSeq.go fun act E=>?_
   refine Aq rfl (Ac rfl) rfl Hx8.out (off:=116) (vs:=(x.ak.cells)) (by rw [St.len HOK.out.ak];kernel_rfl) (St.one _) (by show 116+_≤295;rw [St.len HOK.out.ak];decide) (E.d 2 0) (ec (E.d 1 1)) ?_
   intro u11_3 qc0 hm
   have qb5:=qc0.eqv (b:=((Mg.segs ({ mg0 x.kd x.fr x.to with ak:=x.ak }:Mg) (zCe.cells zS) (zPm.cells zS) (zPr.cells zS zS zS) (zOp.cells zS) (zDc.cells zS zS zS zS)).flatten:List Value).toArray) ((Bc HZL.out 6 (by rw [St.len HOK.out.ak];rfl) rfl).trans rfl)
   clear qc0
   have Hx16:=hid qb5
   have zu11_3:=hm.size
   have Cx17:=hid (show Mod (fun k=>(k=w1.heap.size)) u1_8 u11_3 from hm)
   clear hm
   clear act E qb5 Hx8
   refine QSeq.nil (t':=[_,_,_,_]) rfl ?_
   obtain rfl:=HA0.out
   clear HA0 oe1 oe3
   simp only [pz,Act.put,sIB,sCZ,sCS,List.set_nil]
   have hrz:MgR.rd R2 u11_3 ((Mg.segs ({ mg0 x.kd x.fr x.to with ak:=x.ak }:Mg) (zCe.cells zS) (zPm.cells zS) (zPr.cells zS zS zS) (zOp.cells zS) (zDc.cells zS zS zS zS)).flatten) ({ mg0 x.kd x.fr x.to with ak:=x.ak }:Mg):=⟨_,_,_,_,_,rfl,{ HZK.out with ak:=HOK.out.ak },zCe_rd _ _,zPm_rd _ _,z_pr _ _,z_op _ _,z_dc _ _⟩
   have HRZ:=Lib.hid hrz
   clear hrz
   go_wp2_with fail
   go_meet
   case rel=>exact ⟨congrArg (fun z=>Value.pointer (some ⟨z,0,none⟩)) (by omega),_,_,HE.out.symm,Hx16.out,HRZ.out,(hmz.out.trans Cx17.out (fun _ _ h=>h))⟩
  have K4:=Lib.hid h4
  clear h4
  go_upto_region 10 with (fail)
  refine Aa 98 [30,29] [0,1] (fun a0 HA0=>?_)
  have oe12:=ev HA0 12 rfl
  refine QSeq.pure rfl (.bool false) (fun E=>An rfl (E.v oe12) rfl (Ag _ _ _ _ _ _) (Al _ _ _ Tryz.underlying3) (congrArg Value.bool (Bb K4.out))) ?_
  refine QSeq.pure rfl _ (fun E=>Af rfl (E.d 0 0)) ?_
  refine QSeq.nil (t':=[_,_]) rfl ?_
  obtain rfl:=HA0.out
  clear HA0 oe12
  simp only [pz,Act.put,sIB,sCZ,sCS]
  by_cases h5:x.kd=5
  ·have KK:=Lib.hid h5
   clear h5
   go_upto_region 12 with (fail)
   refine Aa 98 [35,34] [0,1] (fun a0 HA0=>?_)
   have oe12:=ev HA0 12 rfl
   refine QSeq.pure rfl (.bool true) (fun E=>An rfl (E.v oe12) rfl (Ag _ _ _ _ _ _) (Al _ _ _ Tryz.underlying3) (congrArg Value.bool (Bi KK.out))) ?_
   refine QSeq.pure rfl _ (fun E=>Af rfl (E.d 0 0)) ?_
   refine QSeq.nil (t':=[_,_]) rfl ?_
   obtain rfl:=HA0.out
   clear HA0 oe12
   simp only [pz,Act.put,sIB,sCZ,sCS]
   have HE:=hid (show Bf x=({ mg0 x.kd x.fr x.to with ep:=x.ep,rn:=x.rn,tm:=x.tm }:Mg) by unfold Bf;rw [if_neg K1.out,if_neg K2.out,if_neg K3.out,if_neg K4.out,if_pos KK.out]<;>rfl)
   go_upto_region 13 with (fail)
   generalize ha0:Act.mk _ _=a0
   have oe1:a0.eval (.tmp 1)=.pointer (some ⟨w.heap.size,0,none⟩):=by rw [← ha0];rfl
   have oe3:a0.eval (.tmp 3)=.pointer (some ⟨w1.heap.size,0,none⟩):=by rw [← ha0];rfl
   have hsz0:a0.tmps.size=98:=by rw [← ha0];rfl
   have HA0:=hid ha0
   clear ha0
   refine A3 98 hsz0 [36,37,38,39,40,41,42,105,43,107,44,109] (fun k=>(k=w1.heap.size)) (fun k j=>(k=0∧((j=w1.heap.size)))∨(k=1∧((j=w1.heap.size)))∨(k=2∧((j=w1.heap.size)))) (by intro k j h;(try dsimp only at h ⊢);omega) [qi (.pointer (some ⟨w.heap.size,154,none⟩)),qi (.int .i64 x.ep),qi (.pointer (some ⟨w.heap.size,155,none⟩)),qi (.int .i64 x.rn),qi (.pointer (some ⟨w.heap.size,156,none⟩)),qi (.int .u64 (x.tm:Nat)),qi (.pointer (some ⟨w1.heap.size,154,none⟩)),qv 0,qi (.pointer (some ⟨w1.heap.size,155,none⟩)),qv 1,qi (.pointer (some ⟨w1.heap.size,156,none⟩)),qv 2] ⟨Ab,Ab,Ab,Ab,Ab,Ab,Ab,Ak,Ab,Ak,Ab,Ak,trivial⟩ [7,9,11] ⟨?_,?_,?_,?_,?_,?_,?_,?_,?_,?_,?_,?_,trivial⟩ ?_
   ·exact stq (fun E=>Ad rfl Tryz.underlying61 rfl (by kernel_rfl) (E.v oe1))
   ·exact stq (fun E=>Aj rfl Tryz.underlying3 rfl (E.d 0) (Cs.seg1 ((HB1.out.mod Cx9.out (fun h=>h)).mod E.m (by intro h2;omega)) HLN.out 7 rfl (o:=154) (k:=0) rfl rfl rfl))
   ·exact stq (fun E=>Ad rfl Tryz.underlying61 rfl (by kernel_rfl) (E.v oe1))
   ·exact stq (fun E=>Aj rfl Tryz.underlying3 rfl (E.d 2) (Cs.seg1 ((HB1.out.mod Cx9.out (fun h=>h)).mod E.m (by intro h2;omega)) HLN.out 8 rfl (o:=155) (k:=0) rfl rfl rfl))
   ·exact stq (fun E=>Ad rfl Tryz.underlying61 rfl (by kernel_rfl) (E.v oe1))
   ·exact stq (fun E=>Aj rfl Tryz.underlying30 rfl (E.d 4) (Cs.seg1 ((HB1.out.mod Cx9.out (fun h=>h)).mod E.m (by intro h2;omega)) HLN.out 9 rfl (o:=156) (k:=0) rfl rfl rfl))
   ·exact stq (fun E=>Ad rfl Tryz.underlying61 rfl (by kernel_rfl) (E.v oe3))
   ·exact Ah rfl
   ·exact stq (fun E=>Ad rfl Tryz.underlying61 rfl (by kernel_rfl) (E.v oe3))
   ·exact Ah rfl
   ·exact stq (fun E=>Ad rfl Tryz.underlying61 rfl (by kernel_rfl) (E.v oe3))
   ·exact Ah rfl
   intro u13_0 hr
   have zu13_0:=hr.size
   have Cx18:=hid (hr.new (S:=(fun k=>(k=w1.heap.size))))
   have Hx19:=hid (Hx8.out.mod hr (by intro h2;omega))
   clear Hx8
   clear hr
   refine QChain.go fun Z act E=>?_
   refine Aq rfl (Ac rfl) rfl Hx19.out (off:=154) (vs:=[.int .i64 x.ep]) (by kernel_rfl) one1 (by show 154+1≤295;decide) (E.d 6) (ec (E.d 1)) ?_
   intro u13_1a qc0 hm
   have qb5:=qc0.eqv (b:=((Mg.segs ({ mg0 x.kd x.fr x.to with ep:=x.ep }:Mg) (zCe.cells zS) (zPm.cells zS) (zPr.cells zS zS zS) (zOp.cells zS) (zDc.cells zS zS zS zS)).flatten:List Value).toArray) ((Bc HZL.out 7 (rfl) rfl).trans rfl)
   clear qc0
   have zu13_1a:=hm.size
   refine ⟨hm.mono (by intro k hk h;omega),(fun _=>rfl),?_⟩
   intro u13_1 hr
   have zu13_1:=hr.size
   have Hx20:=hid (qb5.mod hr (by intro h2;omega))
   have Cx21:=hid (Cx18.out.goM hm hr (fun _ _ h=>h))
   clear Cx18 hm hr Z act E qb5 Hx19
   refine QChain.go fun Z act E=>?_
   refine Aq rfl (Ac rfl) rfl Hx20.out (off:=155) (vs:=[.int .i64 x.rn]) (by kernel_rfl) one1 (by show 155+1≤295;decide) (E.d 8) (ec (E.d 3)) ?_
   intro u13_2a qc0 hm
   have qb5:=qc0.eqv (b:=((Mg.segs ({ mg0 x.kd x.fr x.to with ep:=x.ep,rn:=x.rn }:Mg) (zCe.cells zS) (zPm.cells zS) (zPr.cells zS zS zS) (zOp.cells zS) (zDc.cells zS zS zS zS)).flatten:List Value).toArray) ((Bc (show (Mg.segs ({ mg0 x.kd x.fr x.to with ep:=x.ep }:Mg) (zCe.cells zS) (zPm.cells zS) (zPr.cells zS zS zS) (zOp.cells zS) (zDc.cells zS zS zS zS)).map List.length=mgN from HZL.out) 8 (rfl) rfl).trans rfl)
   clear qc0
   have zu13_2a:=hm.size
   refine ⟨hm.mono (by intro k hk h;omega),(fun _=>rfl),?_⟩
   intro u13_2 hr
   have zu13_2:=hr.size
   have Hx22:=hid (qb5.mod hr (by intro h2;omega))
   have Cx23:=hid (Cx21.out.goM hm hr (fun _ _ h=>h))
   clear Cx21 hm hr Z act E qb5 Hx20
   refine QChain.go fun Z act E=>?_
   refine Aq rfl (Ac rfl) rfl Hx22.out (off:=156) (vs:=[.int .u64 (x.tm:Nat)]) (by kernel_rfl) one1 (by show 156+1≤295;decide) (E.d 10) (ec (E.d 5)) ?_
   intro u13_3a qc0 hm
   have qb5:=qc0.eqv (b:=((Mg.segs ({ mg0 x.kd x.fr x.to with ep:=x.ep,rn:=x.rn,tm:=x.tm }:Mg) (zCe.cells zS) (zPm.cells zS) (zPr.cells zS zS zS) (zOp.cells zS) (zDc.cells zS zS zS zS)).flatten:List Value).toArray) ((Bc (show (Mg.segs ({ mg0 x.kd x.fr x.to with ep:=x.ep,rn:=x.rn }:Mg) (zCe.cells zS) (zPm.cells zS) (zPr.cells zS zS zS) (zOp.cells zS) (zDc.cells zS zS zS zS)).map List.length=mgN from HZL.out) 9 (rfl) rfl).trans rfl)
   clear qc0
   have zu13_3a:=hm.size
   refine ⟨hm.mono (by intro k hk h;omega),(fun _=>rfl),?_⟩
   intro u13_3 hr
   have zu13_3:=hr.size
   have Hx24:=hid (qb5.mod hr (by intro h2;omega))
   have Cx25:=hid (Cx23.out.goM hm hr (fun _ _ h=>h))
   clear Cx23 hm hr Z act E qb5 Hx22
   refine QChain.nil fun vs hl hzz hrows hne=>?_
   obtain ⟨Z,hYZ,hZb,hV⟩:=hzz
   rw [show vs=[gw vs 0,gw vs 1,gw vs 2,gw vs 3,gw vs 4,gw vs 5,gw vs 6,gw vs 7,gw vs 8,gw vs 9,gw vs 10,gw vs 11] from (Be hl).trans rfl]
   have ha0:=HA0.out
   subst ha0
   clear HA0 hV hYZ hZb hsz0 hrows hne oe1 oe3
   simp only [Au,Act.put,sIB,sCZ,sCS,List.set_nil]
   clear hl
   have hrz:MgR.rd R2 u13_3 ((Mg.segs ({ mg0 x.kd x.fr x.to with ep:=x.ep,rn:=x.rn,tm:=x.tm }:Mg) (zCe.cells zS) (zPm.cells zS) (zPr.cells zS zS zS) (zOp.cells zS) (zDc.cells zS zS zS zS)).flatten) ({ mg0 x.kd x.fr x.to with ep:=x.ep,rn:=x.rn,tm:=x.tm }:Mg):=⟨_,_,_,_,_,rfl,{ HZK.out with ep:=HOK.out.ep,rn:=HOK.out.rn,tm:=HOK.out.tm },zCe_rd _ _,zPm_rd _ _,z_pr _ _,z_op _ _,z_dc _ _⟩
   have HRZ:=Lib.hid hrz
   clear hrz
   go_wp2_with fail
   go_meet
   case rel=>exact ⟨congrArg (fun z=>Value.pointer (some ⟨z,0,none⟩)) (by omega),_,_,HE.out.symm,Hx24.out,HRZ.out,(hmz.out.trans Cx25.out (fun _ _ h=>h))⟩
  have K5:=Lib.hid h5
  clear h5
  go_upto_region 12 with (fail)
  refine Aa 98 [35,34] [0,1] (fun a0 HA0=>?_)
  have oe12:=ev HA0 12 rfl
  refine QSeq.pure rfl (.bool false) (fun E=>An rfl (E.v oe12) rfl (Ag _ _ _ _ _ _) (Al _ _ _ Tryz.underlying3) (congrArg Value.bool (Bb K5.out))) ?_
  refine QSeq.pure rfl _ (fun E=>Af rfl (E.d 0 0)) ?_
  refine QSeq.nil (t':=[_,_]) rfl ?_
  obtain rfl:=HA0.out
  clear HA0 oe12
  simp only [pz,Act.put,sIB,sCZ,sCS]
  by_cases h6:x.kd=6
  ·have KK:=Lib.hid h6
   clear h6
   go_upto_region 14 with (fail)
   refine Aa 98 [46,45] [0,1] (fun a0 HA0=>?_)
   have oe12:=ev HA0 12 rfl
   refine QSeq.pure rfl (.bool true) (fun E=>An rfl (E.v oe12) rfl (Ag _ _ _ _ _ _) (Al _ _ _ Tryz.underlying3) (congrArg Value.bool (Bi KK.out))) ?_
   refine QSeq.pure rfl _ (fun E=>Af rfl (E.d 0 0)) ?_
   refine QSeq.nil (t':=[_,_]) rfl ?_
   obtain rfl:=HA0.out
   clear HA0 oe12
   simp only [pz,Act.put,sIB,sCZ,sCS]
   have HE:=hid (show Bf x=({ mg0 x.kd x.fr x.to with pm:=x.pm }:Mg) by unfold Bf;rw [if_neg K1.out,if_neg K2.out,if_neg K3.out,if_neg K4.out,if_neg K5.out,if_pos KK.out]<;>rfl)
   go_upto_region 15 with (fail)
   refine Aa 98 [47,48,49,101] [0,1,2,3] (fun a0 HA0=>?_)
   have oe1:=ev HA0 1 rfl
   have oe3:=ev HA0 3 rfl
   refine QSeq.pure rfl (.pointer (some ⟨w.heap.size,157,none⟩)) (fun E=>Ad rfl Tryz.underlying61 rfl (by kernel_rfl) (E.v oe1)) ?_
   refine QSeq.pure rfl _ (fun E=>Am rfl Tryz.underlying40 rfl (off:=157) (cs:=(c10)) (by rw [HC10.out];kernel_rfl) (E.d 0 0) (Cs.seg (HB1.out.mod Cx9.out (fun h=>h)) HLN.out 10 rfl rfl)) ?_
   refine QSeq.pure rfl (.pointer (some ⟨w1.heap.size,157,none⟩)) (fun E=>Ad rfl Tryz.underlying61 rfl (by kernel_rfl) (E.v oe3)) ?_
   refine QSeq.go fun act E=>?_
   refine Aq rfl (Ac rfl) rfl Hx8.out (off:=157) (vs:=c10) (by rw [HC10.out];kernel_rfl) HO10.out (by show 157+_≤295;rw [HC10.out];decide) (E.d 2 0) (ec (E.d 1 1)) ?_
   intro u15_3 qc0 hm
   have qb5:=qc0.eqv (b:=((Mg.segs ({ mg0 x.kd x.fr x.to with pm:=x.pm }:Mg) (zCe.cells zS) c10 (zPr.cells zS zS zS) (zOp.cells zS) (zDc.cells zS zS zS zS)).flatten:List Value).toArray) ((Bc HZL.out 10 (by rw [HC10.out];rfl) rfl).trans rfl)
   clear qc0
   have Hx26:=hid qb5
   have zu15_3:=hm.size
   have Cx27:=hid (show Mod (fun k=>(k=w1.heap.size)) u1_8 u15_3 from hm)
   clear hm
   clear act E qb5 Hx8
   refine QSeq.nil (t':=[_,_,_,_]) rfl ?_
   obtain rfl:=HA0.out
   clear HA0 oe1 oe3
   simp only [pz,Act.put,sIB,sCZ,sCS,List.set_nil]
   have hrz:MgR.rd R2 u15_3 ((Mg.segs ({ mg0 x.kd x.fr x.to with pm:=x.pm }:Mg) (zCe.cells zS) c10 (zPr.cells zS zS zS) (zOp.cells zS) (zDc.cells zS zS zS zS)).flatten) ({ mg0 x.kd x.fr x.to with pm:=x.pm }:Mg):=⟨_,_,_,_,_,rfl,{ HZK.out with },zCe_rd _ _,((Hx2.out.mod Cx9.out (fun _ _ h=>h)).mod Cx27.out (sB HBT)),z_pr _ _,z_op _ _,z_dc _ _⟩
   have HRZ:=Lib.hid hrz
   clear hrz
   go_wp2_with fail
   go_meet
   case rel=>exact ⟨congrArg (fun z=>Value.pointer (some ⟨z,0,none⟩)) (by omega),_,_,HE.out.symm,Hx26.out,HRZ.out,(hmz.out.trans Cx27.out (fun _ _ h=>h))⟩
  have K6:=Lib.hid h6
  clear h6
  go_upto_region 14 with (fail)
  refine Aa 98 [46,45] [0,1] (fun a0 HA0=>?_)
  have oe12:=ev HA0 12 rfl
  refine QSeq.pure rfl (.bool false) (fun E=>An rfl (E.v oe12) rfl (Ag _ _ _ _ _ _) (Al _ _ _ Tryz.underlying3) (congrArg Value.bool (Bb K6.out))) ?_
  refine QSeq.pure rfl _ (fun E=>Af rfl (E.d 0 0)) ?_
  refine QSeq.nil (t':=[_,_]) rfl ?_
  obtain rfl:=HA0.out
  clear HA0 oe12
  simp only [pz,Act.put,sIB,sCZ,sCS]
  by_cases h7:x.kd=7
  ·have KK:=Lib.hid h7
   clear h7
   go_upto_region 16 with (fail)
   refine Aa 98 [51,50] [0,1] (fun a0 HA0=>?_)
   have oe12:=ev HA0 12 rfl
   refine QSeq.pure rfl (.bool true) (fun E=>An rfl (E.v oe12) rfl (Ag _ _ _ _ _ _) (Al _ _ _ Tryz.underlying3) (congrArg Value.bool (Bi KK.out))) ?_
   refine QSeq.pure rfl _ (fun E=>Af rfl (E.d 0 0)) ?_
   refine QSeq.nil (t':=[_,_]) rfl ?_
   obtain rfl:=HA0.out
   clear HA0 oe12
   simp only [pz,Act.put,sIB,sCZ,sCS]
   have HE:=hid (show Bf x=({ mg0 x.kd x.fr x.to with pr:=x.pr }:Mg) by unfold Bf;rw [if_neg K1.out,if_neg K2.out,if_neg K3.out,if_neg K4.out,if_neg K5.out,if_neg K6.out,if_pos KK.out]<;>rfl)
   go_upto_region 17 with (fail)
   refine Aa 98 [52,53,54,101] [0,1,2,3] (fun a0 HA0=>?_)
   have oe1:=ev HA0 1 rfl
   have oe3:=ev HA0 3 rfl
   refine QSeq.pure rfl (.pointer (some ⟨w.heap.size,163,none⟩)) (fun E=>Ad rfl Tryz.underlying61 rfl (by kernel_rfl) (E.v oe1)) ?_
   refine QSeq.pure rfl _ (fun E=>Am rfl Tryz.underlying47 rfl (off:=163) (cs:=(c11)) (by rw [HC11.out];kernel_rfl) (E.d 0 0) (Cs.seg (HB1.out.mod Cx9.out (fun h=>h)) HLN.out 11 rfl rfl)) ?_
   refine QSeq.pure rfl (.pointer (some ⟨w1.heap.size,163,none⟩)) (fun E=>Ad rfl Tryz.underlying61 rfl (by kernel_rfl) (E.v oe3)) ?_
   refine QSeq.go fun act E=>?_
   refine Aq rfl (Ac rfl) rfl Hx8.out (off:=163) (vs:=c11) (by rw [HC11.out];kernel_rfl) HO11.out (by show 163+_≤295;rw [HC11.out];decide) (E.d 2 0) (ec (E.d 1 1)) ?_
   intro u17_3 qc0 hm
   have qb5:=qc0.eqv (b:=((Mg.segs ({ mg0 x.kd x.fr x.to with pr:=x.pr }:Mg) (zCe.cells zS) (zPm.cells zS) c11 (zOp.cells zS) (zDc.cells zS zS zS zS)).flatten:List Value).toArray) ((Bc HZL.out 11 (by rw [HC11.out];rfl) rfl).trans rfl)
   clear qc0
   have Hx28:=hid qb5
   have zu17_3:=hm.size
   have Cx29:=hid (show Mod (fun k=>(k=w1.heap.size)) u1_8 u17_3 from hm)
   clear hm
   clear act E qb5 Hx8
   refine QSeq.nil (t':=[_,_,_,_]) rfl ?_
   obtain rfl:=HA0.out
   clear HA0 oe1 oe3
   simp only [pz,Act.put,sIB,sCZ,sCS,List.set_nil]
   have hrz:MgR.rd R2 u17_3 ((Mg.segs ({ mg0 x.kd x.fr x.to with pr:=x.pr }:Mg) (zCe.cells zS) (zPm.cells zS) c11 (zOp.cells zS) (zDc.cells zS zS zS zS)).flatten) ({ mg0 x.kd x.fr x.to with pr:=x.pr }:Mg):=⟨_,_,_,_,_,rfl,{ HZK.out with },zCe_rd _ _,zPm_rd _ _,((Hx3.out.mod Cx9.out (fun _ _ h=>h)).mod Cx29.out (sB HBT)),z_op _ _,z_dc _ _⟩
   have HRZ:=Lib.hid hrz
   clear hrz
   go_wp2_with fail
   go_meet
   case rel=>exact ⟨congrArg (fun z=>Value.pointer (some ⟨z,0,none⟩)) (by omega),_,_,HE.out.symm,Hx28.out,HRZ.out,(hmz.out.trans Cx29.out (fun _ _ h=>h))⟩
  have K7:=Lib.hid h7
  clear h7
  go_upto_region 16 with (fail)
  refine Aa 98 [51,50] [0,1] (fun a0 HA0=>?_)
  have oe12:=ev HA0 12 rfl
  refine QSeq.pure rfl (.bool false) (fun E=>An rfl (E.v oe12) rfl (Ag _ _ _ _ _ _) (Al _ _ _ Tryz.underlying3) (congrArg Value.bool (Bb K7.out))) ?_
  refine QSeq.pure rfl _ (fun E=>Af rfl (E.d 0 0)) ?_
  refine QSeq.nil (t':=[_,_]) rfl ?_
  obtain rfl:=HA0.out
  clear HA0 oe12
  simp only [pz,Act.put,sIB,sCZ,sCS]
  by_cases h8:x.kd=8
  ·have KK:=Lib.hid h8
   clear h8
   go_upto_region 18 with (fail)
   refine Aa 98 [56,55] [0,1] (fun a0 HA0=>?_)
   have oe12:=ev HA0 12 rfl
   refine QSeq.pure rfl (.bool true) (fun E=>An rfl (E.v oe12) rfl (Ag _ _ _ _ _ _) (Al _ _ _ Tryz.underlying3) (congrArg Value.bool (Bi KK.out))) ?_
   refine QSeq.pure rfl _ (fun E=>Af rfl (E.d 0 0)) ?_
   refine QSeq.nil (t':=[_,_]) rfl ?_
   obtain rfl:=HA0.out
   clear HA0 oe12
   simp only [pz,Act.put,sIB,sCZ,sCS]
   have HE:=hid (show Bf x=({ mg0 x.kd x.fr x.to with vt:=x.vt }:Mg) by unfold Bf;rw [if_neg K1.out,if_neg K2.out,if_neg K3.out,if_neg K4.out,if_neg K5.out,if_neg K6.out,if_neg K7.out,if_pos KK.out]<;>rfl)
   go_upto_region 19 with (fail)
   refine Aa 98 [57,58,59,101] [0,1,2,3] (fun a0 HA0=>?_)
   have oe1:=ev HA0 1 rfl
   have oe3:=ev HA0 3 rfl
   refine QSeq.pure rfl (.pointer (some ⟨w.heap.size,174,none⟩)) (fun E=>Ad rfl Tryz.underlying61 rfl (by kernel_rfl) (E.v oe1)) ?_
   refine QSeq.pure rfl _ (fun E=>Am rfl Tryz.underlying49 rfl (off:=174) (cs:=(x.vt.cells)) (by rw [Vt.len HOK.out.vt];kernel_rfl) (E.d 0 0) (Cs.seg (HB1.out.mod Cx9.out (fun h=>h)) HLN.out 12 rfl rfl)) ?_
   refine QSeq.pure rfl (.pointer (some ⟨w1.heap.size,174,none⟩)) (fun E=>Ad rfl Tryz.underlying61 rfl (by kernel_rfl) (E.v oe3)) ?_
   refine QSeq.go fun act E=>?_
   refine Aq rfl (Ac rfl) rfl Hx8.out (off:=174) (vs:=(x.vt.cells)) (by rw [Vt.len HOK.out.vt];kernel_rfl) (Vt.one _) (by show 174+_≤295;rw [Vt.len HOK.out.vt];decide) (E.d 2 0) (ec (E.d 1 1)) ?_
   intro u19_3 qc0 hm
   have qb5:=qc0.eqv (b:=((Mg.segs ({ mg0 x.kd x.fr x.to with vt:=x.vt }:Mg) (zCe.cells zS) (zPm.cells zS) (zPr.cells zS zS zS) (zOp.cells zS) (zDc.cells zS zS zS zS)).flatten:List Value).toArray) ((Bc HZL.out 12 (by rw [Vt.len HOK.out.vt];rfl) rfl).trans rfl)
   clear qc0
   have Hx30:=hid qb5
   have zu19_3:=hm.size
   have Cx31:=hid (show Mod (fun k=>(k=w1.heap.size)) u1_8 u19_3 from hm)
   clear hm
   clear act E qb5 Hx8
   refine QSeq.nil (t':=[_,_,_,_]) rfl ?_
   obtain rfl:=HA0.out
   clear HA0 oe1 oe3
   simp only [pz,Act.put,sIB,sCZ,sCS,List.set_nil]
   have hrz:MgR.rd R2 u19_3 ((Mg.segs ({ mg0 x.kd x.fr x.to with vt:=x.vt }:Mg) (zCe.cells zS) (zPm.cells zS) (zPr.cells zS zS zS) (zOp.cells zS) (zDc.cells zS zS zS zS)).flatten) ({ mg0 x.kd x.fr x.to with vt:=x.vt }:Mg):=⟨_,_,_,_,_,rfl,{ HZK.out with vt:=HOK.out.vt },zCe_rd _ _,zPm_rd _ _,z_pr _ _,z_op _ _,z_dc _ _⟩
   have HRZ:=Lib.hid hrz
   clear hrz
   go_wp2_with fail
   go_meet
   case rel=>exact ⟨congrArg (fun z=>Value.pointer (some ⟨z,0,none⟩)) (by omega),_,_,HE.out.symm,Hx30.out,HRZ.out,(hmz.out.trans Cx31.out (fun _ _ h=>h))⟩
  have K8:=Lib.hid h8
  clear h8
  go_upto_region 18 with (fail)
  refine Aa 98 [56,55] [0,1] (fun a0 HA0=>?_)
  have oe12:=ev HA0 12 rfl
  refine QSeq.pure rfl (.bool false) (fun E=>An rfl (E.v oe12) rfl (Ag _ _ _ _ _ _) (Al _ _ _ Tryz.underlying3) (congrArg Value.bool (Bb K8.out))) ?_
  refine QSeq.pure rfl _ (fun E=>Af rfl (E.d 0 0)) ?_
  refine QSeq.nil (t':=[_,_]) rfl ?_
  obtain rfl:=HA0.out
  clear HA0 oe12
  simp only [pz,Act.put,sIB,sCZ,sCS]
  by_cases h9:x.kd=9
  ·have KK:=Lib.hid h9
   clear h9
   go_upto_region 20 with (fail)
   refine Aa 98 [61,60] [0,1] (fun a0 HA0=>?_)
   have oe12:=ev HA0 12 rfl
   refine QSeq.pure rfl (.bool true) (fun E=>An rfl (E.v oe12) rfl (Ag _ _ _ _ _ _) (Al _ _ _ Tryz.underlying3) (congrArg Value.bool (Bi KK.out))) ?_
   refine QSeq.pure rfl _ (fun E=>Af rfl (E.d 0 0)) ?_
   refine QSeq.nil (t':=[_,_]) rfl ?_
   obtain rfl:=HA0.out
   clear HA0 oe12
   simp only [pz,Act.put,sIB,sCZ,sCS]
   have HE:=hid (show Bf x=({ mg0 x.kd x.fr x.to with ix:=x.ix,en:=x.en }:Mg) by unfold Bf;rw [if_neg K1.out,if_neg K2.out,if_neg K3.out,if_neg K4.out,if_neg K5.out,if_neg K6.out,if_neg K7.out,if_neg K8.out,if_pos KK.out]<;>rfl)
   go_upto_region 21 with (fail)
   generalize ha0:Act.mk _ _=a0
   have oe1:a0.eval (.tmp 1)=.pointer (some ⟨w.heap.size,0,none⟩):=by rw [← ha0];rfl
   have oe3:a0.eval (.tmp 3)=.pointer (some ⟨w1.heap.size,0,none⟩):=by rw [← ha0];rfl
   have hsz0:a0.tmps.size=98:=by rw [← ha0];rfl
   have HA0:=hid ha0
   clear ha0
   refine A3 98 hsz0 [62,63,64,65,66,103,67,105] (fun k=>(k=w1.heap.size)) (fun k j=>(k=0∧((j=w1.heap.size)))∨(k=1∧((j=w1.heap.size)))) (by intro k j h;(try dsimp only at h ⊢);omega) [qi (.pointer (some ⟨w.heap.size,212,none⟩)),qi (.int .i64 x.ix),qi (.pointer (some ⟨w.heap.size,213,none⟩)),qi (.agg (x.en.cells).toArray),qi (.pointer (some ⟨w1.heap.size,212,none⟩)),qv 0,qi (.pointer (some ⟨w1.heap.size,213,none⟩)),qv 1] ⟨Ab,Ab,Ab,Ab,Ab,Ak,Ab,Ak,trivial⟩ [5,7] ⟨?_,?_,?_,?_,?_,?_,?_,?_,trivial⟩ ?_
   ·exact stq (fun E=>Ad rfl Tryz.underlying61 rfl (by kernel_rfl) (E.v oe1))
   ·exact stq (fun E=>Aj rfl Tryz.underlying3 rfl (E.d 0) (Cs.seg1 ((HB1.out.mod Cx9.out (fun h=>h)).mod E.m (by intro h2;omega)) HLN.out 13 rfl (o:=212) (k:=0) rfl rfl rfl))
   ·exact stq (fun E=>Ad rfl Tryz.underlying61 rfl (by kernel_rfl) (E.v oe1))
   ·exact stq (fun E=>Am rfl Tryz.underlying51 rfl (off:=213) (cs:=(x.en.cells)) (by rw [En.len HOK.out.en];kernel_rfl) (E.d 2) (Cs.seg ((HB1.out.mod Cx9.out (fun h=>h)).mod E.m (by intro h2;omega)) HLN.out 14 rfl rfl))
   ·exact stq (fun E=>Ad rfl Tryz.underlying61 rfl (by kernel_rfl) (E.v oe3))
   ·exact Ah rfl
   ·exact stq (fun E=>Ad rfl Tryz.underlying61 rfl (by kernel_rfl) (E.v oe3))
   ·exact Ah rfl
   intro u21_0 hr
   have zu21_0:=hr.size
   have Cx32:=hid (hr.new (S:=(fun k=>(k=w1.heap.size))))
   have Hx33:=hid (Hx8.out.mod hr (by intro h2;omega))
   clear Hx8
   clear hr
   refine QChain.go fun Z act E=>?_
   refine Aq rfl (Ac rfl) rfl Hx33.out (off:=212) (vs:=[.int .i64 x.ix]) (by kernel_rfl) one1 (by show 212+1≤295;decide) (E.d 4) (ec (E.d 1)) ?_
   intro u21_1a qc0 hm
   have qb5:=qc0.eqv (b:=((Mg.segs ({ mg0 x.kd x.fr x.to with ix:=x.ix }:Mg) (zCe.cells zS) (zPm.cells zS) (zPr.cells zS zS zS) (zOp.cells zS) (zDc.cells zS zS zS zS)).flatten:List Value).toArray) ((Bc HZL.out 13 (rfl) rfl).trans rfl)
   clear qc0
   have zu21_1a:=hm.size
   refine ⟨hm.mono (by intro k hk h;omega),(fun _=>rfl),?_⟩
   intro u21_1 hr
   have zu21_1:=hr.size
   have Hx34:=hid (qb5.mod hr (by intro h2;omega))
   have Cx35:=hid (Cx32.out.goM hm hr (fun _ _ h=>h))
   clear Cx32 hm hr Z act E qb5 Hx33
   refine QChain.go fun Z act E=>?_
   refine Aq rfl (Ac rfl) rfl Hx34.out (off:=213) (vs:=(x.en.cells)) (by rw [En.len HOK.out.en];kernel_rfl) (En.one _) (by show 213+_≤295;rw [En.len HOK.out.en];decide) (E.d 6) (ec (E.d 3)) ?_
   intro u21_2a qc0 hm
   have qb5:=qc0.eqv (b:=((Mg.segs ({ mg0 x.kd x.fr x.to with ix:=x.ix,en:=x.en }:Mg) (zCe.cells zS) (zPm.cells zS) (zPr.cells zS zS zS) (zOp.cells zS) (zDc.cells zS zS zS zS)).flatten:List Value).toArray) ((Bc (show (Mg.segs ({ mg0 x.kd x.fr x.to with ix:=x.ix }:Mg) (zCe.cells zS) (zPm.cells zS) (zPr.cells zS zS zS) (zOp.cells zS) (zDc.cells zS zS zS zS)).map List.length=mgN from HZL.out) 14 (by rw [En.len HOK.out.en];rfl) rfl).trans rfl)
   clear qc0
   have zu21_2a:=hm.size
   refine ⟨hm.mono (by intro k hk h;omega),(fun _=>rfl),?_⟩
   intro u21_2 hr
   have zu21_2:=hr.size
   have Hx36:=hid (qb5.mod hr (by intro h2;omega))
   have Cx37:=hid (Cx35.out.goM hm hr (fun _ _ h=>h))
   clear Cx35 hm hr Z act E qb5 Hx34
   refine QChain.nil fun vs hl hzz hrows hne=>?_
   obtain ⟨Z,hYZ,hZb,hV⟩:=hzz
   rw [show vs=[gw vs 0,gw vs 1,gw vs 2,gw vs 3,gw vs 4,gw vs 5,gw vs 6,gw vs 7] from (Be hl).trans rfl]
   have ha0:=HA0.out
   subst ha0
   clear HA0 hV hYZ hZb hsz0 hrows hne oe1 oe3
   simp only [Au,Act.put,sIB,sCZ,sCS,List.set_nil]
   clear hl
   have hrz:MgR.rd R2 u21_2 ((Mg.segs ({ mg0 x.kd x.fr x.to with ix:=x.ix,en:=x.en }:Mg) (zCe.cells zS) (zPm.cells zS) (zPr.cells zS zS zS) (zOp.cells zS) (zDc.cells zS zS zS zS)).flatten) ({ mg0 x.kd x.fr x.to with ix:=x.ix,en:=x.en }:Mg):=⟨_,_,_,_,_,rfl,{ HZK.out with ix:=HOK.out.ix,en:=HOK.out.en },zCe_rd _ _,zPm_rd _ _,z_pr _ _,z_op _ _,z_dc _ _⟩
   have HRZ:=Lib.hid hrz
   clear hrz
   go_wp2_with fail
   go_meet
   case rel=>exact ⟨congrArg (fun z=>Value.pointer (some ⟨z,0,none⟩)) (by omega),_,_,HE.out.symm,Hx36.out,HRZ.out,(hmz.out.trans Cx37.out (fun _ _ h=>h))⟩
  have K9:=Lib.hid h9
  clear h9
  go_upto_region 20 with (fail)
  refine Aa 98 [61,60] [0,1] (fun a0 HA0=>?_)
  have oe12:=ev HA0 12 rfl
  refine QSeq.pure rfl (.bool false) (fun E=>An rfl (E.v oe12) rfl (Ag _ _ _ _ _ _) (Al _ _ _ Tryz.underlying3) (congrArg Value.bool (Bb K9.out))) ?_
  refine QSeq.pure rfl _ (fun E=>Af rfl (E.d 0 0)) ?_
  refine QSeq.nil (t':=[_,_]) rfl ?_
  obtain rfl:=HA0.out
  clear HA0 oe12
  simp only [pz,Act.put,sIB,sCZ,sCS]
  by_cases h10:x.kd=10
  ·have KK:=Lib.hid h10
   clear h10
   go_upto_region 22 with (fail)
   refine Aa 98 [69,68] [0,1] (fun a0 HA0=>?_)
   have oe12:=ev HA0 12 rfl
   refine QSeq.pure rfl (.bool true) (fun E=>An rfl (E.v oe12) rfl (Ag _ _ _ _ _ _) (Al _ _ _ Tryz.underlying3) (congrArg Value.bool (Bi KK.out))) ?_
   refine QSeq.pure rfl _ (fun E=>Af rfl (E.d 0 0)) ?_
   refine QSeq.nil (t':=[_,_]) rfl ?_
   obtain rfl:=HA0.out
   clear HA0 oe12
   simp only [pz,Act.put,sIB,sCZ,sCS]
   have HE:=hid (show Bf x=({ mg0 x.kd x.fr x.to with op:=x.op }:Mg) by unfold Bf;rw [if_neg K1.out,if_neg K2.out,if_neg K3.out,if_neg K4.out,if_neg K5.out,if_neg K6.out,if_neg K7.out,if_neg K8.out,if_neg K9.out,if_pos KK.out]<;>rfl)
   go_upto_region 23 with (fail)
   refine Aa 98 [70,71,72,101] [0,1,2,3] (fun a0 HA0=>?_)
   have oe1:=ev HA0 1 rfl
   have oe3:=ev HA0 3 rfl
   refine QSeq.pure rfl (.pointer (some ⟨w.heap.size,248,none⟩)) (fun E=>Ad rfl Tryz.underlying61 rfl (by kernel_rfl) (E.v oe1)) ?_
   refine QSeq.pure rfl _ (fun E=>Am rfl Tryz.underlying54 rfl (off:=248) (cs:=(c15)) (by rw [HC15.out];kernel_rfl) (E.d 0 0) (Cs.seg (HB1.out.mod Cx9.out (fun h=>h)) HLN.out 15 rfl rfl)) ?_
   refine QSeq.pure rfl (.pointer (some ⟨w1.heap.size,248,none⟩)) (fun E=>Ad rfl Tryz.underlying61 rfl (by kernel_rfl) (E.v oe3)) ?_
   refine QSeq.go fun act E=>?_
   refine Aq rfl (Ac rfl) rfl Hx8.out (off:=248) (vs:=c15) (by rw [HC15.out];kernel_rfl) HO15.out (by show 248+_≤295;rw [HC15.out];decide) (E.d 2 0) (ec (E.d 1 1)) ?_
   intro u23_3 qc0 hm
   have qb5:=qc0.eqv (b:=((Mg.segs ({ mg0 x.kd x.fr x.to with op:=x.op }:Mg) (zCe.cells zS) (zPm.cells zS) (zPr.cells zS zS zS) c15 (zDc.cells zS zS zS zS)).flatten:List Value).toArray) ((Bc HZL.out 15 (by rw [HC15.out];rfl) rfl).trans rfl)
   clear qc0
   have Hx38:=hid qb5
   have zu23_3:=hm.size
   have Cx39:=hid (show Mod (fun k=>(k=w1.heap.size)) u1_8 u23_3 from hm)
   clear hm
   clear act E qb5 Hx8
   refine QSeq.nil (t':=[_,_,_,_]) rfl ?_
   obtain rfl:=HA0.out
   clear HA0 oe1 oe3
   simp only [pz,Act.put,sIB,sCZ,sCS,List.set_nil]
   have hrz:MgR.rd R2 u23_3 ((Mg.segs ({ mg0 x.kd x.fr x.to with op:=x.op }:Mg) (zCe.cells zS) (zPm.cells zS) (zPr.cells zS zS zS) c15 (zDc.cells zS zS zS zS)).flatten) ({ mg0 x.kd x.fr x.to with op:=x.op }:Mg):=⟨_,_,_,_,_,rfl,{ HZK.out with },zCe_rd _ _,zPm_rd _ _,z_pr _ _,((Hx4.out.mod Cx9.out (fun _ _ h=>h)).mod Cx39.out (sB HBT)),z_dc _ _⟩
   have HRZ:=Lib.hid hrz
   clear hrz
   go_wp2_with fail
   go_meet
   case rel=>exact ⟨congrArg (fun z=>Value.pointer (some ⟨z,0,none⟩)) (by omega),_,_,HE.out.symm,Hx38.out,HRZ.out,(hmz.out.trans Cx39.out (fun _ _ h=>h))⟩
  have K10:=Lib.hid h10
  clear h10
  go_upto_region 22 with (fail)
  refine Aa 98 [69,68] [0,1] (fun a0 HA0=>?_)
  have oe12:=ev HA0 12 rfl
  refine QSeq.pure rfl (.bool false) (fun E=>An rfl (E.v oe12) rfl (Ag _ _ _ _ _ _) (Al _ _ _ Tryz.underlying3) (congrArg Value.bool (Bb K10.out))) ?_
  refine QSeq.pure rfl _ (fun E=>Af rfl (E.d 0 0)) ?_
  refine QSeq.nil (t':=[_,_]) rfl ?_
  obtain rfl:=HA0.out
  clear HA0 oe12
  simp only [pz,Act.put,sIB,sCZ,sCS]
  by_cases h11:x.kd=11
  ·have KK:=Lib.hid h11
   clear h11
   go_upto_region 24 with (fail)
   refine Aa 98 [74,73] [0,1] (fun a0 HA0=>?_)
   have oe12:=ev HA0 12 rfl
   refine QSeq.pure rfl (.bool true) (fun E=>An rfl (E.v oe12) rfl (Ag _ _ _ _ _ _) (Al _ _ _ Tryz.underlying3) (congrArg Value.bool (Bi KK.out))) ?_
   refine QSeq.pure rfl _ (fun E=>Af rfl (E.d 0 0)) ?_
   refine QSeq.nil (t':=[_,_]) rfl ?_
   obtain rfl:=HA0.out
   clear HA0 oe12
   simp only [pz,Act.put,sIB,sCZ,sCS]
   have HE:=hid (show Bf x=({ mg0 x.kd x.fr x.to with ix:=x.ix }:Mg) by unfold Bf;rw [if_neg K1.out,if_neg K2.out,if_neg K3.out,if_neg K4.out,if_neg K5.out,if_neg K6.out,if_neg K7.out,if_neg K8.out,if_neg K9.out,if_neg K10.out,if_pos KK.out]<;>rfl)
   go_upto_region 25 with (fail)
   refine Aa 98 [75,76,77,101] [0,1,2,3] (fun a0 HA0=>?_)
   have oe1:=ev HA0 1 rfl
   have oe3:=ev HA0 3 rfl
   refine QSeq.pure rfl (.pointer (some ⟨w.heap.size,212,none⟩)) (fun E=>Ad rfl Tryz.underlying61 rfl (by kernel_rfl) (E.v oe1)) ?_
   refine QSeq.pure rfl (.int .i64 x.ix) (fun E=>Aj rfl Tryz.underlying3 rfl (E.d 0 0) (Cs.seg1 (HB1.out.mod Cx9.out (fun h=>h)) HLN.out 13 rfl (o:=212) (k:=0) rfl rfl rfl)) ?_
   refine QSeq.pure rfl (.pointer (some ⟨w1.heap.size,212,none⟩)) (fun E=>Ad rfl Tryz.underlying61 rfl (by kernel_rfl) (E.v oe3)) ?_
   refine QSeq.go fun act E=>?_
   refine Aq rfl (Ac rfl) rfl Hx8.out (off:=212) (vs:=[.int .i64 x.ix]) (by kernel_rfl) one1 (by show 212+1≤295;decide) (E.d 2 0) (ec (E.d 1 1)) ?_
   intro u25_3 qc0 hm
   have qb5:=qc0.eqv (b:=((Mg.segs ({ mg0 x.kd x.fr x.to with ix:=x.ix }:Mg) (zCe.cells zS) (zPm.cells zS) (zPr.cells zS zS zS) (zOp.cells zS) (zDc.cells zS zS zS zS)).flatten:List Value).toArray) ((Bc HZL.out 13 (rfl) rfl).trans rfl)
   clear qc0
   have Hx40:=hid qb5
   have zu25_3:=hm.size
   have Cx41:=hid (show Mod (fun k=>(k=w1.heap.size)) u1_8 u25_3 from hm)
   clear hm
   clear act E qb5 Hx8
   refine QSeq.nil (t':=[_,_,_,_]) rfl ?_
   obtain rfl:=HA0.out
   clear HA0 oe1 oe3
   simp only [pz,Act.put,sIB,sCZ,sCS,List.set_nil]
   have hrz:MgR.rd R2 u25_3 ((Mg.segs ({ mg0 x.kd x.fr x.to with ix:=x.ix }:Mg) (zCe.cells zS) (zPm.cells zS) (zPr.cells zS zS zS) (zOp.cells zS) (zDc.cells zS zS zS zS)).flatten) ({ mg0 x.kd x.fr x.to with ix:=x.ix }:Mg):=⟨_,_,_,_,_,rfl,{ HZK.out with ix:=HOK.out.ix },zCe_rd _ _,zPm_rd _ _,z_pr _ _,z_op _ _,z_dc _ _⟩
   have HRZ:=Lib.hid hrz
   clear hrz
   go_wp2_with fail
   go_meet
   case rel=>exact ⟨congrArg (fun z=>Value.pointer (some ⟨z,0,none⟩)) (by omega),_,_,HE.out.symm,Hx40.out,HRZ.out,(hmz.out.trans Cx41.out (fun _ _ h=>h))⟩
  have K11:=Lib.hid h11
  clear h11
  go_upto_region 24 with (fail)
  refine Aa 98 [74,73] [0,1] (fun a0 HA0=>?_)
  have oe12:=ev HA0 12 rfl
  refine QSeq.pure rfl (.bool false) (fun E=>An rfl (E.v oe12) rfl (Ag _ _ _ _ _ _) (Al _ _ _ Tryz.underlying3) (congrArg Value.bool (Bb K11.out))) ?_
  refine QSeq.pure rfl _ (fun E=>Af rfl (E.d 0 0)) ?_
  refine QSeq.nil (t':=[_,_]) rfl ?_
  obtain rfl:=HA0.out
  clear HA0 oe12
  simp only [pz,Act.put,sIB,sCZ,sCS]
  by_cases h12:x.kd=12
  ·have KK:=Lib.hid h12
   clear h12
   go_upto_region 26 with (fail)
   refine Aa 98 [79,78] [0,1] (fun a0 HA0=>?_)
   have oe12:=ev HA0 12 rfl
   refine QSeq.pure rfl (.bool true) (fun E=>An rfl (E.v oe12) rfl (Ag _ _ _ _ _ _) (Al _ _ _ Tryz.underlying3) (congrArg Value.bool (Bi KK.out))) ?_
   refine QSeq.pure rfl _ (fun E=>Af rfl (E.d 0 0)) ?_
   refine QSeq.nil (t':=[_,_]) rfl ?_
   obtain rfl:=HA0.out
   clear HA0 oe12
   simp only [pz,Act.put,sIB,sCZ,sCS]
   have HE:=hid (show Bf x=({ mg0 x.kd x.fr x.to with dn:=x.dn }:Mg) by unfold Bf;rw [if_neg K1.out,if_neg K2.out,if_neg K3.out,if_neg K4.out,if_neg K5.out,if_neg K6.out,if_neg K7.out,if_neg K8.out,if_neg K9.out,if_neg K10.out,if_neg K11.out,if_pos KK.out]<;>rfl)
   go_upto_region 27 with (fail)
   refine Aa 98 [80,81,82,101] [0,1,2,3] (fun a0 HA0=>?_)
   have oe1:=ev HA0 1 rfl
   have oe3:=ev HA0 3 rfl
   refine QSeq.pure rfl (.pointer (some ⟨w.heap.size,282,none⟩)) (fun E=>Ad rfl Tryz.underlying61 rfl (by kernel_rfl) (E.v oe1)) ?_
   refine QSeq.pure rfl _ (fun E=>Am rfl Tryz.underlying56 rfl (off:=282) (cs:=(x.dn.cells)) (by kernel_rfl) (E.d 0 0) (Cs.seg (HB1.out.mod Cx9.out (fun h=>h)) HLN.out 16 rfl rfl)) ?_
   refine QSeq.pure rfl (.pointer (some ⟨w1.heap.size,282,none⟩)) (fun E=>Ad rfl Tryz.underlying61 rfl (by kernel_rfl) (E.v oe3)) ?_
   refine QSeq.go fun act E=>?_
   refine Aq rfl (Ac rfl) rfl Hx8.out (off:=282) (vs:=(x.dn.cells)) (by kernel_rfl) (Dn.one _) (by show 282+4≤295;decide) (E.d 2 0) (ec (E.d 1 1)) ?_
   intro u27_3 qc0 hm
   have qb5:=qc0.eqv (b:=((Mg.segs ({ mg0 x.kd x.fr x.to with dn:=x.dn }:Mg) (zCe.cells zS) (zPm.cells zS) (zPr.cells zS zS zS) (zOp.cells zS) (zDc.cells zS zS zS zS)).flatten:List Value).toArray) ((Bc HZL.out 16 (rfl) rfl).trans rfl)
   clear qc0
   have Hx42:=hid qb5
   have zu27_3:=hm.size
   have Cx43:=hid (show Mod (fun k=>(k=w1.heap.size)) u1_8 u27_3 from hm)
   clear hm
   clear act E qb5 Hx8
   refine QSeq.nil (t':=[_,_,_,_]) rfl ?_
   obtain rfl:=HA0.out
   clear HA0 oe1 oe3
   simp only [pz,Act.put,sIB,sCZ,sCS,List.set_nil]
   have hrz:MgR.rd R2 u27_3 ((Mg.segs ({ mg0 x.kd x.fr x.to with dn:=x.dn }:Mg) (zCe.cells zS) (zPm.cells zS) (zPr.cells zS zS zS) (zOp.cells zS) (zDc.cells zS zS zS zS)).flatten) ({ mg0 x.kd x.fr x.to with dn:=x.dn }:Mg):=⟨_,_,_,_,_,rfl,{ HZK.out with dn:=HOK.out.dn },zCe_rd _ _,zPm_rd _ _,z_pr _ _,z_op _ _,z_dc _ _⟩
   have HRZ:=Lib.hid hrz
   clear hrz
   go_wp2_with fail
   go_meet
   case rel=>exact ⟨congrArg (fun z=>Value.pointer (some ⟨z,0,none⟩)) (by omega),_,_,HE.out.symm,Hx42.out,HRZ.out,(hmz.out.trans Cx43.out (fun _ _ h=>h))⟩
  have K12:=Lib.hid h12
  clear h12
  go_upto_region 26 with (fail)
  refine Aa 98 [79,78] [0,1] (fun a0 HA0=>?_)
  have oe12:=ev HA0 12 rfl
  refine QSeq.pure rfl (.bool false) (fun E=>An rfl (E.v oe12) rfl (Ag _ _ _ _ _ _) (Al _ _ _ Tryz.underlying3) (congrArg Value.bool (Bb K12.out))) ?_
  refine QSeq.pure rfl _ (fun E=>Af rfl (E.d 0 0)) ?_
  refine QSeq.nil (t':=[_,_]) rfl ?_
  obtain rfl:=HA0.out
  clear HA0 oe12
  simp only [pz,Act.put,sIB,sCZ,sCS]
  by_cases h13:x.kd=13
  ·have KK:=Lib.hid h13
   clear h13
   go_upto_region 28 with (fail)
   refine Aa 98 [84,83] [0,1] (fun a0 HA0=>?_)
   have oe12:=ev HA0 12 rfl
   refine QSeq.pure rfl (.bool true) (fun E=>An rfl (E.v oe12) rfl (Ag _ _ _ _ _ _) (Al _ _ _ Tryz.underlying3) (congrArg Value.bool (Bi KK.out))) ?_
   refine QSeq.pure rfl _ (fun E=>Af rfl (E.d 0 0)) ?_
   refine QSeq.nil (t':=[_,_]) rfl ?_
   obtain rfl:=HA0.out
   clear HA0 oe12
   simp only [pz,Act.put,sIB,sCZ,sCS]
   have HE:=hid (show Bf x=({ mg0 x.kd x.fr x.to with ix:=x.ix,rp:=x.rp }:Mg) by unfold Bf;rw [if_neg K1.out,if_neg K2.out,if_neg K3.out,if_neg K4.out,if_neg K5.out,if_neg K6.out,if_neg K7.out,if_neg K8.out,if_neg K9.out,if_neg K10.out,if_neg K11.out,if_neg K12.out,if_pos KK.out]<;>rfl)
   go_upto_region 29 with (fail)
   generalize ha0:Act.mk _ _=a0
   have oe1:a0.eval (.tmp 1)=.pointer (some ⟨w.heap.size,0,none⟩):=by rw [← ha0];rfl
   have oe3:a0.eval (.tmp 3)=.pointer (some ⟨w1.heap.size,0,none⟩):=by rw [← ha0];rfl
   have hsz0:a0.tmps.size=98:=by rw [← ha0];rfl
   have HA0:=hid ha0
   clear ha0
   refine A3 98 hsz0 [85,86,87,88,89,103,90,105] (fun k=>(k=w1.heap.size)) (fun k j=>(k=0∧((j=w1.heap.size)))∨(k=1∧((j=w1.heap.size)))) (by intro k j h;(try dsimp only at h ⊢);omega) [qi (.pointer (some ⟨w.heap.size,212,none⟩)),qi (.int .i64 x.ix),qi (.pointer (some ⟨w.heap.size,286,none⟩)),qi (.string x.rp),qi (.pointer (some ⟨w1.heap.size,212,none⟩)),qv 0,qi (.pointer (some ⟨w1.heap.size,286,none⟩)),qv 1] ⟨Ab,Ab,Ab,Ab,Ab,Ak,Ab,Ak,trivial⟩ [5,7] ⟨?_,?_,?_,?_,?_,?_,?_,?_,trivial⟩ ?_
   ·exact stq (fun E=>Ad rfl Tryz.underlying61 rfl (by kernel_rfl) (E.v oe1))
   ·exact stq (fun E=>Aj rfl Tryz.underlying3 rfl (E.d 0) (Cs.seg1 ((HB1.out.mod Cx9.out (fun h=>h)).mod E.m (by intro h2;omega)) HLN.out 13 rfl (o:=212) (k:=0) rfl rfl rfl))
   ·exact stq (fun E=>Ad rfl Tryz.underlying61 rfl (by kernel_rfl) (E.v oe1))
   ·exact stq (fun E=>Aj rfl Tryz.underlying9 rfl (E.d 2) (Cs.seg1 ((HB1.out.mod Cx9.out (fun h=>h)).mod E.m (by intro h2;omega)) HLN.out 17 rfl (o:=286) (k:=0) rfl rfl rfl))
   ·exact stq (fun E=>Ad rfl Tryz.underlying61 rfl (by kernel_rfl) (E.v oe3))
   ·exact Ah rfl
   ·exact stq (fun E=>Ad rfl Tryz.underlying61 rfl (by kernel_rfl) (E.v oe3))
   ·exact Ah rfl
   intro u29_0 hr
   have zu29_0:=hr.size
   have Cx44:=hid (hr.new (S:=(fun k=>(k=w1.heap.size))))
   have Hx45:=hid (Hx8.out.mod hr (by intro h2;omega))
   clear Hx8
   clear hr
   refine QChain.go fun Z act E=>?_
   refine Aq rfl (Ac rfl) rfl Hx45.out (off:=212) (vs:=[.int .i64 x.ix]) (by kernel_rfl) one1 (by show 212+1≤295;decide) (E.d 4) (ec (E.d 1)) ?_
   intro u29_1a qc0 hm
   have qb5:=qc0.eqv (b:=((Mg.segs ({ mg0 x.kd x.fr x.to with ix:=x.ix }:Mg) (zCe.cells zS) (zPm.cells zS) (zPr.cells zS zS zS) (zOp.cells zS) (zDc.cells zS zS zS zS)).flatten:List Value).toArray) ((Bc HZL.out 13 (rfl) rfl).trans rfl)
   clear qc0
   have zu29_1a:=hm.size
   refine ⟨hm.mono (by intro k hk h;omega),(fun _=>rfl),?_⟩
   intro u29_1 hr
   have zu29_1:=hr.size
   have Hx46:=hid (qb5.mod hr (by intro h2;omega))
   have Cx47:=hid (Cx44.out.goM hm hr (fun _ _ h=>h))
   clear Cx44 hm hr Z act E qb5 Hx45
   refine QChain.go fun Z act E=>?_
   refine Aq rfl (Ac rfl) rfl Hx46.out (off:=286) (vs:=[.string x.rp]) (by kernel_rfl) one1 (by show 286+1≤295;decide) (E.d 6) (ec (E.d 3)) ?_
   intro u29_2a qc0 hm
   have qb5:=qc0.eqv (b:=((Mg.segs ({ mg0 x.kd x.fr x.to with ix:=x.ix,rp:=x.rp }:Mg) (zCe.cells zS) (zPm.cells zS) (zPr.cells zS zS zS) (zOp.cells zS) (zDc.cells zS zS zS zS)).flatten:List Value).toArray) ((Bc (show (Mg.segs ({ mg0 x.kd x.fr x.to with ix:=x.ix }:Mg) (zCe.cells zS) (zPm.cells zS) (zPr.cells zS zS zS) (zOp.cells zS) (zDc.cells zS zS zS zS)).map List.length=mgN from HZL.out) 17 (rfl) rfl).trans rfl)
   clear qc0
   have zu29_2a:=hm.size
   refine ⟨hm.mono (by intro k hk h;omega),(fun _=>rfl),?_⟩
   intro u29_2 hr
   have zu29_2:=hr.size
   have Hx48:=hid (qb5.mod hr (by intro h2;omega))
   have Cx49:=hid (Cx47.out.goM hm hr (fun _ _ h=>h))
   clear Cx47 hm hr Z act E qb5 Hx46
   refine QChain.nil fun vs hl hzz hrows hne=>?_
   obtain ⟨Z,hYZ,hZb,hV⟩:=hzz
   rw [show vs=[gw vs 0,gw vs 1,gw vs 2,gw vs 3,gw vs 4,gw vs 5,gw vs 6,gw vs 7] from (Be hl).trans rfl]
   have ha0:=HA0.out
   subst ha0
   clear HA0 hV hYZ hZb hsz0 hrows hne oe1 oe3
   simp only [Au,Act.put,sIB,sCZ,sCS,List.set_nil]
   clear hl
   have hrz:MgR.rd R2 u29_2 ((Mg.segs ({ mg0 x.kd x.fr x.to with ix:=x.ix,rp:=x.rp }:Mg) (zCe.cells zS) (zPm.cells zS) (zPr.cells zS zS zS) (zOp.cells zS) (zDc.cells zS zS zS zS)).flatten) ({ mg0 x.kd x.fr x.to with ix:=x.ix,rp:=x.rp }:Mg):=⟨_,_,_,_,_,rfl,{ HZK.out with ix:=HOK.out.ix },zCe_rd _ _,zPm_rd _ _,z_pr _ _,z_op _ _,z_dc _ _⟩
   have HRZ:=Lib.hid hrz
   clear hrz
   go_wp2_with fail
   go_meet
   case rel=>exact ⟨congrArg (fun z=>Value.pointer (some ⟨z,0,none⟩)) (by omega),_,_,HE.out.symm,Hx48.out,HRZ.out,(hmz.out.trans Cx49.out (fun _ _ h=>h))⟩
  have K13:=Lib.hid h13
  clear h13
  go_upto_region 28 with (fail)
  refine Aa 98 [84,83] [0,1] (fun a0 HA0=>?_)
  have oe12:=ev HA0 12 rfl
  refine QSeq.pure rfl (.bool false) (fun E=>An rfl (E.v oe12) rfl (Ag _ _ _ _ _ _) (Al _ _ _ Tryz.underlying3) (congrArg Value.bool (Bb K13.out))) ?_
  refine QSeq.pure rfl _ (fun E=>Af rfl (E.d 0 0)) ?_
  refine QSeq.nil (t':=[_,_]) rfl ?_
  obtain rfl:=HA0.out
  clear HA0 oe12
  simp only [pz,Act.put,sIB,sCZ,sCS]
  by_cases h14:x.kd=14
  ·have KK:=Lib.hid h14
   clear h14
   go_upto_region 30 with (fail)
   refine Aa 98 [92,91] [0,1] (fun a0 HA0=>?_)
   have oe12:=ev HA0 12 rfl
   refine QSeq.pure rfl (.bool true) (fun E=>An rfl (E.v oe12) rfl (Ag _ _ _ _ _ _) (Al _ _ _ Tryz.underlying3) (congrArg Value.bool (Bi KK.out))) ?_
   refine QSeq.pure rfl _ (fun E=>Af rfl (E.d 0 0)) ?_
   refine QSeq.nil (t':=[_,_]) rfl ?_
   obtain rfl:=HA0.out
   clear HA0 oe12
   simp only [pz,Act.put,sIB,sCZ,sCS]
   have HE:=hid (show Bf x=({ mg0 x.kd x.fr x.to with dc:=x.dc }:Mg) by unfold Bf;rw [if_neg K1.out,if_neg K2.out,if_neg K3.out,if_neg K4.out,if_neg K5.out,if_neg K6.out,if_neg K7.out,if_neg K8.out,if_neg K9.out,if_neg K10.out,if_neg K11.out,if_neg K12.out,if_neg K13.out,if_pos KK.out]<;>rfl)
   go_upto_region 31 with (fail)
   refine Aa 98 [93,94,95,101] [0,1,2,3] (fun a0 HA0=>?_)
   have oe1:=ev HA0 1 rfl
   have oe3:=ev HA0 3 rfl
   refine QSeq.pure rfl (.pointer (some ⟨w.heap.size,287,none⟩)) (fun E=>Ad rfl Tryz.underlying61 rfl (by kernel_rfl) (E.v oe1)) ?_
   refine QSeq.pure rfl _ (fun E=>Am rfl Tryz.underlying59 rfl (off:=287) (cs:=(c18)) (by rw [HC18.out];kernel_rfl) (E.d 0 0) (Cs.seg (HB1.out.mod Cx9.out (fun h=>h)) HLN.out 18 rfl rfl)) ?_
   refine QSeq.pure rfl (.pointer (some ⟨w1.heap.size,287,none⟩)) (fun E=>Ad rfl Tryz.underlying61 rfl (by kernel_rfl) (E.v oe3)) ?_
   refine QSeq.go fun act E=>?_
   refine Aq rfl (Ac rfl) rfl Hx8.out (off:=287) (vs:=c18) (by rw [HC18.out];kernel_rfl) HO18.out (by show 287+_≤295;rw [HC18.out];decide) (E.d 2 0) (ec (E.d 1 1)) ?_
   intro u31_3 qc0 hm
   have qb5:=qc0.eqv (b:=((Mg.segs ({ mg0 x.kd x.fr x.to with dc:=x.dc }:Mg) (zCe.cells zS) (zPm.cells zS) (zPr.cells zS zS zS) (zOp.cells zS) c18).flatten:List Value).toArray) ((Bc HZL.out 18 (by rw [HC18.out];rfl) rfl).trans rfl)
   clear qc0
   have Hx50:=hid qb5
   have zu31_3:=hm.size
   have Cx51:=hid (show Mod (fun k=>(k=w1.heap.size)) u1_8 u31_3 from hm)
   clear hm
   clear act E qb5 Hx8
   refine QSeq.nil (t':=[_,_,_,_]) rfl ?_
   obtain rfl:=HA0.out
   clear HA0 oe1 oe3
   simp only [pz,Act.put,sIB,sCZ,sCS,List.set_nil]
   have hrz:MgR.rd R2 u31_3 ((Mg.segs ({ mg0 x.kd x.fr x.to with dc:=x.dc }:Mg) (zCe.cells zS) (zPm.cells zS) (zPr.cells zS zS zS) (zOp.cells zS) c18).flatten) ({ mg0 x.kd x.fr x.to with dc:=x.dc }:Mg):=⟨_,_,_,_,_,rfl,{ HZK.out with },zCe_rd _ _,zPm_rd _ _,z_pr _ _,z_op _ _,((Hx5.out.mod Cx9.out (fun _ _ h=>h)).mod Cx51.out (sB HBT))⟩
   have HRZ:=Lib.hid hrz
   clear hrz
   go_wp2_with fail
   go_meet
   case rel=>exact ⟨congrArg (fun z=>Value.pointer (some ⟨z,0,none⟩)) (by omega),_,_,HE.out.symm,Hx50.out,HRZ.out,(hmz.out.trans Cx51.out (fun _ _ h=>h))⟩
  have K14:=Lib.hid h14
  clear h14
  go_upto_region 30 with (fail)
  refine Aa 98 [92,91] [0,1] (fun a0 HA0=>?_)
  have oe12:=ev HA0 12 rfl
  refine QSeq.pure rfl (.bool false) (fun E=>An rfl (E.v oe12) rfl (Ag _ _ _ _ _ _) (Al _ _ _ Tryz.underlying3) (congrArg Value.bool (Bb K14.out))) ?_
  refine QSeq.pure rfl _ (fun E=>Af rfl (E.d 0 0)) ?_
  refine QSeq.nil (t':=[_,_]) rfl ?_
  obtain rfl:=HA0.out
  clear HA0 oe12
  simp only [pz,Act.put,sIB,sCZ,sCS]
  have HE:=hid (show Bf x=mg0 0 0 0 by unfold Bf;rw [if_neg K1.out,if_neg K2.out,if_neg K3.out,if_neg K4.out,if_neg K5.out,if_neg K6.out,if_neg K7.out,if_neg K8.out,if_neg K9.out,if_neg K10.out,if_neg K11.out,if_neg K12.out,if_neg K13.out,if_neg K14.out]<;>rfl)
  go_upto_region 3 with (fail)
  refine Aa 98 [13,99] [0,1] (fun a0 HA0=>?_)
  have oe2:=ev HA0 2 rfl
  refine QSeq.pure rfl (.agg ((mg0C 0 0 0):List Value).toArray) (fun E=>ex_build0 rfl (r:=((mg0C 0 0 0):List Value).toArray) (by kernel_rfl)) ?_
  refine QSeq.go fun act E=>?_
  refine Aq rfl (Ac rfl) rfl (HB2.out.mod Cx9.out (fun h=>h)) (off:=0) (vs:=(mg0C 0 0 0)) (by kernel_rfl) HZO.out (by show 0+295≤295;decide) (E.v oe2) (ec (E.d 0 0)) ?_
  intro u3_1 qc0 hm
  have qB2:=qc0.eqv (b:=((mg0C 0 0 0):List Value).toArray) (A5 _ _ rfl)
  clear qc0
  have Hx52:=hid qB2
  have zu3_1:=hm.size
  have Cx53:=hid (show Mod (fun k=>(k=w.heap.size+1)) u1_8 u3_1 from hm)
  clear hm
  clear act E qB2 HB2
  refine QSeq.nil (t':=[_,_]) rfl ?_
  obtain rfl:=HA0.out
  clear HA0 oe2
  simp only [pz,Act.put,sIB,sCZ,sCS,List.set_nil]
  go_wp2
  exact bodyPost_ret (A7 rfl _ _ (w.heap.size+1) (mg0C 0 0 0) rfl (fun k u hu=>by rw [Hx52.out.cell];simpa using hu) Tryz.underlying61 rfl (by kernel_rfl)) rfl ⟨_,rfl,by rw [HE.out];exact mg0_rd A4 A4 A4 _ _,((HM0.out.trans Cx9.out (fun _ _ h=>h.elim)).trans Cx53.out (by intro k h1 h2;omega))⟩
 case rest=>
  obtain ⟨wq,rfl⟩:∃ x,x=wc:=⟨_,rfl⟩
  obtain ⟨rfl,y,cy,hy,hb5,hrz,hm⟩:=hcut
  have zwq:=hm.size
  have HB5:=Lib.hid hb5
  have HRM:=Lib.hid hrz
  have HSZ:=hid (MgR.len hrz)
  have HY:=Lib.hid hy
  have HCY:=hid (show cpMg y by rw [HY.out];exact cp_only HP.out)
  clear hb5 hrz hy
  clear Hx8
  clear Hx1
  clear Hx2
  clear Hx3
  clear Hx4
  clear Hx5
  clear HB1
  have Hx54:=hid ((HB2.out.mod Cx9.out (fun h=>h)).mod hm (by intro h2;omega))
  have Hx55:=hid ((HM0.out.trans Cx9.out (fun _ _ h=>h.elim)).trans hm (by intro k h1 h2;omega))
  clear HB2 HM0
  clear hm
  go_upto_region 32 with (fail)
  refine Aa 98 [96,97,100] [0,1,2] (fun a0 HA0=>?_)
  have oe2:=ev HA0 2 rfl
  have oe3:=ev HA0 3 rfl
  refine QSeq.pure rfl _ (fun E=>Am rfl Tryz.underlying61 rfl (off:=0) (cs:=cy) (by rw [HSZ.out];kernel_rfl) (E.v oe3) (Cs.whole HB5.out)) ?_
  refine QSeq.call rfl rfl Tryz.func70 (HY.out▸cop_Mg R2 y _ _ HRM.out (by intro k h1;have hb:=HBT.out k h1;omega) HCY.out) (fun E=>Aw (E.d 0 0)) ?_
  rintro e u32_1 ⟨cn,rfl,qnw,hm⟩
  have HLn:=hid (MgR.len qnw)
  have HOn:=hid (MgR.one qnw)
  refine ⟨_,rfl,?_⟩
  have Hx56:=hid qnw
  have zu32_1:=hm.size
  have Cx57:=hid (show Mod (fun _=>False) wq u32_1 from hm)
  clear hm
  clear qnw
  refine QSeq.go fun act E=>?_
  refine Aq rfl (Ac rfl) rfl (Hx54.out.mod Cx57.out (fun h=>h)) (off:=0) (vs:=cn) (by rw [HLn.out];kernel_rfl) HOn.out (by rw [HLn.out];show 0+295≤295;decide) (E.v oe2) (ec (E.d 1 0)) ?_
  intro u32_2 qc0 hm
  have qB2:=qc0.eqv (b:=(cn:List Value).toArray) (A5 _ _ (by rw [HLn.out];rfl))
  clear qc0
  have Hx58:=hid qB2
  have zu32_2:=hm.size
  have HMu32_2:=hid hm
  have Cx59:=hid (Mod.goS (S':=(fun k=>(k=w.heap.size+1))) Cx57.out hm (fun _ h=>h.elim) (by intro k h0 h2;exact h2))
  clear hm Cx57
  clear act E qB2 Hx54
  have Hx60:=hid (Hx56.out.mod HMu32_2.out (by intro k h1 h2;omega))
  clear Hx56 HMu32_2
  refine QSeq.nil (t':=[_,_,_]) rfl ?_
  obtain rfl:=HA0.out
  clear HA0 oe2 oe3
  simp only [pz,Act.put,sIB,sCZ,sCS,List.set_nil]
  go_wp2
  exact bodyPost_ret (A7 rfl _ _ (w.heap.size+1) cn rfl (fun k u hu=>by rw [Hx58.out.cell];simpa using hu) Tryz.underlying61 rfl (by rw [HLn.out];kernel_rfl)) rfl ⟨_,rfl,Hx60.out.widen (by intro k h1;(try dsimp only at h1 ⊢);omega),(Hx55.out.trans Cx59.out (by intro k h1 h2;omega))⟩
end Go.Proofs.YtnaoeginonpicaaGreat

/- gavellaw06.Small. -/
namespace Go.Proofs.YtnaoeginonpicaaGreat
open Go Go.RowKit Go.Gv
theorem ex_lenStr {P:Program} {o:Oper} {a:Act} {w:World} {t:TypeId} {m:Operand} {s:ByteArray} (ho:o.op=Op.call { callee:=Callee.builtin Builtin.len,args:=#[m],argTypes:=#[t] }) (hm:a.eval m=.string s) (ht:P.underlying t=some .string):(execOp a.eval o).run P w=.ok (.value (.int .i64 ((s.size:Nat):Int))) w:=by
 simp [execOp,ho,resolve,invoke,builtin,hm,Builtin.len_,run_underlying ht,goInt,Result.andThen]
theorem ex_sliceStr {P:Program} {o:Oper} {a:Act} {w:World} {T:TypeId} {x y:Operand} {s:ByteArray} {k:IntKind} {i:Nat} (ho:o.op=.slice T x none (some y) none) (hu:P.underlying T=some .string) (hx:a.eval x=.string s) (hy:a.eval y=.int k (i:Int)) (hi:i≤s.size):(execOp a.eval o).run P w=.ok (.value (.string (s.extract 0 i))) w:=by
 unfold execOp
 simp [ho,hx,hy,Instr.sliceAt,Instr.slice,Instr.sliceBounds,Instr.sliceBound,asIntOf,run_underlying hu,hi]
/-- what the laws leave of a message -/
def cutVl (v:Int):Int:=if v=9223372036854775807 then 0 else v
def cutRp (s:ByteArray):ByteArray:=if 260 < s.size then s.extract 0 260 else s
def smallM (x:Mg):Mg:={ x with ce:=cutCe x.ce,pm:=cutPm x.pm,pr:={ x.pr with ba:=cutBa x.pr.ba,vl:=cutVl x.pr.vl },op:=cutOp x.op,rp:=cutRp x.rp,dc:={ x.dc with ba:=cutBa x.dc.ba,l:=x.dc.l.take 5 } }
theorem info_VtD:(Tryz.prog.info? 49).map (fun i=>(i.zero,i.size,i.bytes))=some (some (.agg #[.int .i64 0,.int .i64 0,.int .i64 0,.int .i64 0,.int .u8 0,.int .u8 0,.int .u8 0,.int .u8 0,.int .u8 0,.int .u8 0,.int .u8 0,.int .u8 0,.int .u8 0,.int .u8 0,.int .u8 0,.int .u8 0,.int .u8 0,.int .u8 0,.int .u8 0,.int .u8 0,.int .u8 0,.int .u8 0,.int .u8 0,.int .u8 0,.int .u8 0,.int .u8 0,.int .u8 0,.int .u8 0,.int .u8 0,.int .u8 0,.int .u8 0,.int .u8 0,.int .u8 0,.int .u8 0,.int .u8 0,.int .u8 0,.int .i64 0,.int .i64 0]),38,80):=by kernel_rfl
open Go.Proofs renaming Tryz.func75→va',Tryz.ntmps75→vb',Tryz.underlying57→vg' in
open Go.Proofs.YtnaoeginonpicaaGreat renaming VtR→vc',info_VtD→vh' in
open Go.Gv renaming n'49→vd',z'5→ve',n'80→vf' in
set_option maxHeartbeats 2000000 in
theorem Copy_Vt:CopiesS VtR 49 75:=
 fm4'
open Go.Proofs renaming Tryz.func39→va',Tryz.ntmps39→vb',Tryz.underlying57→vc',Tryz.func75→vd' in
open Go.Proofs.YtnaoeginonpicaaGreat renaming Copy_Vt→ve' in
set_option maxHeartbeats 2000000 in
theorem Cut_Vt:CutsS VtR 49 39:=
 fm1'
set_option maxHeartbeats 8000000 in
theorem Small_c:CutR MgR 7 smallM:=by
 intro R2 x cs w hx hB2
 obtain ⟨c5,c10,c11,c15,c18,rfl,hok,h5,h10,h11,h15,h18⟩:=hx
 have HC5:=hid (CeR.len h5)
 have HC10:=hid (PmR.len h10)
 have HC15:=hid (OpR.len h15)
 have HLN:=hid (Mg.lns hok h5 h10 h11 h15 h18)
 obtain ⟨p_ps,p_os,p_ts,rfl,hokp,hp0,hp1,hp2⟩:=h11
 obtain ⟨d_ps,d_os,d_ts,d_l,rfl,hokd,hd0,hd1,hd2,hd3⟩:=h18
 obtain ⟨v_o,rfl,hoko,ho0⟩:=h15
 have H5:=Lib.hid h5
 have H10:=Lib.hid h10
 have H15:=Lib.hid ho0
 have HP0:=Lib.hid hp0
 have HP1:=Lib.hid hp1
 have HP2:=Lib.hid hp2
 have HD0:=Lib.hid hd0
 have HD1:=Lib.hid hd1
 have HD2:=Lib.hid hd2
 have HD3:=Lib.hid hd3
 have HBT:=Lib.hid hB2
 have HOK:=Lib.hid hok
 have HOP:=Lib.hid hokp
 have HOD:=Lib.hid hokd
 have HOO:=Lib.hid hoko
 clear hB2 hok hokp hokd hoko h5 h10 ho0 hp0 hp1 hp2 hd0 hd1 hd2 hd3
 go_enter Tryz.func7,Tryz.ntmps7
 go_upto_region 1 with (fail)
 obtain ⟨w1,hw1⟩:∃ zz,zz=((w.alloc (.cells ((Mg.segs x c5 c10 (x.pr.cells p_ps p_os p_ts) (x.op.cells v_o) (x.dc.cells d_ps d_os d_ts d_l)).flatten:List Value).toArray 61)).alloc (.cells ((mg0C 0 0 0):List Value).toArray 61)):=⟨_,rfl⟩
 change Code.wp _ _ _ _ ((w.alloc (.cells ((Mg.segs x c5 c10 (x.pr.cells p_ps p_os p_ts) (x.op.cells v_o) (x.dc.cells d_ps d_os d_ts d_l)).flatten:List Value).toArray 61)).alloc (.cells ((mg0C 0 0 0):List Value).toArray 61))
 rw [← hw1]
 have HB1:=hid (show Cs w1 (w.heap.size) ((Mg.segs x c5 c10 (x.pr.cells p_ps p_os p_ts) (x.op.cells v_o) (x.dc.cells d_ps d_os d_ts d_l)).flatten:List Value).toArray 61 by rw [hw1];exact (Cs.new _ _ _).alloc _)
 have HB2:=hid (show Cs w1 (w.heap.size+1) ((mg0C 0 0 0):List Value).toArray 61 by rw [hw1];exact Cs_newN _ _ _ (by simp))
 have hm:Mod (fun _=>False) w w1:=by rw [hw1];exact ((Mod.refl _ _).alloc _).alloc _
 have HM0:=hid (show Mod (fun _=>False) w w1 from hm.mono (fun _ _ h=>h.elim))
 have hs1:w1.heap.size=w.heap.size+2:=by rw [hw1];simp
 have Hx1:=hid (H5.out.mod hm (fun _ _ h=>h))
 clear H5
 have Hx2:=hid (H10.out.mod hm (fun _ _ h=>h))
 clear H10
 have Hx3:=hid (H15.out.mod hm (fun _ _ h=>h))
 clear H15
 have Hx4:=hid (HP0.out.mod hm (fun _ _ h=>h))
 clear HP0
 have Hx5:=hid (HP1.out.mod hm (fun _ _ h=>h))
 clear HP1
 have Hx6:=hid (HP2.out.mod hm (fun _ _ h=>h))
 clear HP2
 have Hx7:=hid (HD0.out.mod hm (fun _ _ h=>h))
 clear HD0
 have Hx8:=hid (HD1.out.mod hm (fun _ _ h=>h))
 clear HD1
 have Hx9:=hid (HD2.out.mod hm (fun _ _ h=>h))
 clear HD2
 have Hx10:=hid (HD3.out.mod hm (fun _ _ h=>h))
 clear HD3
 clear hw1 hm
 go_upto_region 1 with (fail)
 generalize ha0:Act.mk _ _=a0
 have oe1:a0.eval (.tmp 1)=.pointer (some ⟨w.heap.size,0,none⟩):=by rw [← ha0];rfl
 have hsz0:a0.tmps.size=50:=by rw [← ha0];rfl
 have HA0:=hid ha0
 clear ha0
 refine A3 50 hsz0 [3,4,5,6,7,8,9,10,11,12,13,14,15,16,17,65,18,67,19,20,70,21,22,73] (fun k=>(k=w.heap.size)) (fun k j=>(k=4∧((j=w.heap.size)))∨(k=5∧((j=w.heap.size)))∨(k=6∧((j=w.heap.size)))∨(k=7∧((j=w.heap.size)))) (by intro k j h;(try dsimp only at h ⊢);omega) [qi (.pointer (some ⟨w.heap.size,78,none⟩)),qi (.agg (c5).toArray),qv 0,qi (.pointer (some ⟨w.heap.size,157,none⟩)),qi (.agg (c10).toArray),qv 1,qi (.pointer (some ⟨w.heap.size,163,none⟩)),qi (.pointer (some ⟨w.heap.size,167,none⟩)),qi (.agg #[.int .i64 x.pr.ba.ep,.int .u64 (x.pr.ba.tm:Nat),p_ps,p_os,p_ts]),qv 2,qi (.pointer (some ⟨w.heap.size,287,none⟩)),qi (.pointer (some ⟨w.heap.size,289,none⟩)),qi (.agg #[.int .i64 x.dc.ba.ep,.int .u64 (x.dc.ba.tm:Nat),d_ps,d_os,d_ts]),qv 3,qi (.pointer (some ⟨w.heap.size,78,none⟩)),qv 4,qi (.pointer (some ⟨w.heap.size,157,none⟩)),qv 5,qi (.pointer (some ⟨w.heap.size,163,none⟩)),qi (.pointer (some ⟨w.heap.size,167,none⟩)),qv 6,qi (.pointer (some ⟨w.heap.size,287,none⟩)),qi (.pointer (some ⟨w.heap.size,289,none⟩)),qv 7] ⟨Ab,Ab,Ak,Ab,Ab,Ak,Ab,Ab,Ab,Ak,Ab,Ab,Ab,Ak,Ab,Ak,Ab,Ak,Ab,Ab,Ak,Ab,Ab,Ak,trivial⟩ [2,5,9,13,15,17,20,23] ⟨?_,?_,?_,?_,?_,?_,?_,?_,?_,?_,?_,?_,?_,?_,?_,?_,?_,?_,?_,?_,?_,?_,?_,?_,trivial⟩ ?_
 ·exact stq (fun E=>Ad rfl Tryz.underlying61 rfl (by kernel_rfl) (E.v oe1))
 ·refine Av rfl rfl rfl fun _ _ _ _ _ _ hm0 _ _ hd hub _=>?_
  have h0:=hd ⟨0,.data⟩ (by simp) rfl _ rfl
  refine Bd rfl (Ac rfl) (Am rfl Tryz.underlying35 rfl (off:=78) (cs:=(c5)) (by rw [HC5.out];kernel_rfl) h0 (Cs.seg (HB1.out.mod hm0 (by intro h2;have hu:=hub 4 15 rfl (by kernel_rfl);rcases h2 with ⟨h0,kk,hk,h2⟩|h2<;>omega)) HLN.out 5 rfl rfl)) QE.refl ?_
  rfl
 ·exact Ah rfl
 ·exact stq (fun E=>Ad rfl Tryz.underlying61 rfl (by kernel_rfl) (E.v oe1))
 ·refine Av rfl rfl rfl fun _ _ _ _ _ _ hm0 _ _ hd hub _=>?_
  have h3:=hd ⟨3,.data⟩ (by simp) rfl _ rfl
  refine Bd rfl (Ac rfl) (Am rfl Tryz.underlying40 rfl (off:=157) (cs:=(c10)) (by rw [HC10.out];kernel_rfl) h3 (Cs.seg (HB1.out.mod hm0 (by intro h2;have hu:=hub 4 15 rfl (by kernel_rfl);rcases h2 with ⟨h0,kk,hk,h2⟩|h2<;>omega)) HLN.out 10 rfl rfl)) QE.refl ?_
  rfl
 ·exact Ah rfl
 ·exact stq (fun E=>Ad rfl Tryz.underlying61 rfl (by kernel_rfl) (E.v oe1))
 ·exact stq (fun E=>Ad rfl Tryz.underlying47 rfl (by kernel_rfl) (E.d 6))
 ·refine Av rfl rfl rfl fun _ _ _ _ _ _ hm0 _ _ hd hub _=>?_
  have h7:=hd ⟨7,.data⟩ (by simp) rfl _ rfl
  refine Bd rfl (Ac rfl) (Am rfl Tryz.underlying45 rfl (off:=167) (cs:=[.int .i64 x.pr.ba.ep,.int .u64 (x.pr.ba.tm:Nat),p_ps,p_os,p_ts]) (by kernel_rfl) h7 (Cs.segA (HB1.out.mod hm0 (by intro h2;have hu:=hub 4 15 rfl (by kernel_rfl);rcases h2 with ⟨h0,kk,hk,h2⟩|h2<;>omega)) HLN.out 11 rfl (o:=163) (k:=4) rfl rfl rfl)) QE.refl ?_
  rfl
 ·exact Ah rfl
 ·exact stq (fun E=>Ad rfl Tryz.underlying61 rfl (by kernel_rfl) (E.v oe1))
 ·exact stq (fun E=>Ad rfl Tryz.underlying59 rfl (by kernel_rfl) (E.d 10))
 ·refine Av rfl rfl rfl fun _ _ _ _ _ _ hm0 _ _ hd hub _=>?_
  have h11:=hd ⟨11,.data⟩ (by simp) rfl _ rfl
  refine Bd rfl (Ac rfl) (Am rfl Tryz.underlying45 rfl (off:=289) (cs:=[.int .i64 x.dc.ba.ep,.int .u64 (x.dc.ba.tm:Nat),d_ps,d_os,d_ts]) (by kernel_rfl) h11 (Cs.segA (HB1.out.mod hm0 (by intro h2;have hu:=hub 4 15 rfl (by kernel_rfl);rcases h2 with ⟨h0,kk,hk,h2⟩|h2<;>omega)) HLN.out 18 rfl (o:=287) (k:=2) rfl rfl rfl)) QE.refl ?_
  rfl
 ·exact Ah rfl
 ·exact stq (fun E=>Ad rfl Tryz.underlying61 rfl (by kernel_rfl) (E.v oe1))
 ·exact Ah rfl
 ·exact stq (fun E=>Ad rfl Tryz.underlying61 rfl (by kernel_rfl) (E.v oe1))
 ·exact Ah rfl
 ·exact stq (fun E=>Ad rfl Tryz.underlying61 rfl (by kernel_rfl) (E.v oe1))
 ·exact stq (fun E=>Ad rfl Tryz.underlying47 rfl (by kernel_rfl) (E.d 18))
 ·exact Ah rfl
 ·exact stq (fun E=>Ad rfl Tryz.underlying61 rfl (by kernel_rfl) (E.v oe1))
 ·exact stq (fun E=>Ad rfl Tryz.underlying59 rfl (by kernel_rfl) (E.d 21))
 ·exact Ah rfl
 intro u1_0 hr
 have zu1_0:=hr.size
 have Cx11:=hid (hr.new (S:=(fun k=>(k=w.heap.size))))
 have Hx12:=hid (HB1.out.mod hr (by intro h2;omega))
 clear HB1
 clear hr
 refine QChain.go fun Z act E=>?_
 refine Ap (args:=#[.agg (c5).toArray]) rfl (Ac rfl) rfl Tryz.func36 (Aw (E.d 1)) (LCert_c R2 x.ce _ _ (Hx1.out.mod Cx11.out (sB HBT)) (by intro k h1;have hb:=HBT.out k h1;omega)) ?_
 rintro e u1_1a ⟨cn5,rfl,qce,hm⟩
 have HLn5:=hid (CeR.len qce)
 have HOn5:=hid (CeR.one qce)
 have zu1_1a:=hm.size
 refine ⟨_,rfl,hm.mono (fun _ _ h=>h.elim),(fun _=>rfl),?_⟩
 intro u1_1 hr
 have zu1_1:=hr.size
 have Hx13:=hid ((qce.widen (R':=(fun k=>(R2 k)∨(New u1_0 u1_1a k))) (fun _ h=>h)).mod hr (by intro k h1 h2;rcases h1 with h1|h1<;>first|omega|(have hb:=HBT.out k h1;omega)))
 have hmr:=Mod.after hm hr
 have Hx14:=hid (Hx12.out.mod hmr (by intro h2;omega))
 clear Hx12
 clear hmr
 have Cx15:=hid (Cx11.out.go hm hr)
 clear Cx11 hm hr Z act E qce Hx1
 refine QChain.go fun Z act E=>?_
 refine Ap (args:=#[.agg (c10).toArray]) rfl (Ac rfl) rfl Tryz.func37 (Aw (E.d 4)) (LPromise_c R2 x.pm _ _ (Hx2.out.mod Cx15.out (sB HBT)) (by intro k h1;have hb:=HBT.out k h1;omega)) ?_
 rintro e u1_2a ⟨cn10,rfl,qpm,hm⟩
 have HLn10:=hid (PmR.len qpm)
 have HOn10:=hid (PmR.one qpm)
 have zu1_2a:=hm.size
 refine ⟨_,rfl,hm.mono (fun _ _ h=>h.elim),(fun _=>rfl),?_⟩
 intro u1_2 hr
 have zu1_2:=hr.size
 have Hx16:=hid ((qpm.widen (R':=(fun k=>(R2 k)∨(New u1_1 u1_2a k))) (fun _ h=>h)).mod hr (by intro k h1 h2;rcases h1 with h1|h1<;>first|omega|(have hb:=HBT.out k h1;omega)))
 have hmr:=Mod.after hm hr
 have Hx17:=hid (Hx13.out.mod hmr (by intro k h1 h2;rcases h1 with h1|h1<;>first|omega|(have hb:=HBT.out k h1;omega)))
 have Hx18:=hid (Hx14.out.mod hmr (by intro h2;omega))
 clear Hx13 Hx14
 clear hmr
 have Cx19:=hid (Cx15.out.go hm hr)
 clear Cx15 hm hr Z act E qpm Hx2
 refine QChain.go fun Z act E=>?_
 refine Ap (args:=#[.agg #[.int .i64 x.pr.ba.ep,.int .u64 (x.pr.ba.tm:Nat),p_ps,p_os,p_ts]]) rfl (Ac rfl) rfl Tryz.func38 (Aw (E.d 8)) (LBatch_c R2 x.pr.ba _ _ ⟨_,_,_,rfl,HOP.out.2.2.2.2.1,(Hx4.out.mod Cx19.out (sB HBT)),(Hx5.out.mod Cx19.out (sB HBT)),(Hx6.out.mod Cx19.out (sB HBT))⟩ (by intro k h1;have hb:=HBT.out k h1;omega)) ?_
 rintro e u1_3a ⟨cbe,rfl,qp0,hm⟩
 have HOe:=hid (BaR.one qp0)
 obtain ⟨e_ps,e_os,e_ts,rfl,hokb,qp0,qp1,qp2⟩:=qp0
 clear hokb
 have zu1_3a:=hm.size
 refine ⟨_,rfl,hm.mono (fun _ _ h=>h.elim),(fun _=>rfl),?_⟩
 intro u1_3 hr
 have zu1_3:=hr.size
 have Hx20:=hid ((qp0.widen (R':=(fun k=>(R2 k)∨(New u1_2 u1_3a k))) (fun _ h=>h)).mod hr (by intro k h1 h2;rcases h1 with h1|h1<;>first|omega|(have hb:=HBT.out k h1;omega)))
 have Hx21:=hid ((qp1.widen (R':=(fun k=>(R2 k)∨(New u1_2 u1_3a k))) (fun _ h=>h)).mod hr (by intro k h1 h2;rcases h1 with h1|h1<;>first|omega|(have hb:=HBT.out k h1;omega)))
 have Hx22:=hid ((qp2.widen (R':=(fun k=>(R2 k)∨(New u1_2 u1_3a k))) (fun _ h=>h)).mod hr (by intro k h1 h2;rcases h1 with h1|h1<;>first|omega|(have hb:=HBT.out k h1;omega)))
 have hmr:=Mod.after hm hr
 have Hx23:=hid (Hx17.out.mod hmr (by intro k h1 h2;rcases h1 with h1|h1<;>first|omega|(have hb:=HBT.out k h1;omega)))
 have Hx24:=hid (Hx16.out.mod hmr (by intro k h1 h2;rcases h1 with h1|h1<;>first|omega|(have hb:=HBT.out k h1;omega)))
 have Hx25:=hid (Hx18.out.mod hmr (by intro h2;omega))
 clear Hx17 Hx16 Hx18
 clear hmr
 have Cx26:=hid (Cx19.out.go hm hr)
 clear Cx19 hm hr Z act E qp0 qp1 qp2 Hx4 Hx5 Hx6
 refine QChain.go fun Z act E=>?_
 refine Ap (args:=#[.agg #[.int .i64 x.dc.ba.ep,.int .u64 (x.dc.ba.tm:Nat),d_ps,d_os,d_ts]]) rfl (Ac rfl) rfl Tryz.func38 (Aw (E.d 12)) (LBatch_c R2 x.dc.ba _ _ ⟨_,_,_,rfl,HOD.out.2.2,(Hx7.out.mod Cx26.out (sB HBT)),(Hx8.out.mod Cx26.out (sB HBT)),(Hx9.out.mod Cx26.out (sB HBT))⟩ (by intro k h1;have hb:=HBT.out k h1;omega)) ?_
 rintro e u1_4a ⟨cbf,rfl,qd0,hm⟩
 have HOf:=hid (BaR.one qd0)
 obtain ⟨f_ps,f_os,f_ts,rfl,hokb,qd0,qd1,qd2⟩:=qd0
 clear hokb
 have zu1_4a:=hm.size
 refine ⟨_,rfl,hm.mono (fun _ _ h=>h.elim),(fun _=>rfl),?_⟩
 intro u1_4 hr
 have zu1_4:=hr.size
 have Hx27:=hid ((qd0.widen (R':=(fun k=>(R2 k)∨(New u1_3 u1_4a k))) (fun _ h=>h)).mod hr (by intro k h1 h2;rcases h1 with h1|h1<;>first|omega|(have hb:=HBT.out k h1;omega)))
 have Hx28:=hid ((qd1.widen (R':=(fun k=>(R2 k)∨(New u1_3 u1_4a k))) (fun _ h=>h)).mod hr (by intro k h1 h2;rcases h1 with h1|h1<;>first|omega|(have hb:=HBT.out k h1;omega)))
 have Hx29:=hid ((qd2.widen (R':=(fun k=>(R2 k)∨(New u1_3 u1_4a k))) (fun _ h=>h)).mod hr (by intro k h1 h2;rcases h1 with h1|h1<;>first|omega|(have hb:=HBT.out k h1;omega)))
 have hmr:=Mod.after hm hr
 have Hx30:=hid (Hx23.out.mod hmr (by intro k h1 h2;rcases h1 with h1|h1<;>first|omega|(have hb:=HBT.out k h1;omega)))
 have Hx31:=hid (Hx24.out.mod hmr (by intro k h1 h2;rcases h1 with h1|h1<;>first|omega|(have hb:=HBT.out k h1;omega)))
 have Hx32:=hid (Hx20.out.mod hmr (by intro k h1 h2;rcases h1 with h1|h1<;>first|omega|(have hb:=HBT.out k h1;omega)))
 have Hx33:=hid (Hx21.out.mod hmr (by intro k h1 h2;rcases h1 with h1|h1<;>first|omega|(have hb:=HBT.out k h1;omega)))
 have Hx34:=hid (Hx22.out.mod hmr (by intro k h1 h2;rcases h1 with h1|h1<;>first|omega|(have hb:=HBT.out k h1;omega)))
 have Hx35:=hid (Hx25.out.mod hmr (by intro h2;omega))
 clear Hx23 Hx24 Hx20 Hx21 Hx22 Hx25
 clear hmr
 have Cx36:=hid (Cx26.out.go hm hr)
 clear Cx26 hm hr Z act E qd0 qd1 qd2 Hx7 Hx8 Hx9
 refine QChain.go fun Z act E=>?_
 refine Aq rfl (Ac rfl) rfl Hx35.out (off:=78) (vs:=cn5) (by rw [HLn5.out];kernel_rfl) HOn5.out (by rw [List.size_toArray,Bn,(Mg.lens HOK.out HC5.out HC10.out rfl (show (x.op.cells v_o).length=34 from HC15.out) rfl)];show 78+_≤295;rw [HLn5.out];decide) (E.d 14) (ec (chv (v:=.agg cn5.toArray) (E.d 2))) ?_
 intro u1_5a qc0 hm
 have qB1:=qc0.eqv (b:=((Mg.segs x cn5 c10 (x.pr.cells p_ps p_os p_ts) (x.op.cells v_o) (x.dc.cells d_ps d_os d_ts d_l)).flatten:List Value).toArray) ((Bc (Mg.lens HOK.out HC5.out HC10.out rfl (show (x.op.cells v_o).length=34 from HC15.out) rfl) 5 (by rw [HLn5.out];rfl) rfl).trans rfl)
 clear qc0
 have zu1_5a:=hm.size
 refine ⟨hm.mono (by intro k hk h;omega),(fun _=>rfl),?_⟩
 intro u1_5 hr
 have zu1_5:=hr.size
 have Hx37:=hid (qB1.mod hr (by intro h2;omega))
 have hmr:=hm.two hr
 have Hx38:=hid (Hx30.out.mod hmr (by intro k h1 h2;rcases h1 with h1|h1<;>first|omega|(have hb:=HBT.out k h1;omega)))
 have Hx39:=hid (Hx31.out.mod hmr (by intro k h1 h2;rcases h1 with h1|h1<;>first|omega|(have hb:=HBT.out k h1;omega)))
 have Hx40:=hid (Hx32.out.mod hmr (by intro k h1 h2;rcases h1 with h1|h1<;>first|omega|(have hb:=HBT.out k h1;omega)))
 have Hx41:=hid (Hx33.out.mod hmr (by intro k h1 h2;rcases h1 with h1|h1<;>first|omega|(have hb:=HBT.out k h1;omega)))
 have Hx42:=hid (Hx34.out.mod hmr (by intro k h1 h2;rcases h1 with h1|h1<;>first|omega|(have hb:=HBT.out k h1;omega)))
 have Hx43:=hid (Hx27.out.mod hmr (by intro k h1 h2;rcases h1 with h1|h1<;>first|omega|(have hb:=HBT.out k h1;omega)))
 have Hx44:=hid (Hx28.out.mod hmr (by intro k h1 h2;rcases h1 with h1|h1<;>first|omega|(have hb:=HBT.out k h1;omega)))
 have Hx45:=hid (Hx29.out.mod hmr (by intro k h1 h2;rcases h1 with h1|h1<;>first|omega|(have hb:=HBT.out k h1;omega)))
 clear Hx30 Hx31 Hx32 Hx33 Hx34 Hx27 Hx28 Hx29
 clear hmr
 have Cx46:=hid (Cx36.out.goM hm hr (fun _ _ h=>h))
 clear Cx36 hm hr Z act E qB1 Hx35
 refine QChain.go fun Z act E=>?_
 refine Aq rfl (Ac rfl) rfl Hx37.out (off:=157) (vs:=cn10) (by rw [HLn10.out];kernel_rfl) HOn10.out (by rw [List.size_toArray,Bn,(Mg.lens HOK.out HLn5.out HC10.out rfl (show (x.op.cells v_o).length=34 from HC15.out) rfl)];show 157+_≤295;rw [HLn10.out];decide) (E.d 16) (ec (chv (v:=.agg cn10.toArray) (E.d 5))) ?_
 intro u1_6a qc0 hm
 have qB1:=qc0.eqv (b:=((Mg.segs x cn5 cn10 (x.pr.cells p_ps p_os p_ts) (x.op.cells v_o) (x.dc.cells d_ps d_os d_ts d_l)).flatten:List Value).toArray) ((Bc (Mg.lens HOK.out HLn5.out HC10.out rfl (show (x.op.cells v_o).length=34 from HC15.out) rfl) 10 (by rw [HLn10.out];rfl) rfl).trans rfl)
 clear qc0
 have zu1_6a:=hm.size
 refine ⟨hm.mono (by intro k hk h;omega),(fun _=>rfl),?_⟩
 intro u1_6 hr
 have zu1_6:=hr.size
 have Hx47:=hid (qB1.mod hr (by intro h2;omega))
 have hmr:=hm.two hr
 have Hx48:=hid (Hx38.out.mod hmr (by intro k h1 h2;rcases h1 with h1|h1<;>first|omega|(have hb:=HBT.out k h1;omega)))
 have Hx49:=hid (Hx39.out.mod hmr (by intro k h1 h2;rcases h1 with h1|h1<;>first|omega|(have hb:=HBT.out k h1;omega)))
 have Hx50:=hid (Hx40.out.mod hmr (by intro k h1 h2;rcases h1 with h1|h1<;>first|omega|(have hb:=HBT.out k h1;omega)))
 have Hx51:=hid (Hx41.out.mod hmr (by intro k h1 h2;rcases h1 with h1|h1<;>first|omega|(have hb:=HBT.out k h1;omega)))
 have Hx52:=hid (Hx42.out.mod hmr (by intro k h1 h2;rcases h1 with h1|h1<;>first|omega|(have hb:=HBT.out k h1;omega)))
 have Hx53:=hid (Hx43.out.mod hmr (by intro k h1 h2;rcases h1 with h1|h1<;>first|omega|(have hb:=HBT.out k h1;omega)))
 have Hx54:=hid (Hx44.out.mod hmr (by intro k h1 h2;rcases h1 with h1|h1<;>first|omega|(have hb:=HBT.out k h1;omega)))
 have Hx55:=hid (Hx45.out.mod hmr (by intro k h1 h2;rcases h1 with h1|h1<;>first|omega|(have hb:=HBT.out k h1;omega)))
 clear Hx38 Hx39 Hx40 Hx41 Hx42 Hx43 Hx44 Hx45
 clear hmr
 have Cx56:=hid (Cx46.out.goM hm hr (fun _ _ h=>h))
 clear Cx46 hm hr Z act E qB1 Hx37
 refine QChain.go fun Z act E=>?_
 refine Aq rfl (Ac rfl) rfl Hx47.out (off:=167) (vs:=[.int .i64 x.pr.ba.ep,.int .u64 (x.pr.ba.tm:Nat),e_ps,e_os,e_ts]) (by kernel_rfl) HOe.out (by rw [List.size_toArray,Bn,(Mg.lens HOK.out HLn5.out HLn10.out rfl (show (x.op.cells v_o).length=34 from HC15.out) rfl)];show 167+5≤295;decide) (E.d 19) (ec (chv (v:=.agg #[.int .i64 x.pr.ba.ep,.int .u64 (x.pr.ba.tm:Nat),e_ps,e_os,e_ts]) (E.d 9))) ?_
 intro u1_7a qc0 hm
 have qB1:=qc0.eqv (b:=((Mg.segs x cn5 cn10 (x.pr.cells e_ps e_os e_ts) (x.op.cells v_o) (x.dc.cells d_ps d_os d_ts d_l)).flatten:List Value).toArray) ((lay_sub (Mg.lens HOK.out HLn5.out HLn10.out rfl (show (x.op.cells v_o).length=34 from HC15.out) rfl) 11 rfl (o:=163) (k:=4) (n:=5) rfl rfl rfl (by show 4+5≤11;decide)).trans rfl)
 clear qc0
 have zu1_7a:=hm.size
 refine ⟨hm.mono (by intro k hk h;omega),(fun _=>rfl),?_⟩
 intro u1_7 hr
 have zu1_7:=hr.size
 have Hx57:=hid (qB1.mod hr (by intro h2;omega))
 have hmr:=hm.two hr
 have Hx58:=hid (Hx48.out.mod hmr (by intro k h1 h2;rcases h1 with h1|h1<;>first|omega|(have hb:=HBT.out k h1;omega)))
 have Hx59:=hid (Hx49.out.mod hmr (by intro k h1 h2;rcases h1 with h1|h1<;>first|omega|(have hb:=HBT.out k h1;omega)))
 have Hx60:=hid (Hx50.out.mod hmr (by intro k h1 h2;rcases h1 with h1|h1<;>first|omega|(have hb:=HBT.out k h1;omega)))
 have Hx61:=hid (Hx51.out.mod hmr (by intro k h1 h2;rcases h1 with h1|h1<;>first|omega|(have hb:=HBT.out k h1;omega)))
 have Hx62:=hid (Hx52.out.mod hmr (by intro k h1 h2;rcases h1 with h1|h1<;>first|omega|(have hb:=HBT.out k h1;omega)))
 have Hx63:=hid (Hx53.out.mod hmr (by intro k h1 h2;rcases h1 with h1|h1<;>first|omega|(have hb:=HBT.out k h1;omega)))
 have Hx64:=hid (Hx54.out.mod hmr (by intro k h1 h2;rcases h1 with h1|h1<;>first|omega|(have hb:=HBT.out k h1;omega)))
 have Hx65:=hid (Hx55.out.mod hmr (by intro k h1 h2;rcases h1 with h1|h1<;>first|omega|(have hb:=HBT.out k h1;omega)))
 clear Hx48 Hx49 Hx50 Hx51 Hx52 Hx53 Hx54 Hx55
 clear hmr
 have Cx66:=hid (Cx56.out.goM hm hr (fun _ _ h=>h))
 clear Cx56 hm hr Z act E qB1 Hx47
 refine QChain.go fun Z act E=>?_
 refine Aq rfl (Ac rfl) rfl Hx57.out (off:=289) (vs:=[.int .i64 x.dc.ba.ep,.int .u64 (x.dc.ba.tm:Nat),f_ps,f_os,f_ts]) (by kernel_rfl) HOf.out (by rw [List.size_toArray,Bn,(Mg.lens HOK.out HLn5.out HLn10.out rfl (show (x.op.cells v_o).length=34 from HC15.out) rfl)];show 289+5≤295;decide) (E.d 22) (ec (chv (v:=.agg #[.int .i64 x.dc.ba.ep,.int .u64 (x.dc.ba.tm:Nat),f_ps,f_os,f_ts]) (E.d 13))) ?_
 intro u1_8a qc0 hm
 have qB1:=qc0.eqv (b:=((Mg.segs x cn5 cn10 (x.pr.cells e_ps e_os e_ts) (x.op.cells v_o) (x.dc.cells f_ps f_os f_ts d_l)).flatten:List Value).toArray) ((lay_sub (Mg.lens HOK.out HLn5.out HLn10.out rfl (show (x.op.cells v_o).length=34 from HC15.out) rfl) 18 rfl (o:=287) (k:=2) (n:=5) rfl rfl rfl (by show 2+5≤8;decide)).trans rfl)
 clear qc0
 have zu1_8a:=hm.size
 refine ⟨hm.mono (by intro k hk h;omega),(fun _=>rfl),?_⟩
 intro u1_8 hr
 have zu1_8:=hr.size
 have Hx67:=hid (qB1.mod hr (by intro h2;omega))
 have hmr:=hm.two hr
 have Hx68:=hid (Hx58.out.mod hmr (by intro k h1 h2;rcases h1 with h1|h1<;>first|omega|(have hb:=HBT.out k h1;omega)))
 have Hx69:=hid (Hx59.out.mod hmr (by intro k h1 h2;rcases h1 with h1|h1<;>first|omega|(have hb:=HBT.out k h1;omega)))
 have Hx70:=hid (Hx60.out.mod hmr (by intro k h1 h2;rcases h1 with h1|h1<;>first|omega|(have hb:=HBT.out k h1;omega)))
 have Hx71:=hid (Hx61.out.mod hmr (by intro k h1 h2;rcases h1 with h1|h1<;>first|omega|(have hb:=HBT.out k h1;omega)))
 have Hx72:=hid (Hx62.out.mod hmr (by intro k h1 h2;rcases h1 with h1|h1<;>first|omega|(have hb:=HBT.out k h1;omega)))
 have Hx73:=hid (Hx63.out.mod hmr (by intro k h1 h2;rcases h1 with h1|h1<;>first|omega|(have hb:=HBT.out k h1;omega)))
 have Hx74:=hid (Hx64.out.mod hmr (by intro k h1 h2;rcases h1 with h1|h1<;>first|omega|(have hb:=HBT.out k h1;omega)))
 have Hx75:=hid (Hx65.out.mod hmr (by intro k h1 h2;rcases h1 with h1|h1<;>first|omega|(have hb:=HBT.out k h1;omega)))
 clear Hx58 Hx59 Hx60 Hx61 Hx62 Hx63 Hx64 Hx65
 clear hmr
 have Cx76:=hid (Cx66.out.goM hm hr (fun _ _ h=>h))
 clear Cx66 hm hr Z act E qB1 Hx57
 refine QChain.nil fun vs hl hzz hrows hne=>?_
 obtain ⟨Z,hYZ,hZb,hV⟩:=hzz
 have f2:=fvc hV hl 2
 have f5:=fvc hV hl 5
 have f9:=fvc hV hl 9
 have f13:=fvc hV hl 13
 rw [show vs=[gw vs 0,gw vs 1,gw vs 2,gw vs 3,gw vs 4,gw vs 5,gw vs 6,gw vs 7,gw vs 8,gw vs 9,gw vs 10,gw vs 11,gw vs 12,gw vs 13,gw vs 14,gw vs 15,gw vs 16,gw vs 17,gw vs 18,gw vs 19,gw vs 20,gw vs 21,gw vs 22,gw vs 23] from (Be hl).trans rfl]
 have ha0:=HA0.out
 subst ha0
 clear HA0 hV hYZ hZb hsz0 hrows hne oe1
 simp only [Au,Act.put,sIB,sCZ,sCS,List.set_nil,f2,f5,f9,f13]
 clear hl f2 f5 f9 f13
 go_upto_region 2 with (fail)
 refine Aa 50 [23,24,25,26,27,28,56] [0,1,2,3,4,5,6] (fun a0 HA0=>?_)
 have oe1:=ev HA0 1 rfl
 refine QSeq.pure rfl (.pointer (some ⟨w.heap.size,248,none⟩)) (fun E=>Ad rfl Tryz.underlying61 rfl (by kernel_rfl) (E.v oe1)) ?_
 refine QSeq.pure rfl (.pointer (some ⟨w.heap.size,249,none⟩)) (fun E=>Ad rfl Tryz.underlying54 rfl (by kernel_rfl) (E.d 0 0)) ?_
 refine QSeq.pure rfl (v_o) (fun E=>Aj rfl Tryz.underlying52 rfl (E.d 1 0) (Cs.seg1 Hx67.out (Mg.lens HOK.out HLn5.out HLn10.out rfl (show (x.op.cells v_o).length=34 from HC15.out) rfl) 15 rfl (o:=248) (k:=1) rfl rfl rfl)) ?_
 refine QSeq.call rfl rfl Tryz.func9 (Cut_R 260 (Hx3.out.mod Cx76.out (sB HBT)) (by decide)) (fun E=>Az (E.d 2 0) rfl) ?_
 rintro e u2_3 ⟨v_o2,rfl,qoc,hm⟩
 obtain ⟨ao_o,cap_o,rfl⟩:=qoc.shape
 refine ⟨_,rfl,?_⟩
 have Hx77:=hid qoc
 have zu2_3:=hm.size
 have Cx78:=hid (show Mod (fun _=>False) u1_8 u2_3 from hm)
 clear hm
 clear qoc
 refine QSeq.pure rfl (.pointer (some ⟨w.heap.size,248,none⟩)) (fun E=>Ad rfl Tryz.underlying61 rfl (by kernel_rfl) (E.v oe1)) ?_
 refine QSeq.pure rfl (.pointer (some ⟨w.heap.size,249,none⟩)) (fun E=>Ad rfl Tryz.underlying54 rfl (by kernel_rfl) (E.d 4 0)) ?_
 refine QSeq.go fun act E=>?_
 refine Aq rfl (Ac rfl) rfl (Hx67.out.mod Cx78.out (fun h=>h)) (off:=249) (vs:=[Value.slice ao_o (x.op.pl.take 260).length cap_o]) (by kernel_rfl) one1 (by rw [List.size_toArray,Bn,(Mg.lens HOK.out HLn5.out HLn10.out rfl (show (x.op.cells v_o).length=34 from HC15.out) rfl)];show 249+1≤295;decide) (E.d 5 0) (ec (E.d 3 2)) ?_
 intro u2_6 qc0 hm
 have qB1:=qc0.eqv (b:=((Mg.segs x cn5 cn10 (x.pr.cells e_ps e_os e_ts) (x.op.cells (Value.slice ao_o (x.op.pl.take 260).length cap_o)) (x.dc.cells f_ps f_os f_ts d_l)).flatten:List Value).toArray) ((lay_sub (Mg.lens HOK.out HLn5.out HLn10.out rfl (show (x.op.cells v_o).length=34 from HC15.out) rfl) 15 rfl (o:=248) (k:=1) (n:=1) rfl rfl rfl (by rw [show (x.op.cells _).length=34 from HC15.out];decide)).trans rfl)
 clear qc0
 have Hx79:=hid qB1
 have zu2_6:=hm.size
 have HMu2_6:=hid hm
 have Cx80:=hid (Mod.goS (S':=(fun k=>(k=w.heap.size))) Cx78.out hm (fun _ h=>h.elim) (by intro k h0 h2;exact h2))
 clear hm Cx78
 clear act E qB1 Hx67
 have Hx81:=hid (Hx77.out.mod HMu2_6.out (by intro k h1 h2;omega))
 clear Hx77 HMu2_6
 refine QSeq.nil (t':=[_,_,_,_,_,_,_]) rfl ?_
 obtain rfl:=HA0.out
 clear HA0 oe1
 simp only [pz,Act.put,sIB,sCZ,sCS,List.set_nil]
 go_upto_region 3 with (fail)
 refine Aa 50 [29,30,31,32,33,34,56] [0,1,2,3,4,5,6] (fun a0 HA0=>?_)
 have oe1:=ev HA0 1 rfl
 refine QSeq.pure rfl (.pointer (some ⟨w.heap.size,287,none⟩)) (fun E=>Ad rfl Tryz.underlying61 rfl (by kernel_rfl) (E.v oe1)) ?_
 refine QSeq.pure rfl (.pointer (some ⟨w.heap.size,294,none⟩)) (fun E=>Ad rfl Tryz.underlying59 rfl (by kernel_rfl) (E.d 0 0)) ?_
 refine QSeq.pure rfl (d_l) (fun E=>Aj rfl Tryz.underlying57 rfl (E.d 1 0) (Cs.seg1 Hx79.out (Mg.lens HOK.out HLn5.out HLn10.out rfl (show (x.op.cells (Value.slice ao_o (x.op.pl.take 260).length cap_o)).length=34 from HC15.out) rfl) 18 rfl (o:=287) (k:=7) rfl rfl rfl)) ?_
 refine QSeq.call rfl rfl Tryz.func39 (Cut_Vt _ _ x.dc.l 5 _ ((Hx10.out.mod Cx76.out (sB HBT)).mod Cx80.out (sB HBT)) (by intro k h1;have hb:=HBT.out k h1;omega) (by omega)) (fun E=>Az (E.d 2 0) rfl) ?_
 rintro e u3_3 ⟨v_v2,rfl,qvc,hm⟩
 obtain ⟨ao_v,cap_v,rfl⟩:=qvc.shape
 refine ⟨_,rfl,?_⟩
 have Hx82:=hid (qvc.widen (R':=(fun k=>(New u2_6 u3_3 k))) (E':=(fun k=>(R2 k))) (fun _ h=>h) (fun _ h=>h))
 have zu3_3:=hm.size
 have Cx83:=hid (show Mod (fun _=>False) u2_6 u3_3 from hm)
 clear hm
 clear qvc
 refine QSeq.pure rfl (.pointer (some ⟨w.heap.size,287,none⟩)) (fun E=>Ad rfl Tryz.underlying61 rfl (by kernel_rfl) (E.v oe1)) ?_
 refine QSeq.pure rfl (.pointer (some ⟨w.heap.size,294,none⟩)) (fun E=>Ad rfl Tryz.underlying59 rfl (by kernel_rfl) (E.d 4 0)) ?_
 refine QSeq.go fun act E=>?_
 refine Aq rfl (Ac rfl) rfl (Hx79.out.mod Cx83.out (fun h=>h)) (off:=294) (vs:=[Value.slice ao_v (x.dc.l.take 5).length cap_v]) (by kernel_rfl) one1 (by rw [List.size_toArray,Bn,(Mg.lens HOK.out HLn5.out HLn10.out rfl (show (x.op.cells (Value.slice ao_o (x.op.pl.take 260).length cap_o)).length=34 from HC15.out) rfl)];show 294+1≤295;decide) (E.d 5 0) (ec (E.d 3 2)) ?_
 intro u3_6 qc0 hm
 have qB1:=qc0.eqv (b:=((Mg.segs x cn5 cn10 (x.pr.cells e_ps e_os e_ts) (x.op.cells (Value.slice ao_o (x.op.pl.take 260).length cap_o)) (x.dc.cells f_ps f_os f_ts (Value.slice ao_v (x.dc.l.take 5).length cap_v))).flatten:List Value).toArray) ((lay_sub (Mg.lens HOK.out HLn5.out HLn10.out rfl (show (x.op.cells (Value.slice ao_o (x.op.pl.take 260).length cap_o)).length=34 from HC15.out) rfl) 18 rfl (o:=287) (k:=7) (n:=1) rfl rfl rfl (by show 7+1≤8;decide)).trans rfl)
 clear qc0
 have Hx84:=hid qB1
 have zu3_6:=hm.size
 have HMu3_6:=hid hm
 have Cx85:=hid (Mod.goS (S':=(fun k=>(k=w.heap.size))) Cx83.out hm (fun _ h=>h.elim) (by intro k h0 h2;exact h2))
 clear hm Cx83
 clear act E qB1 Hx79
 have Hx86:=hid (Hx82.out.mod HMu3_6.out (by intro k h1 h2;omega) (sB HBT))
 clear Hx82 HMu3_6
 refine QSeq.nil (t':=[_,_,_,_,_,_,_]) rfl ?_
 obtain rfl:=HA0.out
 clear HA0 oe1
 simp only [pz,Act.put,sIB,sCZ,sCS,List.set_nil]
 by_cases hn:260 < x.rp.size
 ·skip
  go_upto_region 4 with (fail)
  refine Aa 50 [35,36,37,38] [0,1,2,3] (fun a0 HA0=>?_)
  have oe1:=ev HA0 1 rfl
  refine QSeq.pure rfl (.pointer (some ⟨w.heap.size,286,none⟩)) (fun E=>Ad rfl Tryz.underlying61 rfl (by kernel_rfl) (E.v oe1)) ?_
  refine QSeq.pure rfl (.string x.rp) (fun E=>Aj rfl Tryz.underlying9 rfl (E.d 0 0) (Cs.seg1 Hx84.out (Mg.lens HOK.out HLn5.out HLn10.out rfl (show (x.op.cells (Value.slice ao_o (x.op.pl.take 260).length cap_o)).length=34 from HC15.out) rfl) 17 rfl (o:=286) (k:=0) rfl rfl rfl)) ?_
  refine QSeq.pure rfl (.int .i64 ((x.rp.size:Nat):Int)) (fun E=>ex_lenStr rfl (E.d 1 0) Tryz.underlying9) ?_
  refine QSeq.pure rfl (.bool true) (fun E=>An rfl (E.d 2 0) rfl (Ag _ _ _ _ _ _) (run_gtr_i _ _ _ Tryz.underlying3) (congrArg Value.bool (decide_eq_true (by omega)))) ?_
  refine QSeq.nil (t':=[_,_,_,_]) rfl ?_
  obtain rfl:=HA0.out
  clear HA0 oe1
  simp only [pz,Act.put,sIB,sCZ,sCS]
  go_upto_region 5 with (fail)
  refine Aa 50 [39,40,41,42,54] [0,1,2,3,4] (fun a0 HA0=>?_)
  have oe1:=ev HA0 1 rfl
  refine QSeq.pure rfl (.pointer (some ⟨w.heap.size,286,none⟩)) (fun E=>Ad rfl Tryz.underlying61 rfl (by kernel_rfl) (E.v oe1)) ?_
  refine QSeq.pure rfl (.string x.rp) (fun E=>Aj rfl Tryz.underlying9 rfl (E.d 0 0) (Cs.seg1 Hx84.out (Mg.lens HOK.out HLn5.out HLn10.out rfl (show (x.op.cells (Value.slice ao_o (x.op.pl.take 260).length cap_o)).length=34 from HC15.out) rfl) 17 rfl (o:=286) (k:=0) rfl rfl rfl)) ?_
  refine QSeq.pure rfl (.string (x.rp.extract 0 260)) (fun E=>ex_sliceStr (i:=260) rfl Tryz.underlying9 (E.d 1 0) rfl (by omega)) ?_
  refine QSeq.pure rfl (.pointer (some ⟨w.heap.size,286,none⟩)) (fun E=>Ad rfl Tryz.underlying61 rfl (by kernel_rfl) (E.v oe1)) ?_
  refine QSeq.go fun act E=>?_
  refine Aq rfl (Ac rfl) rfl Hx84.out (off:=286) (vs:=[Value.string (x.rp.extract 0 260)]) (by kernel_rfl) one1 (by rw [List.size_toArray,Bn,(Mg.lens HOK.out HLn5.out HLn10.out rfl (show (x.op.cells (Value.slice ao_o (x.op.pl.take 260).length cap_o)).length=34 from HC15.out) rfl)];show 286+1≤295;decide) (E.d 3 0) (ec (E.d 2 1)) ?_
  intro u5_4 qc0 hm
  have qB1:=qc0.eqv (b:=((Mg.segs ({ x with rp:=x.rp.extract 0 260 }:Mg) cn5 cn10 (x.pr.cells e_ps e_os e_ts) (x.op.cells (Value.slice ao_o (x.op.pl.take 260).length cap_o)) (x.dc.cells f_ps f_os f_ts (Value.slice ao_v (x.dc.l.take 5).length cap_v))).flatten:List Value).toArray) ((lay_sub (Mg.lens HOK.out HLn5.out HLn10.out rfl (show (x.op.cells (Value.slice ao_o (x.op.pl.take 260).length cap_o)).length=34 from HC15.out) rfl) 17 rfl (o:=286) (k:=0) (n:=1) rfl rfl rfl (by show 0+1≤1;decide)).trans rfl)
  clear qc0
  have Hx87:=hid qB1
  have zu5_4:=hm.size
  have Cx88:=hid (show Mod (fun k=>(k=w.heap.size)) u3_6 u5_4 from hm)
  clear hm
  clear act E qB1 Hx84
  refine QSeq.nil (t':=[_,_,_,_,_]) rfl ?_
  obtain rfl:=HA0.out
  clear HA0 oe1
  simp only [pz,Act.put,sIB,sCZ,sCS,List.set_nil]
  by_cases hv:x.pr.vl=9223372036854775807
  ·have HV:=Lib.hid hv
   clear hv
   go_upto_region 6 with (fail)
   refine Aa 50 [43,44,45,46] [0,1,2,3] (fun a0 HA0=>?_)
   have oe1:=ev HA0 1 rfl
   refine QSeq.pure rfl (.pointer (some ⟨w.heap.size,163,none⟩)) (fun E=>Ad rfl Tryz.underlying61 rfl (by kernel_rfl) (E.v oe1)) ?_
   refine QSeq.pure rfl (.pointer (some ⟨w.heap.size,165,none⟩)) (fun E=>Ad rfl Tryz.underlying47 rfl (by kernel_rfl) (E.d 0 0)) ?_
   refine QSeq.pure rfl (.int .i64 x.pr.vl) (fun E=>Aj rfl Tryz.underlying3 rfl (E.d 1 0) (Cs.seg1 Hx87.out (show (Mg.segs ({ x with rp:=x.rp.extract 0 260 }:Mg) cn5 cn10 (x.pr.cells e_ps e_os e_ts) (x.op.cells (Value.slice ao_o (x.op.pl.take 260).length cap_o)) (x.dc.cells f_ps f_os f_ts (Value.slice ao_v (x.dc.l.take 5).length cap_v))).map List.length=mgN from (Mg.lens HOK.out HLn5.out HLn10.out rfl (show (x.op.cells (Value.slice ao_o (x.op.pl.take 260).length cap_o)).length=34 from HC15.out) rfl)) 11 rfl (o:=163) (k:=2) rfl rfl rfl)) ?_
   refine QSeq.pure rfl (.bool true) (fun E=>An rfl (E.d 2 0) rfl (Ag _ _ _ _ _ _) (Al _ _ _ Tryz.underlying3) (congrArg Value.bool (Bi HV.out))) ?_
   refine QSeq.nil (t':=[_,_,_,_]) rfl ?_
   obtain rfl:=HA0.out
   clear HA0 oe1
   simp only [pz,Act.put,sIB,sCZ,sCS]
   go_upto_region 7 with (fail)
   refine Aa 50 [47,48,52] [0,1,2] (fun a0 HA0=>?_)
   have oe1:=ev HA0 1 rfl
   refine QSeq.pure rfl (.pointer (some ⟨w.heap.size,163,none⟩)) (fun E=>Ad rfl Tryz.underlying61 rfl (by kernel_rfl) (E.v oe1)) ?_
   refine QSeq.pure rfl (.pointer (some ⟨w.heap.size,165,none⟩)) (fun E=>Ad rfl Tryz.underlying47 rfl (by kernel_rfl) (E.d 0 0)) ?_
   refine QSeq.go fun act E=>?_
   refine Aq rfl (Ac rfl) rfl Hx87.out (off:=165) (vs:=[.int .i64 0]) (by kernel_rfl) one1 (by rw [List.size_toArray,Bn,(show (Mg.segs ({ x with rp:=x.rp.extract 0 260 }:Mg) cn5 cn10 (x.pr.cells e_ps e_os e_ts) (x.op.cells (Value.slice ao_o (x.op.pl.take 260).length cap_o)) (x.dc.cells f_ps f_os f_ts (Value.slice ao_v (x.dc.l.take 5).length cap_v))).map List.length=mgN from (Mg.lens HOK.out HLn5.out HLn10.out rfl (show (x.op.cells (Value.slice ao_o (x.op.pl.take 260).length cap_o)).length=34 from HC15.out) rfl))];show 165+1≤295;decide) (E.d 1 0) (ec rfl) ?_
   intro u7_2 qc0 hm
   have qB1:=qc0.eqv (b:=((Mg.segs ({ x with rp:=x.rp.extract 0 260 }:Mg) cn5 cn10 (Pr.cells { x.pr with vl:=0 } e_ps e_os e_ts) (x.op.cells (Value.slice ao_o (x.op.pl.take 260).length cap_o)) (x.dc.cells f_ps f_os f_ts (Value.slice ao_v (x.dc.l.take 5).length cap_v))).flatten:List Value).toArray) ((lay_sub (show (Mg.segs ({ x with rp:=x.rp.extract 0 260 }:Mg) cn5 cn10 (x.pr.cells e_ps e_os e_ts) (x.op.cells (Value.slice ao_o (x.op.pl.take 260).length cap_o)) (x.dc.cells f_ps f_os f_ts (Value.slice ao_v (x.dc.l.take 5).length cap_v))).map List.length=mgN from (Mg.lens HOK.out HLn5.out HLn10.out rfl (show (x.op.cells (Value.slice ao_o (x.op.pl.take 260).length cap_o)).length=34 from HC15.out) rfl)) 11 rfl (o:=163) (k:=2) (n:=1) rfl rfl rfl (by show 2+1≤11;decide)).trans rfl)
   clear qc0
   have Hx89:=hid qB1
   have zu7_2:=hm.size
   have Cx90:=hid (show Mod (fun k=>(k=w.heap.size)) u5_4 u7_2 from hm)
   clear hm
   clear act E qB1 Hx87
   refine QSeq.nil (t':=[_,_,_]) rfl ?_
   obtain rfl:=HA0.out
   clear HA0 oe1
   simp only [pz,Act.put,sIB,sCZ,sCS,List.set_nil]
   have HSZ:=hid (show ((Mg.segs ({ x with rp:=x.rp.extract 0 260 }:Mg) cn5 cn10 (Pr.cells { x.pr with vl:=0 } e_ps e_os e_ts) (x.op.cells (Value.slice ao_o (x.op.pl.take 260).length cap_o)) (x.dc.cells f_ps f_os f_ts (Value.slice ao_v (x.dc.l.take 5).length cap_v))).flatten).length=295 by rw [Bn,show (Mg.segs ({ x with rp:=x.rp.extract 0 260 }:Mg) cn5 cn10 (Pr.cells { x.pr with vl:=0 } e_ps e_os e_ts) (x.op.cells (Value.slice ao_o (x.op.pl.take 260).length cap_o)) (x.dc.cells f_ps f_os f_ts (Value.slice ao_v (x.dc.l.take 5).length cap_v))).map List.length=mgN from (Mg.lens HOK.out HLn5.out HLn10.out rfl (show (x.op.cells (Value.slice ao_o (x.op.pl.take 260).length cap_o)).length=34 from HC15.out) rfl)];rfl)
   have HES:=hid (show smallM x={ ({ x with rp:=x.rp.extract 0 260 }:Mg) with ce:=cutCe x.ce,pm:=cutPm x.pm,pr:={ x.pr with ba:=cutBa x.pr.ba,vl:=0 },op:=cutOp x.op,dc:={ x.dc with ba:=cutBa x.dc.ba,l:=x.dc.l.take 5 } } by unfold smallM;rw [show cutRp x.rp=x.rp.extract 0 260 from if_pos hn,show cutVl x.pr.vl=0 from if_pos HV.out])
   have HRM:=hid (show MgR.rd (fun k=>(R2 k)∨(New w1 u7_2 k)) u7_2 ((Mg.segs ({ x with rp:=x.rp.extract 0 260 }:Mg) cn5 cn10 (Pr.cells { x.pr with vl:=0 } e_ps e_os e_ts) (x.op.cells (Value.slice ao_o (x.op.pl.take 260).length cap_o)) (x.dc.cells f_ps f_os f_ts (Value.slice ao_v (x.dc.l.take 5).length cap_v))).flatten) (smallM x) from HES.out▸⟨_,_,_,_,_,rfl,{ HOK.out with },((((Hx68.out.mod Cx80.out (by intro k h1 h2;rcases h1 with h1|h1<;>first|omega|(have hb:=HBT.out k h1;omega))).mod Cx85.out (by intro k h1 h2;rcases h1 with h1|h1<;>first|omega|(have hb:=HBT.out k h1;omega))).mod Cx88.out (by intro k h1 h2;rcases h1 with h1|h1<;>first|omega|(have hb:=HBT.out k h1;omega))).mod Cx90.out (by intro k h1 h2;rcases h1 with h1|h1<;>first|omega|(have hb:=HBT.out k h1;omega))).widen (by intro k h1;rcases h1 with h1|h1<;>first|exact Or.inl h1|(right;omega)),((((Hx69.out.mod Cx80.out (by intro k h1 h2;rcases h1 with h1|h1<;>first|omega|(have hb:=HBT.out k h1;omega))).mod Cx85.out (by intro k h1 h2;rcases h1 with h1|h1<;>first|omega|(have hb:=HBT.out k h1;omega))).mod Cx88.out (by intro k h1 h2;rcases h1 with h1|h1<;>first|omega|(have hb:=HBT.out k h1;omega))).mod Cx90.out (by intro k h1 h2;rcases h1 with h1|h1<;>first|omega|(have hb:=HBT.out k h1;omega))).widen (by intro k h1;rcases h1 with h1|h1<;>first|exact Or.inl h1|(right;omega)),⟨_,_,_,rfl,⟨HOP.out.1,HOP.out.2.1,A4,HOP.out.2.2.2⟩,((((Hx70.out.mod Cx80.out (by intro k h1 h2;rcases h1 with h1|h1<;>first|omega|(have hb:=HBT.out k h1;omega))).mod Cx85.out (by intro k h1 h2;rcases h1 with h1|h1<;>first|omega|(have hb:=HBT.out k h1;omega))).mod Cx88.out (by intro k h1 h2;rcases h1 with h1|h1<;>first|omega|(have hb:=HBT.out k h1;omega))).mod Cx90.out (by intro k h1 h2;rcases h1 with h1|h1<;>first|omega|(have hb:=HBT.out k h1;omega))).widen (by intro k h1;rcases h1 with h1|h1<;>first|exact Or.inl h1|(right;omega)),((((Hx71.out.mod Cx80.out (by intro k h1 h2;rcases h1 with h1|h1<;>first|omega|(have hb:=HBT.out k h1;omega))).mod Cx85.out (by intro k h1 h2;rcases h1 with h1|h1<;>first|omega|(have hb:=HBT.out k h1;omega))).mod Cx88.out (by intro k h1 h2;rcases h1 with h1|h1<;>first|omega|(have hb:=HBT.out k h1;omega))).mod Cx90.out (by intro k h1 h2;rcases h1 with h1|h1<;>first|omega|(have hb:=HBT.out k h1;omega))).widen (by intro k h1;rcases h1 with h1|h1<;>first|exact Or.inl h1|(right;omega)),((((Hx72.out.mod Cx80.out (by intro k h1 h2;rcases h1 with h1|h1<;>first|omega|(have hb:=HBT.out k h1;omega))).mod Cx85.out (by intro k h1 h2;rcases h1 with h1|h1<;>first|omega|(have hb:=HBT.out k h1;omega))).mod Cx88.out (by intro k h1 h2;rcases h1 with h1|h1<;>first|omega|(have hb:=HBT.out k h1;omega))).mod Cx90.out (by intro k h1 h2;rcases h1 with h1|h1<;>first|omega|(have hb:=HBT.out k h1;omega))).widen (by intro k h1;rcases h1 with h1|h1<;>first|exact Or.inl h1|(right;omega))⟩,⟨_,rfl,HOO.out,RdR_len ((((Hx81.out.mod Cx85.out (by intro k h1 h2;omega)).mod Cx88.out (by intro k h1 h2;omega)).mod Cx90.out (by intro k h1 h2;omega)).rd.widen (by intro k h1;(try dsimp only at h1 ⊢);right;omega) (Nat.le_refl _))⟩,⟨_,_,_,_,rfl,HOD.out,((((Hx73.out.mod Cx80.out (by intro k h1 h2;rcases h1 with h1|h1<;>first|omega|(have hb:=HBT.out k h1;omega))).mod Cx85.out (by intro k h1 h2;rcases h1 with h1|h1<;>first|omega|(have hb:=HBT.out k h1;omega))).mod Cx88.out (by intro k h1 h2;rcases h1 with h1|h1<;>first|omega|(have hb:=HBT.out k h1;omega))).mod Cx90.out (by intro k h1 h2;rcases h1 with h1|h1<;>first|omega|(have hb:=HBT.out k h1;omega))).widen (by intro k h1;rcases h1 with h1|h1<;>first|exact Or.inl h1|(right;omega)),((((Hx74.out.mod Cx80.out (by intro k h1 h2;rcases h1 with h1|h1<;>first|omega|(have hb:=HBT.out k h1;omega))).mod Cx85.out (by intro k h1 h2;rcases h1 with h1|h1<;>first|omega|(have hb:=HBT.out k h1;omega))).mod Cx88.out (by intro k h1 h2;rcases h1 with h1|h1<;>first|omega|(have hb:=HBT.out k h1;omega))).mod Cx90.out (by intro k h1 h2;rcases h1 with h1|h1<;>first|omega|(have hb:=HBT.out k h1;omega))).widen (by intro k h1;rcases h1 with h1|h1<;>first|exact Or.inl h1|(right;omega)),((((Hx75.out.mod Cx80.out (by intro k h1 h2;rcases h1 with h1|h1<;>first|omega|(have hb:=HBT.out k h1;omega))).mod Cx85.out (by intro k h1 h2;rcases h1 with h1|h1<;>first|omega|(have hb:=HBT.out k h1;omega))).mod Cx88.out (by intro k h1 h2;rcases h1 with h1|h1<;>first|omega|(have hb:=HBT.out k h1;omega))).mod Cx90.out (by intro k h1 h2;rcases h1 with h1|h1<;>first|omega|(have hb:=HBT.out k h1;omega))).widen (by intro k h1;rcases h1 with h1|h1<;>first|exact Or.inl h1|(right;omega)),((Hx86.out.mod Cx88.out (by intro k h1 h2;omega) (sB HBT)).mod Cx90.out (by intro k h1 h2;omega) (sB HBT)).rd.widen (by intro k h1;(try dsimp only at h1 ⊢);rcases h1 with h1|h1<;>first|exact Or.inl h1|(right;omega))⟩⟩)
   have HON:=hid (MgR.one HRM.out)
   clear Hx68
   clear Hx69
   clear Hx70
   clear Hx71
   clear Hx72
   clear Hx73
   clear Hx74
   clear Hx75
   clear Hx86
   clear Hx81
   go_upto_region 8 with (fail)
   refine Aa 50 [49,51] [0,1] (fun a0 HA0=>?_)
   have oe1:=ev HA0 1 rfl
   have oe2:=ev HA0 2 rfl
   refine QSeq.pure rfl _ (fun E=>Am rfl Tryz.underlying61 rfl (off:=0) (cs:=((Mg.segs ({ x with rp:=x.rp.extract 0 260 }:Mg) cn5 cn10 (Pr.cells { x.pr with vl:=0 } e_ps e_os e_ts) (x.op.cells (Value.slice ao_o (x.op.pl.take 260).length cap_o)) (x.dc.cells f_ps f_os f_ts (Value.slice ao_v (x.dc.l.take 5).length cap_v))).flatten)) (by rw [HSZ.out];kernel_rfl) (E.v oe1) (Cs.whole Hx89.out)) ?_
   refine QSeq.go fun act E=>?_
   refine Aq rfl (Ac rfl) rfl (((((HB2.out.mod Cx76.out (by intro h2;omega)).mod Cx80.out (by intro h2;omega)).mod Cx85.out (by intro h2;omega)).mod Cx88.out (by intro h2;omega)).mod Cx90.out (by intro h2;omega)) (off:=0) (vs:=((Mg.segs ({ x with rp:=x.rp.extract 0 260 }:Mg) cn5 cn10 (Pr.cells { x.pr with vl:=0 } e_ps e_os e_ts) (x.op.cells (Value.slice ao_o (x.op.pl.take 260).length cap_o)) (x.dc.cells f_ps f_os f_ts (Value.slice ao_v (x.dc.l.take 5).length cap_v))).flatten)) (by rw [HSZ.out];kernel_rfl) HON.out (by rw [HSZ.out];show 0+295≤295;decide) (E.v oe2) (ec (E.d 0 0)) ?_
   intro u8_1 qc0 hm
   have qB2:=qc0.eqv (b:=(((Mg.segs ({ x with rp:=x.rp.extract 0 260 }:Mg) cn5 cn10 (Pr.cells { x.pr with vl:=0 } e_ps e_os e_ts) (x.op.cells (Value.slice ao_o (x.op.pl.take 260).length cap_o)) (x.dc.cells f_ps f_os f_ts (Value.slice ao_v (x.dc.l.take 5).length cap_v))).flatten):List Value).toArray) (A5 _ _ (by rw [HSZ.out];rfl))
   clear qc0
   have Hx91:=hid qB2
   have zu8_1:=hm.size
   have Cx92:=hid (show Mod (fun k=>(k=w.heap.size+1)) u7_2 u8_1 from hm)
   clear hm
   clear act E qB2 HB2
   refine QSeq.nil (t':=[_,_]) rfl ?_
   obtain rfl:=HA0.out
   clear HA0 oe1 oe2
   simp only [pz,Act.put,sIB,sCZ,sCS,List.set_nil]
   go_wp2
   exact bodyPost_ret (A7 rfl _ _ (w.heap.size+1) ((Mg.segs ({ x with rp:=x.rp.extract 0 260 }:Mg) cn5 cn10 (Pr.cells { x.pr with vl:=0 } e_ps e_os e_ts) (x.op.cells (Value.slice ao_o (x.op.pl.take 260).length cap_o)) (x.dc.cells f_ps f_os f_ts (Value.slice ao_v (x.dc.l.take 5).length cap_v))).flatten) rfl (fun k u hu=>by rw [Hx91.out.cell];simpa using hu) Tryz.underlying61 rfl (by rw [HSZ.out];kernel_rfl)) rfl ⟨_,rfl,(HRM.out.mod Cx92.out (by intro k h1 h2;rcases h1 with h1|h1<;>first|omega|(have hb:=HBT.out k h1;omega))).widen (by intro k h1;rcases h1 with h1|h1<;>first|exact Or.inl h1|(right;omega)),((((((HM0.out.trans Cx76.out (by intro k h1 h2;omega)).trans Cx80.out (by intro k h1 h2;omega)).trans Cx85.out (by intro k h1 h2;omega)).trans Cx88.out (by intro k h1 h2;omega)).trans Cx90.out (by intro k h1 h2;omega)).trans Cx92.out (by intro k h1 h2;omega))⟩
  have HV:=Lib.hid hv
  clear hv
  go_upto_region 6 with (fail)
  refine Aa 50 [43,44,45,46] [0,1,2,3] (fun a0 HA0=>?_)
  have oe1:=ev HA0 1 rfl
  refine QSeq.pure rfl (.pointer (some ⟨w.heap.size,163,none⟩)) (fun E=>Ad rfl Tryz.underlying61 rfl (by kernel_rfl) (E.v oe1)) ?_
  refine QSeq.pure rfl (.pointer (some ⟨w.heap.size,165,none⟩)) (fun E=>Ad rfl Tryz.underlying47 rfl (by kernel_rfl) (E.d 0 0)) ?_
  refine QSeq.pure rfl (.int .i64 x.pr.vl) (fun E=>Aj rfl Tryz.underlying3 rfl (E.d 1 0) (Cs.seg1 Hx87.out (show (Mg.segs ({ x with rp:=x.rp.extract 0 260 }:Mg) cn5 cn10 (x.pr.cells e_ps e_os e_ts) (x.op.cells (Value.slice ao_o (x.op.pl.take 260).length cap_o)) (x.dc.cells f_ps f_os f_ts (Value.slice ao_v (x.dc.l.take 5).length cap_v))).map List.length=mgN from (Mg.lens HOK.out HLn5.out HLn10.out rfl (show (x.op.cells (Value.slice ao_o (x.op.pl.take 260).length cap_o)).length=34 from HC15.out) rfl)) 11 rfl (o:=163) (k:=2) rfl rfl rfl)) ?_
  refine QSeq.pure rfl (.bool false) (fun E=>An rfl (E.d 2 0) rfl (Ag _ _ _ _ _ _) (Al _ _ _ Tryz.underlying3) (congrArg Value.bool (Bb HV.out))) ?_
  refine QSeq.nil (t':=[_,_,_,_]) rfl ?_
  obtain rfl:=HA0.out
  clear HA0 oe1
  simp only [pz,Act.put,sIB,sCZ,sCS]
  have HSZ:=hid (show ((Mg.segs ({ x with rp:=x.rp.extract 0 260 }:Mg) cn5 cn10 (x.pr.cells e_ps e_os e_ts) (x.op.cells (Value.slice ao_o (x.op.pl.take 260).length cap_o)) (x.dc.cells f_ps f_os f_ts (Value.slice ao_v (x.dc.l.take 5).length cap_v))).flatten).length=295 by rw [Bn,show (Mg.segs ({ x with rp:=x.rp.extract 0 260 }:Mg) cn5 cn10 (x.pr.cells e_ps e_os e_ts) (x.op.cells (Value.slice ao_o (x.op.pl.take 260).length cap_o)) (x.dc.cells f_ps f_os f_ts (Value.slice ao_v (x.dc.l.take 5).length cap_v))).map List.length=mgN from (Mg.lens HOK.out HLn5.out HLn10.out rfl (show (x.op.cells (Value.slice ao_o (x.op.pl.take 260).length cap_o)).length=34 from HC15.out) rfl)];rfl)
  have HES:=hid (show smallM x={ ({ x with rp:=x.rp.extract 0 260 }:Mg) with ce:=cutCe x.ce,pm:=cutPm x.pm,pr:={ x.pr with ba:=cutBa x.pr.ba,vl:=x.pr.vl },op:=cutOp x.op,dc:={ x.dc with ba:=cutBa x.dc.ba,l:=x.dc.l.take 5 } } by unfold smallM;rw [show cutRp x.rp=x.rp.extract 0 260 from if_pos hn,show cutVl x.pr.vl=x.pr.vl from if_neg HV.out])
  have HRM:=hid (show MgR.rd (fun k=>(R2 k)∨(New w1 u5_4 k)) u5_4 ((Mg.segs ({ x with rp:=x.rp.extract 0 260 }:Mg) cn5 cn10 (x.pr.cells e_ps e_os e_ts) (x.op.cells (Value.slice ao_o (x.op.pl.take 260).length cap_o)) (x.dc.cells f_ps f_os f_ts (Value.slice ao_v (x.dc.l.take 5).length cap_v))).flatten) (smallM x) from HES.out▸⟨_,_,_,_,_,rfl,{ HOK.out with },(((Hx68.out.mod Cx80.out (by intro k h1 h2;rcases h1 with h1|h1<;>first|omega|(have hb:=HBT.out k h1;omega))).mod Cx85.out (by intro k h1 h2;rcases h1 with h1|h1<;>first|omega|(have hb:=HBT.out k h1;omega))).mod Cx88.out (by intro k h1 h2;rcases h1 with h1|h1<;>first|omega|(have hb:=HBT.out k h1;omega))).widen (by intro k h1;rcases h1 with h1|h1<;>first|exact Or.inl h1|(right;omega)),(((Hx69.out.mod Cx80.out (by intro k h1 h2;rcases h1 with h1|h1<;>first|omega|(have hb:=HBT.out k h1;omega))).mod Cx85.out (by intro k h1 h2;rcases h1 with h1|h1<;>first|omega|(have hb:=HBT.out k h1;omega))).mod Cx88.out (by intro k h1 h2;rcases h1 with h1|h1<;>first|omega|(have hb:=HBT.out k h1;omega))).widen (by intro k h1;rcases h1 with h1|h1<;>first|exact Or.inl h1|(right;omega)),⟨_,_,_,rfl,HOP.out,(((Hx70.out.mod Cx80.out (by intro k h1 h2;rcases h1 with h1|h1<;>first|omega|(have hb:=HBT.out k h1;omega))).mod Cx85.out (by intro k h1 h2;rcases h1 with h1|h1<;>first|omega|(have hb:=HBT.out k h1;omega))).mod Cx88.out (by intro k h1 h2;rcases h1 with h1|h1<;>first|omega|(have hb:=HBT.out k h1;omega))).widen (by intro k h1;rcases h1 with h1|h1<;>first|exact Or.inl h1|(right;omega)),(((Hx71.out.mod Cx80.out (by intro k h1 h2;rcases h1 with h1|h1<;>first|omega|(have hb:=HBT.out k h1;omega))).mod Cx85.out (by intro k h1 h2;rcases h1 with h1|h1<;>first|omega|(have hb:=HBT.out k h1;omega))).mod Cx88.out (by intro k h1 h2;rcases h1 with h1|h1<;>first|omega|(have hb:=HBT.out k h1;omega))).widen (by intro k h1;rcases h1 with h1|h1<;>first|exact Or.inl h1|(right;omega)),(((Hx72.out.mod Cx80.out (by intro k h1 h2;rcases h1 with h1|h1<;>first|omega|(have hb:=HBT.out k h1;omega))).mod Cx85.out (by intro k h1 h2;rcases h1 with h1|h1<;>first|omega|(have hb:=HBT.out k h1;omega))).mod Cx88.out (by intro k h1 h2;rcases h1 with h1|h1<;>first|omega|(have hb:=HBT.out k h1;omega))).widen (by intro k h1;rcases h1 with h1|h1<;>first|exact Or.inl h1|(right;omega))⟩,⟨_,rfl,HOO.out,RdR_len (((Hx81.out.mod Cx85.out (by intro k h1 h2;omega)).mod Cx88.out (by intro k h1 h2;omega)).rd.widen (by intro k h1;(try dsimp only at h1 ⊢);right;omega) (Nat.le_refl _))⟩,⟨_,_,_,_,rfl,HOD.out,(((Hx73.out.mod Cx80.out (by intro k h1 h2;rcases h1 with h1|h1<;>first|omega|(have hb:=HBT.out k h1;omega))).mod Cx85.out (by intro k h1 h2;rcases h1 with h1|h1<;>first|omega|(have hb:=HBT.out k h1;omega))).mod Cx88.out (by intro k h1 h2;rcases h1 with h1|h1<;>first|omega|(have hb:=HBT.out k h1;omega))).widen (by intro k h1;rcases h1 with h1|h1<;>first|exact Or.inl h1|(right;omega)),(((Hx74.out.mod Cx80.out (by intro k h1 h2;rcases h1 with h1|h1<;>first|omega|(have hb:=HBT.out k h1;omega))).mod Cx85.out (by intro k h1 h2;rcases h1 with h1|h1<;>first|omega|(have hb:=HBT.out k h1;omega))).mod Cx88.out (by intro k h1 h2;rcases h1 with h1|h1<;>first|omega|(have hb:=HBT.out k h1;omega))).widen (by intro k h1;rcases h1 with h1|h1<;>first|exact Or.inl h1|(right;omega)),(((Hx75.out.mod Cx80.out (by intro k h1 h2;rcases h1 with h1|h1<;>first|omega|(have hb:=HBT.out k h1;omega))).mod Cx85.out (by intro k h1 h2;rcases h1 with h1|h1<;>first|omega|(have hb:=HBT.out k h1;omega))).mod Cx88.out (by intro k h1 h2;rcases h1 with h1|h1<;>first|omega|(have hb:=HBT.out k h1;omega))).widen (by intro k h1;rcases h1 with h1|h1<;>first|exact Or.inl h1|(right;omega)),(Hx86.out.mod Cx88.out (by intro k h1 h2;omega) (sB HBT)).rd.widen (by intro k h1;(try dsimp only at h1 ⊢);rcases h1 with h1|h1<;>first|exact Or.inl h1|(right;omega))⟩⟩)
  have HON:=hid (MgR.one HRM.out)
  clear Hx68
  clear Hx69
  clear Hx70
  clear Hx71
  clear Hx72
  clear Hx73
  clear Hx74
  clear Hx75
  clear Hx86
  clear Hx81
  go_upto_region 8 with (fail)
  refine Aa 50 [49,51] [0,1] (fun a0 HA0=>?_)
  have oe1:=ev HA0 1 rfl
  have oe2:=ev HA0 2 rfl
  refine QSeq.pure rfl _ (fun E=>Am rfl Tryz.underlying61 rfl (off:=0) (cs:=((Mg.segs ({ x with rp:=x.rp.extract 0 260 }:Mg) cn5 cn10 (x.pr.cells e_ps e_os e_ts) (x.op.cells (Value.slice ao_o (x.op.pl.take 260).length cap_o)) (x.dc.cells f_ps f_os f_ts (Value.slice ao_v (x.dc.l.take 5).length cap_v))).flatten)) (by rw [HSZ.out];kernel_rfl) (E.v oe1) (Cs.whole Hx87.out)) ?_
  refine QSeq.go fun act E=>?_
  refine Aq rfl (Ac rfl) rfl ((((HB2.out.mod Cx76.out (by intro h2;omega)).mod Cx80.out (by intro h2;omega)).mod Cx85.out (by intro h2;omega)).mod Cx88.out (by intro h2;omega)) (off:=0) (vs:=((Mg.segs ({ x with rp:=x.rp.extract 0 260 }:Mg) cn5 cn10 (x.pr.cells e_ps e_os e_ts) (x.op.cells (Value.slice ao_o (x.op.pl.take 260).length cap_o)) (x.dc.cells f_ps f_os f_ts (Value.slice ao_v (x.dc.l.take 5).length cap_v))).flatten)) (by rw [HSZ.out];kernel_rfl) HON.out (by rw [HSZ.out];show 0+295≤295;decide) (E.v oe2) (ec (E.d 0 0)) ?_
  intro u8_1 qc0 hm
  have qB2:=qc0.eqv (b:=(((Mg.segs ({ x with rp:=x.rp.extract 0 260 }:Mg) cn5 cn10 (x.pr.cells e_ps e_os e_ts) (x.op.cells (Value.slice ao_o (x.op.pl.take 260).length cap_o)) (x.dc.cells f_ps f_os f_ts (Value.slice ao_v (x.dc.l.take 5).length cap_v))).flatten):List Value).toArray) (A5 _ _ (by rw [HSZ.out];rfl))
  clear qc0
  have Hx93:=hid qB2
  have zu8_1:=hm.size
  have Cx94:=hid (show Mod (fun k=>(k=w.heap.size+1)) u5_4 u8_1 from hm)
  clear hm
  clear act E qB2 HB2
  refine QSeq.nil (t':=[_,_]) rfl ?_
  obtain rfl:=HA0.out
  clear HA0 oe1 oe2
  simp only [pz,Act.put,sIB,sCZ,sCS,List.set_nil]
  go_wp2
  exact bodyPost_ret (A7 rfl _ _ (w.heap.size+1) ((Mg.segs ({ x with rp:=x.rp.extract 0 260 }:Mg) cn5 cn10 (x.pr.cells e_ps e_os e_ts) (x.op.cells (Value.slice ao_o (x.op.pl.take 260).length cap_o)) (x.dc.cells f_ps f_os f_ts (Value.slice ao_v (x.dc.l.take 5).length cap_v))).flatten) rfl (fun k u hu=>by rw [Hx93.out.cell];simpa using hu) Tryz.underlying61 rfl (by rw [HSZ.out];kernel_rfl)) rfl ⟨_,rfl,(HRM.out.mod Cx94.out (by intro k h1 h2;rcases h1 with h1|h1<;>first|omega|(have hb:=HBT.out k h1;omega))).widen (by intro k h1;rcases h1 with h1|h1<;>first|exact Or.inl h1|(right;omega)),(((((HM0.out.trans Cx76.out (by intro k h1 h2;omega)).trans Cx80.out (by intro k h1 h2;omega)).trans Cx85.out (by intro k h1 h2;omega)).trans Cx88.out (by intro k h1 h2;omega)).trans Cx94.out (by intro k h1 h2;omega))⟩
 go_upto_region 4 with (fail)
 refine Aa 50 [35,36,37,38] [0,1,2,3] (fun a0 HA0=>?_)
 have oe1:=ev HA0 1 rfl
 refine QSeq.pure rfl (.pointer (some ⟨w.heap.size,286,none⟩)) (fun E=>Ad rfl Tryz.underlying61 rfl (by kernel_rfl) (E.v oe1)) ?_
 refine QSeq.pure rfl (.string x.rp) (fun E=>Aj rfl Tryz.underlying9 rfl (E.d 0 0) (Cs.seg1 Hx84.out (Mg.lens HOK.out HLn5.out HLn10.out rfl (show (x.op.cells (Value.slice ao_o (x.op.pl.take 260).length cap_o)).length=34 from HC15.out) rfl) 17 rfl (o:=286) (k:=0) rfl rfl rfl)) ?_
 refine QSeq.pure rfl (.int .i64 ((x.rp.size:Nat):Int)) (fun E=>ex_lenStr rfl (E.d 1 0) Tryz.underlying9) ?_
 refine QSeq.pure rfl (.bool false) (fun E=>An rfl (E.d 2 0) rfl (Ag _ _ _ _ _ _) (run_gtr_i _ _ _ Tryz.underlying3) (congrArg Value.bool (decide_eq_false (by omega)))) ?_
 refine QSeq.nil (t':=[_,_,_,_]) rfl ?_
 obtain rfl:=HA0.out
 clear HA0 oe1
 simp only [pz,Act.put,sIB,sCZ,sCS]
 by_cases hv:x.pr.vl=9223372036854775807
 ·have HV:=Lib.hid hv
  clear hv
  go_upto_region 6 with (fail)
  refine Aa 50 [43,44,45,46] [0,1,2,3] (fun a0 HA0=>?_)
  have oe1:=ev HA0 1 rfl
  refine QSeq.pure rfl (.pointer (some ⟨w.heap.size,163,none⟩)) (fun E=>Ad rfl Tryz.underlying61 rfl (by kernel_rfl) (E.v oe1)) ?_
  refine QSeq.pure rfl (.pointer (some ⟨w.heap.size,165,none⟩)) (fun E=>Ad rfl Tryz.underlying47 rfl (by kernel_rfl) (E.d 0 0)) ?_
  refine QSeq.pure rfl (.int .i64 x.pr.vl) (fun E=>Aj rfl Tryz.underlying3 rfl (E.d 1 0) (Cs.seg1 Hx84.out (Mg.lens HOK.out HLn5.out HLn10.out rfl (show (x.op.cells (Value.slice ao_o (x.op.pl.take 260).length cap_o)).length=34 from HC15.out) rfl) 11 rfl (o:=163) (k:=2) rfl rfl rfl)) ?_
  refine QSeq.pure rfl (.bool true) (fun E=>An rfl (E.d 2 0) rfl (Ag _ _ _ _ _ _) (Al _ _ _ Tryz.underlying3) (congrArg Value.bool (Bi HV.out))) ?_
  refine QSeq.nil (t':=[_,_,_,_]) rfl ?_
  obtain rfl:=HA0.out
  clear HA0 oe1
  simp only [pz,Act.put,sIB,sCZ,sCS]
  go_upto_region 7 with (fail)
  refine Aa 50 [47,48,52] [0,1,2] (fun a0 HA0=>?_)
  have oe1:=ev HA0 1 rfl
  refine QSeq.pure rfl (.pointer (some ⟨w.heap.size,163,none⟩)) (fun E=>Ad rfl Tryz.underlying61 rfl (by kernel_rfl) (E.v oe1)) ?_
  refine QSeq.pure rfl (.pointer (some ⟨w.heap.size,165,none⟩)) (fun E=>Ad rfl Tryz.underlying47 rfl (by kernel_rfl) (E.d 0 0)) ?_
  refine QSeq.go fun act E=>?_
  refine Aq rfl (Ac rfl) rfl Hx84.out (off:=165) (vs:=[.int .i64 0]) (by kernel_rfl) one1 (by rw [List.size_toArray,Bn,(show (Mg.segs x cn5 cn10 (x.pr.cells e_ps e_os e_ts) (x.op.cells (Value.slice ao_o (x.op.pl.take 260).length cap_o)) (x.dc.cells f_ps f_os f_ts (Value.slice ao_v (x.dc.l.take 5).length cap_v))).map List.length=mgN from (Mg.lens HOK.out HLn5.out HLn10.out rfl (show (x.op.cells (Value.slice ao_o (x.op.pl.take 260).length cap_o)).length=34 from HC15.out) rfl))];show 165+1≤295;decide) (E.d 1 0) (ec rfl) ?_
  intro u7_2 qc0 hm
  have qB1:=qc0.eqv (b:=((Mg.segs x cn5 cn10 (Pr.cells { x.pr with vl:=0 } e_ps e_os e_ts) (x.op.cells (Value.slice ao_o (x.op.pl.take 260).length cap_o)) (x.dc.cells f_ps f_os f_ts (Value.slice ao_v (x.dc.l.take 5).length cap_v))).flatten:List Value).toArray) ((lay_sub (show (Mg.segs x cn5 cn10 (x.pr.cells e_ps e_os e_ts) (x.op.cells (Value.slice ao_o (x.op.pl.take 260).length cap_o)) (x.dc.cells f_ps f_os f_ts (Value.slice ao_v (x.dc.l.take 5).length cap_v))).map List.length=mgN from (Mg.lens HOK.out HLn5.out HLn10.out rfl (show (x.op.cells (Value.slice ao_o (x.op.pl.take 260).length cap_o)).length=34 from HC15.out) rfl)) 11 rfl (o:=163) (k:=2) (n:=1) rfl rfl rfl (by show 2+1≤11;decide)).trans rfl)
  clear qc0
  have Hx95:=hid qB1
  have zu7_2:=hm.size
  have Cx96:=hid (show Mod (fun k=>(k=w.heap.size)) u3_6 u7_2 from hm)
  clear hm
  clear act E qB1 Hx84
  refine QSeq.nil (t':=[_,_,_]) rfl ?_
  obtain rfl:=HA0.out
  clear HA0 oe1
  simp only [pz,Act.put,sIB,sCZ,sCS,List.set_nil]
  have HSZ:=hid (show ((Mg.segs x cn5 cn10 (Pr.cells { x.pr with vl:=0 } e_ps e_os e_ts) (x.op.cells (Value.slice ao_o (x.op.pl.take 260).length cap_o)) (x.dc.cells f_ps f_os f_ts (Value.slice ao_v (x.dc.l.take 5).length cap_v))).flatten).length=295 by rw [Bn,show (Mg.segs x cn5 cn10 (Pr.cells { x.pr with vl:=0 } e_ps e_os e_ts) (x.op.cells (Value.slice ao_o (x.op.pl.take 260).length cap_o)) (x.dc.cells f_ps f_os f_ts (Value.slice ao_v (x.dc.l.take 5).length cap_v))).map List.length=mgN from (Mg.lens HOK.out HLn5.out HLn10.out rfl (show (x.op.cells (Value.slice ao_o (x.op.pl.take 260).length cap_o)).length=34 from HC15.out) rfl)];rfl)
  have HES:=hid (show smallM x={ x with ce:=cutCe x.ce,pm:=cutPm x.pm,pr:={ x.pr with ba:=cutBa x.pr.ba,vl:=0 },op:=cutOp x.op,dc:={ x.dc with ba:=cutBa x.dc.ba,l:=x.dc.l.take 5 } } by unfold smallM;rw [show cutRp x.rp=x.rp from if_neg hn,show cutVl x.pr.vl=0 from if_pos HV.out])
  have HRM:=hid (show MgR.rd (fun k=>(R2 k)∨(New w1 u7_2 k)) u7_2 ((Mg.segs x cn5 cn10 (Pr.cells { x.pr with vl:=0 } e_ps e_os e_ts) (x.op.cells (Value.slice ao_o (x.op.pl.take 260).length cap_o)) (x.dc.cells f_ps f_os f_ts (Value.slice ao_v (x.dc.l.take 5).length cap_v))).flatten) (smallM x) from HES.out▸⟨_,_,_,_,_,rfl,{ HOK.out with },(((Hx68.out.mod Cx80.out (by intro k h1 h2;rcases h1 with h1|h1<;>first|omega|(have hb:=HBT.out k h1;omega))).mod Cx85.out (by intro k h1 h2;rcases h1 with h1|h1<;>first|omega|(have hb:=HBT.out k h1;omega))).mod Cx96.out (by intro k h1 h2;rcases h1 with h1|h1<;>first|omega|(have hb:=HBT.out k h1;omega))).widen (by intro k h1;rcases h1 with h1|h1<;>first|exact Or.inl h1|(right;omega)),(((Hx69.out.mod Cx80.out (by intro k h1 h2;rcases h1 with h1|h1<;>first|omega|(have hb:=HBT.out k h1;omega))).mod Cx85.out (by intro k h1 h2;rcases h1 with h1|h1<;>first|omega|(have hb:=HBT.out k h1;omega))).mod Cx96.out (by intro k h1 h2;rcases h1 with h1|h1<;>first|omega|(have hb:=HBT.out k h1;omega))).widen (by intro k h1;rcases h1 with h1|h1<;>first|exact Or.inl h1|(right;omega)),⟨_,_,_,rfl,⟨HOP.out.1,HOP.out.2.1,A4,HOP.out.2.2.2⟩,(((Hx70.out.mod Cx80.out (by intro k h1 h2;rcases h1 with h1|h1<;>first|omega|(have hb:=HBT.out k h1;omega))).mod Cx85.out (by intro k h1 h2;rcases h1 with h1|h1<;>first|omega|(have hb:=HBT.out k h1;omega))).mod Cx96.out (by intro k h1 h2;rcases h1 with h1|h1<;>first|omega|(have hb:=HBT.out k h1;omega))).widen (by intro k h1;rcases h1 with h1|h1<;>first|exact Or.inl h1|(right;omega)),(((Hx71.out.mod Cx80.out (by intro k h1 h2;rcases h1 with h1|h1<;>first|omega|(have hb:=HBT.out k h1;omega))).mod Cx85.out (by intro k h1 h2;rcases h1 with h1|h1<;>first|omega|(have hb:=HBT.out k h1;omega))).mod Cx96.out (by intro k h1 h2;rcases h1 with h1|h1<;>first|omega|(have hb:=HBT.out k h1;omega))).widen (by intro k h1;rcases h1 with h1|h1<;>first|exact Or.inl h1|(right;omega)),(((Hx72.out.mod Cx80.out (by intro k h1 h2;rcases h1 with h1|h1<;>first|omega|(have hb:=HBT.out k h1;omega))).mod Cx85.out (by intro k h1 h2;rcases h1 with h1|h1<;>first|omega|(have hb:=HBT.out k h1;omega))).mod Cx96.out (by intro k h1 h2;rcases h1 with h1|h1<;>first|omega|(have hb:=HBT.out k h1;omega))).widen (by intro k h1;rcases h1 with h1|h1<;>first|exact Or.inl h1|(right;omega))⟩,⟨_,rfl,HOO.out,RdR_len (((Hx81.out.mod Cx85.out (by intro k h1 h2;omega)).mod Cx96.out (by intro k h1 h2;omega)).rd.widen (by intro k h1;(try dsimp only at h1 ⊢);right;omega) (Nat.le_refl _))⟩,⟨_,_,_,_,rfl,HOD.out,(((Hx73.out.mod Cx80.out (by intro k h1 h2;rcases h1 with h1|h1<;>first|omega|(have hb:=HBT.out k h1;omega))).mod Cx85.out (by intro k h1 h2;rcases h1 with h1|h1<;>first|omega|(have hb:=HBT.out k h1;omega))).mod Cx96.out (by intro k h1 h2;rcases h1 with h1|h1<;>first|omega|(have hb:=HBT.out k h1;omega))).widen (by intro k h1;rcases h1 with h1|h1<;>first|exact Or.inl h1|(right;omega)),(((Hx74.out.mod Cx80.out (by intro k h1 h2;rcases h1 with h1|h1<;>first|omega|(have hb:=HBT.out k h1;omega))).mod Cx85.out (by intro k h1 h2;rcases h1 with h1|h1<;>first|omega|(have hb:=HBT.out k h1;omega))).mod Cx96.out (by intro k h1 h2;rcases h1 with h1|h1<;>first|omega|(have hb:=HBT.out k h1;omega))).widen (by intro k h1;rcases h1 with h1|h1<;>first|exact Or.inl h1|(right;omega)),(((Hx75.out.mod Cx80.out (by intro k h1 h2;rcases h1 with h1|h1<;>first|omega|(have hb:=HBT.out k h1;omega))).mod Cx85.out (by intro k h1 h2;rcases h1 with h1|h1<;>first|omega|(have hb:=HBT.out k h1;omega))).mod Cx96.out (by intro k h1 h2;rcases h1 with h1|h1<;>first|omega|(have hb:=HBT.out k h1;omega))).widen (by intro k h1;rcases h1 with h1|h1<;>first|exact Or.inl h1|(right;omega)),(Hx86.out.mod Cx96.out (by intro k h1 h2;omega) (sB HBT)).rd.widen (by intro k h1;(try dsimp only at h1 ⊢);rcases h1 with h1|h1<;>first|exact Or.inl h1|(right;omega))⟩⟩)
  have HON:=hid (MgR.one HRM.out)
  clear Hx68
  clear Hx69
  clear Hx70
  clear Hx71
  clear Hx72
  clear Hx73
  clear Hx74
  clear Hx75
  clear Hx86
  clear Hx81
  go_upto_region 8 with (fail)
  refine Aa 50 [49,51] [0,1] (fun a0 HA0=>?_)
  have oe1:=ev HA0 1 rfl
  have oe2:=ev HA0 2 rfl
  refine QSeq.pure rfl _ (fun E=>Am rfl Tryz.underlying61 rfl (off:=0) (cs:=((Mg.segs x cn5 cn10 (Pr.cells { x.pr with vl:=0 } e_ps e_os e_ts) (x.op.cells (Value.slice ao_o (x.op.pl.take 260).length cap_o)) (x.dc.cells f_ps f_os f_ts (Value.slice ao_v (x.dc.l.take 5).length cap_v))).flatten)) (by rw [HSZ.out];kernel_rfl) (E.v oe1) (Cs.whole Hx95.out)) ?_
  refine QSeq.go fun act E=>?_
  refine Aq rfl (Ac rfl) rfl ((((HB2.out.mod Cx76.out (by intro h2;omega)).mod Cx80.out (by intro h2;omega)).mod Cx85.out (by intro h2;omega)).mod Cx96.out (by intro h2;omega)) (off:=0) (vs:=((Mg.segs x cn5 cn10 (Pr.cells { x.pr with vl:=0 } e_ps e_os e_ts) (x.op.cells (Value.slice ao_o (x.op.pl.take 260).length cap_o)) (x.dc.cells f_ps f_os f_ts (Value.slice ao_v (x.dc.l.take 5).length cap_v))).flatten)) (by rw [HSZ.out];kernel_rfl) HON.out (by rw [HSZ.out];show 0+295≤295;decide) (E.v oe2) (ec (E.d 0 0)) ?_
  intro u8_1 qc0 hm
  have qB2:=qc0.eqv (b:=(((Mg.segs x cn5 cn10 (Pr.cells { x.pr with vl:=0 } e_ps e_os e_ts) (x.op.cells (Value.slice ao_o (x.op.pl.take 260).length cap_o)) (x.dc.cells f_ps f_os f_ts (Value.slice ao_v (x.dc.l.take 5).length cap_v))).flatten):List Value).toArray) (A5 _ _ (by rw [HSZ.out];rfl))
  clear qc0
  have Hx97:=hid qB2
  have zu8_1:=hm.size
  have Cx98:=hid (show Mod (fun k=>(k=w.heap.size+1)) u7_2 u8_1 from hm)
  clear hm
  clear act E qB2 HB2
  refine QSeq.nil (t':=[_,_]) rfl ?_
  obtain rfl:=HA0.out
  clear HA0 oe1 oe2
  simp only [pz,Act.put,sIB,sCZ,sCS,List.set_nil]
  go_wp2
  exact bodyPost_ret (A7 rfl _ _ (w.heap.size+1) ((Mg.segs x cn5 cn10 (Pr.cells { x.pr with vl:=0 } e_ps e_os e_ts) (x.op.cells (Value.slice ao_o (x.op.pl.take 260).length cap_o)) (x.dc.cells f_ps f_os f_ts (Value.slice ao_v (x.dc.l.take 5).length cap_v))).flatten) rfl (fun k u hu=>by rw [Hx97.out.cell];simpa using hu) Tryz.underlying61 rfl (by rw [HSZ.out];kernel_rfl)) rfl ⟨_,rfl,(HRM.out.mod Cx98.out (by intro k h1 h2;rcases h1 with h1|h1<;>first|omega|(have hb:=HBT.out k h1;omega))).widen (by intro k h1;rcases h1 with h1|h1<;>first|exact Or.inl h1|(right;omega)),(((((HM0.out.trans Cx76.out (by intro k h1 h2;omega)).trans Cx80.out (by intro k h1 h2;omega)).trans Cx85.out (by intro k h1 h2;omega)).trans Cx96.out (by intro k h1 h2;omega)).trans Cx98.out (by intro k h1 h2;omega))⟩
 have HV:=Lib.hid hv
 clear hv
 go_upto_region 6 with (fail)
 refine Aa 50 [43,44,45,46] [0,1,2,3] (fun a0 HA0=>?_)
 have oe1:=ev HA0 1 rfl
 refine QSeq.pure rfl (.pointer (some ⟨w.heap.size,163,none⟩)) (fun E=>Ad rfl Tryz.underlying61 rfl (by kernel_rfl) (E.v oe1)) ?_
 refine QSeq.pure rfl (.pointer (some ⟨w.heap.size,165,none⟩)) (fun E=>Ad rfl Tryz.underlying47 rfl (by kernel_rfl) (E.d 0 0)) ?_
 refine QSeq.pure rfl (.int .i64 x.pr.vl) (fun E=>Aj rfl Tryz.underlying3 rfl (E.d 1 0) (Cs.seg1 Hx84.out (Mg.lens HOK.out HLn5.out HLn10.out rfl (show (x.op.cells (Value.slice ao_o (x.op.pl.take 260).length cap_o)).length=34 from HC15.out) rfl) 11 rfl (o:=163) (k:=2) rfl rfl rfl)) ?_
 refine QSeq.pure rfl (.bool false) (fun E=>An rfl (E.d 2 0) rfl (Ag _ _ _ _ _ _) (Al _ _ _ Tryz.underlying3) (congrArg Value.bool (Bb HV.out))) ?_
 refine QSeq.nil (t':=[_,_,_,_]) rfl ?_
 obtain rfl:=HA0.out
 clear HA0 oe1
 simp only [pz,Act.put,sIB,sCZ,sCS]
 have HSZ:=hid (show ((Mg.segs x cn5 cn10 (x.pr.cells e_ps e_os e_ts) (x.op.cells (Value.slice ao_o (x.op.pl.take 260).length cap_o)) (x.dc.cells f_ps f_os f_ts (Value.slice ao_v (x.dc.l.take 5).length cap_v))).flatten).length=295 by rw [Bn,show (Mg.segs x cn5 cn10 (x.pr.cells e_ps e_os e_ts) (x.op.cells (Value.slice ao_o (x.op.pl.take 260).length cap_o)) (x.dc.cells f_ps f_os f_ts (Value.slice ao_v (x.dc.l.take 5).length cap_v))).map List.length=mgN from (Mg.lens HOK.out HLn5.out HLn10.out rfl (show (x.op.cells (Value.slice ao_o (x.op.pl.take 260).length cap_o)).length=34 from HC15.out) rfl)];rfl)
 have HES:=hid (show smallM x={ x with ce:=cutCe x.ce,pm:=cutPm x.pm,pr:={ x.pr with ba:=cutBa x.pr.ba,vl:=x.pr.vl },op:=cutOp x.op,dc:={ x.dc with ba:=cutBa x.dc.ba,l:=x.dc.l.take 5 } } by unfold smallM;rw [show cutRp x.rp=x.rp from if_neg hn,show cutVl x.pr.vl=x.pr.vl from if_neg HV.out])
 have HRM:=hid (show MgR.rd (fun k=>(R2 k)∨(New w1 u3_6 k)) u3_6 ((Mg.segs x cn5 cn10 (x.pr.cells e_ps e_os e_ts) (x.op.cells (Value.slice ao_o (x.op.pl.take 260).length cap_o)) (x.dc.cells f_ps f_os f_ts (Value.slice ao_v (x.dc.l.take 5).length cap_v))).flatten) (smallM x) from HES.out▸⟨_,_,_,_,_,rfl,{ HOK.out with },((Hx68.out.mod Cx80.out (by intro k h1 h2;rcases h1 with h1|h1<;>first|omega|(have hb:=HBT.out k h1;omega))).mod Cx85.out (by intro k h1 h2;rcases h1 with h1|h1<;>first|omega|(have hb:=HBT.out k h1;omega))).widen (by intro k h1;rcases h1 with h1|h1<;>first|exact Or.inl h1|(right;omega)),((Hx69.out.mod Cx80.out (by intro k h1 h2;rcases h1 with h1|h1<;>first|omega|(have hb:=HBT.out k h1;omega))).mod Cx85.out (by intro k h1 h2;rcases h1 with h1|h1<;>first|omega|(have hb:=HBT.out k h1;omega))).widen (by intro k h1;rcases h1 with h1|h1<;>first|exact Or.inl h1|(right;omega)),⟨_,_,_,rfl,HOP.out,((Hx70.out.mod Cx80.out (by intro k h1 h2;rcases h1 with h1|h1<;>first|omega|(have hb:=HBT.out k h1;omega))).mod Cx85.out (by intro k h1 h2;rcases h1 with h1|h1<;>first|omega|(have hb:=HBT.out k h1;omega))).widen (by intro k h1;rcases h1 with h1|h1<;>first|exact Or.inl h1|(right;omega)),((Hx71.out.mod Cx80.out (by intro k h1 h2;rcases h1 with h1|h1<;>first|omega|(have hb:=HBT.out k h1;omega))).mod Cx85.out (by intro k h1 h2;rcases h1 with h1|h1<;>first|omega|(have hb:=HBT.out k h1;omega))).widen (by intro k h1;rcases h1 with h1|h1<;>first|exact Or.inl h1|(right;omega)),((Hx72.out.mod Cx80.out (by intro k h1 h2;rcases h1 with h1|h1<;>first|omega|(have hb:=HBT.out k h1;omega))).mod Cx85.out (by intro k h1 h2;rcases h1 with h1|h1<;>first|omega|(have hb:=HBT.out k h1;omega))).widen (by intro k h1;rcases h1 with h1|h1<;>first|exact Or.inl h1|(right;omega))⟩,⟨_,rfl,HOO.out,RdR_len ((Hx81.out.mod Cx85.out (by intro k h1 h2;omega)).rd.widen (by intro k h1;(try dsimp only at h1 ⊢);right;omega) (Nat.le_refl _))⟩,⟨_,_,_,_,rfl,HOD.out,((Hx73.out.mod Cx80.out (by intro k h1 h2;rcases h1 with h1|h1<;>first|omega|(have hb:=HBT.out k h1;omega))).mod Cx85.out (by intro k h1 h2;rcases h1 with h1|h1<;>first|omega|(have hb:=HBT.out k h1;omega))).widen (by intro k h1;rcases h1 with h1|h1<;>first|exact Or.inl h1|(right;omega)),((Hx74.out.mod Cx80.out (by intro k h1 h2;rcases h1 with h1|h1<;>first|omega|(have hb:=HBT.out k h1;omega))).mod Cx85.out (by intro k h1 h2;rcases h1 with h1|h1<;>first|omega|(have hb:=HBT.out k h1;omega))).widen (by intro k h1;rcases h1 with h1|h1<;>first|exact Or.inl h1|(right;omega)),((Hx75.out.mod Cx80.out (by intro k h1 h2;rcases h1 with h1|h1<;>first|omega|(have hb:=HBT.out k h1;omega))).mod Cx85.out (by intro k h1 h2;rcases h1 with h1|h1<;>first|omega|(have hb:=HBT.out k h1;omega))).widen (by intro k h1;rcases h1 with h1|h1<;>first|exact Or.inl h1|(right;omega)),Hx86.out.rd.widen (by intro k h1;(try dsimp only at h1 ⊢);rcases h1 with h1|h1<;>first|exact Or.inl h1|(right;omega))⟩⟩)
 have HON:=hid (MgR.one HRM.out)
 clear Hx68
 clear Hx69
 clear Hx70
 clear Hx71
 clear Hx72
 clear Hx73
 clear Hx74
 clear Hx75
 clear Hx86
 clear Hx81
 go_upto_region 8 with (fail)
 refine Aa 50 [49,51] [0,1] (fun a0 HA0=>?_)
 have oe1:=ev HA0 1 rfl
 have oe2:=ev HA0 2 rfl
 refine QSeq.pure rfl _ (fun E=>Am rfl Tryz.underlying61 rfl (off:=0) (cs:=((Mg.segs x cn5 cn10 (x.pr.cells e_ps e_os e_ts) (x.op.cells (Value.slice ao_o (x.op.pl.take 260).length cap_o)) (x.dc.cells f_ps f_os f_ts (Value.slice ao_v (x.dc.l.take 5).length cap_v))).flatten)) (by rw [HSZ.out];kernel_rfl) (E.v oe1) (Cs.whole Hx84.out)) ?_
 refine QSeq.go fun act E=>?_
 refine Aq rfl (Ac rfl) rfl (((HB2.out.mod Cx76.out (by intro h2;omega)).mod Cx80.out (by intro h2;omega)).mod Cx85.out (by intro h2;omega)) (off:=0) (vs:=((Mg.segs x cn5 cn10 (x.pr.cells e_ps e_os e_ts) (x.op.cells (Value.slice ao_o (x.op.pl.take 260).length cap_o)) (x.dc.cells f_ps f_os f_ts (Value.slice ao_v (x.dc.l.take 5).length cap_v))).flatten)) (by rw [HSZ.out];kernel_rfl) HON.out (by rw [HSZ.out];show 0+295≤295;decide) (E.v oe2) (ec (E.d 0 0)) ?_
 intro u8_1 qc0 hm
 have qB2:=qc0.eqv (b:=(((Mg.segs x cn5 cn10 (x.pr.cells e_ps e_os e_ts) (x.op.cells (Value.slice ao_o (x.op.pl.take 260).length cap_o)) (x.dc.cells f_ps f_os f_ts (Value.slice ao_v (x.dc.l.take 5).length cap_v))).flatten):List Value).toArray) (A5 _ _ (by rw [HSZ.out];rfl))
 clear qc0
 have Hx99:=hid qB2
 have zu8_1:=hm.size
 have Cx100:=hid (show Mod (fun k=>(k=w.heap.size+1)) u3_6 u8_1 from hm)
 clear hm
 clear act E qB2 HB2
 refine QSeq.nil (t':=[_,_]) rfl ?_
 obtain rfl:=HA0.out
 clear HA0 oe1 oe2
 simp only [pz,Act.put,sIB,sCZ,sCS,List.set_nil]
 go_wp2
 exact bodyPost_ret (A7 rfl _ _ (w.heap.size+1) ((Mg.segs x cn5 cn10 (x.pr.cells e_ps e_os e_ts) (x.op.cells (Value.slice ao_o (x.op.pl.take 260).length cap_o)) (x.dc.cells f_ps f_os f_ts (Value.slice ao_v (x.dc.l.take 5).length cap_v))).flatten) rfl (fun k u hu=>by rw [Hx99.out.cell];simpa using hu) Tryz.underlying61 rfl (by rw [HSZ.out];kernel_rfl)) rfl ⟨_,rfl,(HRM.out.mod Cx100.out (by intro k h1 h2;rcases h1 with h1|h1<;>first|omega|(have hb:=HBT.out k h1;omega))).widen (by intro k h1;rcases h1 with h1|h1<;>first|exact Or.inl h1|(right;omega)),((((HM0.out.trans Cx76.out (by intro k h1 h2;omega)).trans Cx80.out (by intro k h1 h2;omega)).trans Cx85.out (by intro k h1 h2;omega)).trans Cx100.out (by intro k h1 h2;omega))⟩
end Go.Proofs.YtnaoeginonpicaaGreat

/- The plain law of MsgOnly. No walk here. -/
namespace Go.Proofs.YtnaoeginonpicaaGreat
open Go Go.RowKit Go.Gv
theorem cp_cutPm (x:Pm):cpPm (cutPm x):=⟨by simp only [cutPm,List.length_map,List.length_take];omega,fun y hy=>by
 obtain ⟨u,-,rfl⟩:=List.mem_map.1 hy
 simp only [cpCe,cutCe,List.length_take];omega⟩
theorem cp_cutBa (x:Ba):cpBa (cutBa x):=by
 refine ⟨⟨by simp only [cutBa,List.length_map,List.length_take];omega,fun y hy=>?_⟩,⟨by simp only [cutBa,List.length_map,List.length_take];omega,fun y hy=>?_⟩,⟨by simp only [cutBa,List.length_map,List.length_take];omega,fun y hy=>?_⟩⟩
 ·obtain ⟨u,-,rfl⟩:=List.mem_map.1 hy;exact cp_cutPm u
 ·obtain ⟨u,-,rfl⟩:=List.mem_map.1 hy;simp only [cpOp,cutOp,List.length_take];omega
 ·obtain ⟨u,-,rfl⟩:=List.mem_map.1 hy;simp only [cpTb,cutTb,List.length_take];omega
theorem cp_small (x:Mg):cpMg (smallM x):=⟨by simp only [smallM,cpCe,cutCe,List.length_take];omega,cp_cutPm _,by simp only [smallM,cpOp,cutOp,List.length_take];omega,cp_cutBa _,cp_cutBa _,by simp only [smallM,List.length_take];omega⟩
theorem baB_len2 {R:Nat→Prop} {w:World} {x:Ba} {vp vo vt:Value} (hok:x.OK) (hp:RdS PmR R w vp (cutBa x).ps) (ho:RdS OpR R w vo (cutBa x).os) (ht:RdS TbR R w vt (cutBa x).ts):(baB (cutBa x)).length≤10000:=by
 have h1:=Ay _ hok.1;have h2:=(Bq hok.2).2
 have h3:=listB_len pmB (M:=4) (l:=(cutBa x).ps) (by simp [cutBa];omega) (by decide) (fun z hz=>by
  obtain ⟨cs,hc⟩:=RdS_mem hp z hz
  obtain ⟨u,-,rfl⟩:=List.mem_map.1 hz
  exact pmB_len hc ⟨u,rfl⟩)
 have h4:=listB_len opB (M:=4) (l:=(cutBa x).os) (by simp [cutBa];omega) (by decide) (fun z hz=>by
  obtain ⟨cs,hc⟩:=RdS_mem ho z hz
  obtain ⟨u,-,rfl⟩:=List.mem_map.1 hz
  exact opB_len hc (by simp [cutOp];omega))
 have h5:=listB_len tbB (M:=4) (l:=(cutBa x).ts) (by simp [cutBa];omega) (by decide) (fun z hz=>by
  obtain ⟨cs,hc⟩:=RdS_mem ht z hz
  obtain ⟨u,-,rfl⟩:=List.mem_map.1 hz
  exact tbB_len hc (by simp [cutTb];omega))
 have e1:(encI (cutBa x).ep).length≤10:=h1
 have e2:(encN (cutBa x).tm).length≤10:=h2
 simp only [baB,List.length_append];omega
theorem vtB_len {x:Vt} (h:x.OK):(vtB x).length≤92:=by
 obtain ⟨a,b,c,d,e,f,g⟩:=h
 have h1:=Ay _ a;have h2:=Ay _ b;have h3:=Ay _ c;have h4:=Ay _ d;have h5:=e.1;have h6:=Ay _ f;have h7:=Ay _ g
 simp only [vtB,sigB,List.length_append];omega
theorem enB_len {x:En} (h:x.OK):(enB x).length≤62:=by
 obtain ⟨a,b,e,c⟩:=h
 have h1:=Ay _ a;have h2:=Ay _ b;have h5:=e.1;have h6:=(Bq c).2
 simp only [enB,nameB,List.length_append];omega
theorem ite_len2 {c:Prop} [Decidable c] {a b:List Int} {n:Nat} (ha:a.length≤n) (hb:b.length≤n):(if c then a else b).length≤n:=by by_cases h:c<;>simp [h,ha,hb]
theorem cutRp_len (s:ByteArray):(Bg (cutRp s)).length≤260:=by
 rw [bytesOf_len];unfold cutRp
 split
 ·rw [ByteArray.size_extract];omega
 ·omega
theorem small_body {R:Nat→Prop} {w:World} {cs:List Value} {a:Mg} {k:Int} (h:MgR.rd R w cs { smallM a with kd:=k }):(A8 { smallM a with kd:=k }).length≤20000:=by
 obtain ⟨c5,c10,c11,c15,c18,rfl,ok,h5,h10,h11,h15,h18⟩:=h
 have e3:=ceB_len h5 (by show (a.ce.l.take 5).length≤5;rw [List.length_take];omega)
 have e6:=pmB_len h10 ⟨_,rfl⟩
 have e10:=opB_len h15 (by show (a.op.pl.take 260).length≤260;rw [List.length_take];omega)
 obtain ⟨p1,p2,p3,rfl,⟨i1,i2,i3,i4,okb,i5,i6⟩,hp,ho,ht⟩:=h11
 have e7:=baB_len2 (x:=a.pr.ba) okb hp ho ht
 obtain ⟨d1,d2,d3,d4,rfl,⟨j1,j2,okd⟩,gp,go_,gt,gl⟩:=h18
 have e14:=baB_len2 (x:=a.dc.ba) okd gp go_ gt
 have e15:=listB_len vtB (M:=5) (l:=a.dc.l.take 5) (by rw [List.length_take];omega) (by decide) (fun z hz=>by obtain ⟨cs,e,hk⟩:=RdS_mem gl z hz;exact vtB_len hk)
 have n1:=Ay _ ok.ep;have n2:=Ay _ ok.rn;have n3:=(Bq ok.tm).2;have n4:=Ay _ ok.ix
 have m1:=Ay _ i1;have m2:=Ay _ i2;have m3:=Ay _ (I64_wrap (cutVl a.pr.vl+1));have m4:=Ay _ i4;have m5:=Ay _ i5;have m6:=Ay _ i6
 have q1:=Ay _ j1;have q2:=Ay _ j2
 have r1:=cutRp_len a.rp;have r2:=(Bq (n:=(Bg (cutRp a.rp)).length) (by unfold U64;omega)).2
 unfold A8
 repeat' (refine ite_len2 ?_ ?_)
 ·exact Nat.le_trans (cmB_len ok.cm) (by decide)
 ·exact Nat.le_trans (stB_len ok.st) (by decide)
 ·exact Nat.le_trans e3 (by decide)
 ·exact Nat.le_trans (stB_len ok.ak) (by decide)
 ·show (encI a.ep ++ encI a.rn ++ encN a.tm).length≤20000
  have n1':(encI a.ep).length≤10:=n1
  have n2':(encI a.rn).length≤10:=n2
  have n3':(encN a.tm).length≤10:=n3
  simp only [List.length_append];omega
 ·exact Nat.le_trans e6 (by decide)
 ·show (prB { a.pr with ba:=cutBa a.pr.ba,vl:=cutVl a.pr.vl }).length≤20000
  have m1':(encI a.pr.ep).length≤10:=m1
  have m2':(encI a.pr.rn).length≤10:=m2
  have m4':(encI a.pr.rp).length≤10:=m4
  have m5':(encI a.pr.sb).length≤10:=m5
  have m6':(encI a.pr.mr).length≤10:=m6
  simp only [prB,sigB,List.length_append];omega
 ·exact Nat.le_trans (vtB_len ok.vt) (by decide)
 ·show (encI a.ix ++ enB a.en).length≤20000
  have n4':(encI a.ix).length≤10:=n4
  have n5':(enB a.en).length≤62:=enB_len ok.en
  simp only [List.length_append];omega
 ·exact Nat.le_trans e10 (by decide)
 ·exact Nat.le_trans n4 (by decide)
 ·exact Nat.le_trans (dnB_len ok.dn) (by decide)
 ·show (encI a.ix ++ (encN (Bg (cutRp a.rp)).length ++ Bg (cutRp a.rp))).length≤20000
  have n4':(encI a.ix).length≤10:=n4
  simp only [List.length_append];omega
 ·show (dcB { a.dc with ba:=cutBa a.dc.ba,l:=a.dc.l.take 5 }).length≤20000
  have q1':(encI a.dc.ep).length≤10:=q1
  have q2':(encI a.dc.rn).length≤10:=q2
  simp only [dcB,List.length_append];omega
 ·simp
theorem small_len {R:Nat→Prop} {w:World} {cs:List Value} {a:Mg} {k:Int} (h:MgR.rd R w cs { smallM a with kd:=k }):(Bj { smallM a with kd:=k }).length≤30000:=by
 have h1:=small_body h
 obtain ⟨c5,c10,c11,c15,c18,rfl,ok,-⟩:=h
 have n1:=Ay _ ok.kd;have n2:=Ay _ ok.fr;have n3:=Ay _ ok.to
 simp only [Bj,List.length_append] at *; omega
end Go.Proofs.YtnaoeginonpicaaGreat
