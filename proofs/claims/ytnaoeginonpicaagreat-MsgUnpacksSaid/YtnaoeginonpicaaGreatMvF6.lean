/- Texts that are built one behind the other: XMl, XCmEq, XEq, XEb, XMp, XMk, XMu, XMh, XMw, XKp1, XKp2. No condition. -/
import Derived.Test.YtnaoeginonpicaaGreatMvF5
set_option maxRecDepth 100000
set_option linter.unusedVariables false
open Go renaming Lib.hid→B8
open Go.Proofs renaming Tryz.underlying3→B9,Tryz.underlying61→C1,Tryz.underlying45→C7,Tryz.underlying43→D0,Tryz.underlying52→D2,Tryz.underlying47→D4,Tryz.underlying124→D7,Tryz.underlying25→D8,Tryz.underlying59→D9,Tryz.underlying30→E0,Tryz.func22→E3,Tryz.underlying127→E4,Tryz.underlying100→E5,Tryz.func67→E6,Tryz.underlying29→E7,Tryz.underlying4→E8,Tryz.func21→E9
open Nat renaming le_refl→C0,le_trans→C4
open List renaming append_assoc→C2,length_append→C3,map_cons→C5,map_nil→C6,map_toArray→C8,not_mem_nil→C9,mem_cons→D1,size_toArray→D3,length_nil→D5,length_cons→D6
open List renaming setIfInBounds_toArray → sIB, set_cons_zero → sCZ, set_cons_succ → sCS
namespace Go.Proofs.YtnaoeginonpicaaGreat
open Go Go.RowKit Go.Gv
theorem bytesOf_str {b:List Int} (h:Bytes b):Bd (strOfNums b)=b:=by
 unfold Bd strOfNums
 simp only [List.map_map]
 conv=>rhs;rw [← List.map_id b]
 refine List.map_congr_left fun x hx=>?_
 have:=h x hx
 simp only [Function.comp,UInt8.toNat_ofNat',id]
 omega
theorem rNum_de2:De rNum (Was encN (· < U64)):=rNum_de
theorem rRowB_de:De (rRow 256) (Was (fun b=>encN b.length ++ b) (fun b=>(b.length:Int)≤256∧Bytes b)):=by
 intro s r h
 obtain ⟨l,rfl,h2⟩:=rRow_de 256 aM s r h
 refine ⟨l,rfl,fun hb=>?_⟩
 obtain ⟨h3,h4⟩:=h2 hb
 exact ⟨h3,h4,fun x hx=>hb x (by rw [h3];simp [hx])⟩
def PrOk (x:Pr):Prop:=UpI x.ep∧UpI x.rn∧UpI (x.vl+1)∧UpI x.rp∧BaOk x.ba∧UpI x.sb∧UpI x.mr
theorem vl_wrap {v:Int} (h:UpI (v+1)):IntKind.i64.wrap (v+1)=v+1:=IntWalk.i64_in _ (by unfold UpI at h;omega)
theorem gPr_de:De gPr (Was prB PrOk):=by
 refine (De.bind gI_de fun _=>De.bind gI_de fun _=>De.bind gI_de fun _=>De.bind gI_de fun _=>De.bind gBa_de fun _=>De.bind gSig_de fun _=>De.pure _).mono ?_
 rintro y l r ⟨a0,l0,h0,rfl,a1,l1,h1,rfl,a2,l2,h2,rfl,a3,l3,h3,rfl,a4,l4,h4,rfl,a5,l5,h5,rfl,rfl,rfl⟩
 have e:a2 - 1+1=a2:=by omega
 have h2':UpI (a2 - 1+1):=by rw [e];exact h2
 refine ⟨?_,h0,h1,h2',h3,h4,h5.1,h5.2⟩
 have e2:IntKind.i64.wrap (a2 - 1+1)=a2:=(vl_wrap h2').trans e
 simp only [prB,← sgB_sig,C2,e2]
/-- what a message's kind names is within bounds -/
def B5 (x:Mg):Prop:=
 if x.kd=1 then CmOk x.cm else
 if x.kd=2 then StOk x.st else
 if x.kd=3 then CeOk x.ce else
 if x.kd=4 then StOk x.ak else
 if x.kd=5 then UpI x.ep∧UpI x.rn∧x.tm < U64 else
 if x.kd=6 then PmOk x.pm else
 if x.kd=7 then PrOk x.pr else
 if x.kd=8 then VtOk x.vt else
 if x.kd=9 then UpI x.ix∧EnOk x.en else
 if x.kd=10 then OpOk x.op else
 if x.kd=11 then UpI x.ix else
 if x.kd=12 then DnOk x.dn else
 if x.kd=13 then UpI x.ix∧((Bd x.rp).length:Int)≤256 else
 if x.kd=14 then UpI x.dc.ep∧UpI x.dc.rn∧BaOk x.dc.ba∧listOk VtOk x.dc.l else
 True
theorem bodyOk_de (m:Mg):De (Az m) (fun y l r=>l=A3 y ++ r∧B5 y∧y.kd=m.kd∧y.fr=m.fr∧y.to=m.to):=by
 by_cases h1:m.kd=1
 ·rw [show Az m=gb gCm (fun a0 s=>({ m with cm:=a0 },s)) from funext fun s=>by unfold Az;rw [if_pos h1]]
  refine (De.bind gCm_de fun _=>De.pure _).mono ?_
  rintro y l r ⟨a0,l0,k0,rfl,rfl,rfl⟩
  refine ⟨?_,?_,rfl,rfl,rfl⟩
  ·rw [show A3 _=cmB a0 by unfold A3;dsimp only;rw [h1];rfl]
  ·rw [show B5 _=(CmOk a0) by unfold B5;dsimp only;rw [h1];rfl]
   exact k0
 by_cases h2:m.kd=2
 ·rw [show Az m=gb gSt (fun a0 s=>({ m with st:=a0 },s)) from funext fun s=>by unfold Az;rw [if_neg h1,if_pos h2]]
  refine (De.bind gSt_de fun _=>De.pure _).mono ?_
  rintro y l r ⟨a0,l0,k0,rfl,rfl,rfl⟩
  refine ⟨?_,?_,rfl,rfl,rfl⟩
  ·rw [show A3 _=stB a0 by unfold A3;dsimp only;rw [h2];rfl]
  ·rw [show B5 _=(StOk a0) by unfold B5;dsimp only;rw [h2];rfl]
   exact k0
 by_cases h3:m.kd=3
 ·rw [show Az m=gb gCe (fun a0 s=>({ m with ce:=a0 },s)) from funext fun s=>by unfold Az;rw [if_neg h1,if_neg h2,if_pos h3]]
  refine (De.bind gCe_de fun _=>De.pure _).mono ?_
  rintro y l r ⟨a0,l0,k0,rfl,rfl,rfl⟩
  refine ⟨?_,?_,rfl,rfl,rfl⟩
  ·rw [show A3 _=ceB a0 by unfold A3;dsimp only;rw [h3];rfl]
  ·rw [show B5 _=(CeOk a0) by unfold B5;dsimp only;rw [h3];rfl]
   exact k0
 by_cases h4:m.kd=4
 ·rw [show Az m=gb gSt (fun a0 s=>({ m with ak:=a0 },s)) from funext fun s=>by unfold Az;rw [if_neg h1,if_neg h2,if_neg h3,if_pos h4]]
  refine (De.bind gSt_de fun _=>De.pure _).mono ?_
  rintro y l r ⟨a0,l0,k0,rfl,rfl,rfl⟩
  refine ⟨?_,?_,rfl,rfl,rfl⟩
  ·rw [show A3 _=stB a0 by unfold A3;dsimp only;rw [h4];rfl]
  ·rw [show B5 _=(StOk a0) by unfold B5;dsimp only;rw [h4];rfl]
   exact k0
 by_cases h5:m.kd=5
 ·rw [show Az m=gb gI (fun a0=>gb gI (fun a1=>gb rNum (fun a2 s=>({ m with ep:=a0,rn:=a1,tm:=a2 },s)))) from funext fun s=>by unfold Az;rw [if_neg h1,if_neg h2,if_neg h3,if_neg h4,if_pos h5]]
  refine (De.bind gI_de fun _=>De.bind gI_de fun _=>De.bind rNum_de2 fun _=>De.pure _).mono ?_
  rintro y l r ⟨a0,l0,k0,rfl,a1,l1,k1,rfl,a2,l2,k2,rfl,rfl,rfl⟩
  refine ⟨?_,?_,rfl,rfl,rfl⟩
  ·rw [show A3 _=encI a0 ++ encI a1 ++ encN a2 by unfold A3;dsimp only;rw [h5];rfl]
   simp only [C2]
  ·rw [show B5 _=(UpI a0∧UpI a1∧a2 < U64) by unfold B5;dsimp only;rw [h5];rfl]
   exact ⟨k0,k1,k2⟩
 by_cases h6:m.kd=6
 ·rw [show Az m=gb gPm (fun a0 s=>({ m with pm:=a0 },s)) from funext fun s=>by unfold Az;rw [if_neg h1,if_neg h2,if_neg h3,if_neg h4,if_neg h5,if_pos h6]]
  refine (De.bind gPm_de fun _=>De.pure _).mono ?_
  rintro y l r ⟨a0,l0,k0,rfl,rfl,rfl⟩
  refine ⟨?_,?_,rfl,rfl,rfl⟩
  ·rw [show A3 _=pmB a0 by unfold A3;dsimp only;rw [h6];rfl]
  ·rw [show B5 _=(PmOk a0) by unfold B5;dsimp only;rw [h6];rfl]
   exact k0
 by_cases h7:m.kd=7
 ·rw [show Az m=gb gPr (fun a0 s=>({ m with pr:=a0 },s)) from funext fun s=>by unfold Az;rw [if_neg h1,if_neg h2,if_neg h3,if_neg h4,if_neg h5,if_neg h6,if_pos h7]]
  refine (De.bind gPr_de fun _=>De.pure _).mono ?_
  rintro y l r ⟨a0,l0,k0,rfl,rfl,rfl⟩
  refine ⟨?_,?_,rfl,rfl,rfl⟩
  ·rw [show A3 _=prB a0 by unfold A3;dsimp only;rw [h7];rfl]
  ·rw [show B5 _=(PrOk a0) by unfold B5;dsimp only;rw [h7];rfl]
   exact k0
 by_cases h8:m.kd=8
 ·rw [show Az m=gb gVt (fun a0 s=>({ m with vt:=a0 },s)) from funext fun s=>by unfold Az;rw [if_neg h1,if_neg h2,if_neg h3,if_neg h4,if_neg h5,if_neg h6,if_neg h7,if_pos h8]]
  refine (De.bind gVt_de fun _=>De.pure _).mono ?_
  rintro y l r ⟨a0,l0,k0,rfl,rfl,rfl⟩
  refine ⟨?_,?_,rfl,rfl,rfl⟩
  ·rw [show A3 _=vtB a0 by unfold A3;dsimp only;rw [h8];rfl]
  ·rw [show B5 _=(VtOk a0) by unfold B5;dsimp only;rw [h8];rfl]
   exact k0
 by_cases h9:m.kd=9
 ·rw [show Az m=gb gI (fun a0=>gb gEn (fun a1 s=>({ m with ix:=a0,en:=a1 },s))) from funext fun s=>by unfold Az;rw [if_neg h1,if_neg h2,if_neg h3,if_neg h4,if_neg h5,if_neg h6,if_neg h7,if_neg h8,if_pos h9]]
  refine (De.bind gI_de fun _=>De.bind gEn_de fun _=>De.pure _).mono ?_
  rintro y l r ⟨a0,l0,k0,rfl,a1,l1,k1,rfl,rfl,rfl⟩
  refine ⟨?_,?_,rfl,rfl,rfl⟩
  ·rw [show A3 _=encI a0 ++ enB a1 by unfold A3;dsimp only;rw [h9];rfl]
   simp only [C2]
  ·rw [show B5 _=(UpI a0∧EnOk a1) by unfold B5;dsimp only;rw [h9];rfl]
   exact ⟨k0,k1⟩
 by_cases h10:m.kd=10
 ·rw [show Az m=gb gOp (fun a0 s=>({ m with op:=a0 },s)) from funext fun s=>by unfold Az;rw [if_neg h1,if_neg h2,if_neg h3,if_neg h4,if_neg h5,if_neg h6,if_neg h7,if_neg h8,if_neg h9,if_pos h10]]
  refine (De.bind gOp_de fun _=>De.pure _).mono ?_
  rintro y l r ⟨a0,l0,k0,rfl,rfl,rfl⟩
  refine ⟨?_,?_,rfl,rfl,rfl⟩
  ·rw [show A3 _=opB a0 by unfold A3;dsimp only;rw [h10];rfl]
  ·rw [show B5 _=(OpOk a0) by unfold B5;dsimp only;rw [h10];rfl]
   exact k0
 by_cases h11:m.kd=11
 ·rw [show Az m=gb gI (fun a0 s=>({ m with ix:=a0 },s)) from funext fun s=>by unfold Az;rw [if_neg h1,if_neg h2,if_neg h3,if_neg h4,if_neg h5,if_neg h6,if_neg h7,if_neg h8,if_neg h9,if_neg h10,if_pos h11]]
  refine (De.bind gI_de fun _=>De.pure _).mono ?_
  rintro y l r ⟨a0,l0,k0,rfl,rfl,rfl⟩
  refine ⟨?_,?_,rfl,rfl,rfl⟩
  ·rw [show A3 _=encI a0 by unfold A3;dsimp only;rw [h11];rfl]
  ·rw [show B5 _=(UpI a0) by unfold B5;dsimp only;rw [h11];rfl]
   exact k0
 by_cases h12:m.kd=12
 ·rw [show Az m=gb gDn (fun a0 s=>({ m with dn:=a0 },s)) from funext fun s=>by unfold Az;rw [if_neg h1,if_neg h2,if_neg h3,if_neg h4,if_neg h5,if_neg h6,if_neg h7,if_neg h8,if_neg h9,if_neg h10,if_neg h11,if_pos h12]]
  refine (De.bind gDn_de fun _=>De.pure _).mono ?_
  rintro y l r ⟨a0,l0,k0,rfl,rfl,rfl⟩
  refine ⟨?_,?_,rfl,rfl,rfl⟩
  ·rw [show A3 _=dnB a0 by unfold A3;dsimp only;rw [h12];rfl]
  ·rw [show B5 _=(DnOk a0) by unfold B5;dsimp only;rw [h12];rfl]
   exact k0
 by_cases h13:m.kd=13
 ·rw [show Az m=gb gI (fun a0=>gb (rRow 256) (fun a1 s=>({ m with ix:=a0,rp:=strOfNums a1 },s))) from funext fun s=>by unfold Az;rw [if_neg h1,if_neg h2,if_neg h3,if_neg h4,if_neg h5,if_neg h6,if_neg h7,if_neg h8,if_neg h9,if_neg h10,if_neg h11,if_neg h12,if_pos h13]]
  refine (De.bind gI_de fun _=>De.bind rRowB_de fun _=>De.pure _).mono ?_
  rintro y l r ⟨a0,l0,k0,rfl,a1,l1,k1,rfl,rfl,rfl⟩
  refine ⟨?_,?_,rfl,rfl,rfl⟩
  ·rw [show A3 _=encI a0 ++ (encN (Bd (strOfNums a1)).length ++ Bd (strOfNums a1)) by unfold A3;dsimp only;rw [h13];rfl]
   simp only [C2,bytesOf_str k1.2]
  ·rw [show B5 _=(UpI a0∧((Bd (strOfNums a1)).length:Int)≤256) by unfold B5;dsimp only;rw [h13];rfl]
   exact ⟨k0,by rw [bytesOf_str k1.2];exact k1.1⟩
 by_cases h14:m.kd=14
 ·rw [show Az m=gb gI (fun a0=>gb gI (fun a1=>gb gBa (fun a2=>gb (Av gVt) (fun a3 s=>({ m with dc:=⟨a0,a1,a2,a3⟩ },s))))) from funext fun s=>by unfold Az;rw [if_neg h1,if_neg h2,if_neg h3,if_neg h4,if_neg h5,if_neg h6,if_neg h7,if_neg h8,if_neg h9,if_neg h10,if_neg h11,if_neg h12,if_neg h13,if_pos h14]]
  refine (De.bind gI_de fun _=>De.bind gI_de fun _=>De.bind gBa_de fun _=>De.bind (gList_de gVt_de) fun _=>De.pure _).mono ?_
  rintro y l r ⟨a0,l0,k0,rfl,a1,l1,k1,rfl,a2,l2,k2,rfl,a3,l3,k3,rfl,rfl,rfl⟩
  refine ⟨?_,?_,rfl,rfl,rfl⟩
  ·rw [show A3 _=dcB ⟨a0,a1,a2,a3⟩ by unfold A3;dsimp only;rw [h14];rfl]
   simp only [dcB,C2]
  ·rw [show B5 _=(UpI a0∧UpI a1∧BaOk a2∧listOk VtOk a3) by unfold B5;dsimp only;rw [h14];rfl]
   exact ⟨k0,k1,k2,k3⟩
 rw [show Az m=fun s=>(m,s) from funext fun s=>by unfold Az;rw [if_neg h1,if_neg h2,if_neg h3,if_neg h4,if_neg h5,if_neg h6,if_neg h7,if_neg h8,if_neg h9,if_neg h10,if_neg h11,if_neg h12,if_neg h13,if_neg h14]]
 refine (De.pure m).mono ?_
 rintro y l r ⟨rfl,rfl⟩
 refine ⟨?_,?_,rfl,rfl,rfl⟩
 ·unfold A3;rw [if_neg h1,if_neg h2,if_neg h3,if_neg h4,if_neg h5,if_neg h6,if_neg h7,if_neg h8,if_neg h9,if_neg h10,if_neg h11,if_neg h12,if_neg h13,if_neg h14];rfl
 ·unfold B5;rw [if_neg h1,if_neg h2,if_neg h3,if_neg h4,if_neg h5,if_neg h6,if_neg h7,if_neg h8,if_neg h9,if_neg h10,if_neg h11,if_neg h12,if_neg h13,if_neg h14];trivial
def MgOk (x:Mg):Prop:=UpI x.kd∧UpI x.fr∧UpI x.to∧B5 x
/-- what is read was packed so -/
theorem gMg_de:De gMg (Was Bg MgOk):=by
 refine (De.bind gI_de fun _=>De.bind gI_de fun _=>De.bind gI_de fun _=>bodyOk_de _).mono ?_
 rintro y l r ⟨a0,l0,k0,rfl,a1,l1,k1,rfl,a2,l2,k2,rfl,rfl,hb,e1,e2,e3⟩
 refine ⟨?_,by rw [e1];exact k0,by rw [e2];exact k1,by rw [e3];exact k2,hb⟩
 simp only [Bg,e1,e2,e3,C2]
/-- the message of bytes -/
noncomputable def unpackB (bs:List Int):Option Mg:=if (gMg (some bs)).2=some []∧packs (gMg (some bs)).1=true then some (gMg (some bs)).1 else none
theorem gMg_all {bs:List Int} (hb:Bytes bs) (h:(gMg (some bs)).2=some []):Bg (gMg (some bs)).1=bs∧MgOk (gMg (some bs)).1:=by
 obtain ⟨l,e,h2⟩:=gMg_de _ _ h
 cases e
 obtain ⟨h3,h4⟩:=h2 hb
 rw [List.append_nil] at h3
 exact ⟨h3.symm,h4⟩
theorem size_run {P:Program} {T:TypeId} {n:Nat} (h:(P.info? T).map (·.size)=some n) (w:World):(sizeOf T).run P w=.ok n w:=by
 cases hq:P.info? T with
 | none=>rw [hq] at h;cases h
 | some i=>rw [hq] at h;simp [sizeOf,typeInfo,hq];exact Option.some.inj h
theorem part_agg {P:Program} {T:TypeId} {n:Nat} {d:TypeDesc} (hu:P.underlying T=some d) (hd:aggDesc d=true) (h:(P.info? T).map (·.size)=some n) (cs:Array Value) (off:Nat) (w:World):(part T cs off).run P w=.ok (.agg (cs.extract off (off+n))) w:=by
 have hagg:(isAgg T).run P w=.ok true w:=by
  unfold isAgg
  rw [Sem.run_bind,run_underlying hu w]
  cases d<;>simp_all [aggDesc]
 simp [part,hagg,size_run h]
theorem part_one {P:Program} {T:TypeId} {d:TypeDesc} (hu:P.underlying T=some d) (hd:aggDesc d=false) {cs:Array Value} {off:Nat} {v:Value} (hv:cs[off]? = some v) (w:World):(part T cs off).run P w=.ok v w:=by
 have hagg:(isAgg T).run P w=.ok false w:=by
  unfold isAgg
  rw [Sem.run_bind,run_underlying hu w]
  cases d<;>simp_all [aggDesc]
 simp [part,hagg,hv]
/-- cells that are ints of these kinds -/
def KI:List IntKind→List Value→Prop
 | [],[]=>True
 | k :: ks,v :: vs=>(∃ a,v=.int k a)∧KI ks vs
 | _,_=>False
theorem KI.len:∀ {ks:List IntKind} {vs:List Value},KI ks vs→vs.length=ks.length
 | [],[],_=>rfl
 | k :: ks,v :: vs,h=>by simp [KI.len h.2]
 | [],v :: vs,h=>h.elim
 | k :: ks,[],h=>h.elim
theorem KI.append:∀ {ks ks':List IntKind} {a b:List Value},KI ks a→KI ks' b→KI (ks ++ ks') (a ++ b)
 | [],ks',[],b,_,h=>h
 | k :: ks,ks',v :: vs,b,h,h'=>⟨h.1,KI.append h.2 h'⟩
 | [],_,v :: vs,_,h,_=>h.elim
 | k :: ks,_,[],_,h,_=>h.elim
theorem KI.split:∀ {ks ks':List IntKind} {vs:List Value},KI (ks ++ ks') vs→∃ a b,vs=a ++ b∧KI ks a∧KI ks' b
 | [],ks',vs,h=>⟨[],vs,rfl,trivial,h⟩
 | k :: ks,ks',v :: vs,h=>by
  obtain ⟨a,b,rfl,h1,h2⟩:=KI.split h.2
  exact ⟨v :: a,b,rfl,⟨h.1,h1⟩,h2⟩
 | k :: ks,_,[],h=>h.elim
theorem KI.ints {k:IntKind}:∀ {n:Nat} {h:List Int},h.length=n→KI (List.replicate n k) (h.map (Value.int k))
 | 0,[],_=>trivial
 | n+1,a :: h,e=>⟨⟨a,rfl⟩,KI.ints (by simpa using e)⟩
theorem KI.rep {k:IntKind}:∀ {n:Nat} {vs:List Value},KI (List.replicate n k) vs→∃ h:List Int,h.length=n∧vs=h.map (Value.int k)
 | 0,[],_=>⟨[],rfl,rfl⟩
 | 0,v :: vs,h=>h.elim
 | n+1,[],h=>h.elim
 | n+1,v :: vs,h=>by
  obtain ⟨a,rfl⟩:=h.1
  obtain ⟨l,e,rfl⟩:=KI.rep h.2
  exact ⟨a :: l,by simp [e],rfl⟩
def EqW (P:Program) (d:Nat) (T:TypeId) (ks:List IntKind):Prop:=∀ (xs ys:List Value) (c:Bool) (w:World),KI ks xs→KI ks ys→(c=true↔xs=ys)→(Op.equalIn d T (.agg xs.toArray) (.agg ys.toArray)).run P w=.ok c w
def EqT (P:Program) (d:Nat) (T:TypeId) (ks:List IntKind):Prop:=∀ (A B:List Value) (off:Nat) (xs ys:List Value) (c:Bool) (w:World),KI ks xs→KI ks ys→(c=true↔xs=ys)→(A.drop off).take ks.length=xs→(B.drop off).take ks.length=ys→
 ∃ x y,(part T A.toArray off).run P w=.ok x w∧(part T B.toArray off).run P w=.ok y w∧(Op.equalIn d T x y).run P w=.ok c w
theorem ex_bool (p:Prop):∃ c:Bool,(c=true↔p):=by
 rcases Classical.em p with h|h
 ·exact ⟨true,by simp [h]⟩
 ·exact ⟨false,by simp [h]⟩
theorem bool_of {c d:Bool} (h:c=true↔d=true):c=d:=by cases c<;>cases d<;>simp_all
variable {P:Program}
theorem drop_one {A:List Value} {off:Nat} {v:Value} (h:(A.drop off).take 1=[v]):A.toArray[off]? = some v:=by
 have h1:((A.drop off).take 1)[0]? = some v:=by rw [h];rfl
 rw [List.getElem?_take,List.getElem?_drop] at h1
 simpa using h1
theorem EqT.int {d:Nat} {T:TypeId} {k:IntKind} (hu:P.underlying T=some (.int k)):EqT P (d+1) T [k]:=by
 intro A B off xs ys c w hx hy hc ha hb
 match xs,ys,hx,hy with
 | [x],[y],⟨⟨a,e⟩,_⟩,⟨⟨b,e'⟩,_⟩=>
  subst e e'
  refine ⟨_,_,part_one hu rfl (drop_one ha) w,part_one hu rfl (drop_one hb) w,?_⟩
  rw [run_equalIn_int w d T k k a b hu,show (a == b)=c from bool_of (by rw [hc];simp)]
theorem EqT.agg {d:Nat} {T:TypeId} {ks:List IntKind} {de:TypeDesc} (h:EqW P d T ks) (hu:P.underlying T=some de) (hd:aggDesc de=true) (hs:(P.info? T).map (·.size)=some ks.length):EqT P d T ks:=by
 intro A B off xs ys c w hx hy hc ha hb
 have e:∀ (A:List Value),A.toArray.extract off (off+ks.length)=((A.drop off).take ks.length).toArray:=fun A=>by
  apply Array.ext'
  simp [List.extract_eq_take_drop,Nat.add_sub_cancel_left]
 have p1:=part_agg hu hd hs A.toArray off w
 have p2:=part_agg hu hd hs B.toArray off w
 rw [e,ha] at p1
 rw [e,hb] at p2
 exact ⟨_,_,p1,p2,h xs ys c w hx hy hc⟩
theorem EqW.ints {d:Nat} {T e:TypeId} {n:Nat} {k:IntKind} (ht:P.underlying T=some (.array n e)) (he:P.underlying e=some (.int k)) (hs:(P.info? e).map (·.size)=some 1):EqW P (d+2) T (List.replicate n k):=by
 intro xs ys c w hx hy hc
 obtain ⟨a,ha,rfl⟩:=hx.rep
 obtain ⟨b,hb,rfl⟩:=hy.rep
 rw [run_equalIn_ints w d T e n ht he hs a b ha hb]
 rw [show decide (a=b)=c from bool_of (by
  rw [hc,decide_eq_true_iff]
  exact ⟨fun h=>by rw [h],fun h=>(List.map_inj_right (fun x y h=>by injection h)).1 h⟩)]
def FsE (P:Program) (d:Nat):Nat→List Field→List (List IntKind)→Prop
 | _,[],[]=>True
 | off,f :: fs,ks :: l=>f.name ≠ "_" ∧ f.offset=off∧EqT P d f.type ks∧FsE P d (off+ks.length) fs l
 | _,_,_=>False
theorem eqFields_all {d:Nat}:∀ (fs:List Field) (l:List (List IntKind)) (pre pre' xs ys:List Value) (c:Bool) (w:World),FsE P d pre.length fs l→pre'.length=pre.length→KI l.flatten xs→KI l.flatten ys→(c=true↔xs=ys)→
 (Op.eqFields d (pre ++ xs).toArray (pre' ++ ys).toArray fs).run P w=.ok c w
 | [],[],pre,pre',xs,ys,c,w,_,_,hx,hy,hc=>by
  match xs,ys,hx,hy,hc with
  | [],[],_,_,hc=>obtain rfl:c=true:=hc.2 rfl;simp [Op.eqFields]
 | [],_ :: _,_,_,_,_,_,_,h,_,_,_,_=>h.elim
 | _ :: _,[],_,_,_,_,_,_,h,_,_,_,_=>h.elim
 | f :: fs,ks :: l,pre,pre',xs,ys,c,w,⟨h1,h2,h3,h4⟩,hp,hx,hy,hc=>by
  obtain ⟨a,b,rfl,ha,hb⟩:=KI.split (by simpa using hx)
  obtain ⟨a',b',rfl,ha',hb'⟩:=KI.split (by simpa using hy)
  have la:=ha.len
  have la':=ha'.len
  obtain ⟨c1,hc1⟩:=ex_bool (a=a')
  obtain ⟨c2,hc2⟩:=ex_bool (b=b')
  obtain ⟨x,y,p1,p2,q⟩:=h3 (pre ++ (a ++ b)) (pre' ++ (a' ++ b')) pre.length a a' c1 w ha ha' hc1 (by rw [List.drop_left,← la,List.take_left]) (by rw [← hp,List.drop_left,← la',List.take_left])
  have ih:=eqFields_all fs l (pre ++ a) (pre' ++ a') b b' c2 w (by rw [C3,la];exact h4) (by rw [C3,C3,hp,la,la']) hb hb' hc2
  rw [C2,C2] at ih
  unfold Op.eqFields
  rw [if_pos h1,h2]
  simp only [Sem.run_bind,p1,p2,q,Result.andThen_ok]
  have hcc:c=(c1 && c2):=bool_of (by
   rw [hc,Bool.and_eq_true,hc1,hc2]
   exact ⟨fun h=>List.append_inj h (by rw [la,la']),fun h=>by rw [h.1,h.2]⟩)
  subst hcc
  cases c1
  ·simp
  ·simp [ih]
theorem AM {d:Nat} {T:TypeId} {fs:Array Field} (l:List (List IntKind)) (hu:P.underlying T=some (.struct fs)) (hs:P.stoodInHeld T=false) (hl:FsE P d 0 fs.toList l):EqW P (d+1) T l.flatten:=by
 intro xs ys c w hx hy hc
 have hf:P.fieldsOf T=fs:=by unfold Program.fieldsOf;rw [hu]
 rw [run_equalIn_struct w d T xs.toArray ys.toArray (by rw [hf];exact hu) hs,hf]
 exact eqFields_all fs.toList l [] [] xs ys c w hl rfl hx hy hc
theorem EqW.run {T:TypeId} {ks:List IntKind} (h:EqW P 10000 T ks) {xs ys:List Value} (hx:KI ks xs) (hy:KI ks ys) {c:Bool} (hc:c=true↔xs=ys) (w:World):(binOp .eql T (.agg xs.toArray) (.agg ys.toArray)).run P w=.ok (.bool (c)) w:=by
 rw [run_eql_struct,h xs ys c w hx hy hc]
 rfl
theorem EqW.runN {T:TypeId} {ks:List IntKind} (h:EqW P 10000 T ks) {xs ys:List Value} (hx:KI ks xs) (hy:KI ks ys) {c:Bool} (hc:c=true↔xs=ys) (w:World):(binOp .neq T (.agg xs.toArray) (.agg ys.toArray)).run P w=.ok (.bool (!c)) w:=by
 rw [run_neq_struct,h xs ys c w hx hy hc]
 rfl
abbrev i3:List IntKind:=[.i64,.i64,.i64]
abbrev kHash:List IntKind:=List.replicate 32 .u8
theorem eqT_int {d:Nat}:EqT Tryz.prog (d+1) 3 [.i64]:=EqT.int B9
theorem eqT_u64 {d:Nat}:EqT Tryz.prog (d+1) 30 [.u64]:=EqT.int E0
theorem eqT_hash {d:Nat}:EqT Tryz.prog (d+2) 25 kHash:=EqT.agg (EqW.ints D8 Tryz.underlying5 aE) D8 rfl aE
theorem eqW_name {d:Nat}:EqW Tryz.prog (d+2) 23 [.i64,.i64]:=AM [[.i64],[.i64]] Tryz.underlying23 aE ⟨by decide,rfl,eqT_int,by decide,rfl,eqT_int,trivial⟩
theorem eqT_name {d:Nat}:EqT Tryz.prog (d+2) 23 [.i64,.i64]:=EqT.agg eqW_name Tryz.underlying23 rfl aE
theorem eqW_sig {d:Nat}:EqW Tryz.prog (d+2) 27 [.i64,.i64]:=AM [[.i64],[.i64]] Tryz.underlying27 aE ⟨by decide,rfl,eqT_int,by decide,rfl,eqT_int,trivial⟩
theorem eqT_sig {d:Nat}:EqT Tryz.prog (d+2) 27 [.i64,.i64]:=EqT.agg eqW_sig Tryz.underlying27 rfl aE
theorem eqW_stamp {d:Nat}:EqW Tryz.prog (d+3) 32 [[.i64],[.i64,.i64],kHash,[.u64],[.i64,.i64]].flatten:=
 AM [[.i64],[.i64,.i64],kHash,[.u64],[.i64,.i64]] Tryz.underlying32 aE ⟨by decide,rfl,eqT_int,by decide,rfl,eqT_name,by decide,rfl,eqT_hash,by decide,rfl,eqT_u64,by decide,rfl,eqT_sig,trivial⟩
theorem eqW_ack {d:Nat}:EqW Tryz.prog (d+3) 37 [[.i64],[.i64,.i64],kHash,[.u64],[.i64,.i64]].flatten:=
 AM [[.i64],[.i64,.i64],kHash,[.u64],[.i64,.i64]] Tryz.underlying37 aE ⟨by decide,rfl,eqT_int,by decide,rfl,eqT_name,by decide,rfl,eqT_hash,by decide,rfl,eqT_u64,by decide,rfl,eqT_sig,trivial⟩
theorem eqW_vote {d:Nat}:EqW Tryz.prog (d+3) 49 [[.i64],[.i64],[.i64],[.i64],kHash,[.i64,.i64]].flatten:=
 AM [[.i64],[.i64],[.i64],[.i64],kHash,[.i64,.i64]] Tryz.underlying49 aE ⟨by decide,rfl,eqT_int,by decide,rfl,eqT_int,by decide,rfl,eqT_int,by decide,rfl,eqT_int,by decide,rfl,eqT_hash,by decide,rfl,eqT_sig,trivial⟩
theorem eqW_deny {d:Nat}:EqW Tryz.prog (d+3) 56 [[.i64],[.i64],[.i64,.i64]].flatten:=
 AM [[.i64],[.i64],[.i64,.i64]] Tryz.underlying56 aE ⟨by decide,rfl,eqT_int,by decide,rfl,eqT_int,by decide,rfl,eqT_sig,trivial⟩
theorem eqW_commit {d:Nat}:EqW Tryz.prog (d+3) 29 [[.i64,.i64],kHash,[.i64],[.i64,.i64]].flatten:=
 AM [[.i64,.i64],kHash,[.i64],[.i64,.i64]] E7 aE ⟨by decide,rfl,eqT_name,by decide,rfl,eqT_hash,by decide,rfl,eqT_int,by decide,rfl,eqT_sig,trivial⟩
theorem eqW_entry {d:Nat}:EqW Tryz.prog (d+3) 51 [[.i64,.i64],kHash,[.u64]].flatten:=
 AM [[.i64,.i64],kHash,[.u64]] Tryz.underlying51 aE ⟨by decide,rfl,eqT_name,by decide,rfl,eqT_hash,by decide,rfl,eqT_u64,trivial⟩
theorem ki_hash {h:List Int} (e:h.length=32):KI kHash (h.map bv):=KI.ints e
theorem ki_st {x:St} (h:x.OK):KI [[.i64],[.i64,.i64],kHash,[.u64],[.i64,.i64]].flatten x.cells:=by
 have:=KI.append (ks:=[.i64,.i64,.i64]) (a:=[.int .i64 x.rp,.int .i64 x.cl,.int .i64 x.sq]) ⟨⟨_,rfl⟩,⟨_,rfl⟩,⟨_,rfl⟩,trivial⟩ (KI.append (ki_hash h.h.1) (ks':=[.u64,.i64,.i64]) (b:=[.int .u64 (x.tm:Nat),.int .i64 x.sb,.int .i64 x.mr]) ⟨⟨_,rfl⟩,⟨_,rfl⟩,⟨_,rfl⟩,trivial⟩)
 exact this
theorem ki_vt {x:Vt} (h:x.OK):KI [[.i64],[.i64],[.i64],[.i64],kHash,[.i64,.i64]].flatten x.cells:=by
 have:=KI.append (ks:=[.i64,.i64,.i64,.i64]) (a:=[.int .i64 x.kd,.int .i64 x.ep,.int .i64 x.rd,.int .i64 x.rp]) ⟨⟨_,rfl⟩,⟨_,rfl⟩,⟨_,rfl⟩,⟨_,rfl⟩,trivial⟩ (KI.append (ki_hash h.h.1) (ks':=[.i64,.i64]) (b:=[.int .i64 x.sb,.int .i64 x.mr]) ⟨⟨_,rfl⟩,⟨_,rfl⟩,trivial⟩)
 exact this
theorem ki_dn (x:Dn):KI [[.i64],[.i64],[.i64,.i64]].flatten x.cells:=⟨⟨_,rfl⟩,⟨_,rfl⟩,⟨_,rfl⟩,⟨_,rfl⟩,trivial⟩
theorem ki_en {x:En} (h:x.OK):KI [[.i64,.i64],kHash,[.u64]].flatten x.cells:=by
 have:=KI.append (ks:=[.i64,.i64]) (a:=[.int .i64 x.cl,.int .i64 x.sq]) ⟨⟨_,rfl⟩,⟨_,rfl⟩,trivial⟩ (KI.append (ki_hash h.h.1) (ks':=[.u64]) (b:=[.int .u64 (x.tm:Nat)]) ⟨⟨_,rfl⟩,trivial⟩)
 exact this
theorem ki_cm {x:Cm} (h:x.h.length=32):KI [[.i64,.i64],kHash,[.i64],[.i64,.i64]].flatten x.cells:=by
 have:=KI.append (ks:=[.i64,.i64]) (a:=[.int .i64 x.cl,.int .i64 x.sq]) ⟨⟨_,rfl⟩,⟨_,rfl⟩,trivial⟩ (KI.append (ki_hash h) (ks':=[.i64,.i64,.i64]) (b:=[.int .i64 x.ln,.int .i64 x.sb,.int .i64 x.mr]) ⟨⟨_,rfl⟩,⟨_,rfl⟩,⟨_,rfl⟩,trivial⟩)
 exact this
noncomputable def eqb {α:Type} (x y:α):Bool:=@decide (x=y) (Classical.propDecidable _)
theorem eqb_iff {α:Type} {x y:α}:eqb x y=true↔x=y:=by unfold eqb;exact @decide_eq_true_iff _ (Classical.propDecidable _)
theorem eqb_rfl {α:Type} (x:α):eqb x x=true:=eqb_iff.2 rfl
theorem eqb_ne {α:Type} {x y:α} (h:¬ x=y):eqb x y=false:=by
 cases hq:eqb x y with
 | false=>rfl
 | true=>exact absurd (eqb_iff.1 hq) h
theorem ne_tt {a b:Int} (h:a≠b):(!(a == b))=true:=by simp [h]
theorem ne_ff {a b:Int} (h:a=b):(!(a == b))=false:=by simp [h]
theorem dec_eqb {α:Type} (x y:α) [h:Decidable (x=y)]:decide (x=y)=eqb x y:=by
 rw [Bool.eq_iff_iff,eqb_iff,decide_eq_true_iff]
theorem agg_guardE (op:BinOp) (T:TypeId) (x y:Operand) (a b:Array Value) (h:Tryz.prog.eqGuardType Tryz.prog.depth T=false) (w:World):(eqGuard op T x y (.agg a) (.agg b)).run Tryz.prog w=.ok () w:=run_eqGuard_agg (P:=Tryz.prog) w op T x y a b h
theorem hash_inj {a b:List Int} (h:a.map bv=b.map bv):a=b:=(List.map_inj_right (fun a b e=>by injection e)).1 h
theorem ki_2 (a b:Int):KI [.i64,.i64] [Value.int .i64 a,Value.int .i64 b]:=⟨⟨_,rfl⟩,⟨_,rfl⟩,trivial⟩
theorem two_iff (a b c d:Int):eqb (a,b) (c,d)=true↔([Value.int .i64 a,Value.int .i64 b]=[Value.int .i64 c,Value.int .i64 d]):=by
 rw [eqb_iff]
 simp
theorem st_iff {x y:St} (hx:x.OK) (hy:y.OK):eqb x y=true↔x.cells=y.cells:=by
 rw [eqb_iff]
 refine ⟨fun h=>by rw [h],fun h=>?_⟩
 have h1:=List.append_inj h rfl
 have h2:=List.append_inj h1.2 (by simp [hx.h.1,hy.h.1])
 have h3:=hash_inj h2.1
 have h4:=h1.1
 have h5:=h2.2
 simp only [List.cons.injEq,Value.int.injEq,and_true,true_and,Int.ofNat_inj] at h4 h5
 cases x;cases y
 simp_all
theorem vt_iff {x y:Vt} (hx:x.OK) (hy:y.OK):eqb x y=true↔x.cells=y.cells:=by
 rw [eqb_iff]
 refine ⟨fun h=>by rw [h],fun h=>?_⟩
 have h1:=List.append_inj h rfl
 have h2:=List.append_inj h1.2 (by simp [hx.h.1,hy.h.1])
 have h3:=hash_inj h2.1
 have h4:=h1.1
 have h5:=h2.2
 simp only [List.cons.injEq,Value.int.injEq,and_true,true_and,Int.ofNat_inj] at h4 h5
 cases x;cases y
 simp_all
theorem cm_iff {x y:Cm} (hx:x.OK) (hy:y.OK):eqb x y=true↔x.cells=y.cells:=by
 rw [eqb_iff]
 refine ⟨fun h=>by rw [h],fun h=>?_⟩
 have h1:=List.append_inj h rfl
 have h2:=List.append_inj h1.2 (by simp [hx.2.1,hy.2.1])
 have h3:=hash_inj h2.1
 have h4:=h1.1
 have h5:=h2.2
 simp only [List.cons.injEq,Value.int.injEq,and_true,true_and,Int.ofNat_inj] at h4 h5
 cases x;cases y
 simp_all
theorem en_iff {x y:En} (hx:x.OK) (hy:y.OK):eqb x y=true↔x.cells=y.cells:=by
 rw [eqb_iff]
 refine ⟨fun h=>by rw [h],fun h=>?_⟩
 have h1:=List.append_inj h rfl
 have h2:=List.append_inj h1.2 (by simp [hx.h.1,hy.h.1])
 have h3:=hash_inj h2.1
 have h4:=h1.1
 have h5:=h2.2
 simp only [List.cons.injEq,Value.int.injEq,and_true,true_and,Int.ofNat_inj] at h4 h5
 cases x;cases y
 simp_all
theorem dn_iff {x y:Dn} (hx:x.OK) (hy:y.OK):eqb x y=true↔x.cells=y.cells:=by
 rw [eqb_iff]
 refine ⟨fun h=>by rw [h],fun h=>?_⟩
 simp only [Dn.cells,List.cons.injEq,Value.int.injEq,and_true,true_and] at h
 cases x;cases y
 simp_all
theorem ce_eqb (x y:Ce):(eqb x.c y.c && eqb x.l y.l)=eqb x y:=by
 rw [Bool.eq_iff_iff,Bool.and_eq_true,eqb_iff,eqb_iff,eqb_iff]
 cases x;cases y
 simp
theorem beq_I (a b:Int):(a == b)=true↔a=b:=by simp
theorem pm_eqb (x y:Pm):(((((x.rp == y.rp) && (x.ep == y.ep)) && (((x.fl:Nat):Int) == ((y.fl:Nat):Int))) && eqb (x.sb,x.mr) (y.sb,y.mr)) && eqb x.l y.l)=eqb x y:=by
 rw [Bool.eq_iff_iff]
 simp only [Bool.and_eq_true,eqb_iff,beq_I,Int.ofNat_inj,Prod.mk.injEq]
 cases x;cases y
 simp only [Pm.mk.injEq]
 constructor
 ·rintro ⟨⟨⟨⟨h1,h2⟩,h3⟩,h4,h5⟩,h6⟩;exact ⟨h1,h2,h3,h6,h4,h5⟩
 ·rintro ⟨h1,h2,h3,h6,h4,h5⟩;exact ⟨⟨⟨⟨h1,h2⟩,h3⟩,h4,h5⟩,h6⟩
theorem op_eqb (x y:Op):(((x.ix == y.ix) && eqb x.nc y.nc) && eqb x.pl y.pl)=eqb x y:=by
 rw [Bool.eq_iff_iff]
 simp only [Bool.and_eq_true,eqb_iff,beq_I]
 cases x;cases y
 simp only [Op.mk.injEq]
 constructor
 ·rintro ⟨⟨h1,h2⟩,h3⟩;exact ⟨h1,h3,h2⟩
 ·rintro ⟨h1,h3,h2⟩;exact ⟨⟨h1,h2⟩,h3⟩
theorem tb_eqb (x y:Tb):((!(x.ix == y.ix)) || (!eqb x.l y.l))=!eqb x y:=by
 have h:((x.ix == y.ix) && eqb x.l y.l)=eqb x y:=by
  rw [Bool.eq_iff_iff]
  simp only [Bool.and_eq_true,eqb_iff,beq_I]
  cases x;cases y
  simp
 rw [← h]
 cases (x.ix == y.ix)<;>cases eqb x.l y.l<;>rfl
theorem ba_eqb (x y:Ba) (h:(((((!(x.ep == y.ep)) || (!(((x.tm:Nat):Int) == ((y.tm:Nat):Int)))) || (!(((x.ps.length:Nat):Int) == ((y.ps.length:Nat):Int)))) || (!eqb x.os y.os)) || (!eqb x.ts y.ts))=false):eqb x.ps y.ps=eqb x y:=by
 simp only [Bool.or_eq_false_iff,Bool.not_eq_false',eqb_iff,beq_I,Int.ofNat_inj] at h
 obtain ⟨⟨⟨⟨h1,h2⟩,h3⟩,h4⟩,h5⟩:=h
 rw [Bool.eq_iff_iff,eqb_iff,eqb_iff]
 cases x;cases y
 simp_all
theorem ba_neb (x y:Ba) (h:(((((!(x.ep == y.ep)) || (!(((x.tm:Nat):Int) == ((y.tm:Nat):Int)))) || (!(((x.ps.length:Nat):Int) == ((y.ps.length:Nat):Int)))) || (!eqb x.os y.os)) || (!eqb x.ts y.ts))=true):eqb x y=false:=by
 refine eqb_ne fun e=>?_
 subst e
 simp [eqb_rfl] at h
theorem take_ne {α:Type} {l m:List α} {k:Nat} (h1:k < l.length) (h2:k < m.length) (h:¬ l[k]=m[k]):eqb l m=false:=eqb_ne fun e=>h (by subst e;rfl)
theorem take_all {α:Type} {l m:List α} {k:Nat} (h1:l.length≤k) (h2:m.length≤k) (h:l.take k=m.take k):eqb l m=true:=by
 rw [List.take_of_length_le h1,List.take_of_length_le h2] at h
 exact eqb_iff.2 h
theorem take_succ2 {α:Type} {l m:List α} {k:Nat} (h1:k < l.length) (h2:k < m.length) (h:l.take k=m.take k) (he:l[k]=m[k]):l.take (k+1)=m.take (k+1):=by
 rw [List.take_succ_eq_append_getElem h1,List.take_succ_eq_append_getElem h2,h,he]
/-- a function that says whether two things are one; two lists -/
def Eqs {α:Type} (A:Rep α) (F:FuncId):Prop:=∀ (R R2:Nat→Prop) (cs ds:List Value) (x y:α) (w:World),A.rd R w cs x→A.rd R2 w ds y→(∀ k,R k→k < w.heap.size)→(∀ k,R2 k→k < w.heap.size)→
 Calls Tryz.prog F #[.agg cs.toArray,.agg ds.toArray] w fun e w'=>e=.returned (.bool (eqb x y))∧Mod (fun _=>False) w w'
def EqsL {α:Type} (A:Rep α) (F:FuncId):Prop:=∀ (R R2:Nat→Prop) (v v2:Value) (l m:List α) (w:World),RdS A R w v l→RdS A R2 w v2 m→(∀ k,R k→k < w.heap.size)→(∀ k,R2 k→k < w.heap.size)→
 Calls Tryz.prog F #[v,v2] w fun e w'=>e=.returned (.bool (eqb l m))∧Mod (fun _=>False) w w'
theorem Same_B {R R2:Nat→Prop} {N N2:Nat} {va vb:Value} {a b:List Int} {w:World} (ha:RdR R N w va a) (hb:RdR R2 N2 w vb b) :
 Calls Tryz.prog 17 #[va,vb] w fun e w'=>e=.returned (.bool (eqb a b))∧Mod (fun _=>False) w w':=
 (Same_R ha hb).mono fun _ _ ⟨he,hm⟩=>⟨he.trans (by rw [dec_eqb]),hm⟩
set_option maxHeartbeats 8000000 in
theorem put_Q:∀ (R R2:Nat→Prop) (g:Nat) (bs:List Int) (cs:List Value) (x:Mg) (w:World),WrR R 900000 w g bs→(∀ k,R k→k < w.heap.size)→MgR.rd R2 w cs x→(∀ k,R2 k→k < w.heap.size)→(∀ k,R k→R2 k→False)→(bs ++ A3 x).length≤900000→
 Calls Tryz.prog 68 #[.pointer (some ⟨g,0,none⟩),.agg cs.toArray] w fun e w'=>e=.returned (.bool (okKd x.kd))∧WrR (fun k=>R k∨New w w' k) 900000 w' g (bs ++ A3 x)∧Mod R w w':=by
 intro R R2 g bs cs x w hW hB hx hB2 hD hl
 obtain ⟨c5,c10,c11,c15,c18,rfl,hok,h5,h10,h11,h15,h18⟩:=hx
 have HLN:=hid (Mg.lns hok h5 h10 h11 h15 h18)
 obtain ⟨d_ps,d_os,d_ts,d_l,rfl,hokd,hd0,hd1,hd2,hd3⟩:=h18
 have HC5:=hid (CeR.len h5)
 have H5:=B8 h5
 have HC10:=hid (PmR.len h10)
 have H10:=B8 h10
 have HC11:=hid (PrR.len h11)
 have H11:=B8 h11
 have HC15:=hid (OpR.len h15)
 have H15:=B8 h15
 have HD0:=B8 hd0
 have HD1:=B8 hd1
 have HD2:=B8 hd2
 have HD3:=B8 hd3
 have HW:=B8 hW
 have HBR:=B8 hB
 have HBT:=B8 hB2
 have HDJ:=B8 hD
 have HOK:=B8 hok
 have HOD:=B8 hokd
 have HL:=B8 hl
 clear hW hB hB2 hD hl hok hokd h5 h10 h11 h15 hd0 hd1 hd2 hd3
 go_enter Tryz.func68,Tryz.ntmps68
 go_upto_region 1 with (fail)
 obtain ⟨w1,hw1⟩:∃ zz,zz=(w.alloc (.cells ((x.segs c5 c10 c11 c15 (x.dc.cells d_ps d_os d_ts d_l)).flatten:List Value).toArray 61)):=⟨_,rfl⟩
 change Code.wp _ _ _ _ (w.alloc (.cells ((x.segs c5 c10 c11 c15 (x.dc.cells d_ps d_os d_ts d_l)).flatten:List Value).toArray 61))
 rw [← hw1]
 have HB3:=hid (show Cs w1 (w.heap.size) ((x.segs c5 c10 c11 c15 (x.dc.cells d_ps d_os d_ts d_l)).flatten:List Value).toArray 61 by rw [hw1];exact Cs.new _ _ _)
 have hm:Mod (fun _=>False) w w1:=by rw [hw1];exact (Mod.refl _ _).alloc _
 have HM0:=hid (show Mod (fun k=>(R k)) w w1 from hm.mono iB)
 have hs1:w1.heap.size=w.heap.size+1:=by rw [hw1];simp
 have c6:=hid (HW.o.mod hm iA)
 clear HW
 have q8:=hid (H5.o.mod hm iA)
 clear H5
 have q9:=hid (H10.o.mod hm iA)
 clear H10
 have r5:=hid (H11.o.mod hm iA)
 clear H11
 have r6:=hid (H15.o.mod hm iA)
 clear H15
 have r7:=hid (HD0.o.mod hm iA)
 clear HD0
 have r8:=hid (HD1.o.mod hm iA)
 clear HD1
 have Hx8:=hid (HD2.o.mod hm iA)
 clear HD2
 have Hx9:=hid (HD3.o.mod hm iA)
 clear HD3
 clear hw1 hm
 go_upto_region 1 with (fail)
 refine Ab 120 [5,6] [0,1] (fun a0 HA0=>?_)
 have c3:=ev HA0 3 rfl
 refine qfd rfl 0 C1 c3 ?_
 refine QSeq.pure rfl (.int .i64 x.kd) (fun E=>Af rfl B9 rfl (E.d 0 0) (AD HB3.o HLN.o 0 rfl (o:=0) (k:=0) rfl rfl rfl)) ?_
 refine qe ?_
 clear HA0 c3 a0
 by_cases h1:x.kd=1
 ·have K1:=B8 h1
  clear h1
  go_upto_region 3 with (fail)
  refine tst 120 B9 (Bj K1.o) rfl (qs ?_)
  have HE:=hid (show A3 x=cmB x.cm by unfold A3;rw [K1.o];rfl)
  rw [HE.o] at HL
  have HQ:=hid (show okKd x.kd=true by rw [K1.o];rfl)
  go_upto_region 4 with (fail)
  refine Ab 120 [9,10,11,12] [0,1,2,3] (fun a0 HA0=>?_)
  have c4:=ev HA0 0 rfl
  have c3:=ev HA0 3 rfl
  refine qmo rfl c4 ?_
  refine qfd rfl 3 C1 c3 ?_
  refine QSeq.pure rfl _ (fun E=>Ak rfl E7 rfl (off:=3) (cs:=(x.cm.cells)) (by rw [Cm.len HOK.o.cm.2.1];exact size_commit) (E.d 1 0) (Cs.seg HB3.o HLN.o 3 rfl rfl)) ?_
  refine QSeq.call rfl rfl Tryz.func97 (PutCm_Q _ (fun _=>False) _ _ _ x.cm _ c6.out aK ⟨rfl,HOK.o.cm⟩ iC iB aF) (fun E=>Ar (E.d 0 2) (E.d 2 0)) ?_
  rintro e g5 ⟨rfl,qwr,hm⟩
  refine ⟨_,rfl,?_⟩
  have Hx10:=hid (qwr.widen (R':=(fun k=>(R k)∨(New w1 g5 k))) (fun _ h=>h) (C0 _))
  have y7:=hm.size
  have r9:=hid (show Mod (fun k=>(R k)) w1 g5 from hm)
  clear hm
  clear qwr c6
  refine qe ?_
  clear HA0 c4 c3 a0
  go_upto_region 34 with (fail)
  refine Ab 120 [4] [0] (fun a0 HA0=>?_)
  refine QSeq.pure rfl (.bool true) (fun E=>An rfl rfl) ?_
  refine qe ?_
  clear HA0 a0
  go_wp2
  go_ret
  have hq:=(Hx10.o.widen (R':=(fun k=>R k∨New w g5 k)) aI (C0 _))
  (try simp only [C2] at hq)
  exact ⟨by rw [HQ.o];rfl,by rw [HE.o];simpa only [C2] using hq,(HM0.o.trans r9.out iA)⟩
 have K1:=B8 h1
 clear h1
 go_upto_region 3 with (fail)
 refine tst 120 B9 (Bk K1.o) rfl (qs ?_)
 by_cases h2:x.kd=2
 ·have K2:=B8 h2
  clear h2
  go_upto_region 5 with (fail)
  refine tst 120 B9 (Bj K2.o) rfl (qs ?_)
  have HE:=hid (show A3 x=stB x.st by unfold A3;rw [K2.o];rfl)
  rw [HE.o] at HL
  have HQ:=hid (show okKd x.kd=true by rw [K2.o];rfl)
  go_upto_region 6 with (fail)
  refine Ab 120 [15,16,17,18] [0,1,2,3] (fun a0 HA0=>?_)
  have c4:=ev HA0 0 rfl
  have c3:=ev HA0 3 rfl
  refine qmo rfl c4 ?_
  refine qfd rfl 40 C1 c3 ?_
  refine QSeq.pure rfl _ (fun E=>Ak rfl Tryz.underlying32 rfl (off:=40) (cs:=(x.st.cells)) (by rw [St.len HOK.o.st];kernel_rfl) (E.d 1 0) (Cs.seg HB3.o HLN.o 4 rfl rfl)) ?_
  refine QSeq.call rfl rfl Tryz.func98 (PutSt_Q _ (fun _=>False) _ _ _ x.st _ c6.out aK ⟨rfl,HOK.o.st⟩ iC iB aF) (fun E=>Ar (E.d 0 2) (E.d 2 0)) ?_
  rintro e g6 ⟨rfl,qwr,hm⟩
  refine ⟨_,rfl,?_⟩
  have s0:=hid (qwr.widen (R':=(fun k=>(R k)∨(New w1 g6 k))) (fun _ h=>h) (C0 _))
  have y8:=hm.size
  have s5:=hid (show Mod (fun k=>(R k)) w1 g6 from hm)
  clear hm
  clear qwr c6
  refine qe ?_
  clear HA0 c4 c3 a0
  go_upto_region 34 with (fail)
  refine Ab 120 [4] [0] (fun a0 HA0=>?_)
  refine QSeq.pure rfl (.bool true) (fun E=>An rfl rfl) ?_
  refine qe ?_
  clear HA0 a0
  go_wp2
  go_ret
  have hq:=(s0.out.widen (R':=(fun k=>R k∨New w g6 k)) aI (C0 _))
  (try simp only [C2] at hq)
  exact ⟨by rw [HQ.o];rfl,by rw [HE.o];simpa only [C2] using hq,(HM0.o.trans s5.out iA)⟩
 have K2:=B8 h2
 clear h2
 go_upto_region 5 with (fail)
 refine tst 120 B9 (Bk K2.o) rfl (qs ?_)
 by_cases h3:x.kd=3
 ·have K3:=B8 h3
  clear h3
  go_upto_region 7 with (fail)
  refine tst 120 B9 (Bj K3.o) rfl (qs ?_)
  have HE:=hid (show A3 x=ceB x.ce by unfold A3;rw [K3.o];rfl)
  rw [HE.o] at HL
  have HQ:=hid (show okKd x.kd=true by rw [K3.o];rfl)
  go_upto_region 8 with (fail)
  refine Ab 120 [21,22,23,24] [0,1,2,3] (fun a0 HA0=>?_)
  have c4:=ev HA0 0 rfl
  have c3:=ev HA0 3 rfl
  refine qmo rfl c4 ?_
  refine qfd rfl 78 C1 c3 ?_
  refine QSeq.pure rfl _ (fun E=>Ak rfl Tryz.underlying35 rfl (off:=78) (cs:=(c5)) (by rw [HC5.o];kernel_rfl) (E.d 1 0) (Cs.seg HB3.o HLN.o 5 rfl rfl)) ?_
  refine QSeq.call rfl rfl Tryz.func99 (PutCe_Q _ R2 _ _ _ x.ce _ c6.out aK q8.out aU bR aF) (fun E=>Ar (E.d 0 2) (E.d 2 0)) ?_
  rintro e g7 ⟨rfl,qwr,hm⟩
  refine ⟨_,rfl,?_⟩
  have s6:=hid (qwr.widen (R':=(fun k=>(R k)∨(New w1 g7 k))) (fun _ h=>h) (C0 _))
  have z0:=hm.size
  have s7:=hid (show Mod (fun k=>(R k)) w1 g7 from hm)
  clear hm
  clear qwr c6
  refine qe ?_
  clear HA0 c4 c3 a0
  go_upto_region 34 with (fail)
  refine Ab 120 [4] [0] (fun a0 HA0=>?_)
  refine QSeq.pure rfl (.bool true) (fun E=>An rfl rfl) ?_
  refine qe ?_
  clear HA0 a0
  go_wp2
  go_ret
  have hq:=(s6.out.widen (R':=(fun k=>R k∨New w g7 k)) aI (C0 _))
  (try simp only [C2] at hq)
  exact ⟨by rw [HQ.o];rfl,by rw [HE.o];simpa only [C2] using hq,(HM0.o.trans s7.out iA)⟩
 have K3:=B8 h3
 clear h3
 go_upto_region 7 with (fail)
 refine tst 120 B9 (Bk K3.o) rfl (qs ?_)
 by_cases h4:x.kd=4
 ·have K4:=B8 h4
  clear h4
  go_upto_region 9 with (fail)
  refine tst 120 B9 (Bj K4.o) rfl (qs ?_)
  have HE:=hid (show A3 x=stB x.ak by unfold A3;rw [K4.o];rfl)
  rw [HE.o] at HL
  have HQ:=hid (show okKd x.kd=true by rw [K4.o];rfl)
  go_upto_region 10 with (fail)
  refine Ab 120 [27,28,29,30] [0,1,2,3] (fun a0 HA0=>?_)
  have c4:=ev HA0 0 rfl
  have c3:=ev HA0 3 rfl
  refine qmo rfl c4 ?_
  refine qfd rfl 116 C1 c3 ?_
  refine QSeq.pure rfl _ (fun E=>Ak rfl Tryz.underlying37 rfl (off:=116) (cs:=(x.ak.cells)) (by rw [St.len HOK.o.ak];kernel_rfl) (E.d 1 0) (Cs.seg HB3.o HLN.o 6 rfl rfl)) ?_
  refine QSeq.call rfl rfl Tryz.func100 (PutAk_Q _ (fun _=>False) _ _ _ x.ak _ c6.out aK ⟨rfl,HOK.o.ak⟩ iC iB aF) (fun E=>Ar (E.d 0 2) (E.d 2 0)) ?_
  rintro e g8 ⟨rfl,qwr,hm⟩
  refine ⟨_,rfl,?_⟩
  have s8:=hid (qwr.widen (R':=(fun k=>(R k)∨(New w1 g8 k))) (fun _ h=>h) (C0 _))
  have z3:=hm.size
  have t0:=hid (show Mod (fun k=>(R k)) w1 g8 from hm)
  clear hm
  clear qwr c6
  refine qe ?_
  clear HA0 c4 c3 a0
  go_upto_region 34 with (fail)
  refine Ab 120 [4] [0] (fun a0 HA0=>?_)
  refine QSeq.pure rfl (.bool true) (fun E=>An rfl rfl) ?_
  refine qe ?_
  clear HA0 a0
  go_wp2
  go_ret
  have hq:=(s8.out.widen (R':=(fun k=>R k∨New w g8 k)) aI (C0 _))
  (try simp only [C2] at hq)
  exact ⟨by rw [HQ.o];rfl,by rw [HE.o];simpa only [C2] using hq,(HM0.o.trans t0.out iA)⟩
 have K4:=B8 h4
 clear h4
 go_upto_region 9 with (fail)
 refine tst 120 B9 (Bk K4.o) rfl (qs ?_)
 by_cases h5:x.kd=5
 ·have K5:=B8 h5
  clear h5
  go_upto_region 11 with (fail)
  refine tst 120 B9 (Bj K5.o) rfl (qs ?_)
  have HE:=hid (show A3 x=encI x.ep ++ encI x.rn ++ encN x.tm by unfold A3;rw [K5.o];rfl)
  rw [HE.o] at HL
  have HQ:=hid (show okKd x.kd=true by rw [K5.o];rfl)
  go_upto_region 12 with (fail)
  generalize ha0:Act.mk _ _=a0
  have c4:a0.eval (.tmp 0)=.pointer (some ⟨g,0,none⟩):=by rw [← ha0];rfl
  have c3:a0.eval (.tmp 3)=.pointer (some ⟨w.heap.size,0,none⟩):=by rw [← ha0];rfl
  have hsz0:a0.tmps.size=120:=by rw [← ha0];rfl
  have HA0:=hid ha0
  clear ha0
  refine Bc 120 hsz0 [33,34,35,36,37,38,39,40,41,42] (fun k=>(R k)) (fun k j=>(k=0∧((R j)))∨(k=1∧((R j)))∨(k=2∧((R j)))) dW [qi (.pointer (some ⟨g,0,none⟩)),qi (.pointer (some ⟨w.heap.size,154,none⟩)),qi (.int .i64 x.ep),qi (.pointer (some ⟨g,0,none⟩)),qi (.pointer (some ⟨w.heap.size,155,none⟩)),qi (.int .i64 x.rn),qi (.pointer (some ⟨g,0,none⟩)),qi (.pointer (some ⟨w.heap.size,156,none⟩)),qi (.int .u64 (x.tm:Nat)),qi (.pointer (some ⟨g,0,none⟩))] ⟨Ac,Ac,Ac,Ac,Ac,Ac,Ac,Ac,Ac,Ac,trivial⟩ [3,6,9] ⟨?_,?_,?_,?_,?_,?_,?_,?_,?_,?_,trivial⟩ ?_
  ·exact stq (fun E=>Al rfl (E.v c4))
  ·exact stq (fun E=>Ae rfl C1 rfl aE (E.v c3))
  ·exact stq (fun E=>Af rfl B9 rfl (E.d 1) (AD (HB3.o.mod E.m aN) HLN.o 7 rfl (o:=154) (k:=0) rfl rfl rfl))
  ·exact Ad rfl
  ·exact stq (fun E=>Ae rfl C1 rfl aE (E.v c3))
  ·exact stq (fun E=>Af rfl B9 rfl (E.d 4) (AD (HB3.o.mod E.m aN) HLN.o 8 rfl (o:=155) (k:=0) rfl rfl rfl))
  ·exact Ad rfl
  ·exact stq (fun E=>Ae rfl C1 rfl aE (E.v c3))
  ·exact stq (fun E=>Af rfl E0 rfl (E.d 7) (AD (HB3.o.mod E.m aN) HLN.o 9 rfl (o:=156) (k:=0) rfl rfl rfl))
  ·exact Ad rfl
  intro g9 hr
  have z4:=hr.size
  have j9:=hid (hr.new (S:=(fun k=>(R k))))
  have l7:=hid (c6.out.mod hr aO)
  clear c6
  clear hr
  refine QChain.go fun Z act E=>?_
  refine Aj (args:=#[.pointer (some ⟨g,0,none⟩),.int .i64 x.ep]) rfl (Aa rfl) rfl E6 (Ar (E.d 0) (E.d 2)) (B3 l7.out HOK.o.ep aF) ?_
  rintro e i7 ⟨rfl,qwr,hm⟩
  have z5:=hm.size
  refine ⟨_,rfl,hm.mono aW,(fun _=>rfl),?_⟩
  intro l8 hr
  have z6:=hr.size
  have m7:=hid ((qwr.widen (R':=(fun k=>(R k)∨(New g9 i7 k))) (fun _ h=>h) (C0 _)).mod hr bH)
  have m8:=hid (j9.out.goM hm hr iA)
  clear j9 hm hr Z act E qwr l7
  refine QChain.go fun Z act E=>?_
  refine Aj (args:=#[.pointer (some ⟨g,0,none⟩),.int .i64 x.rn]) rfl (Aa rfl) rfl E6 (Ar (E.d 3) (E.d 5)) (B3 m7.out HOK.o.rn aF) ?_
  rintro e m9 ⟨rfl,qwr,hm⟩
  have z7:=hm.size
  refine ⟨_,rfl,hm.mono bX,(fun _=>rfl),?_⟩
  intro t1 hr
  have z9:=hr.size
  have n5:=hid ((qwr.widen (R':=(fun k=>(R k)∨(New g9 i7 k)∨(New l8 m9 k))) aP (C0 _)).mod hr bG)
  have n6:=hid (m8.out.goM hm hr bY)
  clear m8 hm hr Z act E qwr m7
  refine QChain.go fun Z act E=>?_
  refine Aj (args:=#[.pointer (some ⟨g,0,none⟩),.int .u64 (x.tm:Nat)]) rfl (Aa rfl) rfl Tryz.func96 (Ar (E.d 6) (E.d 8)) (WNum_Q n5.out HOK.o.tm aF) ?_
  rintro e t2 ⟨rfl,qwr,hm⟩
  have aa:=hm.size
  refine ⟨_,rfl,hm.mono dL,(fun _=>rfl),?_⟩
  intro t8 hr
  have ac:=hr.size
  have t9:=hid ((qwr.widen (R':=(fun k=>(R k)∨(New g9 i7 k)∨(New l8 m9 k)∨(New t1 t2 k))) aP (C0 _)).mod hr bT)
  have u0:=hid (n6.out.goM hm hr dK)
  clear n6 hm hr Z act E qwr n5
  refine QChain.nil fun vs hl hzz hrows hne=>?_
  obtain ⟨Z,hYZ,hZb,hV⟩:=hzz
  have f0:=fvi hV hl 0
  have f3:=fvi hV hl 3
  have f6:=fvi hV hl 6
  have f9:=fvi hV hl 9
  rw [show vs=[gw vs 0,gw vs 1,gw vs 2,gw vs 3,gw vs 4,gw vs 5,gw vs 6,gw vs 7,gw vs 8,gw vs 9] from (Bi hl).trans rfl]
  have ha0:=HA0.o
  subst ha0
  clear HA0 hV hYZ hZb hsz0 hrows hne c4 c3
  simp only [Au,Act.put,sIB,sCZ,sCS,f0,f3,f6,f9]
  clear hl f0 f3 f6 f9
  go_upto_region 34 with (fail)
  refine Ab 120 [4] [0] (fun a0 HA0=>?_)
  refine QSeq.pure rfl (.bool true) (fun E=>An rfl rfl) ?_
  refine qe ?_
  clear HA0 a0
  go_wp2
  go_ret
  have hq:=(t9.out.widen (R':=(fun k=>R k∨New w t8 k)) dQ (C0 _))
  (try simp only [C2] at hq)
  exact ⟨by rw [HQ.o];rfl,by rw [HE.o];simpa only [C2] using hq,(HM0.o.trans u0.out iA)⟩
 have K5:=B8 h5
 clear h5
 go_upto_region 11 with (fail)
 refine tst 120 B9 (Bk K5.o) rfl (qs ?_)
 by_cases h6:x.kd=6
 ·have K6:=B8 h6
  clear h6
  go_upto_region 13 with (fail)
  refine tst 120 B9 (Bj K6.o) rfl (qs ?_)
  have HE:=hid (show A3 x=pmB x.pm by unfold A3;rw [K6.o];rfl)
  rw [HE.o] at HL
  have HQ:=hid (show okKd x.kd=true by rw [K6.o];rfl)
  go_upto_region 14 with (fail)
  refine Ab 120 [45,46,47,48] [0,1,2,3] (fun a0 HA0=>?_)
  have c4:=ev HA0 0 rfl
  have c3:=ev HA0 3 rfl
  refine qmo rfl c4 ?_
  refine qfd rfl 157 C1 c3 ?_
  refine QSeq.pure rfl _ (fun E=>Ak rfl Tryz.underlying40 rfl (off:=157) (cs:=(c10)) (by rw [HC10.o];kernel_rfl) (E.d 1 0) (Cs.seg HB3.o HLN.o 10 rfl rfl)) ?_
  refine QSeq.call rfl rfl Tryz.func101 (PutPm_Q _ R2 _ _ _ x.pm _ c6.out aK q9.out aU bR aF) (fun E=>Ar (E.d 0 2) (E.d 2 0)) ?_
  rintro e i8 ⟨rfl,qwr,hm⟩
  refine ⟨_,rfl,?_⟩
  have u1:=hid (qwr.widen (R':=(fun k=>(R k)∨(New w1 i8 k))) (fun _ h=>h) (C0 _))
  have ae:=hm.size
  have u2:=hid (show Mod (fun k=>(R k)) w1 i8 from hm)
  clear hm
  clear qwr c6
  refine qe ?_
  clear HA0 c4 c3 a0
  go_upto_region 34 with (fail)
  refine Ab 120 [4] [0] (fun a0 HA0=>?_)
  refine QSeq.pure rfl (.bool true) (fun E=>An rfl rfl) ?_
  refine qe ?_
  clear HA0 a0
  go_wp2
  go_ret
  have hq:=(u1.out.widen (R':=(fun k=>R k∨New w i8 k)) aI (C0 _))
  (try simp only [C2] at hq)
  exact ⟨by rw [HQ.o];rfl,by rw [HE.o];simpa only [C2] using hq,(HM0.o.trans u2.out iA)⟩
 have K6:=B8 h6
 clear h6
 go_upto_region 13 with (fail)
 refine tst 120 B9 (Bk K6.o) rfl (qs ?_)
 by_cases h7:x.kd=7
 ·have K7:=B8 h7
  clear h7
  go_upto_region 15 with (fail)
  refine tst 120 B9 (Bj K7.o) rfl (qs ?_)
  have HE:=hid (show A3 x=prB x.pr by unfold A3;rw [K7.o];rfl)
  rw [HE.o] at HL
  have HQ:=hid (show okKd x.kd=true by rw [K7.o];rfl)
  go_upto_region 16 with (fail)
  refine Ab 120 [51,52,53,54] [0,1,2,3] (fun a0 HA0=>?_)
  have c4:=ev HA0 0 rfl
  have c3:=ev HA0 3 rfl
  refine qmo rfl c4 ?_
  refine qfd rfl 163 C1 c3 ?_
  refine QSeq.pure rfl _ (fun E=>Ak rfl D4 rfl (off:=163) (cs:=(c11)) (by rw [HC11.o];kernel_rfl) (E.d 1 0) (Cs.seg HB3.o HLN.o 11 rfl rfl)) ?_
  refine QSeq.call rfl rfl Tryz.func102 (PutPr_Q _ R2 _ _ _ x.pr _ c6.out aK r5.out aU bR aF) (fun E=>Ar (E.d 0 2) (E.d 2 0)) ?_
  rintro e i9 ⟨rfl,qwr,hm⟩
  refine ⟨_,rfl,?_⟩
  have u3:=hid (qwr.widen (R':=(fun k=>(R k)∨(New w1 i9 k))) (fun _ h=>h) (C0 _))
  have af:=hm.size
  have u4:=hid (show Mod (fun k=>(R k)) w1 i9 from hm)
  clear hm
  clear qwr c6
  refine qe ?_
  clear HA0 c4 c3 a0
  go_upto_region 34 with (fail)
  refine Ab 120 [4] [0] (fun a0 HA0=>?_)
  refine QSeq.pure rfl (.bool true) (fun E=>An rfl rfl) ?_
  refine qe ?_
  clear HA0 a0
  go_wp2
  go_ret
  have hq:=(u3.out.widen (R':=(fun k=>R k∨New w i9 k)) aI (C0 _))
  (try simp only [C2] at hq)
  exact ⟨by rw [HQ.o];rfl,by rw [HE.o];simpa only [C2] using hq,(HM0.o.trans u4.out iA)⟩
 have K7:=B8 h7
 clear h7
 go_upto_region 15 with (fail)
 refine tst 120 B9 (Bk K7.o) rfl (qs ?_)
 by_cases h8:x.kd=8
 ·have K8:=B8 h8
  clear h8
  go_upto_region 17 with (fail)
  refine tst 120 B9 (Bj K8.o) rfl (qs ?_)
  have HE:=hid (show A3 x=vtB x.vt by unfold A3;rw [K8.o];rfl)
  rw [HE.o] at HL
  have HQ:=hid (show okKd x.kd=true by rw [K8.o];rfl)
  go_upto_region 18 with (fail)
  refine Ab 120 [57,58,59,60] [0,1,2,3] (fun a0 HA0=>?_)
  have c4:=ev HA0 0 rfl
  have c3:=ev HA0 3 rfl
  refine qmo rfl c4 ?_
  refine qfd rfl 174 C1 c3 ?_
  refine QSeq.pure rfl _ (fun E=>Ak rfl Tryz.underlying49 rfl (off:=174) (cs:=(x.vt.cells)) (by rw [Vt.len HOK.o.vt];kernel_rfl) (E.d 1 0) (Cs.seg HB3.o HLN.o 12 rfl rfl)) ?_
  refine QSeq.call rfl rfl Tryz.func103 (PutVt_Q _ (fun _=>False) _ _ _ x.vt _ c6.out aK ⟨rfl,HOK.o.vt⟩ iC iB aF) (fun E=>Ar (E.d 0 2) (E.d 2 0)) ?_
  rintro e j0 ⟨rfl,qwr,hm⟩
  refine ⟨_,rfl,?_⟩
  have u5:=hid (qwr.widen (R':=(fun k=>(R k)∨(New w1 j0 k))) (fun _ h=>h) (C0 _))
  have ag:=hm.size
  have u6:=hid (show Mod (fun k=>(R k)) w1 j0 from hm)
  clear hm
  clear qwr c6
  refine qe ?_
  clear HA0 c4 c3 a0
  go_upto_region 34 with (fail)
  refine Ab 120 [4] [0] (fun a0 HA0=>?_)
  refine QSeq.pure rfl (.bool true) (fun E=>An rfl rfl) ?_
  refine qe ?_
  clear HA0 a0
  go_wp2
  go_ret
  have hq:=(u5.out.widen (R':=(fun k=>R k∨New w j0 k)) aI (C0 _))
  (try simp only [C2] at hq)
  exact ⟨by rw [HQ.o];rfl,by rw [HE.o];simpa only [C2] using hq,(HM0.o.trans u6.out iA)⟩
 have K8:=B8 h8
 clear h8
 go_upto_region 17 with (fail)
 refine tst 120 B9 (Bk K8.o) rfl (qs ?_)
 by_cases h9:x.kd=9
 ·have K9:=B8 h9
  clear h9
  go_upto_region 19 with (fail)
  refine tst 120 B9 (Bj K9.o) rfl (qs ?_)
  have HE:=hid (show A3 x=encI x.ix ++ enB x.en by unfold A3;rw [K9.o];rfl)
  rw [HE.o] at HL
  have HQ:=hid (show okKd x.kd=true by rw [K9.o];rfl)
  go_upto_region 20 with (fail)
  refine Ab 120 [63,64,65,66] [0,1,2,3] (fun a0 HA0=>?_)
  have c4:=ev HA0 0 rfl
  have c3:=ev HA0 3 rfl
  refine qmo rfl c4 ?_
  refine qfd rfl 212 C1 c3 ?_
  refine QSeq.pure rfl (.int .i64 x.ix) (fun E=>Af rfl B9 rfl (E.d 1 0) (AD HB3.o HLN.o 13 rfl (o:=212) (k:=0) rfl rfl rfl)) ?_
  refine QSeq.call rfl rfl E6 (B3 c6.out HOK.o.ix aF) (fun E=>Ar (E.d 0 2) (E.d 2 0)) ?_
  rintro e c8 ⟨rfl,qwr,hm⟩
  refine ⟨_,rfl,?_⟩
  have n7:=hid (qwr.widen (R':=(fun k=>(R k)∨(New w1 c8 k))) (fun _ h=>h) (C0 _))
  have ah:=hm.size
  have n8:=hid (show Mod (fun k=>(R k)) w1 c8 from hm)
  clear hm
  clear qwr c6
  refine qe ?_
  clear HA0 c4 c3 a0
  go_upto_region 21 with (fail)
  refine Ab 120 [67,68,69,70] [0,1,2,3] (fun a0 HA0=>?_)
  have c4:=ev HA0 0 rfl
  have c3:=ev HA0 3 rfl
  refine qmo rfl c4 ?_
  refine qfd rfl 213 C1 c3 ?_
  refine QSeq.pure rfl _ (fun E=>Ak rfl Tryz.underlying51 rfl (off:=213) (cs:=(x.en.cells)) (by rw [En.len HOK.o.en];kernel_rfl) (E.d 1 0) (Cs.seg (HB3.o.mod n8.out aH) HLN.o 14 rfl rfl)) ?_
  refine QSeq.call rfl rfl Tryz.func104 (PutEn_Q _ (fun _=>False) _ _ _ x.en _ n7.out dT ⟨rfl,HOK.o.en⟩ iC iB aF) (fun E=>Ar (E.d 0 2) (E.d 2 0)) ?_
  rintro e j3 ⟨rfl,qwr,hm⟩
  refine ⟨_,rfl,?_⟩
  have u7:=hid (qwr.widen (R':=(fun k=>(R k)∨(New w1 c8 k)∨(New c8 j3 k))) aP (C0 _))
  have aj:=hm.size
  have u9:=hid (show Mod (fun k=>(R k)∨(New w1 c8 k)) c8 j3 from hm)
  clear hm
  clear qwr n7
  refine qe ?_
  clear HA0 c4 c3 a0
  go_upto_region 34 with (fail)
  refine Ab 120 [4] [0] (fun a0 HA0=>?_)
  refine QSeq.pure rfl (.bool true) (fun E=>An rfl rfl) ?_
  refine qe ?_
  clear HA0 a0
  go_wp2
  go_ret
  have hq:=(u7.out.widen (R':=(fun k=>R k∨New w j3 k)) dU (C0 _))
  (try simp only [C2] at hq)
  exact ⟨by rw [HQ.o];rfl,by rw [HE.o];simpa only [C2] using hq,((HM0.o.trans n8.out iA).trans u9.out aC)⟩
 have K9:=B8 h9
 clear h9
 go_upto_region 19 with (fail)
 refine tst 120 B9 (Bk K9.o) rfl (qs ?_)
 by_cases h10:x.kd=10
 ·have K10:=B8 h10
  clear h10
  go_upto_region 22 with (fail)
  refine tst 120 B9 (Bj K10.o) rfl (qs ?_)
  have HE:=hid (show A3 x=opB x.op by unfold A3;rw [K10.o];rfl)
  rw [HE.o] at HL
  have HQ:=hid (show okKd x.kd=true by rw [K10.o];rfl)
  go_upto_region 23 with (fail)
  refine Ab 120 [73,74,75,76] [0,1,2,3] (fun a0 HA0=>?_)
  have c4:=ev HA0 0 rfl
  have c3:=ev HA0 3 rfl
  refine qmo rfl c4 ?_
  refine qfd rfl 248 C1 c3 ?_
  refine QSeq.pure rfl _ (fun E=>Ak rfl Tryz.underlying54 rfl (off:=248) (cs:=(c15)) (by rw [HC15.o];kernel_rfl) (E.d 1 0) (Cs.seg HB3.o HLN.o 15 rfl rfl)) ?_
  refine QSeq.call rfl rfl Tryz.func105 (PutOp_Q _ R2 _ _ _ x.op _ c6.out aK r6.out aU bR aF) (fun E=>Ar (E.d 0 2) (E.d 2 0)) ?_
  rintro e j4 ⟨rfl,qwr,hm⟩
  refine ⟨_,rfl,?_⟩
  have v5:=hid (qwr.widen (R':=(fun k=>(R k)∨(New w1 j4 k))) (fun _ h=>h) (C0 _))
  have am:=hm.size
  have v6:=hid (show Mod (fun k=>(R k)) w1 j4 from hm)
  clear hm
  clear qwr c6
  refine qe ?_
  clear HA0 c4 c3 a0
  go_upto_region 34 with (fail)
  refine Ab 120 [4] [0] (fun a0 HA0=>?_)
  refine QSeq.pure rfl (.bool true) (fun E=>An rfl rfl) ?_
  refine qe ?_
  clear HA0 a0
  go_wp2
  go_ret
  have hq:=(v5.out.widen (R':=(fun k=>R k∨New w j4 k)) aI (C0 _))
  (try simp only [C2] at hq)
  exact ⟨by rw [HQ.o];rfl,by rw [HE.o];simpa only [C2] using hq,(HM0.o.trans v6.out iA)⟩
 have K10:=B8 h10
 clear h10
 go_upto_region 22 with (fail)
 refine tst 120 B9 (Bk K10.o) rfl (qs ?_)
 by_cases h11:x.kd=11
 ·have K11:=B8 h11
  clear h11
  go_upto_region 24 with (fail)
  refine tst 120 B9 (Bj K11.o) rfl (qs ?_)
  have HE:=hid (show A3 x=encI x.ix by unfold A3;rw [K11.o];rfl)
  rw [HE.o] at HL
  have HQ:=hid (show okKd x.kd=true by rw [K11.o];rfl)
  go_upto_region 25 with (fail)
  refine Ab 120 [79,80,81,82] [0,1,2,3] (fun a0 HA0=>?_)
  have c4:=ev HA0 0 rfl
  have c3:=ev HA0 3 rfl
  refine qmo rfl c4 ?_
  refine qfd rfl 212 C1 c3 ?_
  refine QSeq.pure rfl (.int .i64 x.ix) (fun E=>Af rfl B9 rfl (E.d 1 0) (AD HB3.o HLN.o 13 rfl (o:=212) (k:=0) rfl rfl rfl)) ?_
  refine QSeq.call rfl rfl E6 (B3 c6.out HOK.o.ix aF) (fun E=>Ar (E.d 0 2) (E.d 2 0)) ?_
  rintro e j5 ⟨rfl,qwr,hm⟩
  refine ⟨_,rfl,?_⟩
  have v7:=hid (qwr.widen (R':=(fun k=>(R k)∨(New w1 j5 k))) (fun _ h=>h) (C0 _))
  have ap:=hm.size
  have v8:=hid (show Mod (fun k=>(R k)) w1 j5 from hm)
  clear hm
  clear qwr c6
  refine qe ?_
  clear HA0 c4 c3 a0
  go_upto_region 34 with (fail)
  refine Ab 120 [4] [0] (fun a0 HA0=>?_)
  refine QSeq.pure rfl (.bool true) (fun E=>An rfl rfl) ?_
  refine qe ?_
  clear HA0 a0
  go_wp2
  go_ret
  have hq:=(v7.out.widen (R':=(fun k=>R k∨New w j5 k)) aI (C0 _))
  (try simp only [C2] at hq)
  exact ⟨by rw [HQ.o];rfl,by rw [HE.o];simpa only [C2] using hq,(HM0.o.trans v8.out iA)⟩
 have K11:=B8 h11
 clear h11
 go_upto_region 24 with (fail)
 refine tst 120 B9 (Bk K11.o) rfl (qs ?_)
 by_cases h12:x.kd=12
 ·have K12:=B8 h12
  clear h12
  go_upto_region 26 with (fail)
  refine tst 120 B9 (Bj K12.o) rfl (qs ?_)
  have HE:=hid (show A3 x=dnB x.dn by unfold A3;rw [K12.o];rfl)
  rw [HE.o] at HL
  have HQ:=hid (show okKd x.kd=true by rw [K12.o];rfl)
  go_upto_region 27 with (fail)
  refine Ab 120 [85,86,87,88] [0,1,2,3] (fun a0 HA0=>?_)
  have c4:=ev HA0 0 rfl
  have c3:=ev HA0 3 rfl
  refine qmo rfl c4 ?_
  refine qfd rfl 282 C1 c3 ?_
  refine QSeq.pure rfl _ (fun E=>Ak rfl Tryz.underlying56 rfl (off:=282) (cs:=(x.dn.cells)) aE (E.d 1 0) (Cs.seg HB3.o HLN.o 16 rfl rfl)) ?_
  refine QSeq.call rfl rfl Tryz.func106 (PutDn_Q _ (fun _=>False) _ _ _ x.dn _ c6.out aK ⟨rfl,HOK.o.dn⟩ iC iB aF) (fun E=>Ar (E.d 0 2) (E.d 2 0)) ?_
  rintro e j6 ⟨rfl,qwr,hm⟩
  refine ⟨_,rfl,?_⟩
  have x4:=hid (qwr.widen (R':=(fun k=>(R k)∨(New w1 j6 k))) (fun _ h=>h) (C0 _))
  have aq:=hm.size
  have x5:=hid (show Mod (fun k=>(R k)) w1 j6 from hm)
  clear hm
  clear qwr c6
  refine qe ?_
  clear HA0 c4 c3 a0
  go_upto_region 34 with (fail)
  refine Ab 120 [4] [0] (fun a0 HA0=>?_)
  refine QSeq.pure rfl (.bool true) (fun E=>An rfl rfl) ?_
  refine qe ?_
  clear HA0 a0
  go_wp2
  go_ret
  have hq:=(x4.out.widen (R':=(fun k=>R k∨New w j6 k)) aI (C0 _))
  (try simp only [C2] at hq)
  exact ⟨by rw [HQ.o];rfl,by rw [HE.o];simpa only [C2] using hq,(HM0.o.trans x5.out iA)⟩
 have K12:=B8 h12
 clear h12
 go_upto_region 26 with (fail)
 refine tst 120 B9 (Bk K12.o) rfl (qs ?_)
 by_cases h13:x.kd=13
 ·have K13:=B8 h13
  clear h13
  go_upto_region 28 with (fail)
  refine tst 120 B9 (Bj K13.o) rfl (qs ?_)
  have HE:=hid (show A3 x=encI x.ix ++ (encN (Bd x.rp).length ++ Bd x.rp) by unfold A3;rw [K13.o];rfl)
  rw [HE.o] at HL
  have HQ:=hid (show okKd x.kd=true by rw [K13.o];rfl)
  go_upto_region 29 with (fail)
  generalize ha0:Act.mk _ _=a0
  have c4:a0.eval (.tmp 0)=.pointer (some ⟨g,0,none⟩):=by rw [← ha0];rfl
  have c3:a0.eval (.tmp 3)=.pointer (some ⟨w.heap.size,0,none⟩):=by rw [← ha0];rfl
  have hsz0:a0.tmps.size=120:=by rw [← ha0];rfl
  have HA0:=hid ha0
  clear ha0
  refine Bc 120 hsz0 [91,92,93,94,95,96,97,98] (fun k=>(R k)) (fun k j=>(k=0∧((R j)))∨(k=1∧((R j)))) cL [qi (.pointer (some ⟨g,0,none⟩)),qi (.pointer (some ⟨w.heap.size,212,none⟩)),qi (.int .i64 x.ix),qi (.pointer (some ⟨g,0,none⟩)),qi (.pointer (some ⟨w.heap.size,286,none⟩)),qi (.string x.rp),qr w1.heap.size (fun j=>R j) (fun R w v=>RdR R 1000000 w v (Bd x.rp)),qi (.pointer (some ⟨g,0,none⟩))] ⟨Ac,Ac,Ac,Ac,Ac,Ac,(qr_stable rdR_cells),Ac,trivial⟩ [3,7] ⟨?_,?_,?_,?_,?_,?_,?_,?_,trivial⟩ ?_
  ·exact stq (fun E=>Al rfl (E.v c4))
  ·exact stq (fun E=>Ae rfl C1 rfl aE (E.v c3))
  ·exact stq (fun E=>Af rfl B9 rfl (E.d 1) (AD (HB3.o.mod E.m aN) HLN.o 13 rfl (o:=212) (k:=0) rfl rfl rfl))
  ·exact Ad rfl
  ·exact stq (fun E=>Ae rfl C1 rfl aE (E.v c3))
  ·exact stq (fun E=>Af rfl Tryz.underlying9 rfl (E.d 4) (AD (HB3.o.mod E.m aN) HLN.o 17 rfl (o:=286) (k:=0) rfl rfl rfl))
  ·refine Ay rfl rfl rfl fun _ _ _ _ hZ hm _ _ _ hd _ _=>?_
   have h5:=hd ⟨5,.data⟩ bA rfl _ rfl
   exact qe_strB rfl (Aa rfl) rfl h5 (by have:=HL.o;simp only [C3] at this;rw [← bytesOf_len];omega) (by have:=hm.size;omega) (fun j hj=>(hZ j hj).2) iA
  ·exact Ad rfl
  intro o5 hr
  have ar:=hr.size
  have o6:=hid (hr.new (S:=(fun k=>(R k))))
  have o7:=hid (c6.out.mod hr aO)
  clear c6
  clear hr
  refine QChain.go fun Z act E=>?_
  refine Aj (args:=#[.pointer (some ⟨g,0,none⟩),.int .i64 x.ix]) rfl (Aa rfl) rfl E6 (Ar (E.d 0) (E.d 2)) (B3 o7.out HOK.o.ix aF) ?_
  rintro e o8 ⟨rfl,qwr,hm⟩
  have au:=hm.size
  refine ⟨_,rfl,hm.mono aW,(fun _=>rfl),?_⟩
  intro x6 hr
  have av:=hr.size
  have o9:=hid ((qwr.widen (R':=(fun k=>(R k)∨(New o5 o8 k))) (fun _ h=>h) (C0 _)).mod hr bH)
  have p5:=hid (o6.out.goM hm hr iA)
  clear o6 hm hr Z act E qwr o7
  refine QChain.go fun Z act E=>?_
  have h6q:qr w1.heap.size (fun j=>R j) (fun R w v=>RdR R 1000000 w v (Bd x.rp)) Z ([] ++ [.pointer (some ⟨g,0,none⟩)]) (act.eval (.tmp 97)) _:=E.d 6
  obtain ⟨R2q,hR2,hrd2⟩:=h6q
  refine Aj (args:=#[.pointer (some ⟨g,0,none⟩),act.eval (.tmp 97)]) rfl (Aa rfl) rfl Tryz.func107 (Ar (E.d 3) rfl) (WRow_Q o9.out hrd2 (by intro k h1 h2;have hr2:=hR2 k h1;rcases h2 with h2|h2<;>first|exact hr2.2.1 ⟨(by have hb:=HBR.o k h2;omega),h2⟩|exact hr2.2.2 ⟨by omega,E.YZ k (by (try dsimp only);omega)⟩) aF) ?_
  rintro e x7 ⟨rfl,qwr,hm⟩
  have aw:=hm.size
  refine ⟨_,rfl,hm.mono cN,(fun _=>rfl),?_⟩
  intro x8 hr
  have ax:=hr.size
  have x9:=hid ((qwr.widen (R':=(fun k=>(R k)∨(New o5 o8 k)∨(New x6 x7 k))) aP (C0 _)).mod hr bG)
  have y0:=hid (p5.out.goM hm hr bY)
  clear p5 hm hr qwr o9
  refine QChain.nil fun vs hl hzz hrows hne=>?_
  obtain ⟨Z,hYZ,hZb,hV⟩:=hzz
  have f0:=fvi hV hl 0
  have f3:=fvi hV hl 3
  have f7:=fvi hV hl 7
  rw [show vs=[gw vs 0,gw vs 1,gw vs 2,gw vs 3,gw vs 4,gw vs 5,gw vs 6,gw vs 7] from (Bi hl).trans rfl]
  have ha0:=HA0.o
  subst ha0
  clear HA0 hV hYZ hZb hsz0 hrows hne c4 c3
  simp only [Au,Act.put,sIB,sCZ,sCS,f0,f3,f7]
  clear hl f0 f3 f7
  go_upto_region 34 with (fail)
  refine Ab 120 [4] [0] (fun a0 HA0=>?_)
  refine QSeq.pure rfl (.bool true) (fun E=>An rfl rfl) ?_
  refine qe ?_
  clear HA0 a0
  go_wp2
  go_ret
  have hq:=(x9.out.widen (R':=(fun k=>R k∨New w x8 k)) dU (C0 _))
  (try simp only [C2] at hq)
  exact ⟨by rw [HQ.o];rfl,by rw [HE.o];simpa only [C2] using hq,(HM0.o.trans y0.out iA)⟩
 have K13:=B8 h13
 clear h13
 go_upto_region 28 with (fail)
 refine tst 120 B9 (Bk K13.o) rfl (qs ?_)
 by_cases h14:x.kd=14
 ·have K14:=B8 h14
  clear h14
  go_upto_region 30 with (fail)
  refine tst 120 B9 (Bj K14.o) rfl (qs ?_)
  have HE:=hid (show A3 x=encI x.dc.ep ++ encI x.dc.rn ++ baB x.dc.ba ++ listB vtB x.dc.l by unfold A3;rw [K14.o];rfl)
  rw [HE.o] at HL
  have HQ:=hid (show okKd x.kd=true by rw [K14.o];rfl)
  go_upto_region 31 with (fail)
  generalize ha0:Act.mk _ _=a0
  have c4:a0.eval (.tmp 0)=.pointer (some ⟨g,0,none⟩):=by rw [← ha0];rfl
  have c3:a0.eval (.tmp 3)=.pointer (some ⟨w.heap.size,0,none⟩):=by rw [← ha0];rfl
  have hsz0:a0.tmps.size=120:=by rw [← ha0];rfl
  have HA0:=hid ha0
  clear ha0
  refine Bc 120 hsz0 [101,102,103,104,105,106,107,108,109] (fun k=>(R k)) (fun k j=>(k=0∧((R j)))∨(k=1∧((R j)))) cL [qi (.pointer (some ⟨g,0,none⟩)),qi (.pointer (some ⟨w.heap.size,287,none⟩)),qi (.pointer (some ⟨w.heap.size,287,none⟩)),qi (.int .i64 x.dc.ep),qi (.pointer (some ⟨g,0,none⟩)),qi (.pointer (some ⟨w.heap.size,287,none⟩)),qi (.pointer (some ⟨w.heap.size,288,none⟩)),qi (.int .i64 x.dc.rn),qi (.pointer (some ⟨g,0,none⟩))] ⟨Ac,Ac,Ac,Ac,Ac,Ac,Ac,Ac,Ac,trivial⟩ [4,8] ⟨?_,?_,?_,?_,?_,?_,?_,?_,?_,trivial⟩ ?_
  ·exact stq (fun E=>Al rfl (E.v c4))
  ·exact stq (fun E=>Ae rfl C1 rfl aE (E.v c3))
  ·exact stq (fun E=>Ae rfl D9 rfl aE (E.d 1))
  ·exact stq (fun E=>Af rfl B9 rfl (E.d 2) (AD (HB3.o.mod E.m aN) HLN.o 18 rfl (o:=287) (k:=0) rfl rfl rfl))
  ·exact Ad rfl
  ·exact stq (fun E=>Ae rfl C1 rfl aE (E.v c3))
  ·exact stq (fun E=>Ae rfl D9 rfl aE (E.d 5))
  ·exact stq (fun E=>Af rfl B9 rfl (E.d 6) (AD (HB3.o.mod E.m aN) HLN.o 18 rfl (o:=287) (k:=1) rfl rfl rfl))
  ·exact Ad rfl
  intro c9 hr
  have ay:=hr.size
  have p6:=hid (hr.new (S:=(fun k=>(R k))))
  have p7:=hid (c6.out.mod hr aO)
  clear c6
  clear hr
  refine QChain.go fun Z act E=>?_
  refine Aj (args:=#[.pointer (some ⟨g,0,none⟩),.int .i64 x.dc.ep]) rfl (Aa rfl) rfl E6 (Ar (E.d 0) (E.d 3)) (B3 p7.out HOD.o.1 aF) ?_
  rintro e d5 ⟨rfl,qwr,hm⟩
  have az:=hm.size
  refine ⟨_,rfl,hm.mono aW,(fun _=>rfl),?_⟩
  intro d7 hr
  have bb:=hr.size
  have p8:=hid ((qwr.widen (R':=(fun k=>(R k)∨(New c9 d5 k))) (fun _ h=>h) (C0 _)).mod hr bH)
  have p9:=hid (p6.out.goM hm hr iA)
  clear p6 hm hr Z act E qwr p7
  refine QChain.go fun Z act E=>?_
  refine Aj (args:=#[.pointer (some ⟨g,0,none⟩),.int .i64 x.dc.rn]) rfl (Aa rfl) rfl E6 (Ar (E.d 4) (E.d 7)) (B3 p8.out HOD.o.2.1 aF) ?_
  rintro e d8 ⟨rfl,qwr,hm⟩
  have bc:=hm.size
  refine ⟨_,rfl,hm.mono cN,(fun _=>rfl),?_⟩
  intro d9 hr
  have bf:=hr.size
  have q6:=hid ((qwr.widen (R':=(fun k=>(R k)∨(New c9 d5 k)∨(New d7 d8 k))) aP (C0 _)).mod hr bG)
  have c7:=hid (p9.out.goM hm hr bY)
  clear p9 hm hr Z act E qwr p8
  refine QChain.nil fun vs hl hzz hrows hne=>?_
  obtain ⟨Z,hYZ,hZb,hV⟩:=hzz
  have f0:=fvi hV hl 0
  have f4:=fvi hV hl 4
  have f8:=fvi hV hl 8
  rw [show vs=[gw vs 0,gw vs 1,gw vs 2,gw vs 3,gw vs 4,gw vs 5,gw vs 6,gw vs 7,gw vs 8] from (Bi hl).trans rfl]
  have ha0:=HA0.o
  subst ha0
  clear HA0 hV hYZ hZb hsz0 hrows hne c4 c3
  simp only [Au,Act.put,sIB,sCZ,sCS,f0,f4,f8]
  clear hl f0 f4 f8
  go_upto_region 32 with (fail)
  refine Ab 120 [110,111,112,113,114] [0,1,2,3,4] (fun a0 HA0=>?_)
  have c4:=ev HA0 0 rfl
  have c3:=ev HA0 3 rfl
  refine qmo rfl c4 ?_
  refine qfd rfl 287 C1 c3 ?_
  refine QSeq.pure rfl (.pointer (some ⟨w.heap.size,289,none⟩)) (fun E=>Ae rfl D9 rfl aE (E.d 1 0)) ?_
  refine QSeq.pure rfl _ (fun E=>Ak rfl C7 rfl (off:=289) (cs:=[.int .i64 x.dc.ba.ep,.int .u64 (x.dc.ba.tm:Nat),d_ps,d_os,d_ts]) aE (E.d 2 0) (Cs.segA (HB3.o.mod c7.out aH) HLN.o 18 rfl (o:=287) (k:=2) rfl rfl rfl)) ?_
  refine QSeq.call rfl rfl Tryz.func108 (PutBa_Q _ R2 _ _ _ x.dc.ba _ q6.out eR ⟨_,_,_,rfl,HOD.o.2.2,(r7.out.mod c7.out aJ),(r8.out.mod c7.out aJ),(Hx8.o.mod c7.out aJ)⟩ aU dZ aF) (fun E=>Ar (E.d 0 3) (E.d 3 0)) ?_
  rintro e d6 ⟨rfl,qwr,hm⟩
  refine ⟨_,rfl,?_⟩
  have q7:=hid (qwr.widen (R':=(fun k=>(R k)∨(New c9 d5 k)∨(New d7 d8 k)∨(New d9 d6 k))) aP (C0 _))
  have bg:=hm.size
  have j7:=hid (show Mod (fun k=>(R k)∨(New c9 d5 k)∨(New d7 d8 k)) d9 d6 from hm)
  clear hm
  clear qwr q6
  refine qe ?_
  clear HA0 c4 c3 a0
  go_upto_region 33 with (fail)
  refine Ab 120 [115,116,117,118,119] [0,1,2,3,4] (fun a0 HA0=>?_)
  have c4:=ev HA0 0 rfl
  have c3:=ev HA0 3 rfl
  refine qmo rfl c4 ?_
  refine qfd rfl 287 C1 c3 ?_
  refine QSeq.pure rfl (.pointer (some ⟨w.heap.size,294,none⟩)) (fun E=>Ae rfl D9 rfl aE (E.d 1 0)) ?_
  refine QSeq.pure rfl (d_l) (fun E=>Af rfl Tryz.underlying57 rfl (E.d 2 0) (AD ((HB3.o.mod c7.out aH).mod j7.out bP) HLN.o 18 rfl (o:=287) (k:=7) rfl rfl rfl)) ?_
  refine QSeq.call rfl rfl Tryz.func109 (PutList_Vt _ _ _ _ _ _ _ q7.out dH ((Hx9.o.mod c7.out aJ).mod j7.out cB) aU cA aF) (fun E=>args3 (E.d 0 3) (E.d 3 0) rfl) ?_
  rintro e j8 ⟨rfl,qwr,hm⟩
  refine ⟨_,rfl,?_⟩
  have y5:=hid (qwr.widen (R':=(fun k=>(R k)∨(New c9 d5 k)∨(New d7 d8 k)∨(New d9 d6 k)∨(New d6 j8 k))) aP (C0 _))
  have bh:=hm.size
  have y6:=hid (show Mod (fun k=>(R k)∨(New c9 d5 k)∨(New d7 d8 k)∨(New d9 d6 k)) d6 j8 from hm)
  clear hm
  clear qwr q7
  refine qe ?_
  clear HA0 c4 c3 a0
  go_upto_region 34 with (fail)
  refine Ab 120 [4] [0] (fun a0 HA0=>?_)
  refine QSeq.pure rfl (.bool true) (fun E=>An rfl rfl) ?_
  refine qe ?_
  clear HA0 a0
  go_wp2
  go_ret
  have hq:=(y5.out.widen (R':=(fun k=>R k∨New w j8 k)) hX (C0 _))
  (try simp only [C2] at hq)
  exact ⟨by rw [HQ.o];rfl,by rw [HE.o];simpa only [C2] using hq,(((HM0.o.trans c7.out iA).trans j7.out bJ).trans y6.out cU)⟩
 have K14:=B8 h14
 clear h14
 go_upto_region 30 with (fail)
 refine tst 120 B9 (Bk K14.o) rfl (qs ?_)
 go_upto_region 2 with (fail)
 refine Ab 120 [4] [0] (fun a0 HA0=>?_)
 refine QSeq.pure rfl (.bool false) (fun E=>An rfl rfl) ?_
 refine qe ?_
 clear HA0 a0
 have HE:=hid (show A3 x=[] by unfold A3;rw [if_neg K1.o,if_neg K2.o,if_neg K3.o,if_neg K4.o,if_neg K5.o,if_neg K6.o,if_neg K7.o,if_neg K8.o,if_neg K9.o,if_neg K10.o,if_neg K11.o,if_neg K12.o,if_neg K13.o,if_neg K14.o])
 have HQ:=hid (show okKd x.kd=false by unfold okKd;rw [decide_eq_false_iff_not];have k1:=K1.o;have k2:=K2.o;have k3:=K3.o;have k4:=K4.o;have k5:=K5.o;have k6:=K6.o;have k7:=K7.o;have k8:=K8.o;have k9:=K9.o;have k10:=K10.o;have k11:=K11.o;have k12:=K12.o;have k13:=K13.o;have k14:=K14.o;omega)
 skip
 go_wp2
 go_ret
 exact ⟨by rw [HQ.o];rfl,by rw [HE.o,List.append_nil];exact (c6.out.widen (R':=(fun k=>R k∨New w w1 k)) iD (C0 _)),HM0.o⟩
theorem callsB {P:Program} {F:FuncId} {args:Array Value} {w:World} {b c:Bool} {Q:World→Prop} (h:b=c) (hc:Calls P F args w fun e w'=>e=.returned (.bool b)∧Q w'):Calls P F args w fun e w'=>e=.returned (.bool c)∧Q w':=h▸hc
set_option maxHeartbeats 4000000 in
theorem Pack_Q:∀ (R2:Nat→Prop) (cs:List Value) (x:Mg) (w:World),MgR.rd R2 w cs x→(∀ k,R2 k→k < w.heap.size)→(Bg x).length≤900000→
 Calls Tryz.prog 16 #[.agg cs.toArray] w fun e w'=>∃ v,e=.returned (.tuple #[v,.bool (packs x)])∧OwR (New w w') 900000 w' v (if packs x=true then Bg x else [])∧Mod (fun _=>False) w w':=by
 intro R2 cs x w hx hB2 hl
 obtain ⟨RB,hRB⟩:∃ z,z=(if packs x=true then Bg x else []):=⟨_,rfl⟩
 rw [← hRB]
 obtain ⟨pk,hpk⟩:∃ z,z=packs x:=⟨_,rfl⟩
 rw [← hpk]
 have HRB:=B8 hRB
 have HPK:=B8 hpk
 clear hRB hpk
 have HRD:=B8 hx
 obtain ⟨c5,c10,c11,c15,c18,rfl,hok,h5,h10,h11,h15,h18⟩:=hx
 have HLN:=hid (Mg.lns hok h5 h10 h11 h15 h18)
 have HCL:=hid (MgR.len HRD.o)
 have HOK:=B8 hok
 clear hok h5 h10 h11 h15 h18
 have HBT:=B8 hB2
 have HL:=hid (show ([] ++ encI x.kd ++ encI x.fr ++ encI x.to ++ A3 x).length≤900000 by simpa only [Bg,List.nil_append,C2] using hl)
 clear hB2 hl
 go_enter Tryz.func16,Tryz.ntmps16
 go_upto_region 1 with (fail)
 obtain ⟨w1,hw1⟩:∃ zz,zz=(w.alloc (.cells ((x.segs c5 c10 c11 c15 c18).flatten:List Value).toArray 61)):=⟨_,rfl⟩
 change Code.wp _ _ _ _ (w.alloc (.cells ((x.segs c5 c10 c11 c15 c18).flatten:List Value).toArray 61))
 rw [← hw1]
 have HB1:=hid (show Cs w1 (w.heap.size) ((x.segs c5 c10 c11 c15 c18).flatten:List Value).toArray 61 by rw [hw1];exact Cs.new _ _ _)
 have hm:Mod (fun _=>False) w w1:=by rw [hw1];exact (Mod.refl _ _).alloc _
 have HM0:=hid (show Mod (fun _=>False) w w1 from hm.mono iB)
 have hs1:w1.heap.size=w.heap.size+1:=by rw [hw1];simp
 have g8:=hid (HRD.o.mod hm iA)
 clear HRD
 clear hw1 hm
 go_upto_region 1 with (fail)
 generalize ha0:Act.mk _ _=a0
 have c3:a0.eval (.tmp 1)=.pointer (some ⟨w.heap.size,0,none⟩):=by rw [← ha0];rfl
 have hsz0:a0.tmps.size=26:=by rw [← ha0];rfl
 have HA0:=hid ha0
 clear ha0
 refine A7 26 hsz0 [6,7,8,9,10,11,12,13,14,15,4] [qv 0,qi (.pointer (some ⟨w.heap.size,0,none⟩)),qi (.int .i64 x.kd),qv 1,qi (.pointer (some ⟨w.heap.size,1,none⟩)),qi (.int .i64 x.fr),qv 2,qi (.pointer (some ⟨w.heap.size,2,none⟩)),qi (.int .i64 x.to),qv 3,qv 3] ⟨Ah,Ac,Ac,Ah,Ac,Ac,Ah,Ac,Ac,Ah,Ah,trivial⟩ [0,3,6,9] ⟨?_,?_,?_,?_,?_,?_,?_,?_,?_,?_,?_,trivial⟩ ?_
 ·exact Ad rfl
 ·exact stq (fun E=>Ae rfl C1 rfl aE (E.v c3))
 ·exact stq (fun E=>Af rfl B9 rfl (E.d 1) (AD (HB1.o.mod E.m.old aG) HLN.o 0 rfl (o:=0) (k:=0) rfl rfl rfl))
 ·exact Ad rfl
 ·exact stq (fun E=>Ae rfl C1 rfl aE (E.v c3))
 ·exact stq (fun E=>Af rfl B9 rfl (E.d 4) (AD (HB1.o.mod E.m.old aG) HLN.o 1 rfl (o:=1) (k:=0) rfl rfl rfl))
 ·exact Ad rfl
 ·exact stq (fun E=>Ae rfl C1 rfl aE (E.v c3))
 ·exact stq (fun E=>Af rfl B9 rfl (E.d 7) (AD (HB1.o.mod E.m.old aG) HLN.o 2 rfl (o:=2) (k:=0) rfl rfl rfl))
 ·exact Ad rfl
 ·refine Ay rfl rfl rfl fun _ _ _ _ _ _ _ _ _ hd _ _=>?_
  have h9:=hd ⟨9,.data⟩ bA rfl _ rfl
  exact Bl rfl (Aa rfl) (An rfl rfl) QE.refl h9
 intro c4 hr
 have m7:=hr.size
 have g9:=hid (hr.new (S:=(fun _=>False)))
 clear hr
 refine QChain.go fun Z act E=>?_
 refine Aj (args:=#[]) rfl (Aa rfl) rfl Tryz.func66 args0 (NewWriter_Q _) ?_
 rintro e c6 ⟨g,rfl,qwr,hm⟩
 have m8:=hm.size
 refine ⟨_,rfl,hm.mono iB,(fun _=>rfl),?_⟩
 intro c9 hr
 have m9:=hr.size
 have i7:=hid ((qwr.widen (R':=(fun k=>(New c4 c6 k))) (fun _ h=>h) (C0 _)).mod hr aD)
 have i8:=hid (g9.out.go hm hr)
 clear g9 hm hr Z act E qwr
 refine QChain.go fun Z act E=>?_
 refine Aj (args:=#[.pointer (some ⟨g,0,none⟩),.int .i64 x.kd]) rfl (Aa rfl) rfl E6 (Ar (chv (v:=.pointer (some ⟨g,0,none⟩)) (E.d 0)) (E.d 2)) (B3 i7.out HOK.o.kd aF) ?_
 rintro e d5 ⟨rfl,qwr,hm⟩
 have n5:=hm.size
 refine ⟨_,rfl,hm.mono cG,(fun _=>rfl),?_⟩
 intro d7 hr
 have n6:=hr.size
 have i9:=hid ((qwr.widen (R':=(fun k=>(New c4 c6 k)∨(New c9 d5 k))) (fun _ h=>h) (C0 _)).mod hr aD)
 have j0:=hid (i8.out.goM hm hr cQ)
 clear i8 hm hr Z act E qwr i7
 refine QChain.go fun Z act E=>?_
 refine Aj (args:=#[.pointer (some ⟨g,0,none⟩),.int .i64 x.fr]) rfl (Aa rfl) rfl E6 (Ar (chv (v:=.pointer (some ⟨g,0,none⟩)) (E.d 3)) (E.d 5)) (B3 i9.out HOK.o.fr aF) ?_
 rintro e d8 ⟨rfl,qwr,hm⟩
 have n7:=hm.size
 refine ⟨_,rfl,hm.mono cG,(fun _=>rfl),?_⟩
 intro g5 hr
 have n8:=hr.size
 have j3:=hid ((qwr.widen (R':=(fun k=>(New c4 c6 k)∨(New c9 d5 k)∨(New d7 d8 k))) bB (C0 _)).mod hr aD)
 have j4:=hid (j0.out.goM hm hr cQ)
 clear j0 hm hr Z act E qwr i9
 refine QChain.go fun Z act E=>?_
 refine Aj (args:=#[.pointer (some ⟨g,0,none⟩),.int .i64 x.to]) rfl (Aa rfl) rfl E6 (Ar (chv (v:=.pointer (some ⟨g,0,none⟩)) (E.d 6)) (E.d 8)) (B3 j3.out HOK.o.to aF) ?_
 rintro e g6 ⟨rfl,qwr,hm⟩
 have o5:=hm.size
 refine ⟨_,rfl,hm.mono cG,(fun _=>rfl),?_⟩
 intro g7 hr
 have o6:=hr.size
 have Hx9:=hid ((qwr.widen (R':=(fun k=>(New c4 c6 k)∨(New c9 d5 k)∨(New d7 d8 k)∨(New g5 g6 k))) bB (C0 _)).mod hr aD)
 have d6:=hid (j4.out.goM hm hr cQ)
 clear j4 hm hr Z act E qwr j3
 refine QChain.nil fun vs hl hzz hrows hne=>?_
 obtain ⟨Z,hYZ,hZb,hV⟩:=hzz
 have f0:=fvc hV hl 0
 have f3:=fvc hV hl 3
 have f6:=fvc hV hl 6
 have f9:=fvc hV hl 9
 have f10:=fvc hV hl 10
 rw [show vs=[gw vs 0,gw vs 1,gw vs 2,gw vs 3,gw vs 4,gw vs 5,gw vs 6,gw vs 7,gw vs 8,gw vs 9,gw vs 10] from (Bi hl).trans rfl]
 have ha0:=HA0.o
 subst ha0
 clear HA0 hV hYZ hZb hsz0 hrows hne c3
 simp only [Au,Act.put,sIB,sCZ,sCS,f0,f3,f6,f9,f10]
 clear hl f0 f3 f6 f9 f10
 by_cases hk:okKd x.kd=true
 ·have HK:=B8 hk
  clear hk
  go_upto_region 2 with (fail)
  refine Ab 26 [16,17,18,19] [0,1,2,3] (fun a0 HA0=>?_)
  have c3:=ev HA0 1 rfl
  have c7:=ev HA0 4 rfl
  refine qmo rfl c7 ?_
  refine QSeq.pure rfl _ (fun E=>Ak rfl C1 rfl (off:=0) (cs:=((x.segs c5 c10 c11 c15 c18).flatten)) eS (E.v c3) (Cs.whole (HB1.o.mod d6.out (fun h=>h)))) ?_
  refine QSeq.call rfl rfl Tryz.func68 (callsB HK.o (put_Q _ R2 _ _ _ x _ Hx9.o bB (g8.out.mod d6.out iA) aU (by intro k h1 h2;have hb:=HBT.o k h2;omega) aF)) (fun E=>Ar (E.d 0 1) (E.d 1 0)) ?_
  rintro e d9 ⟨rfl,qwr,hm⟩
  refine ⟨_,rfl,?_⟩
  have j8:=hid (qwr.widen (R':=(fun k=>(New c4 c6 k)∨(New c9 d5 k)∨(New d7 d8 k)∨(New g5 g6 k)∨(New g7 d9 k))) bB (C0 _))
  have j9:=hm.size
  have j5:=hid (show Mod (fun k=>(New c4 c6 k)∨(New c9 d5 k)∨(New d7 d8 k)∨(New g5 g6 k)) g7 d9 from hm)
  clear hm
  clear qwr Hx9
  refine QSeq.pure rfl (.bool false) (fun E=>B1 rfl (E.d 2 0)) ?_
  refine qe ?_
  clear HA0 c3 c7 a0
  go_upto_region 4 with (fail)
  refine Ab 26 [20,21,5] [0,1,2] (fun a0 HA0=>?_)
  have c7:=ev HA0 4 rfl
  refine qmo rfl c7 ?_
  refine QSeq.call rfl rfl Tryz.func69 (WBytes_Q j8.out) (fun E=>Ap (E.d 0 0)) ?_
  rintro e j6 ⟨vb,rfl,qout,hm⟩
  obtain ⟨aob,capb,rfl⟩:=qout.shape
  refine ⟨_,rfl,?_⟩
  have l7:=hid qout
  have o7:=hm.size
  have j7:=hid (show Mod (fun _=>False) d9 j6 from hm)
  clear hm
  clear qout
  refine qas rfl 1 0 ?_
  refine qe ?_
  clear HA0 c7 a0
  have HE:=hid (show Bg x=[] ++ encI x.kd ++ encI x.fr ++ encI x.to ++ A3 x by simp only [Bg,List.nil_append,C2])
  by_cases hn:65536 < ([] ++ encI x.kd ++ encI x.fr ++ encI x.to ++ A3 x).length
  ·skip
   go_upto_region 5 with (fail)
   refine Ab 26 [22,23,24] [0,1,2] (fun a0 HA0=>?_)
   have c8:=ev HA0 5 rfl
   refine qmo rfl c8 ?_
   refine QSeq.pure rfl (.int .i64 (([] ++ encI x.kd ++ encI x.fr ++ encI x.to ++ A3 x).length)) (fun E=>A2 rfl (E.d 0 0) D2) ?_
   refine QSeq.pure rfl (.bool true) (fun E=>Aq rfl (E.d 1 0) rfl (Ai _ _ _ _ _ _) (Bx _ _ _ B9) (congrArg Value.bool (decide_eq_true aL))) ?_
   refine qe ?_
   clear HA0 c8 a0
   go_upto_region 6 with (fail)
   refine Ab 26 [2,3] [0,1] (fun a0 HA0=>?_)
   refine QSeq.pure rfl (.slice none 0 0) (fun E=>An rfl rfl) ?_
   refine QSeq.pure rfl (.bool false) (fun E=>An rfl rfl) ?_
   refine qe ?_
   clear HA0 a0
   have HP:=hid (show packs x=false by unfold packs;rw [HE.o,HK.o,Bool.true_and,decide_eq_false_iff_not];omega)
   go_wp2
   go_ret2
   exact ⟨.slice none 0 0,by rw [HPK.o,HP.o];rfl,by rw [show RB=[] by rw [HRB.o,HP.o];rfl];exact ⟨Own.nil _ _ _ _,(fun g h=>by cases h),Nat.zero_le _⟩,(((HM0.o.trans d6.out iB).trans j5.out aD).trans j7.out iB)⟩
  go_upto_region 5 with (fail)
  refine Ab 26 [22,23,24] [0,1,2] (fun a0 HA0=>?_)
  have c8:=ev HA0 5 rfl
  refine qmo rfl c8 ?_
  refine QSeq.pure rfl (.int .i64 (([] ++ encI x.kd ++ encI x.fr ++ encI x.to ++ A3 x).length)) (fun E=>A2 rfl (E.d 0 0) D2) ?_
  refine QSeq.pure rfl (.bool false) (fun E=>Aq rfl (E.d 1 0) rfl (Ai _ _ _ _ _ _) (Bx _ _ _ B9) (congrArg Value.bool (decide_eq_false aL))) ?_
  refine qe ?_
  clear HA0 c8 a0
  go_upto_region 7 with (fail)
  refine Ab 26 [25,2,3] [0,1,2] (fun a0 HA0=>?_)
  have c8:=ev HA0 5 rfl
  refine qmo rfl c8 ?_
  refine qas rfl 0 0 ?_
  refine QSeq.pure rfl (.bool true) (fun E=>An rfl rfl) ?_
  refine qe ?_
  clear HA0 c8 a0
  have HP:=hid (show packs x=true by unfold packs;rw [HE.o,HK.o,Bool.true_and,decide_eq_true_eq];omega)
  go_wp2
  go_ret2
  exact ⟨.slice aob (([] ++ encI x.kd ++ encI x.fr ++ encI x.to ++ A3 x).length) capb,by rw [HPK.o,HP.o];rfl,by rw [show RB=[] ++ encI x.kd ++ encI x.fr ++ encI x.to ++ A3 x by rw [HRB.o,HP.o];exact HE.o];exact (l7.out.widen (R':=(fun k=>New w j6 k)) bB (C0 _)),(((HM0.o.trans d6.out iB).trans j5.out aD).trans j7.out iB)⟩
 have HK:=hid (Bool.eq_false_iff.2 hk)
 clear hk
 go_upto_region 2 with (fail)
 refine Ab 26 [16,17,18,19] [0,1,2,3] (fun a0 HA0=>?_)
 have c3:=ev HA0 1 rfl
 have c7:=ev HA0 4 rfl
 refine qmo rfl c7 ?_
 refine QSeq.pure rfl _ (fun E=>Ak rfl C1 rfl (off:=0) (cs:=((x.segs c5 c10 c11 c15 c18).flatten)) eS (E.v c3) (Cs.whole (HB1.o.mod d6.out (fun h=>h)))) ?_
 refine QSeq.call rfl rfl Tryz.func68 (callsB HK.o (put_Q _ R2 _ _ _ x _ Hx9.o bB (g8.out.mod d6.out iA) aU (by intro k h1 h2;have hb:=HBT.o k h2;omega) aF)) (fun E=>Ar (E.d 0 1) (E.d 1 0)) ?_
 rintro e d9 ⟨rfl,qwr,hm⟩
 refine ⟨_,rfl,?_⟩
 have o8:=hid (qwr.widen (R':=(fun k=>(New c4 c6 k)∨(New c9 d5 k)∨(New d7 d8 k)∨(New g5 g6 k)∨(New g7 d9 k))) bB (C0 _))
 have j9:=hm.size
 have l8:=hid (show Mod (fun k=>(New c4 c6 k)∨(New c9 d5 k)∨(New d7 d8 k)∨(New g5 g6 k)) g7 d9 from hm)
 clear hm
 clear qwr Hx9
 refine QSeq.pure rfl (.bool true) (fun E=>B1 rfl (E.d 2 0)) ?_
 refine qe ?_
 clear HA0 c3 c7 a0
 go_upto_region 3 with (fail)
 refine Ab 26 [2,3] [0,1] (fun a0 HA0=>?_)
 refine QSeq.pure rfl (.slice none 0 0) (fun E=>An rfl rfl) ?_
 refine QSeq.pure rfl (.bool false) (fun E=>An rfl rfl) ?_
 refine qe ?_
 clear HA0 a0
 have HP:=hid (show packs x=false by unfold packs;rw [HK.o];rfl)
 go_wp2
 go_ret2
 exact ⟨.slice none 0 0,by rw [HPK.o,HP.o];rfl,by rw [show RB=[] by rw [HRB.o,HP.o];rfl];exact ⟨Own.nil _ _ _ _,(fun g h=>by cases h),Nat.zero_le _⟩,((HM0.o.trans d6.out iB).trans l8.out aD)⟩
theorem packs_of {x:Mg} {bs:List Int} (h:Bg x=bs) (hl:bs.length≤900000):(Bg x).length≤900000:=by rw [h];exact hl
theorem unpack_yes {bs:List Int} (h1:(gMg (some bs)).2=some []) (h2:packs (gMg (some bs)).1=true):unpackB bs=some (gMg (some bs)).1:=if_pos ⟨h1,h2⟩
theorem unpack_no1 {bs:List Int} (h1:¬ (gMg (some bs)).2=some []):unpackB bs=none:=if_neg fun h=>h1 h.1
theorem unpack_no2 {bs:List Int} (h2:packs (gMg (some bs)).1=false):unpackB bs=none:=if_neg fun h=>by rw [h2] at h;cases h.2
theorem callsP {P:Program} {F:FuncId} {args:Array Value} {w:World} {b c:Bool} {Q:Value→World→Prop} (h:b=c) (hc:Calls P F args w fun e w'=>∃ v,e=.returned (.tuple #[v,.bool b])∧Q v w'):Calls P F args w fun e w'=>∃ v,e=.returned (.tuple #[v,.bool c])∧Q v w':=h▸hc
theorem Bt {P:Program} {fn:Func} {p u:Tmp} {ty:TypeId} (h:fn.results=#[.cell p ty,.tmp u]) (tmps:Array Value) (w:World) (g:Nat) (cs:List Value) {d:TypeDesc}
 (hp:tmps.getD p undef=.pointer (some ⟨g,0,none⟩)) (hc:∀ j u,cs[j]? = some u→w.cell? ⟨g,j,none⟩=some u) (hu:P.underlying ty=some d) (hd:aggDesc d=true) (hi:(P.info? ty).map (·.size)=some cs.length) :
 (results fn tmps).run P w=.ok (.tuple #[.agg cs.toArray,tmps.getD u undef]) w:=by
 have hp':tmps[p]?.getD undef=.pointer (some ⟨g,0,none⟩):=by simpa using hp
 simp [results,h,hp',asAddr,run_loadA w ty d hu hd ⟨g,0,none⟩ cs hi (fun j u hu=>by rw [add_mk,Nat.zero_add];exact hc j u hu)]
theorem run_eql_str1 {t:TypeId} {s:ByteArray} (w:World):(binOp .eql t (.string s) (.string s)).run Tryz.prog w=.ok (.bool true) w:=by
 rw [binOp_string_eql,Sem.run_pure]
 congr 2
 exact beq_self_eq_true _
theorem guard_str1 {op:BinOp} {t:TypeId} {x y:Operand} {s:ByteArray} {v:Value} (w:World):(eqGuard op t x y (.string s) v).run Tryz.prog w=.ok () w:=by cases op<;>simp [eqGuard]
set_option maxHeartbeats 1000000 in
theorem BytesEq_R {R R':Nat→Prop} {N N':Nat} {va vb:Value} {a:List Int} {w:World} (ha:RdR R N w va a) (hb:RdR R' N' w vb a):Calls Tryz.prog 45 #[va,vb] w fun e w'=>e=.returned (.bool true)∧w'=w:=by
 obtain ⟨aoa,capa,rfl⟩:=ha.shape
 obtain ⟨aob,capb,rfl⟩:=hb.shape
 have HA:=B8 ha
 have HB:=B8 hb
 clear ha hb
 go_enter Tryz.func45,Tryz.ntmps45
 go_upto_region 1 with (fail)
 have HM0:=hid (Mod.refl (fun _=>False) w)
 go_upto_region 1 with (fail)
 refine Ab 10 [5,6,7,8,9,4] [0,1,2,3,4,5] (fun a0 HA0=>?_)
 have c3:=ev HA0 0 rfl
 have c4:=ev HA0 1 rfl
 refine qmo rfl c3 ?_
 refine QSeq.pure rfl (.string (strOfNums a)) (fun E=>ex_conv rfl (E.d 0 0) (bytes_string HA.o.1)) ?_
 refine qmo rfl c4 ?_
 refine QSeq.pure rfl (.string (strOfNums a)) (fun E=>ex_conv rfl (E.d 2 0) (bytes_string HB.o.1)) ?_
 refine QSeq.pure rfl (.bool true) (fun E=>Aq rfl (E.d 1 2) (E.d 3 0) (guard_str1 _) (run_eql_str1 _) rfl) ?_
 refine qas rfl 4 0 ?_
 refine qe ?_
 clear HA0 c3 c4 a0
 go_wp2
 go_ret
 exact ⟨rfl,rfl⟩
set_option maxHeartbeats 4000000 in
theorem Unpack_Q:∀ (R2:Nat→Prop) (v:Value) (bs:List Int) (w:World),RdR R2 900000 w v bs→(∀ k,R2 k→k < w.heap.size)→
 Calls Tryz.prog 11 #[v] w fun e w'=>∃ cs,e=.returned (.tuple #[.agg cs.toArray,.bool (unpackB bs).isSome])∧MgR.rd (New w w') w' cs ((unpackB bs).getD zMg)∧Mod (fun _=>False) w w':=by
 intro R2 v bs w hx hB2
 obtain ⟨ao,cap,rfl⟩:=hx.shape
 obtain ⟨um,hum⟩:∃ z,z=unpackB bs:=⟨_,rfl⟩
 rw [← hum]
 obtain ⟨ub,hub⟩:∃ z,z=um.isSome:=⟨_,rfl⟩
 rw [← hub]
 obtain ⟨uy,huy⟩:∃ z,z=um.getD zMg:=⟨_,rfl⟩
 rw [← huy]
 have HUM:=B8 hum
 have HUB:=B8 hub
 have HUY:=B8 huy
 have HX:=B8 hx
 have HBT:=B8 hB2
 have HL:=hid hx.2.2
 have HBY:=hid hx.1.1
 clear hum hub huy hx hB2
 go_enter Tryz.func11,Tryz.ntmps11
 go_upto_region 1 with (fail)
 obtain ⟨w1,hw1⟩:∃ zz,zz=(w.alloc (.cells zq0.toArray 61)):=⟨_,rfl⟩
 change Code.wp _ _ _ _ (w.alloc (.cells zq0.toArray 61))
 rw [← hw1]
 have HB2:=hid (show Cs w1 (w.heap.size) zq0.toArray 61 by rw [hw1];exact Cs.new _ _ _)
 have hm:Mod (fun _=>False) w w1:=by rw [hw1];exact (Mod.refl _ _).alloc _
 have HM0:=hid (show Mod (fun _=>False) w w1 from hm.mono iB)
 have hs1:w1.heap.size=w.heap.size+1:=by rw [hw1];simp
 have g9:=hid (HX.o.mod hm iA)
 clear HX
 clear hw1 hm
 go_upto_region 1 with (fail)
 refine Ab 43 [8,9,4] [0,1,2] (fun a0 HA0=>?_)
 have d7:=ev HA0 0 rfl
 refine qmo rfl d7 ?_
 refine QSeq.call rfl rfl Tryz.func40 (NewReader_R g9.out aM) (fun E=>Ap (E.d 0 0)) ?_
 rintro e d5 ⟨r1,rfl,qrd,hm⟩
 refine ⟨_,rfl,?_⟩
 have i7:=hid qrd
 have q7:=hm.size
 have c6:=hid (show Mod (fun _=>False) w1 d5 from hm)
 clear hm
 clear qrd
 refine qas rfl 1 0 ?_
 refine qe ?_
 clear HA0 d7 a0
 go_upto_region 2 with (fail)
 refine Ab 43 [10,11,12,13,14,15,16,17,18,5,53] [0,1,2,3,4,5,6,7,8,9,10] (fun a0 HA0=>?_)
 have c3:=ev HA0 4 rfl
 refine qmo rfl c3 ?_
 refine qmo rfl c3 ?_
 refine QSeq.call rfl rfl Tryz.func42 (cI_Q i7.out) (fun E=>Ar (E.d 1 0) rfl) ?_
 rintro e m7 ⟨rfl,qrd,hm⟩
 refine ⟨_,rfl,?_⟩
 have i8:=hid qrd
 have q8:=hm.size
 have i9:=hid (show Mod (fun k=>(New w1 d5 k)) d5 m7 from hm)
 clear hm
 clear qrd i7
 refine qmo rfl c3 ?_
 refine QSeq.call rfl rfl Tryz.func42 (cI_Q i8.out) (fun E=>Ar (E.d 3 0) rfl) ?_
 rintro e q9 ⟨rfl,qrd,hm⟩
 refine ⟨_,rfl,?_⟩
 have j0:=hid qrd
 have r5:=hm.size
 have m8:=hid hm
 have j3:=hid (AA (S':=(fun k=>(New w1 d5 k))) i9.out hm (fun _ h=>h) aQ)
 clear hm i9
 clear qrd i8
 refine qmo rfl c3 ?_
 refine QSeq.call rfl rfl Tryz.func42 (cI_Q j0.out) (fun E=>Ar (E.d 5 0) rfl) ?_
 rintro e r6 ⟨rfl,qrd,hm⟩
 refine ⟨_,rfl,?_⟩
 have Hx8:=hid qrd
 have r7:=hm.size
 have m9:=hid hm
 have j4:=hid (AA (S':=(fun k=>(New w1 d5 k))) j3.out hm (fun _ h=>h) aQ)
 clear hm j3
 clear qrd j0
 refine QSeq.go fun act E=>?_
 refine Bu rfl (Aa rfl) (v:=.agg ((mg0C (gI (some bs)).1 (gI (gI (some bs)).2).1 (gI (gI (gI (some bs)).2).2).1):List Value).toArray) (Bo rfl (z:=zq0) (places:=[(0,1),(1,1),(2,1),(3,37),(40,38),(78,38),(116,38),(154,1),(155,1),(156,1),(157,6),(163,11),(174,38),(212,1),(213,35),(248,34),(282,4),(286,1),(287,8)]) aE (parts:=[(0,.int .i64 (gI (some bs)).1),(1,.int .i64 (gI (gI (some bs)).2).1),(2,.int .i64 (gI (gI (gI (some bs)).2).2).1)]) (by simp only [C8,C5,C6,show act.eval (.tmp 12)=.int .i64 (gI (some bs)).1 from (E.d 2 4),show act.eval (.tmp 14)=.int .i64 (gI (gI (some bs)).2).1 from (E.d 4 2),show act.eval (.tmp 16)=.int .i64 (gI (gI (gI (some bs)).2).2).1 from (E.d 6 0)];try rfl) (r:=(mg0C (gI (some bs)).1 (gI (gI (some bs)).2).1 (gI (gI (gI (some bs)).2).2).1)) dG) ?_
 clear act E
 refine QSeq.call rfl rfl Tryz.func41 (get_Q _ (fun _=>False) _ _ _ (mg0 (gI (some bs)).1 (gI (gI (some bs)).2).1 (gI (gI (gI (some bs)).2).2).1) _ Hx8.o bB (mg0_rd (A8 _) (A8 _) (A8 _) _ _) iC iB (C4 (gI_suf.len _) (C4 (gI_suf.len _) (C4 (gI_suf.len _) HL.o)))) (fun E=>Ar (E.d 0 7) (E.d 7 0)) ?_
 rintro e r8 ⟨cm,rfl,qmg,qrd,hm⟩
 have qmg:=MgR.wid qmg (R':=New _ _) (fun k h=>h.elim (fun h=>h.elim) (fun h=>h))
 have HCM:=hid (MgR.len qmg)
 have HCO:=hid (MgR.one qmg)
 refine ⟨_,rfl,?_⟩
 have Hx10:=hid qmg
 have j5:=hid qrd
 have r9:=hm.size
 have n5:=hid hm
 have j6:=hid (AA (S':=(fun k=>(New w1 d5 k))) j4.out hm (fun _ h=>h) aQ)
 clear hm j4
 clear qmg qrd Hx8
 refine QSeq.go fun act E=>?_
 refine qc_alloc rfl (Aa rfl) rfl (z:=zq0) aE ?_
 intro s0 qB5 hm
 have s5:=qB5.lt
 have j7:=hid qB5
 have s6:=hm.size
 have g5:=hid hm
 have j8:=hid (j6.out.goE hm)
 clear hm j6
 clear act E qB5
 refine QSeq.go fun act E=>?_
 refine Am rfl (Aa rfl) rfl j7.out (off:=0) (vs:=cm) fJ HCO.o (by rw [HCM.o];decide) (E.d 9 0) (ec (E.d 8 1)) ?_
 intro c7 qc0 hm
 have qB5:=qc0.eqv (b:=(cm:List Value).toArray) (Aw _ _ (by rw [HCM.o];rfl))
 clear qc0
 have g6:=hid qB5
 have s7:=hm.size
 have g7:=hid hm
 have c8:=hid (AA (S':=(fun k=>(New w1 d5 k))) j8.out hm (fun _ h=>h) cQ)
 clear hm j8
 clear act E qB5 j7
 have n6:=hid ((j5.out.mod g5.out iA).mod g7.out aD)
 have n7:=hid ((Hx10.o.mod g5.out iA).mod g7.out aD)
 clear j5 Hx10 m8 m9 n5 g5 g7
 refine qe ?_
 clear HA0 c3 a0
 obtain ⟨y,hy⟩:∃ y,y=(gMg (some bs)).1:=⟨_,rfl⟩
 obtain ⟨st,hst⟩:∃ z,z=(gMg (some bs)).2:=⟨_,rfl⟩
 have hq1:=n7.out
 rw [show (Az (mg0 (gI (some bs)).1 (gI (gI (some bs)).2).1 (gI (gI (gI (some bs)).2).2).1) (gI (gI (gI (some bs)).2).2).2).1=y from hy.symm] at hq1
 have hq2:=n6.out
 rw [show (Az (mg0 (gI (some bs)).1 (gI (gI (some bs)).2).1 (gI (gI (gI (some bs)).2).2).1) (gI (gI (gI (some bs)).2).2).2).2=st from hst.symm] at hq2
 have HMY:=B8 hq1
 have HRS:=B8 hq2
 have HY:=B8 hy
 have HST:=B8 hst
 clear hy hst hq1 hq2
 have HZO:=hid (MgR.one (mg0_rd (k:=0) (f:=0) (t:=0) A9 A9 A9 (fun _=>False) w))
 cases hc:st with
 | none=>
  have HC:=B8 hc
  clear hc
  have hq2:=HRS.o
  rw [HC.o] at hq2
  have HRS2:=B8 hq2
  clear hq2
  go_upto_region 3 with (fail)
  refine Ab 43 [19,20,21,22,23,24,25,26] [0,1,2,3,4,5,6,7] (fun a0 HA0=>?_)
  have c3:=ev HA0 4 rfl
  refine qmo rfl c3 ?_
  refine QSeq.go fun act E=>?_
  refine Aj (args:=#[.pointer (some ⟨r1,0,none⟩)]) rfl (Aa rfl) rfl Tryz.func43 (Ap (E.d 0 0)) (OK_R HRS2.o) ?_
  rintro e w2 ⟨rfl,hw2⟩
  obtain rfl:c7=w2:=by first|exact hw2|exact hw2.symm
  refine ⟨_,rfl,?_⟩
  clear act E
  refine QSeq.pure rfl (.bool true) (fun E=>B1 rfl (E.d 1 0)) ?_
  refine qmv rfl 2 0 ?_
  refine AE rfl (fun E=>((Ag rfl rfl (E.sz 22 aM) (E.d 3 0)).trans rfl)) ?_
  refine AE rfl (fun E=>((Ag rfl rfl (E.sz 22 aM) (E.d 3 1)).trans rfl)) ?_
  refine AE rfl (fun E=>((Ag rfl rfl (E.sz 22 aM) (E.d 3 2)).trans rfl)) ?_
  refine QSeq.pure rfl (.bool true) (fun E=>Bp rfl (E.d 3 3) rfl (E.d 6 0)) ?_
  refine qe ?_
  clear HA0 c3 a0
  go_upto_region 4 with (fail)
  refine Ab 43 [27,44,3] [0,1,2] (fun a0 HA0=>?_)
  have c4:=ev HA0 2 rfl
  refine QSeq.pure rfl (.agg ((mg0C 0 0 0):List Value).toArray) (fun E=>ex_build0 rfl (r:=((mg0C 0 0 0):List Value).toArray) aE) ?_
  refine QSeq.go fun act E=>?_
  refine Am rfl (Aa rfl) rfl ((HB2.o.mod c6.out (fun h=>h)).mod c8.out aG) (off:=0) (vs:=(mg0C 0 0 0)) aE HZO.o eT (E.v c4) (ec (E.d 0 0)) ?_
  intro g8 qc0 hm
  have qB2:=qc0.eqv (b:=((mg0C 0 0 0):List Value).toArray) (Aw _ _ rfl)
  clear qc0
  have n8:=hid qB2
  have o5:=hm.size
  have o6:=hid (show Mod (fun k=>(k=w.heap.size)) c7 g8 from hm)
  clear hm
  clear act E qB2 HB2
  refine QSeq.pure rfl (.bool false) (fun E=>An rfl rfl) ?_
  refine qe ?_
  clear HA0 c4 a0
  have HE:=hid (show um=none from HUM.o.trans (unpack_no1 (by rw [← HST.o,HC.o];exact fun h=>by cases h)))
  go_wp2
  refine bodyPost_ret (Bt rfl _ _ w.heap.size ((mg0C 0 0 0)) rfl (fun k u hu=>by rw [n8.out.cell];simpa using hu) C1 rfl aE) rfl ⟨(mg0C 0 0 0),by rw [HUB.o,HE.o];rfl,by rw [HUY.o,HE.o];exact mg0_rd A9 A9 A9 _ _,(((HM0.o.trans c6.out iB).trans c8.out aD).trans o6.out aD)⟩
 | some l=>
  have HC:=B8 hc
  clear hc
  have hq2:=HRS.o
  rw [HC.o] at hq2
  have HRS2:=B8 hq2
  clear hq2
  by_cases hn:0 < l.length
  ·skip
   go_upto_region 3 with (fail)
   refine Ab 43 [19,20,21,22,23,24,25,26] [0,1,2,3,4,5,6,7] (fun a0 HA0=>?_)
   have c3:=ev HA0 4 rfl
   refine qmo rfl c3 ?_
   refine QSeq.go fun act E=>?_
   refine Aj (args:=#[.pointer (some ⟨r1,0,none⟩)]) rfl (Aa rfl) rfl Tryz.func43 (Ap (E.d 0 0)) (OK_R HRS2.o) ?_
   rintro e w2 ⟨rfl,hw2⟩
   obtain rfl:c7=w2:=by first|exact hw2|exact hw2.symm
   refine ⟨_,rfl,?_⟩
   clear act E
   refine QSeq.pure rfl (.bool false) (fun E=>B1 rfl (E.d 1 0)) ?_
   refine qmv rfl 2 0 ?_
   refine AB rfl (.pointer (some ⟨r1,0,none⟩)) (fun E=>((Ag rfl rfl (E.sz 22 aM) (E.d 3 0)).trans rfl)) (fun E=>Al rfl (E.v c3)) ?_
   refine QSeq.go fun act E=>?_
   refine Aj (args:=#[.pointer (some ⟨r1,0,none⟩)]) rfl ((Ag rfl rfl (E.sz 22 aM) (E.d 3 1)).trans rfl) rfl Tryz.func44 (Ap (E.d 4 0)) (Left_R HRS2.o) ?_
   rintro e w2 ⟨rfl,hw2⟩
   obtain rfl:c7=w2:=by first|exact hw2|exact hw2.symm
   refine ⟨_,rfl,?_⟩
   clear act E
   refine AB rfl (.bool true) (fun E=>((Ag rfl rfl (E.sz 22 aM) (E.d 3 2)).trans rfl)) (fun E=>Aq rfl (E.d 5 0) rfl (Ai _ _ _ _ _ _) (Bx _ _ _ B9) (congrArg Value.bool (decide_eq_true (show (0:Int) < ((l.length:Nat):Int) by omega)))) ?_
   refine QSeq.pure rfl (.bool true) (fun E=>Bp rfl (E.d 3 3) rfl (E.d 6 0)) ?_
   refine qe ?_
   clear HA0 c3 a0
   go_upto_region 4 with (fail)
   refine Ab 43 [27,44,3] [0,1,2] (fun a0 HA0=>?_)
   have c4:=ev HA0 2 rfl
   refine QSeq.pure rfl (.agg ((mg0C 0 0 0):List Value).toArray) (fun E=>ex_build0 rfl (r:=((mg0C 0 0 0):List Value).toArray) aE) ?_
   refine QSeq.go fun act E=>?_
   refine Am rfl (Aa rfl) rfl ((HB2.o.mod c6.out (fun h=>h)).mod c8.out aG) (off:=0) (vs:=(mg0C 0 0 0)) aE HZO.o eT (E.v c4) (ec (E.d 0 0)) ?_
   intro g8 qc0 hm
   have qB2:=qc0.eqv (b:=((mg0C 0 0 0):List Value).toArray) (Aw _ _ rfl)
   clear qc0
   have o7:=hid qB2
   have o5:=hm.size
   have o8:=hid (show Mod (fun k=>(k=w.heap.size)) c7 g8 from hm)
   clear hm
   clear act E qB2 HB2
   refine QSeq.pure rfl (.bool false) (fun E=>An rfl rfl) ?_
   refine qe ?_
   clear HA0 c4 a0
   have HE:=hid (show um=none from HUM.o.trans (unpack_no1 (by rw [← HST.o,HC.o];intro h;cases h;exact absurd hn bA)))
   go_wp2
   refine bodyPost_ret (Bt rfl _ _ w.heap.size ((mg0C 0 0 0)) rfl (fun k u hu=>by rw [o7.out.cell];simpa using hu) C1 rfl aE) rfl ⟨(mg0C 0 0 0),by rw [HUB.o,HE.o];rfl,by rw [HUY.o,HE.o];exact mg0_rd A9 A9 A9 _ _,(((HM0.o.trans c6.out iB).trans c8.out aD).trans o8.out aD)⟩
  obtain rfl:l=[]:=List.eq_nil_of_length_eq_zero aL
  clear hn
  go_upto_region 3 with (fail)
  refine Ab 43 [19,20,21,22,23,24,25,26] [0,1,2,3,4,5,6,7] (fun a0 HA0=>?_)
  have c3:=ev HA0 4 rfl
  refine qmo rfl c3 ?_
  refine QSeq.go fun act E=>?_
  refine Aj (args:=#[.pointer (some ⟨r1,0,none⟩)]) rfl (Aa rfl) rfl Tryz.func43 (Ap (E.d 0 0)) (OK_R HRS2.o) ?_
  rintro e w2 ⟨rfl,hw2⟩
  obtain rfl:c7=w2:=by first|exact hw2|exact hw2.symm
  refine ⟨_,rfl,?_⟩
  clear act E
  refine QSeq.pure rfl (.bool false) (fun E=>B1 rfl (E.d 1 0)) ?_
  refine qmv rfl 2 0 ?_
  refine AB rfl (.pointer (some ⟨r1,0,none⟩)) (fun E=>((Ag rfl rfl (E.sz 22 aM) (E.d 3 0)).trans rfl)) (fun E=>Al rfl (E.v c3)) ?_
  refine QSeq.go fun act E=>?_
  refine Aj (args:=#[.pointer (some ⟨r1,0,none⟩)]) rfl ((Ag rfl rfl (E.sz 22 aM) (E.d 3 1)).trans rfl) rfl Tryz.func44 (Ap (E.d 4 0)) (Left_R HRS2.o) ?_
  rintro e w2 ⟨rfl,hw2⟩
  obtain rfl:c7=w2:=by first|exact hw2|exact hw2.symm
  refine ⟨_,rfl,?_⟩
  clear act E
  refine AB rfl (.bool false) (fun E=>((Ag rfl rfl (E.sz 22 aM) (E.d 3 2)).trans rfl)) (fun E=>Aq rfl (E.d 5 0) rfl (Ai _ _ _ _ _ _) (Bx _ _ _ B9) (congrArg Value.bool (decide_eq_false aM))) ?_
  refine QSeq.pure rfl (.bool false) (fun E=>Bp rfl (E.d 3 3) rfl (E.d 6 0)) ?_
  refine qe ?_
  clear HA0 c3 a0
  have HA:=hid (show Bg y=bs∧MgOk y from by have h:=gMg_all HBY.o (HST.o.symm.trans HC.o);rw [← HY.o] at h;exact h)
  have HPB:=hid (packs_of HA.o.1 HL.o)
  by_cases hk:packs y=true
  ·have HK:=B8 hk
   clear hk
   go_upto_region 5 with (fail)
   refine Ab 43 [29,30,28,31,32,6,7] [0,1,2,3,4,5,6] (fun a0 HA0=>?_)
   have c9:=ev HA0 5 rfl
   refine QSeq.pure rfl _ (fun E=>Ak rfl C1 rfl (off:=0) (cs:=cm) fJ (E.v c9) (Cs.whole g6.out)) ?_
   refine QSeq.call rfl rfl Tryz.func16 (callsP HK.o (Pack_Q _ _ y _ HMY.o bB HPB.o)) (fun E=>Ap (E.d 0 0)) ?_
   rintro e d6 ⟨vp,rfl,qpb,hm⟩
   rw [HK.o] at qpb
   replace qpb:=(show OwR _ _ _ _ (Bg y) from qpb)
   rw [HA.o.1] at qpb
   obtain ⟨aop,capp,rfl⟩:=qpb.shape
   refine ⟨_,rfl,?_⟩
   have o9:=hid qpb
   have p5:=hm.size
   have d8:=hid (show Mod (fun _=>False) c7 d6 from hm)
   clear hm
   clear qpb
   refine qmv rfl 1 0 ?_
   refine QSeq.pure rfl (.slice aop bs.length capp) (fun E=>B6 rfl (E.d 2 0) rfl) ?_
   refine QSeq.pure rfl (.bool true) (fun E=>B6 rfl (E.d 2 1) rfl) ?_
   refine qas rfl 3 1 ?_
   refine qas rfl 4 1 ?_
   refine qe ?_
   clear HA0 c9 a0
   go_upto_region 6 with (fail)
   refine Ab 43 [33,34,35,36,37,38,39,40] [0,1,2,3,4,5,6,7] (fun a0 HA0=>?_)
   have d7:=ev HA0 0 rfl
   have j9:=ev HA0 6 rfl
   have d9:=ev HA0 7 rfl
   refine qmo rfl d9 ?_
   refine QSeq.pure rfl (.bool false) (fun E=>B1 rfl (E.d 0 0)) ?_
   refine qmv rfl 1 0 ?_
   refine AB rfl (.slice aop bs.length capp) (fun E=>((Ag rfl rfl (E.sz 35 aM) (E.d 2 0)).trans rfl)) (fun E=>Al rfl (E.v j9)) ?_
   refine AB rfl (.slice ao bs.length cap) (fun E=>((Ag rfl rfl (E.sz 35 aM) (E.d 2 1)).trans rfl)) (fun E=>Al rfl (E.v d7)) ?_
   refine QSeq.go fun act E=>?_
   refine Aj (args:=#[.slice aop bs.length capp,.slice ao bs.length cap]) rfl ((Ag rfl rfl (E.sz 35 aM) (E.d 2 2)).trans rfl) rfl Tryz.func45 (Ar (E.d 3 1) (E.d 4 0)) (BytesEq_R o9.out.rd (((g9.out.mod c6.out iA).mod c8.out (sN HBT)).mod d8.out iA)) ?_
   rintro e w2 ⟨rfl,hw2⟩
   obtain rfl:d6=w2:=by first|exact hw2|exact hw2.symm
   refine ⟨_,rfl,?_⟩
   clear act E
   refine AB rfl (.bool false) (fun E=>((Ag rfl rfl (E.sz 35 aM) (E.d 2 3)).trans rfl)) (fun E=>B1 rfl (E.d 5 0)) ?_
   refine QSeq.pure rfl (.bool false) (fun E=>Bp rfl (E.d 2 4) rfl (E.d 6 0)) ?_
   refine qe ?_
   clear HA0 d7 j9 d9 a0
   go_upto_region 8 with (fail)
   refine Ab 43 [42,44,3] [0,1,2] (fun a0 HA0=>?_)
   have c4:=ev HA0 2 rfl
   have c9:=ev HA0 5 rfl
   refine QSeq.pure rfl _ (fun E=>Ak rfl C1 rfl (off:=0) (cs:=cm) fJ (E.v c9) (Cs.whole (g6.out.mod d8.out (fun h=>h)))) ?_
   refine QSeq.go fun act E=>?_
   refine Am rfl (Aa rfl) rfl (((HB2.o.mod c6.out (fun h=>h)).mod c8.out aG).mod d8.out (fun h=>h)) (off:=0) (vs:=cm) fJ HCO.o (by rw [HCM.o];show 0+295≤295;decide) (E.v c4) (ec (E.d 0 0)) ?_
   intro p6 qc0 hm
   have qB2:=qc0.eqv (b:=(cm:List Value).toArray) (Aw _ _ (by rw [HCM.o];rfl))
   clear qc0
   have p7:=hid qB2
   have s8:=hm.size
   have l7:=hid (show Mod (fun k=>(k=w.heap.size)) d6 p6 from hm)
   clear hm
   clear act E qB2 HB2
   refine QSeq.pure rfl (.bool true) (fun E=>An rfl rfl) ?_
   refine qe ?_
   clear HA0 c4 c9 a0
   have HE:=hid (show um=some y from HUM.o.trans (by rw [unpack_yes (HST.o.symm.trans HC.o) (by rw [← HY.o];exact HK.o),← HY.o]))
   go_wp2
   refine bodyPost_ret (Bt rfl _ _ w.heap.size (cm) rfl (fun k u hu=>by rw [p7.out.cell];simpa using hu) C1 rfl fJ) rfl ⟨cm,by rw [HUB.o,HE.o];rfl,by rw [HUY.o,HE.o];exact ((HMY.o.mod d8.out iA).mod l7.out aD).widen bB,((((HM0.o.trans c6.out iB).trans c8.out aD).trans d8.out iB).trans l7.out aD)⟩
  have HK:=hid (Bool.eq_false_iff.2 hk)
  clear hk
  go_upto_region 5 with (fail)
  refine Ab 43 [29,30,28,31,32,6,7] [0,1,2,3,4,5,6] (fun a0 HA0=>?_)
  have c9:=ev HA0 5 rfl
  refine QSeq.pure rfl _ (fun E=>Ak rfl C1 rfl (off:=0) (cs:=cm) fJ (E.v c9) (Cs.whole g6.out)) ?_
  refine QSeq.call rfl rfl Tryz.func16 (callsP HK.o (Pack_Q _ _ y _ HMY.o bB HPB.o)) (fun E=>Ap (E.d 0 0)) ?_
  rintro e d6 ⟨vp,rfl,qpb,hm⟩
  rw [HK.o] at qpb
  replace qpb:=(show OwR _ _ _ _ [] from qpb)
  obtain ⟨aop,capp,rfl⟩:=qpb.shape
  refine ⟨_,rfl,?_⟩
  have t0:=hid qpb
  have p5:=hm.size
  have l8:=hid (show Mod (fun _=>False) c7 d6 from hm)
  clear hm
  clear qpb
  refine qmv rfl 1 0 ?_
  refine QSeq.pure rfl (.slice aop ([]:List Int).length capp) (fun E=>B6 rfl (E.d 2 0) rfl) ?_
  refine QSeq.pure rfl (.bool false) (fun E=>B6 rfl (E.d 2 1) rfl) ?_
  refine qas rfl 3 1 ?_
  refine qas rfl 4 1 ?_
  refine qe ?_
  clear HA0 c9 a0
  go_upto_region 6 with (fail)
  refine Ab 43 [33,34,35,36,37,38,39,40] [0,1,2,3,4,5,6,7] (fun a0 HA0=>?_)
  have d9:=ev HA0 7 rfl
  refine qmo rfl d9 ?_
  refine QSeq.pure rfl (.bool true) (fun E=>B1 rfl (E.d 0 0)) ?_
  refine qmv rfl 1 0 ?_
  refine AE rfl (fun E=>((Ag rfl rfl (E.sz 35 aM) (E.d 2 0)).trans rfl)) ?_
  refine AE rfl (fun E=>((Ag rfl rfl (E.sz 35 aM) (E.d 2 1)).trans rfl)) ?_
  refine AE rfl (fun E=>((Ag rfl rfl (E.sz 35 aM) (E.d 2 2)).trans rfl)) ?_
  refine AE rfl (fun E=>((Ag rfl rfl (E.sz 35 aM) (E.d 2 3)).trans rfl)) ?_
  refine QSeq.pure rfl (.bool true) (fun E=>Bp rfl (E.d 2 4) rfl (E.d 6 0)) ?_
  refine qe ?_
  clear HA0 d9 a0
  go_upto_region 7 with (fail)
  refine Ab 43 [41,44,3] [0,1,2] (fun a0 HA0=>?_)
  have c4:=ev HA0 2 rfl
  refine QSeq.pure rfl (.agg ((mg0C 0 0 0):List Value).toArray) (fun E=>ex_build0 rfl (r:=((mg0C 0 0 0):List Value).toArray) aE) ?_
  refine QSeq.go fun act E=>?_
  refine Am rfl (Aa rfl) rfl (((HB2.o.mod c6.out (fun h=>h)).mod c8.out aG).mod l8.out (fun h=>h)) (off:=0) (vs:=(mg0C 0 0 0)) aE HZO.o eT (E.v c4) (ec (E.d 0 0)) ?_
  intro p8 qc0 hm
  have qB2:=qc0.eqv (b:=((mg0C 0 0 0):List Value).toArray) (Aw _ _ rfl)
  clear qc0
  have p9:=hid qB2
  have t1:=hm.size
  have q6:=hid (show Mod (fun k=>(k=w.heap.size)) d6 p8 from hm)
  clear hm
  clear act E qB2 HB2
  refine QSeq.pure rfl (.bool false) (fun E=>An rfl rfl) ?_
  refine qe ?_
  clear HA0 c4 a0
  have HE:=hid (show um=none from HUM.o.trans (unpack_no2 (by rw [← HY.o];exact HK.o)))
  go_wp2
  refine bodyPost_ret (Bt rfl _ _ w.heap.size ((mg0C 0 0 0)) rfl (fun k u hu=>by rw [p9.out.cell];simpa using hu) C1 rfl aE) rfl ⟨(mg0C 0 0 0),by rw [HUB.o,HE.o];rfl,by rw [HUY.o,HE.o];exact mg0_rd A9 A9 A9 _ _,((((HM0.o.trans c6.out iB).trans c8.out aD).trans l8.out iB).trans q6.out aD)⟩
theorem ite_len {c:Prop} [Decidable c] {a b:List Int} {n:Nat} (ha:a.length≤n) (hb:b.length≤n):(if c then a else b).length≤n:=by by_cases h:c<;>simp [h,ha,hb]
theorem encI_len5 (n:Int) (h:I64 n):(encI n).length≤10:=by
 unfold encI
 refine (B7 ?_).2
 unfold I64 at h
 unfold U64
 omega
theorem zBody_len (k f t:Int):(A3 (mg0 k f t)).length≤500:=by
 have e0:=encI_len5 0 (by unfold I64;decide)
 have e1:=encI_len5 (IntKind.i64.wrap (0+1)) (I64_wrap _)
 have n0:=(B7 (n:=0) (by unfold U64;decide)).2
 have el:∀ {α:Type} (f:α→List Int),(listB f []).length≤10:=fun f=>by simp only [listB,C3,C6,List.flatten_nil,D5];exact e0
 have l1:=el stB
 have l2:=el ceB
 have l3:=el pmB
 have l4:=el opB
 have l5:=el tbB
 have l6:=el vtB
 have hz:zH32.length=32:=by simp [zH32]
 have hb:(baB zBa).length≤60:=by simp only [baB,zBa,C3];omega
 have hs:(stB zSt).length≤150:=by simp only [stB,zSt,nameB,sigB,C3];omega
 have hc:(cmB zCm).length≤150:=by simp only [cmB,zCm,nameB,sigB,C3];omega
 have hbe:(Bd ByteArray.empty).length=0:=by rw [bytesOf_len];rfl
 unfold A3
 refine ite_len ?_ ?_
 ·exact C4 hc aM
 refine ite_len ?_ ?_
 ·exact C4 hs aM
 refine ite_len ?_ ?_
 ·have:(ceB zCe).length≤200:=by
   have h:(cmB zCe.c).length≤150:=hc
   have h2:(listB stB zCe.l).length≤10:=l1
   simp only [ceB,C3];omega
  exact C4 this aM
 refine ite_len ?_ ?_
 ·exact C4 hs aM
 refine ite_len ?_ ?_
 ·show (encI 0 ++ encI 0 ++ encN 0).length≤500
  simp only [C3];omega
 refine ite_len ?_ ?_
 ·have:(pmB zPm).length≤100:=by simp only [pmB,zPm,sigB,C3];omega
  exact C4 this aM
 refine ite_len ?_ ?_
 ·have:(prB zPr).length≤200:=by simp only [prB,zPr,sigB,C3];omega
  exact C4 this aM
 refine ite_len ?_ ?_
 ·have:(vtB zVt).length≤200:=by simp only [vtB,zVt,sigB,C3];omega
  exact C4 this aM
 refine ite_len ?_ ?_
 ·have:(enB zEn).length≤200:=by simp only [enB,zEn,nameB,C3];omega
  show (encI 0 ++ enB zEn).length≤500
  simp only [C3];omega
 refine ite_len ?_ ?_
 ·have:(opB zOp).length≤200:=by simp only [opB,zOp,C3,D5];omega
  exact C4 this aM
 refine ite_len ?_ ?_
 ·exact C4 e0 aM
 refine ite_len ?_ ?_
 ·have:(dnB zDn).length≤200:=by simp only [dnB,zDn,sigB,C3];omega
  exact C4 this aM
 refine ite_len ?_ ?_
 ·show (encI 0 ++ (encN (Bd ByteArray.empty).length ++ Bd ByteArray.empty)).length≤500
  rw [hbe]
  simp only [C3];omega
 refine ite_len ?_ ?_
 ·have:(dcB zDc).length≤200:=by simp only [dcB,zDc,C3];omega
  exact C4 this aM
 exact Nat.zero_le _
theorem packB_mg0_len {k f t:Int} (hk:I64 k) (hf:I64 f) (ht:I64 t):(Bg (mg0 k f t)).length≤600:=by
 have h1:=encI_len5 k hk
 have h2:=encI_len5 f hf
 have h3:=encI_len5 t ht
 have h4:=zBody_len k f t
 show (encI k ++ encI f ++ encI t ++ A3 (mg0 k f t)).length≤600
 simp only [C3];omega
theorem packs_mg0 {k f t:Int} (h:okKd k=true) (hk:I64 k) (hf:I64 f) (ht:I64 t):packs (mg0 k f t)=true:=by
 have:=packB_mg0_len hk hf ht
 unfold packs
 rw [show okKd (mg0 k f t).kd=true from h,Bool.true_and,decide_eq_true_eq]
 omega
theorem unpack_nil:unpackB []=none:=by
 unfold unpackB
 rw [if_neg]
 intro h
 have:=(gMg_all (bs:=[]) (by intro b hb;cases hb) h.1).1
 have hl:=congrArg List.length this
 simp only [Bg,C3,D5] at hl
 have:0 < (encI (gMg (some [])).1.kd).length:=by
  unfold encI
  rw [encN]
  split<;>simp
 omega
theorem packB_head {x:Mg} (h:okKd x.kd=true):∃ l,Bg x=x.kd :: l:=by
 have hq:1≤x.kd∧x.kd≤14:=by unfold okKd at h;simpa using h
 refine ⟨encI x.fr ++ encI x.to ++ A3 x,?_⟩
 unfold Bg
 rw [show encI x.kd=[x.kd] by unfold encI;rw [encN_lt aL];simp;omega]
 simp
theorem packs_11:packs (mg0 11 0 0)=true:=packs_mg0 rfl (by unfold I64;decide) A9 A9
theorem packB_pos {x:Mg} (h:okKd x.kd=true):0 < (Bg x).length:=by obtain ⟨l,e⟩:=packB_head h;rw [e];simp
theorem RdR_nil0 {R:Nat→Prop} {N:Nat} {w:World}:RdR R N w (.slice none 0 0) []:=⟨⟨(fun b hb=>by cases hb),Rd.nil _ _⟩,(fun h=>by simp at h),Nat.zero_le _⟩
set_option maxHeartbeats 4000000 in
theorem wakes06 (w:World):Calls Tryz.prog 15 #[] w fun e w'=>e=.returned (.bool true)∧Mod (fun _=>False) w w':=by
 go_enter Tryz.func15,Tryz.ntmps15
 go_upto_region 1 with (fail)
 have HM0:=hid (Mod.refl (fun _=>False) w)
 go_upto_region 1 with (fail)
 refine Ab 24 [6,5,7,8,1,29,2] [0,1,2,3,4,5,6] (fun a0 HA0=>?_)
 refine QSeq.call rfl rfl Tryz.func11 (Unpack_Q (fun _=>False) _ [] _ RdR_nil0 iC) (fun E=>Ap rfl) ?_
 rintro e d8 ⟨cu,rfl,qmu,hm⟩
 have HCM:=hid (MgR.len qmu)
 have HCO:=hid (MgR.one qmu)
 refine ⟨_,rfl,?_⟩
 have c3:=hid qmu
 have g8:=hm.size
 have c4:=hid (show Mod (fun _=>False) w d8 from hm)
 clear hm
 clear qmu
 refine qmv rfl 0 0 ?_
 refine QSeq.pure rfl (.agg cu.toArray) (fun E=>B6 rfl (E.d 1 0) rfl) ?_
 refine QSeq.pure rfl (.bool (unpackB []).isSome) (fun E=>B6 rfl (E.d 1 1) rfl) ?_
 refine QSeq.go fun act E=>?_
 refine qc_alloc rfl (Aa rfl) rfl (z:=zq0) aE ?_
 intro g9 qB1 hm
 have i7:=qB1.lt
 have c6:=hid qB1
 have i8:=hm.size
 have c7:=hid hm
 have c8:=hid (c4.out.goE hm)
 clear hm c4
 clear act E qB1
 refine QSeq.go fun act E=>?_
 refine Am rfl (Aa rfl) rfl c6.out (off:=0) (vs:=cu) fJ HCO.o (by rw [HCM.o];decide) (E.d 4 0) (ec (E.d 2 2)) ?_
 intro d9 qc0 hm
 have qB1:=qc0.eqv (b:=(cu:List Value).toArray) (Aw _ _ (by rw [HCM.o];rfl))
 clear qc0
 have i9:=hid qB1
 have j0:=hm.size
 have c9:=hid hm
 have g5:=hid (AA (S':=(fun _=>False)) c8.out hm (fun _ h=>h) cQ)
 clear hm c8
 clear act E qB1 c6
 refine qas rfl 3 2 ?_
 have j3:=hid ((c3.out.mod c7.out iA).mod c9.out aD)
 clear c3 c7 c9
 refine qe ?_
 clear HA0 a0
 rw [show (unpackB []).isSome=false by rw [unpack_nil];rfl]
 go_upto_region 2 with (fail)
 refine Ab 24 [10,11,9,12,13,3,4] [0,1,2,3,4,5,6] (fun a0 HA0=>?_)
 refine QSeq.pure rfl (.agg ((mg0C 11 0 0):List Value).toArray) (fun E=>Bo rfl (z:=zq0) (places:=[(0,1),(1,1),(2,1),(3,37),(40,38),(78,38),(116,38),(154,1),(155,1),(156,1),(157,6),(163,11),(174,38),(212,1),(213,35),(248,34),(282,4),(286,1),(287,8)]) aE (parts:=[(0,.int .i64 11)]) (by simp only [C8,C5,C6];try rfl) (r:=(mg0C 11 0 0)) (by exact (Bn (ns:=mgN) rfl [(0,.int .i64 11)] (zMg.segs (zCe.cells zS) (zPm.cells zS) (zPr.cells zS zS zS) (zOp.cells zS) (zDc.cells zS zS zS zS)) rfl ⟨rfl,trivial⟩).trans rfl)) ?_
 refine QSeq.call rfl rfl Tryz.func16 (callsP packs_11 (Pack_Q _ _ (mg0 11 0 0) _ (mg0_rd (k:=11) (f:=0) (t:=0) (by unfold I64;decide) A9 A9 (fun _=>False) _) iC (C4 (packB_mg0_len (by unfold I64;decide) A9 A9) aM))) (fun E=>Ap (E.d 0 0)) ?_
 rintro e g6 ⟨vpb,rfl,qpb,hm⟩
 rw [packs_11] at qpb
 replace qpb:=(show OwR _ _ _ _ (Bg (mg0 11 0 0)) from qpb)
 obtain ⟨aopb,cappb,rfl⟩:=qpb.shape
 refine ⟨_,rfl,?_⟩
 have Hx8:=hid qpb
 have j4:=hm.size
 have g7:=hid (show Mod (fun _=>False) d9 g6 from hm)
 clear hm
 clear qpb
 refine qmv rfl 1 0 ?_
 refine QSeq.pure rfl (.slice aopb ((Bg (mg0 11 0 0)).length) cappb) (fun E=>B6 rfl (E.d 2 0) rfl) ?_
 refine QSeq.pure rfl (.bool true) (fun E=>B6 rfl (E.d 2 1) rfl) ?_
 refine qas rfl 3 1 ?_
 refine qas rfl 4 1 ?_
 refine qe ?_
 clear HA0 a0
 have HP:=hid (packB_pos (x:=mg0 11 0 0) rfl)
 go_upto_region 3 with (fail)
 refine Ab 24 [14,15,16,17,18,19,20,21,22,23,0] [0,1,2,3,4,5,6,7,8,9,10] (fun a0 HA0=>?_)
 have d5:=ev HA0 2 rfl
 have d6:=ev HA0 3 rfl
 have d7:=ev HA0 4 rfl
 refine qmo rfl d5 ?_
 refine QSeq.pure rfl (.bool true) (fun E=>B1 rfl (E.d 0 0)) ?_
 refine qmv rfl 1 0 ?_
 refine AB rfl (.bool true) (fun E=>((Ag rfl rfl (E.sz 16 aM) (E.d 2 0)).trans rfl)) (fun E=>Al rfl (E.v d7)) ?_
 refine QSeq.pure rfl (.bool true) (fun E=>Bp rfl (E.d 2 1) (E.d 3 0) rfl) ?_
 refine qmv rfl 4 0 ?_
 refine AB rfl (.slice aopb ((Bg (mg0 11 0 0)).length) cappb) (fun E=>((Ag rfl rfl (E.sz 19 aM) (E.d 5 0)).trans rfl)) (fun E=>Al rfl (E.v d6)) ?_
 refine AB rfl (.int .i64 ((Bg (mg0 11 0 0)).length)) (fun E=>((Ag rfl rfl (E.sz 19 aM) (E.d 5 1)).trans rfl)) (fun E=>A2 rfl (E.d 6 0) D2) ?_
 refine AB rfl (.bool true) (fun E=>((Ag rfl rfl (E.sz 19 aM) (E.d 5 2)).trans rfl)) (fun E=>Aq rfl (E.d 7 0) rfl (Ai _ _ _ _ _ _) (Bx _ _ _ B9) (congrArg Value.bool (decide_eq_true (show (0:Int) < (((Bg (mg0 11 0 0)).length:Nat):Int) by have:=HP.o;omega)))) ?_
 refine QSeq.pure rfl (.bool true) (fun E=>Bp rfl (E.d 5 3) (E.d 8 0) rfl) ?_
 refine qas rfl 9 0 ?_
 refine qe ?_
 clear HA0 d5 d6 d7 a0
 go_wp2
 go_ret
 exact ⟨rfl,((HM0.o.trans g5.out iB).trans g7.out iB)⟩
open Go.Proofs renaming Tryz.func92→va',Tryz.ntmps92→vb',Tryz.underlying33→vc',Tryz.underlying32→ve' in
open Go.Proofs.YtnaoeginonpicaaGreat renaming StR→vd',eqW_stamp→vf',ki_st→vg',st_iff→vh' in
set_option maxHeartbeats 4000000 in
theorem EqL_St:EqsL StR 92:=
 fm9'
set_option maxHeartbeats 4000000 in
theorem EqL_Dn:EqsL DnR 128:=by
 intro R R2 v v2 l m w hs ht hB hB2
 obtain ⟨ao,cap,rfl⟩:=hs.shape
 obtain ⟨bo,bcap,rfl⟩:=ht.shape
 have hlm:l.length≤maxLen:=hs.bd
 rw [Ax] at hlm
 have HS:=B8 hs
 have HT:=B8 ht
 have HBR:=B8 hB
 have HBT:=B8 hB2
 clear hs ht hB hB2
 go_enter Tryz.func128,Tryz.ntmps128
 go_upto_region 1 with (fail)
 have HM0:=hid (Mod.refl (fun _=>False) w)
 by_cases hl:l.length=m.length
 rotate_left
 ·skip
  go_upto_region 1 with (fail)
  refine Ab 26 [6,7,8,9,10] [0,1,2,3,4] (fun a0 HA0=>?_)
  have c3:=ev HA0 0 rfl
  have c6:=ev HA0 1 rfl
  refine qmo rfl c3 ?_
  refine QSeq.pure rfl (.int .i64 l.length) (fun E=>A2 rfl (E.d 0 0) Tryz.underlying125) ?_
  refine qmo rfl c6 ?_
  refine QSeq.pure rfl (.int .i64 m.length) (fun E=>A2 rfl (E.d 2 0) Tryz.underlying125) ?_
  refine QSeq.pure rfl (.bool true) (fun E=>Aq rfl (E.d 1 2) (E.d 3 0) (Ai _ _ _ _ _ _) (run_neq_i _ _ _ B9) (congrArg Value.bool (ne_tt aL))) ?_
  refine qe ?_
  clear HA0 c3 c6 a0
  go_upto_region 2 with (fail)
  refine Ab 26 [4] [0] (fun a0 HA0=>?_)
  refine QSeq.pure rfl (.bool false) (fun E=>An rfl rfl) ?_
  refine qe ?_
  clear HA0 a0
  go_wp2
  go_ret
  exact ⟨Bw (eqb_ne fun e=>hl (by rw [e])).symm,HM0.o⟩
 ·skip
  go_upto_region 1 with (fail)
  refine Ab 26 [6,7,8,9,10] [0,1,2,3,4] (fun a0 HA0=>?_)
  have c3:=ev HA0 0 rfl
  have c6:=ev HA0 1 rfl
  refine qmo rfl c3 ?_
  refine QSeq.pure rfl (.int .i64 l.length) (fun E=>A2 rfl (E.d 0 0) Tryz.underlying125) ?_
  refine qmo rfl c6 ?_
  refine QSeq.pure rfl (.int .i64 m.length) (fun E=>A2 rfl (E.d 2 0) Tryz.underlying125) ?_
  refine QSeq.pure rfl (.bool false) (fun E=>Aq rfl (E.d 1 2) (E.d 3 0) (Ai _ _ _ _ _ _) (run_neq_i _ _ _ B9) (congrArg Value.bool (ne_ff aL))) ?_
  refine qe ?_
  clear HA0 c3 c6 a0
  go_upto_region 3 with (fail)
  refine Ab 26 [5] [0] (fun a0 HA0=>?_)
  refine QSeq.pure rfl (.int .i64 0) (fun E=>An rfl rfl) ?_
  refine qe ?_
  clear HA0 a0
  have HLE:=B8 hl
  clear hl
  go_wp2
  go_loopw [5] (fun ti wr=>∃ k:Nat,ti=.int .i64 (k:Int)∧k≤l.length∧l.take k=m.take k∧w.heap.size≤wr.heap.size∧RdS DnR R wr (.slice ao l.length cap) l∧RdS DnR R2 wr (.slice bo m.length bcap) m∧Mod (fun _=>False) w wr) (fun ti _=>l.length - (intOf ti).toNat)
  case atStart=>exact ⟨0,rfl,Nat.zero_le _,rfl,C0 _,HS.o,HT.o,HM0.o⟩
  case round=>
   obtain ⟨k,rfl,hk,htk,hz,hs,ht,hm⟩:=hrel
   obtain ⟨wl,rfl⟩:∃ x,x=wr:=⟨_,rfl⟩
   have HS2:=B8 hs
   have HT2:=B8 ht
   have HML:=B8 hm
   have HTK:=B8 htk
   clear hs ht hm htk HS HT HM0
   by_cases hlt:k < l.length
   ·have hlt2:k < m.length:=by have:=HLE.o;omega
    go_upto_region 4 with (fail)
    refine Ab 26 [11,12,13,14] [0,1,2,3] (fun a0 HA0=>?_)
    have c3:=ev HA0 0 rfl
    have c4:=ev HA0 5 rfl
    refine qmo rfl c4 ?_
    refine qmo rfl c3 ?_
    refine QSeq.pure rfl (.int .i64 l.length) (fun E=>A2 rfl (E.d 1 0) Tryz.underlying125) ?_
    refine QSeq.pure rfl (.bool true) (fun E=>Aq rfl (E.d 0 2) (E.d 2 0) (Ai _ _ _ _ _ _) (A1 _ _ _ B9) (congrArg Value.bool (decide_eq_true aL))) ?_
    refine qe ?_
    clear HA0 c3 c4 a0
    have hat:=HS2.o.at hlt
    obtain ⟨g1,o1,c1,eao,hrg,hrd,hcs⟩:=hat
    subst eao
    obtain ⟨x,hx⟩:∃ z,z=l[k]:=⟨_,rfl⟩
    rw [← hx] at hrd
    have HX1:=B8 hx
    have hcl:c1.length=4:=DnR.len hrd
    have HCL1:=B8 hcl
    have HAT1:=hid (show CellsAt R wl g1 (o1+k * 4) c1 from ⟨hrg,hcs⟩)
    have HRD1:=B8 hrd
    clear hcl hcs hrd hrg hx
    have hat:=HT2.o.at hlt2
    obtain ⟨g2,o2,c2,eao,hrg,hrd,hcs⟩:=hat
    subst eao
    obtain ⟨y,hy⟩:∃ z,z=m[k]:=⟨_,rfl⟩
    rw [← hy] at hrd
    have HX2:=B8 hy
    have hcl:c2.length=4:=DnR.len hrd
    have HCL2:=B8 hcl
    have HAT2:=hid (show CellsAt R2 wl g2 (o2+k * 4) c2 from ⟨hrg,hcs⟩)
    have HRD2:=B8 hrd
    clear hcl hcs hrd hrg hy
    obtain ⟨b,hb⟩:∃ b,b=eqb x y:=⟨_,rfl⟩
    have HB:=B8 hb
    clear hb
    obtain ⟨rfl,hok1⟩:=HRD1.o
    obtain ⟨rfl,hok2⟩:=HRD2.o
    have HO1:=B8 hok1
    have HO2:=B8 hok2
    clear hok1 hok2
    clear HRD1
    clear HRD2
    go_upto_region 6 with (fail)
    generalize ha0:Act.mk _ _=a0
    have c3:a0.eval (.tmp 0)=.slice (some ⟨g1,o1,none⟩) l.length cap:=by rw [← ha0];rfl
    have c6:a0.eval (.tmp 1)=.slice (some ⟨g2,o2,none⟩) m.length bcap:=by rw [← ha0];rfl
    have c4:a0.eval (.tmp 5)=.int .i64 ((k:Nat):Int):=by rw [← ha0];rfl
    have hsz0:a0.tmps.size=26:=by rw [← ha0];rfl
    have HA0:=hid ha0
    clear ha0
    refine A7 26 hsz0 [17,18,19,20,21,22,23,24,25] [qi (.slice (some ⟨g1,o1,none⟩) l.length cap),qi (.int .i64 ((k:Nat):Int)),qi (.pointer (some ⟨g1,o1+k * 4,none⟩)),qi (.agg x.cells.toArray),qi (.slice (some ⟨g2,o2,none⟩) m.length bcap),qi (.int .i64 ((k:Nat):Int)),qi (.pointer (some ⟨g2,o2+k * 4,none⟩)),qi (.agg y.cells.toArray),qi (.bool (!b))] ⟨Ac,Ac,Ac,Ac,Ac,Ac,Ac,Ac,Ac,trivial⟩ [] ⟨?_,?_,?_,?_,?_,?_,?_,?_,?_,trivial⟩ ?_
    ·exact stq (fun E=>Al rfl (E.v c3))
    ·exact stq (fun E=>Al rfl (E.v c4))
    ·exact stq (fun E=>Bq (i:=k) (s:=4) rfl Tryz.underlying125 aE (E.d 0) (E.d 1) cR)
    ·exact stq (fun E=>Ak rfl Tryz.underlying56 rfl (off:=o1+k * 4) (cs:=x.cells) eE (E.d 2) (fun j u hu=>((HAT1.o.mod E.m.old aO)).2 j u hu))
    ·exact stq (fun E=>Al rfl (E.v c6))
    ·exact stq (fun E=>Al rfl (E.v c4))
    ·exact stq (fun E=>Bq (i:=k) (s:=4) rfl Tryz.underlying125 aE (E.d 4) (E.d 5) cR)
    ·exact stq (fun E=>Ak rfl Tryz.underlying56 rfl (off:=o2+k * 4) (cs:=y.cells) fY (E.d 6) (fun j u hu=>((HAT2.o.mod E.m.old cI)).2 j u hu))
    ·exact stq (fun E=>Aq rfl (E.d 3) (E.d 7) (agg_guardE _ _ _ _ _ _ aE _) (EqW.runN eqW_deny (ki_dn _) (ki_dn _) (dn_iff HO1.o HO2.o) _) (congrArg (fun z=>Value.bool (!z)) HB.o.symm))
    intro c8 hr
    have c9:=hr.size
    have c7:=hid (hr.new (S:=(fun _=>False)))
    clear hr
    refine QChain.nil fun vs hl hzz hrows hne=>?_
    obtain ⟨Z,hYZ,hZb,hV⟩:=hzz
    have f0:=fvi hV hl 0
    have f1:=fvi hV hl 1
    have f4:=fvi hV hl 4
    have f5:=fvi hV hl 5
    have f8:=fvi hV hl 8
    rw [show vs=[gw vs 0,gw vs 1,gw vs 2,gw vs 3,gw vs 4,gw vs 5,gw vs 6,gw vs 7,gw vs 8] from (Bi hl).trans rfl]
    have ha0:=HA0.o
    subst ha0
    clear HA0 hV hYZ hZb hsz0 hrows hne c3 c6 c4
    simp only [Au,Act.put,sIB,sCZ,sCS,f0,f1,f4,f5,f8]
    clear hl f0 f1 f4 f5 f8
    cases b with
    | false=>
     go_upto_region 7 with (fail)
     refine Ab 26 [4] [0] (fun a0 HA0=>?_)
     refine QSeq.pure rfl (.bool false) (fun E=>An rfl rfl) ?_
     refine qe ?_
     clear HA0 a0
     go_wp2
     go_ret
     exact ⟨Bw (take_ne hlt hlt2 (fun e=>by have h:=HB.o;rw [HX1.o,HX2.o,e,eqb_rfl] at h;cases h)).symm,(HML.o.trans c7.out iB)⟩
    | true=>
     go_upto_region 5 with (fail)
     refine Ab 26 [15,16,5] [0,1,2] (fun a0 HA0=>?_)
     have c4:=ev HA0 5 rfl
     refine QSeq.pure rfl _ (fun E=>Al rfl (E.y 2 c4)) ?_
     refine QSeq.pure rfl (.int .i64 (((k:Nat):Int)+1)) (fun E=>Aq rfl (E.d 0 0) rfl (Ai _ _ _ _ _ _) (Bz _ _ B9) (congrArg (Value.int .i64) (IntWalk.i64_in _ aL))) ?_
     refine qas rfl 1 0 ?_
     refine qe ?_
     clear HA0 c4 a0
     go_wp2
     go_roundw
     case rel=>exact ⟨k+1,by go_num,by omega,take_succ2 hlt hlt2 HTK.o dP,by omega,(HS2.o.mod c7.out iA),(HT2.o.mod c7.out iA),(HML.o.trans c7.out iB)⟩
     case measure=>simp [intOf]<;>omega
   ·skip
    go_upto_region 4 with (fail)
    refine Ab 26 [11,12,13,14] [0,1,2,3] (fun a0 HA0=>?_)
    have c3:=ev HA0 0 rfl
    have c4:=ev HA0 5 rfl
    refine qmo rfl c4 ?_
    refine qmo rfl c3 ?_
    refine QSeq.pure rfl (.int .i64 l.length) (fun E=>A2 rfl (E.d 1 0) Tryz.underlying125) ?_
    refine QSeq.pure rfl (.bool false) (fun E=>Aq rfl (E.d 0 2) (E.d 2 0) (Ai _ _ _ _ _ _) (A1 _ _ _ B9) (congrArg Value.bool (decide_eq_false aL))) ?_
    refine qe ?_
    clear HA0 c3 c4 a0
    go_upto_region 8 with (fail)
    refine Ab 26 [4] [0] (fun a0 HA0=>?_)
    refine QSeq.pure rfl (.bool true) (fun E=>An rfl rfl) ?_
    refine qe ?_
    clear HA0 a0
    go_wp2
    go_ret
    exact ⟨Bw (take_all aL (by have:=HLE.o;omega) HTK.o).symm,HML.o⟩
set_option maxHeartbeats 4000000 in
theorem Eq_Ce:Eqs CeR 60:=by
 intro R R2 cs ds x y w hx hy hB hB2
 obtain ⟨vx_l,rfl,hokx,hx_l⟩:=hx
 obtain ⟨ax_l,kx_l,rfl⟩:=hx_l.shape
 have Hx_l:=B8 hx_l
 clear hx_l
 have HOKx:=B8 hokx
 clear hokx
 obtain ⟨vy_l,rfl,hoky,hy_l⟩:=hy
 obtain ⟨ay_l,ky_l,rfl⟩:=hy_l.shape
 have Hy_l:=B8 hy_l
 clear hy_l
 have HOKy:=B8 hoky
 clear hoky
 have HBR:=B8 hB
 have HBT:=B8 hB2
 clear hB hB2
 go_enter Tryz.func60,Tryz.ntmps60
 go_upto_region 1 with (fail)
 obtain ⟨w1,hw1⟩:∃ zz,zz=((w.alloc (.cells (x.cells (.slice ax_l x.l.length kx_l):List Value).toArray 35)).alloc (.cells (y.cells (.slice ay_l y.l.length ky_l):List Value).toArray 35)):=⟨_,rfl⟩
 change Code.wp _ _ _ _ ((w.alloc (.cells (x.cells (.slice ax_l x.l.length kx_l):List Value).toArray 35)).alloc (.cells (y.cells (.slice ay_l y.l.length ky_l):List Value).toArray 35))
 rw [← hw1]
 have HB2:=hid (show Cs w1 (w.heap.size) (x.cells (.slice ax_l x.l.length kx_l):List Value).toArray 35 by rw [hw1];exact (Cs.new _ _ _).alloc _)
 have HB3:=hid (show Cs w1 (w.heap.size+1) (y.cells (.slice ay_l y.l.length ky_l):List Value).toArray 35 by rw [hw1];exact Cs_newN _ _ _ bA)
 have hm:Mod (fun _=>False) w w1:=by rw [hw1];exact ((Mod.refl _ _).alloc _).alloc _
 have HM0:=hid (show Mod (fun _=>False) w w1 from hm.mono iB)
 have hs1:w1.heap.size=w.heap.size+2:=by rw [hw1];simp
 have d6:=hid (Hx_l.o.mod hm iA)
 clear Hx_l
 have d7:=hid (Hy_l.o.mod hm iA)
 clear Hy_l
 clear hw1 hm
 go_upto_region 1 with (fail)
 refine Ab 17 [5,6,7,8,9,10,11,12,13,14,15,16,4] [0,1,2,3,4,5,6,7,8,9,10,11,12] (fun a0 HA0=>?_)
 have c3:=ev HA0 2 rfl
 have c4:=ev HA0 3 rfl
 refine qfd rfl 0 Tryz.underlying35 c3 ?_
 refine QSeq.pure rfl _ (fun E=>Ak rfl E7 rfl (off:=0) (cs:=x.c.cells) (by rw [Cm.len HOKx.o.2.1];exact size_commit) (E.d 0 0) (Cs.midA (pre:=[]) (mid:=x.c.cells) (post:=[.slice ax_l x.l.length kx_l]) HB2.o rfl)) ?_
 refine qfd rfl 0 Tryz.underlying35 c4 ?_
 refine QSeq.pure rfl _ (fun E=>Ak rfl E7 rfl (off:=0) (cs:=y.c.cells) (by rw [Cm.len HOKy.o.2.1];exact size_commit) (E.d 2 0) (Cs.midA (pre:=[]) (mid:=y.c.cells) (post:=[.slice ay_l y.l.length ky_l]) HB3.o rfl)) ?_
 refine QSeq.pure rfl (.bool (eqb x.c y.c)) (fun E=>Aq rfl (E.d 1 2) (E.d 3 0) (agg_guardE _ _ _ _ _ _ aE _) (EqW.run eqW_commit (ki_cm HOKx.o.2.1) (ki_cm HOKy.o.2.1) (cm_iff HOKx.o HOKy.o) _) rfl) ?_
 refine qmv rfl 4 0 ?_
 refine qmy rfl 5 0 (.pointer (some ⟨w.heap.size,37,none⟩)) (fun E hb=>Ae rfl Tryz.underlying35 rfl aE (E.v c3)) ?_
 intro g5 hw
 have c6:=hid hw
 clear hw
 refine qmy rfl 5 1 (.slice ax_l x.l.length kx_l) (fun E hb=>Af rfl Tryz.underlying33 rfl ((E.q 6 0 c6.out).1 hb) (AL (pre:=[]) (mid:=x.c.cells) (post:=[.slice ax_l x.l.length kx_l]) (m:=37) (k:=0) HB2.o (Cm.len HOKx.o.2.1) rfl rfl)) ?_
 intro g6 hw
 have c7:=hid hw
 clear hw
 refine qmy rfl 5 2 (.pointer (some ⟨w.heap.size+1,37,none⟩)) (fun E hb=>Ae rfl Tryz.underlying35 rfl aE (E.v c4)) ?_
 intro g7 hw
 have c8:=hid hw
 clear hw
 refine qmy rfl 5 3 (.slice ay_l y.l.length ky_l) (fun E hb=>Af rfl Tryz.underlying33 rfl ((E.q 8 0 c8.out).1 hb) (AL (pre:=[]) (mid:=y.c.cells) (post:=[.slice ay_l y.l.length ky_l]) (m:=37) (k:=0) HB3.o (Cm.len HOKy.o.2.1) rfl rfl)) ?_
 intro g8 hw
 have c9:=hid hw
 clear hw
 refine AH (b:=(eqb x.c y.c)) rfl (.bool (eqb x.l y.l)) (args:=#[.slice ax_l x.l.length kx_l,.slice ay_l y.l.length ky_l]) (fun E=>((Ag rfl rfl (E.sz 10 aM) (E.d 5 4)).trans (beq_t _))) rfl Tryz.func92 (fun E hb=>Ar ((E.q 7 2 c7.out).1 hb) ((E.q 9 0 c9.out).1 hb)) (fun hb=>EqL_St _ _ _ _ _ _ _ d6.out d7.out bO bN) ?_
 intro g9 d8 hw hm
 have d5:=hid hw
 clear hw
 have i7:=hm.size
 have d9:=hid (show Mod (fun _=>False) w1 d8 from hm)
 clear hm
 refine QSeq.pure rfl (.bool ((eqb x.c y.c) && (eqb x.l y.l))) (fun E=>A5 rfl (E.d 5 5) rfl rfl (Be fun hb=>(E.q 10 0 d5.out).1 hb)) ?_
 refine qas rfl 11 0 ?_
 clear c6 c7 c8 c9 d5
 refine qe ?_
 clear HA0 c3 c4 a0
 go_wp2
 go_ret
 exact ⟨Bw (ce_eqb x y),(HM0.o.trans d9.out iB)⟩
open Go.Proofs renaming Tryz.func93→va',Tryz.ntmps93→vb',Tryz.underlying38→vc',Tryz.underlying35→vf',Tryz.func60→vg' in
open Go.Proofs.YtnaoeginonpicaaGreat renaming CeR→vd',Eq_Ce→vh' in
open Go.Gv renaming n'38→ve' in
set_option maxHeartbeats 4000000 in
theorem EqL_Ce:EqsL CeR 93:=
 fm17'
set_option maxHeartbeats 4000000 in
theorem Eq_Pm:Eqs PmR 61:=by
 intro R R2 cs ds x y w hx hy hB hB2
 obtain ⟨vx_l,rfl,hokx,hx_l⟩:=hx
 obtain ⟨ax_l,kx_l,rfl⟩:=hx_l.shape
 have Hx_l:=B8 hx_l
 clear hx_l
 have HOKx:=B8 hokx
 clear hokx
 obtain ⟨vy_l,rfl,hoky,hy_l⟩:=hy
 obtain ⟨ay_l,ky_l,rfl⟩:=hy_l.shape
 have Hy_l:=B8 hy_l
 clear hy_l
 have HOKy:=B8 hoky
 clear hoky
 have HBR:=B8 hB
 have HBT:=B8 hB2
 clear hB hB2
 go_enter Tryz.func61,Tryz.ntmps61
 go_upto_region 1 with (fail)
 obtain ⟨w1,hw1⟩:∃ zz,zz=((w.alloc (.cells (x.cells (.slice ax_l x.l.length kx_l):List Value).toArray 40)).alloc (.cells (y.cells (.slice ay_l y.l.length ky_l):List Value).toArray 40)):=⟨_,rfl⟩
 change Code.wp _ _ _ _ ((w.alloc (.cells (x.cells (.slice ax_l x.l.length kx_l):List Value).toArray 40)).alloc (.cells (y.cells (.slice ay_l y.l.length ky_l):List Value).toArray 40))
 rw [← hw1]
 have HB2:=hid (show Cs w1 (w.heap.size) (x.cells (.slice ax_l x.l.length kx_l):List Value).toArray 40 by rw [hw1];exact (Cs.new _ _ _).alloc _)
 have HB3:=hid (show Cs w1 (w.heap.size+1) (y.cells (.slice ay_l y.l.length ky_l):List Value).toArray 40 by rw [hw1];exact Cs_newN _ _ _ bA)
 have hm:Mod (fun _=>False) w w1:=by rw [hw1];exact ((Mod.refl _ _).alloc _).alloc _
 have HM0:=hid (show Mod (fun _=>False) w w1 from hm.mono iB)
 have hs1:w1.heap.size=w.heap.size+2:=by rw [hw1];simp
 have j5:=hid (Hx_l.o.mod hm iA)
 clear Hx_l
 have j6:=hid (Hy_l.o.mod hm iA)
 clear Hy_l
 clear hw1 hm
 go_upto_region 1 with (fail)
 refine Ab 38 [5,6,7,8,9,10,11,12,13,14,15,16,17,18,19,20,21,22,23,24,25,26,27,28,29,30,31,32,33,34,35,36,37,4] [0,1,2,3,4,5,6,7,8,9,10,11,12,13,14,15,16,17,18,19,20,21,22,23,24,25,26,27,28,29,30,31,32,33] (fun a0 HA0=>?_)
 have c3:=ev HA0 2 rfl
 have c4:=ev HA0 3 rfl
 refine qfd rfl 0 Tryz.underlying40 c3 ?_
 refine QSeq.pure rfl _ (fun E=>Af rfl B9 rfl (E.d 0 0) (AC HB2.o rfl)) ?_
 refine qfd rfl 0 Tryz.underlying40 c4 ?_
 refine QSeq.pure rfl _ (fun E=>Af rfl B9 rfl (E.d 2 0) (AC HB3.o rfl)) ?_
 refine QSeq.pure rfl (.bool (x.rp == y.rp)) (fun E=>ex_bin rfl (E.d 1 2) (E.d 3 0) (Ai _ _ _ _ _ _) (Bs _ _ _ B9)) ?_
 refine qmv rfl 4 0 ?_
 refine qmy rfl 5 0 (.pointer (some ⟨w.heap.size,1,none⟩)) (fun E hb=>Ae rfl Tryz.underlying40 rfl aE (E.v c3)) ?_
 intro j9 hw
 have c6:=hid hw
 clear hw
 refine qmy rfl 5 1 (.int .i64 x.ep) (fun E hb=>Af rfl B9 rfl ((E.q 6 0 c6.out).1 hb) (AC HB2.o rfl)) ?_
 intro l7 hw
 have c7:=hid hw
 clear hw
 refine qmy rfl 5 2 (.pointer (some ⟨w.heap.size+1,1,none⟩)) (fun E hb=>Ae rfl Tryz.underlying40 rfl aE (E.v c4)) ?_
 intro l8 hw
 have c8:=hid hw
 clear hw
 refine qmy rfl 5 3 (.int .i64 y.ep) (fun E hb=>Af rfl B9 rfl ((E.q 8 0 c8.out).1 hb) (AC HB3.o rfl)) ?_
 intro m7 hw
 have c9:=hid hw
 clear hw
 refine qmy rfl 5 4 (.bool (x.ep == y.ep)) (fun E hb=>ex_bin rfl ((E.q 7 2 c7.out).1 hb) ((E.q 9 0 c9.out).1 hb) (Ai _ _ _ _ _ _) (Bs _ _ _ B9)) ?_
 intro m8 hw
 have d5:=hid hw
 clear hw
 refine QSeq.pure rfl (.bool ((x.rp == y.rp) && (x.ep == y.ep))) (fun E=>A5 rfl (E.d 5 5) rfl rfl (Be fun hb=>(E.q 10 0 d5.out).1 hb)) ?_
 refine qmv rfl 11 0 ?_
 refine qmy rfl 12 0 (.pointer (some ⟨w.heap.size,2,none⟩)) (fun E hb=>Ae rfl Tryz.underlying40 rfl aE (E.v c3)) ?_
 intro m9 hw
 have d6:=hid hw
 clear hw
 refine qmy rfl 12 1 (.int .u64 (x.fl:Nat)) (fun E hb=>Af rfl E0 rfl ((E.q 13 0 d6.out).1 hb) (AC HB2.o rfl)) ?_
 intro n5 hw
 have d7:=hid hw
 clear hw
 refine qmy rfl 12 2 (.pointer (some ⟨w.heap.size+1,2,none⟩)) (fun E hb=>Ae rfl Tryz.underlying40 rfl aE (E.v c4)) ?_
 intro n6 hw
 have d8:=hid hw
 clear hw
 refine qmy rfl 12 3 (.int .u64 (y.fl:Nat)) (fun E hb=>Af rfl E0 rfl ((E.q 15 0 d8.out).1 hb) (AC HB3.o rfl)) ?_
 intro n7 hw
 have d9:=hid hw
 clear hw
 refine qmy rfl 12 4 (.bool (((x.fl:Nat):Int) == ((y.fl:Nat):Int))) (fun E hb=>ex_bin rfl ((E.q 14 2 d7.out).1 hb) ((E.q 16 0 d9.out).1 hb) (Ai _ _ _ _ _ _) (Bs _ _ _ E0)) ?_
 intro n8 hw
 have g5:=hid hw
 clear hw
 refine QSeq.pure rfl (.bool (((x.rp == y.rp) && (x.ep == y.ep)) && (((x.fl:Nat):Int) == ((y.fl:Nat):Int)))) (fun E=>A5 rfl (E.d 12 5) rfl rfl (Be fun hb=>(E.q 17 0 g5.out).1 hb)) ?_
 refine qmv rfl 18 0 ?_
 refine qmy rfl 19 0 (.pointer (some ⟨w.heap.size,4,none⟩)) (fun E hb=>Ae rfl Tryz.underlying40 rfl aE (E.v c3)) ?_
 intro o5 hw
 have g6:=hid hw
 clear hw
 refine qmy rfl 19 1 (.agg #[.int .i64 x.sb,.int .i64 x.mr]) (fun E hb=>Ak rfl Tryz.underlying27 rfl (off:=4) (cs:=[.int .i64 x.sb,.int .i64 x.mr]) aE ((E.q 20 0 g6.out).1 hb) (AK HB2.o rfl)) ?_
 intro o6 hw
 have g7:=hid hw
 clear hw
 refine qmy rfl 19 2 (.pointer (some ⟨w.heap.size+1,4,none⟩)) (fun E hb=>Ae rfl Tryz.underlying40 rfl aE (E.v c4)) ?_
 intro o7 hw
 have g8:=hid hw
 clear hw
 refine qmy rfl 19 3 (.agg #[.int .i64 y.sb,.int .i64 y.mr]) (fun E hb=>Ak rfl Tryz.underlying27 rfl (off:=4) (cs:=[.int .i64 y.sb,.int .i64 y.mr]) aE ((E.q 22 0 g8.out).1 hb) (AK HB3.o rfl)) ?_
 intro o8 hw
 have g9:=hid hw
 clear hw
 refine qmy rfl 19 4 (.bool (eqb (x.sb,x.mr) (y.sb,y.mr))) (fun E hb=>Aq rfl ((E.q 21 2 g7.out).1 hb) ((E.q 23 0 g9.out).1 hb) (agg_guardE _ _ _ _ _ _ aE _) (EqW.run eqW_sig (ki_2 x.sb x.mr) (ki_2 y.sb y.mr) (two_iff x.sb x.mr y.sb y.mr) _) rfl) ?_
 intro o9 hw
 have i7:=hid hw
 clear hw
 refine QSeq.pure rfl (.bool ((((x.rp == y.rp) && (x.ep == y.ep)) && (((x.fl:Nat):Int) == ((y.fl:Nat):Int))) && (eqb (x.sb,x.mr) (y.sb,y.mr)))) (fun E=>A5 rfl (E.d 19 5) rfl rfl (Be fun hb=>(E.q 24 0 i7.out).1 hb)) ?_
 refine qmv rfl 25 0 ?_
 refine qmy rfl 26 0 (.pointer (some ⟨w.heap.size,3,none⟩)) (fun E hb=>Ae rfl Tryz.underlying40 rfl aE (E.v c3)) ?_
 intro p5 hw
 have i8:=hid hw
 clear hw
 refine qmy rfl 26 1 (.slice ax_l x.l.length kx_l) (fun E hb=>Af rfl Tryz.underlying38 rfl ((E.q 27 0 i8.out).1 hb) (AC HB2.o rfl)) ?_
 intro p6 hw
 have i9:=hid hw
 clear hw
 refine qmy rfl 26 2 (.pointer (some ⟨w.heap.size+1,3,none⟩)) (fun E hb=>Ae rfl Tryz.underlying40 rfl aE (E.v c4)) ?_
 intro p7 hw
 have j0:=hid hw
 clear hw
 refine qmy rfl 26 3 (.slice ay_l y.l.length ky_l) (fun E hb=>Af rfl Tryz.underlying38 rfl ((E.q 29 0 j0.out).1 hb) (AC HB3.o rfl)) ?_
 intro p8 hw
 have j3:=hid hw
 clear hw
 refine AH (b:=((((x.rp == y.rp) && (x.ep == y.ep)) && (((x.fl:Nat):Int) == ((y.fl:Nat):Int))) && (eqb (x.sb,x.mr) (y.sb,y.mr)))) rfl (.bool (eqb x.l y.l)) (args:=#[.slice ax_l x.l.length kx_l,.slice ay_l y.l.length ky_l]) (fun E=>((Ag rfl rfl (E.sz 31 aM) (E.d 26 4)).trans (beq_t _))) rfl Tryz.func93 (fun E hb=>Ar ((E.q 28 2 i9.out).1 hb) ((E.q 30 0 j3.out).1 hb)) (fun hb=>EqL_Ce _ _ _ _ _ _ _ j5.out j6.out bO bN) ?_
 intro p9 j7 hw hm
 have j4:=hid hw
 clear hw
 have q6:=hm.size
 have j8:=hid (show Mod (fun _=>False) w1 j7 from hm)
 clear hm
 refine QSeq.pure rfl (.bool (((((x.rp == y.rp) && (x.ep == y.ep)) && (((x.fl:Nat):Int) == ((y.fl:Nat):Int))) && (eqb (x.sb,x.mr) (y.sb,y.mr))) && (eqb x.l y.l))) (fun E=>A5 rfl (E.d 26 5) rfl rfl (Be fun hb=>(E.q 31 0 j4.out).1 hb)) ?_
 refine qas rfl 32 0 ?_
 clear c6 c7 c8 c9 d5 d6 d7 d8 d9 g5 g6 g7 g8 g9 i7 i8 i9 j0 j3 j4
 refine qe ?_
 clear HA0 c3 c4 a0
 go_wp2
 go_ret
 exact ⟨Bw (pm_eqb x y),(HM0.o.trans j8.out iB)⟩
set_option maxHeartbeats 4000000 in
theorem Eq_Op:Eqs OpR 63:=by
 intro R R2 cs ds x y w hx hy hB hB2
 obtain ⟨vx_pl,rfl,hokx,hx_pl⟩:=hx
 obtain ⟨ax_pl,kx_pl,rfl⟩:=hx_pl.shape
 have Hx_pl:=B8 hx_pl
 clear hx_pl
 have HOKx:=B8 hokx
 clear hokx
 obtain ⟨vy_pl,rfl,hoky,hy_pl⟩:=hy
 obtain ⟨ay_pl,ky_pl,rfl⟩:=hy_pl.shape
 have Hy_pl:=B8 hy_pl
 clear hy_pl
 have HOKy:=B8 hoky
 clear hoky
 have HBR:=B8 hB
 have HBT:=B8 hB2
 clear hB hB2
 go_enter Tryz.func63,Tryz.ntmps63
 go_upto_region 1 with (fail)
 obtain ⟨w1,hw1⟩:∃ zz,zz=((w.alloc (.cells (x.cells (.slice ax_pl x.pl.length kx_pl):List Value).toArray 54)).alloc (.cells (y.cells (.slice ay_pl y.pl.length ky_pl):List Value).toArray 54)):=⟨_,rfl⟩
 change Code.wp _ _ _ _ ((w.alloc (.cells (x.cells (.slice ax_pl x.pl.length kx_pl):List Value).toArray 54)).alloc (.cells (y.cells (.slice ay_pl y.pl.length ky_pl):List Value).toArray 54))
 rw [← hw1]
 have HB2:=hid (show Cs w1 (w.heap.size) (x.cells (.slice ax_pl x.pl.length kx_pl):List Value).toArray 54 by rw [hw1];exact (Cs.new _ _ _).alloc _)
 have HB3:=hid (show Cs w1 (w.heap.size+1) (y.cells (.slice ay_pl y.pl.length ky_pl):List Value).toArray 54 by rw [hw1];exact Cs_newN _ _ _ bA)
 have hm:Mod (fun _=>False) w w1:=by rw [hw1];exact ((Mod.refl _ _).alloc _).alloc _
 have HM0:=hid (show Mod (fun _=>False) w w1 from hm.mono iB)
 have hs1:w1.heap.size=w.heap.size+2:=by rw [hw1];simp
 have g6:=hid (Hx_pl.o.mod hm iA)
 clear Hx_pl
 have g7:=hid (Hy_pl.o.mod hm iA)
 clear Hy_pl
 clear hw1 hm
 go_upto_region 1 with (fail)
 refine Ab 24 [5,6,7,8,9,10,11,12,13,14,15,16,17,18,19,20,21,22,23,4] [0,1,2,3,4,5,6,7,8,9,10,11,12,13,14,15,16,17,18,19] (fun a0 HA0=>?_)
 have c3:=ev HA0 2 rfl
 have c4:=ev HA0 3 rfl
 refine qfd rfl 0 Tryz.underlying54 c3 ?_
 refine QSeq.pure rfl _ (fun E=>Af rfl B9 rfl (E.d 0 0) (Cs.hd1 HB2.o rfl)) ?_
 refine qfd rfl 0 Tryz.underlying54 c4 ?_
 refine QSeq.pure rfl _ (fun E=>Af rfl B9 rfl (E.d 2 0) (Cs.hd1 HB3.o rfl)) ?_
 refine QSeq.pure rfl (.bool (x.ix == y.ix)) (fun E=>ex_bin rfl (E.d 1 2) (E.d 3 0) (Ai _ _ _ _ _ _) (Bs _ _ _ B9)) ?_
 refine qmv rfl 4 0 ?_
 refine qmy rfl 5 0 (.pointer (some ⟨w.heap.size,2,none⟩)) (fun E hb=>Ae rfl Tryz.underlying54 rfl aE (E.v c3)) ?_
 intro i7 hw
 have c6:=hid hw
 clear hw
 refine qmy rfl 5 1 (hv x.nc) (fun E hb=>Ak rfl D8 rfl (off:=2) (cs:=x.nc.map bv) (by rw [List.length_map,HOKx.o.2.1];exact size_hash) ((E.q 6 0 c6.out).1 hb) (Cs.tlA HB2.o rfl)) ?_
 intro i8 hw
 have c7:=hid hw
 clear hw
 refine qmy rfl 5 2 (.pointer (some ⟨w.heap.size+1,2,none⟩)) (fun E hb=>Ae rfl Tryz.underlying54 rfl aE (E.v c4)) ?_
 intro i9 hw
 have c8:=hid hw
 clear hw
 refine qmy rfl 5 3 (hv y.nc) (fun E hb=>Ak rfl D8 rfl (off:=2) (cs:=y.nc.map bv) (by rw [List.length_map,HOKy.o.2.1];exact size_hash) ((E.q 8 0 c8.out).1 hb) (Cs.tlA HB3.o rfl)) ?_
 intro j0 hw
 have c9:=hid hw
 clear hw
 refine qmy rfl 5 4 (.bool (eqb x.nc y.nc)) (fun E hb=>Aq rfl ((E.q 7 2 c7.out).1 hb) ((E.q 9 0 c9.out).1 hb) (hv_guard2 _ _ _ _ _ _) (hv_eql HOKx.o.2.1 HOKy.o.2.1 _) (congrArg Value.bool (dec_eqb _ _))) ?_
 intro j3 hw
 have d5:=hid hw
 clear hw
 refine QSeq.pure rfl (.bool ((x.ix == y.ix) && (eqb x.nc y.nc))) (fun E=>A5 rfl (E.d 5 5) rfl rfl (Be fun hb=>(E.q 10 0 d5.out).1 hb)) ?_
 refine qmv rfl 11 0 ?_
 refine qmy rfl 12 0 (.pointer (some ⟨w.heap.size,1,none⟩)) (fun E hb=>Ae rfl Tryz.underlying54 rfl aE (E.v c3)) ?_
 intro j4 hw
 have d6:=hid hw
 clear hw
 refine qmy rfl 12 1 (.slice ax_pl x.pl.length kx_pl) (fun E hb=>Af rfl D2 rfl ((E.q 13 0 d6.out).1 hb) (Cs.hd1 HB2.o rfl)) ?_
 intro j5 hw
 have d7:=hid hw
 clear hw
 refine qmy rfl 12 2 (.pointer (some ⟨w.heap.size+1,1,none⟩)) (fun E hb=>Ae rfl Tryz.underlying54 rfl aE (E.v c4)) ?_
 intro j6 hw
 have d8:=hid hw
 clear hw
 refine qmy rfl 12 3 (.slice ay_pl y.pl.length ky_pl) (fun E hb=>Af rfl D2 rfl ((E.q 15 0 d8.out).1 hb) (Cs.hd1 HB3.o rfl)) ?_
 intro j7 hw
 have d9:=hid hw
 clear hw
 refine AH (b:=((x.ix == y.ix) && (eqb x.nc y.nc))) rfl (.bool (eqb x.pl y.pl)) (args:=#[.slice ax_pl x.pl.length kx_pl,.slice ay_pl y.pl.length ky_pl]) (fun E=>((Ag rfl rfl (E.sz 17 aM) (E.d 12 4)).trans (beq_t _))) rfl Tryz.func17 (fun E hb=>Ar ((E.q 14 2 d7.out).1 hb) ((E.q 16 0 d9.out).1 hb)) (fun hb=>Same_B g6.out g7.out) ?_
 intro j8 g8 hw hm
 have g5:=hid hw
 clear hw
 have j9:=hm.size
 have g9:=hid (show Mod (fun _=>False) w1 g8 from hm)
 clear hm
 refine QSeq.pure rfl (.bool (((x.ix == y.ix) && (eqb x.nc y.nc)) && (eqb x.pl y.pl))) (fun E=>A5 rfl (E.d 12 5) rfl rfl (Be fun hb=>(E.q 17 0 g5.out).1 hb)) ?_
 refine qas rfl 18 0 ?_
 clear c6 c7 c8 c9 d5 d6 d7 d8 d9 g5
 refine qe ?_
 clear HA0 c3 c4 a0
 go_wp2
 go_ret
 exact ⟨Bw (op_eqb x y),(HM0.o.trans g9.out iB)⟩
open Go.Proofs renaming Tryz.func94→va',Tryz.ntmps94→vb',Tryz.underlying42→vc',Tryz.underlying54→vf',Tryz.func63→vg' in
open Go.Proofs.YtnaoeginonpicaaGreat renaming OpR→vd',Eq_Op→vh' in
open Go.Gv renaming n'34→ve' in
set_option maxHeartbeats 4000000 in
theorem EqL_Op:EqsL OpR 94:=
 fm17'
set_option maxHeartbeats 4000000 in
theorem EqL_Tb:EqsL TbR 95:=by
 intro R R2 v v2 l m w hs ht hB hB2
 obtain ⟨ao,cap,rfl⟩:=hs.shape
 obtain ⟨bo,bcap,rfl⟩:=ht.shape
 have hlm:l.length≤maxLen:=hs.bd
 rw [Ax] at hlm
 have HS:=B8 hs
 have HT:=B8 ht
 have HBR:=B8 hB
 have HBT:=B8 hB2
 clear hs ht hB hB2
 go_enter Tryz.func95,Tryz.ntmps95
 go_upto_region 1 with (fail)
 have HM0:=hid (Mod.refl (fun _=>False) w)
 by_cases hl:l.length=m.length
 rotate_left
 ·skip
  go_upto_region 1 with (fail)
  refine Ab 42 [6,7,8,9,10] [0,1,2,3,4] (fun a0 HA0=>?_)
  have c3:=ev HA0 0 rfl
  have c6:=ev HA0 1 rfl
  refine qmo rfl c3 ?_
  refine QSeq.pure rfl (.int .i64 l.length) (fun E=>A2 rfl (E.d 0 0) D0) ?_
  refine qmo rfl c6 ?_
  refine QSeq.pure rfl (.int .i64 m.length) (fun E=>A2 rfl (E.d 2 0) D0) ?_
  refine QSeq.pure rfl (.bool true) (fun E=>Aq rfl (E.d 1 2) (E.d 3 0) (Ai _ _ _ _ _ _) (run_neq_i _ _ _ B9) (congrArg Value.bool (ne_tt aL))) ?_
  refine qe ?_
  clear HA0 c3 c6 a0
  go_upto_region 2 with (fail)
  refine Ab 42 [4] [0] (fun a0 HA0=>?_)
  refine QSeq.pure rfl (.bool false) (fun E=>An rfl rfl) ?_
  refine qe ?_
  clear HA0 a0
  go_wp2
  go_ret
  exact ⟨Bw (eqb_ne fun e=>hl (by rw [e])).symm,HM0.o⟩
 ·skip
  go_upto_region 1 with (fail)
  refine Ab 42 [6,7,8,9,10] [0,1,2,3,4] (fun a0 HA0=>?_)
  have c3:=ev HA0 0 rfl
  have c6:=ev HA0 1 rfl
  refine qmo rfl c3 ?_
  refine QSeq.pure rfl (.int .i64 l.length) (fun E=>A2 rfl (E.d 0 0) D0) ?_
  refine qmo rfl c6 ?_
  refine QSeq.pure rfl (.int .i64 m.length) (fun E=>A2 rfl (E.d 2 0) D0) ?_
  refine QSeq.pure rfl (.bool false) (fun E=>Aq rfl (E.d 1 2) (E.d 3 0) (Ai _ _ _ _ _ _) (run_neq_i _ _ _ B9) (congrArg Value.bool (ne_ff aL))) ?_
  refine qe ?_
  clear HA0 c3 c6 a0
  go_upto_region 3 with (fail)
  refine Ab 42 [11,12,13] [0,1,2] (fun a0 HA0=>?_)
  have c3:=ev HA0 0 rfl
  refine qmo rfl c3 ?_
  refine QSeq.pure rfl (.int .i64 l.length) (fun E=>A2 rfl (E.d 0 0) D0) ?_
  refine QSeq.pure rfl (.int .i64 0) (fun E=>Al rfl rfl) ?_
  refine qe ?_
  clear HA0 c3 a0
  have HLE:=B8 hl
  clear hl
  go_wp2
  go_loopw [13,5] (fun ti t5 wr=>∃ k:Nat,ti=.int .i64 (k:Int)∧k≤l.length∧l.take k=m.take k∧w.heap.size≤wr.heap.size∧RdS TbR R wr (.slice ao l.length cap) l∧RdS TbR R2 wr (.slice bo m.length bcap) m∧Mod (fun _=>False) w wr) (fun ti t5 _=>l.length - (intOf ti).toNat)
  case atStart=>exact ⟨0,rfl,Nat.zero_le _,rfl,C0 _,HS.o,HT.o,HM0.o⟩
  case round=>
   obtain ⟨k,rfl,hk,htk,hz,hs,ht,hm⟩:=hrel
   obtain ⟨wl,rfl⟩:∃ x,x=wr:=⟨_,rfl⟩
   have HS2:=B8 hs
   have HT2:=B8 ht
   have HML:=B8 hm
   have HTK:=B8 htk
   clear hs ht hm htk HS HT HM0
   by_cases hlt:k < l.length
   ·have hlt2:k < m.length:=by have:=HLE.o;omega
    go_upto_region 4 with (fail)
    refine Ab 42 [14] [0] (fun a0 HA0=>?_)
    have c7:=ev HA0 12 rfl
    have c4:=ev HA0 13 rfl
    refine QSeq.pure rfl (.bool true) (fun E=>Aq rfl (E.v c4) (E.v c7) (Ai _ _ _ _ _ _) (A1 _ _ _ B9) (congrArg Value.bool (decide_eq_true aL))) ?_
    refine qe ?_
    clear HA0 c7 c4 a0
    go_upto_region 5 with (fail)
    refine Ab 42 [15,5] [0,1] (fun a0 HA0=>?_)
    have c4:=ev HA0 13 rfl
    refine qmo rfl c4 ?_
    refine qas rfl 0 0 ?_
    refine qe ?_
    clear HA0 c4 a0
    have hat:=HS2.o.at hlt
    obtain ⟨g1,o1,c1,eao,hrg,hrd,hcs⟩:=hat
    subst eao
    obtain ⟨x,hx⟩:∃ z,z=l[k]:=⟨_,rfl⟩
    rw [← hx] at hrd
    have HX1:=B8 hx
    have hcl:c1.length=2:=TbR.len hrd
    have HCL1:=B8 hcl
    have HAT1:=hid (show CellsAt R wl g1 (o1+k * 2) c1 from ⟨hrg,hcs⟩)
    have HRD1:=B8 hrd
    clear hcl hcs hrd hrg hx
    have hat:=HT2.o.at hlt2
    obtain ⟨g2,o2,c2,eao,hrg,hrd,hcs⟩:=hat
    subst eao
    obtain ⟨y,hy⟩:∃ z,z=m[k]:=⟨_,rfl⟩
    rw [← hy] at hrd
    have HX2:=B8 hy
    have hcl:c2.length=2:=TbR.len hrd
    have HCL2:=B8 hcl
    have HAT2:=hid (show CellsAt R2 wl g2 (o2+k * 2) c2 from ⟨hrg,hcs⟩)
    have HRD2:=B8 hrd
    clear hcl hcs hrd hrg hy
    obtain ⟨b,hb⟩:∃ b,b=eqb x y:=⟨_,rfl⟩
    have HB:=B8 hb
    clear hb
    obtain ⟨v_l1,rfl,hok1,hsl1⟩:=HRD1.o
    obtain ⟨al1,kl1,rfl⟩:=hsl1.shape
    have HSL1:=B8 hsl1
    clear hok1 hsl1
    clear HRD1
    obtain ⟨v_l2,rfl,hok2,hsl2⟩:=HRD2.o
    obtain ⟨al2,kl2,rfl⟩:=hsl2.shape
    have HSL2:=B8 hsl2
    clear hok2 hsl2
    clear HRD2
    go_upto_region 6 with (fail)
    generalize ha0:Act.mk _ _=a0
    have c3:a0.eval (.tmp 0)=.slice (some ⟨g1,o1,none⟩) l.length cap:=by rw [← ha0];rfl
    have c6:a0.eval (.tmp 1)=.slice (some ⟨g2,o2,none⟩) m.length bcap:=by rw [← ha0];rfl
    have c8:a0.eval (.tmp 5)=.int .i64 ((k:Nat):Int):=by rw [← ha0];rfl
    have hsz0:a0.tmps.size=42:=by rw [← ha0];rfl
    have HA0:=hid ha0
    clear ha0
    refine A7 42 hsz0 [16,17,18,19,20,21,22,23,24,25,26,27,28,29,30,31,32,33,34,35,36,37,38,39,40] [qi (.slice (some ⟨g1,o1,none⟩) l.length cap),qi (.int .i64 ((k:Nat):Int)),qi (.pointer (some ⟨g1,o1+k * 2,none⟩)),qi (.pointer (some ⟨g1,o1+k * 2,none⟩)),qi (.int .i64 x.ix),qi (.slice (some ⟨g2,o2,none⟩) m.length bcap),qi (.int .i64 ((k:Nat):Int)),qi (.pointer (some ⟨g2,o2+k * 2,none⟩)),qi (.pointer (some ⟨g2,o2+k * 2,none⟩)),qi (.int .i64 y.ix),qi (.bool (!(x.ix == y.ix))),qi (.bool (!(x.ix == y.ix))),qc (!(!(x.ix == y.ix))) (qi (.slice (some ⟨g1,o1,none⟩) l.length cap)),qc (!(!(x.ix == y.ix))) (qi (.int .i64 ((k:Nat):Int))),qc (!(!(x.ix == y.ix))) (qi (.pointer (some ⟨g1,o1+k * 2,none⟩))),qc (!(!(x.ix == y.ix))) (qi (.pointer (some ⟨g1,o1+k * 2+1,none⟩))),qc (!(!(x.ix == y.ix))) (qi (.slice al1 x.l.length kl1)),qc (!(!(x.ix == y.ix))) (qi (.slice (some ⟨g2,o2,none⟩) m.length bcap)),qc (!(!(x.ix == y.ix))) (qi (.int .i64 ((k:Nat):Int))),qc (!(!(x.ix == y.ix))) (qi (.pointer (some ⟨g2,o2+k * 2,none⟩))),qc (!(!(x.ix == y.ix))) (qi (.pointer (some ⟨g2,o2+k * 2+1,none⟩))),qc (!(!(x.ix == y.ix))) (qi (.slice al2 y.l.length kl2)),qc (!(!(x.ix == y.ix))) (qi (.bool (eqb x.l y.l))),qc (!(!(x.ix == y.ix))) (qi (.bool (!(eqb x.l y.l)))),qi (.bool ((!(x.ix == y.ix)) || (!(eqb x.l y.l))))] ⟨Ac,Ac,Ac,Ac,Ac,Ac,Ac,Ac,Ac,Ac,Ac,Ac,(qc_stable Ac),(qc_stable Ac),(qc_stable Ac),(qc_stable Ac),(qc_stable Ac),(qc_stable Ac),(qc_stable Ac),(qc_stable Ac),(qc_stable Ac),(qc_stable Ac),(qc_stable Ac),(qc_stable Ac),Ac,trivial⟩ [] ⟨?_,?_,?_,?_,?_,?_,?_,?_,?_,?_,?_,?_,?_,?_,?_,?_,?_,?_,?_,?_,?_,?_,?_,?_,?_,trivial⟩ ?_
    ·exact stq (fun E=>Al rfl (E.v c3))
    ·exact stq (fun E=>Al rfl (E.v c8))
    ·exact stq (fun E=>Bq (i:=k) (s:=2) rfl D0 aE (E.d 0) (E.d 1) cR)
    ·exact stq (fun E=>Ae rfl E4 rfl aE (E.d 2))
    ·exact stq (fun E=>Af rfl B9 rfl (E.d 3) ((HAT1.o.mod E.m.old aO).2 0 _ rfl))
    ·exact stq (fun E=>Al rfl (E.v c6))
    ·exact stq (fun E=>Al rfl (E.v c8))
    ·exact stq (fun E=>Bq (i:=k) (s:=2) rfl D0 aE (E.d 5) (E.d 6) cR)
    ·exact stq (fun E=>Ae rfl E4 rfl aE (E.d 7))
    ·exact stq (fun E=>Af rfl B9 rfl (E.d 8) ((HAT2.o.mod E.m.old cI).2 0 _ rfl))
    ·exact stq (fun E=>ex_bin rfl (E.d 4) (E.d 9) (Ai _ _ _ _ _ _) (run_neq_i _ _ _ B9))
    ·exact stq (fun E=>Al rfl (E.d 10))
    ·refine Ay rfl rfl rfl fun _ _ _ _ _ _ _ hout hsz hd _ _=>?_
     have h11:=hd ⟨11,.guard⟩ bA rfl _ rfl
     refine qe_guard rfl (b:=(!(!(x.ix == y.ix)))) ((Ag rfl rfl (hsz 27 aM) h11).trans bA) rfl (fun hb l' hl'=>?_)
     have hb0:=hb
     have hb:(!(x.ix == y.ix))=false:=by simpa using hb
     refine Bl rfl ((Ag rfl rfl (hsz 27 aM) h11).trans eA) (Al rfl ((hout 0 aM).trans c3)) QE.refl ?_
     rw [hl'];rfl
    ·refine Ay rfl rfl rfl fun _ _ _ _ _ _ _ hout hsz hd _ _=>?_
     have h11:=hd ⟨11,.guard⟩ bA rfl _ rfl
     refine qe_guard rfl (b:=(!(!(x.ix == y.ix)))) ((Ag rfl rfl (hsz 27 aM) h11).trans bA) rfl (fun hb l' hl'=>?_)
     have hb0:=hb
     have hb:(!(x.ix == y.ix))=false:=by simpa using hb
     refine Bl rfl ((Ag rfl rfl (hsz 27 aM) h11).trans eA) (Al rfl ((hout 5 aM).trans c8)) QE.refl ?_
     rw [hl'];rfl
    ·refine Ay rfl rfl rfl fun _ _ _ _ _ _ _ _ hsz hd _ _=>?_
     have h11:=hd ⟨11,.guard⟩ bA rfl _ rfl
     have h12:=hd ⟨12,.data⟩ bA rfl _ rfl
     have h13:=hd ⟨13,.data⟩ bA rfl _ rfl
     refine qe_guard rfl (b:=(!(!(x.ix == y.ix)))) ((Ag rfl rfl (hsz 27 aM) h11).trans bA) rfl (fun hb l' hl'=>?_)
     have hb0:=hb
     have hb:(!(x.ix == y.ix))=false:=by simpa using hb
     refine Bl rfl ((Ag rfl rfl (hsz 27 aM) h11).trans eA) (Bq (i:=k) (s:=2) rfl D0 aE (h12.1 hb0) (h13.1 hb0) cR) QE.refl ?_
     rw [hl'];rfl
    ·refine Ay rfl rfl rfl fun _ _ _ _ _ _ _ _ hsz hd _ _=>?_
     have h11:=hd ⟨11,.guard⟩ bA rfl _ rfl
     have h14:=hd ⟨14,.data⟩ bA rfl _ rfl
     refine qe_guard rfl (b:=(!(!(x.ix == y.ix)))) ((Ag rfl rfl (hsz 27 aM) h11).trans bA) rfl (fun hb l' hl'=>?_)
     have hb0:=hb
     have hb:(!(x.ix == y.ix))=false:=by simpa using hb
     refine Bl rfl ((Ag rfl rfl (hsz 27 aM) h11).trans eA) (Ae rfl E4 rfl aE (h14.1 hb0)) QE.refl ?_
     rw [hl'];rfl
    ·refine Ay rfl rfl rfl fun _ _ _ _ _ hm _ _ hsz hd _ _=>?_
     have h11:=hd ⟨11,.guard⟩ bA rfl _ rfl
     have h15:=hd ⟨15,.data⟩ bA rfl _ rfl
     refine qe_guard rfl (b:=(!(!(x.ix == y.ix)))) ((Ag rfl rfl (hsz 27 aM) h11).trans bA) rfl (fun hb l' hl'=>?_)
     have hb0:=hb
     have hb:(!(x.ix == y.ix))=false:=by simpa using hb
     refine Bl rfl ((Ag rfl rfl (hsz 27 aM) h11).trans eA) (Af rfl Tryz.underlying125 rfl (h15.1 hb0) ((HAT1.o.mod hm.old aO).2 1 _ rfl)) QE.refl ?_
     rw [hl'];rfl
    ·refine Ay rfl rfl rfl fun _ _ _ _ _ _ _ hout hsz hd _ _=>?_
     have h11:=hd ⟨11,.guard⟩ bA rfl _ rfl
     refine qe_guard rfl (b:=(!(!(x.ix == y.ix)))) ((Ag rfl rfl (hsz 27 aM) h11).trans bA) rfl (fun hb l' hl'=>?_)
     have hb0:=hb
     have hb:(!(x.ix == y.ix))=false:=by simpa using hb
     refine Bl rfl ((Ag rfl rfl (hsz 27 aM) h11).trans eA) (Al rfl ((hout 1 aM).trans c6)) QE.refl ?_
     rw [hl'];rfl
    ·refine Ay rfl rfl rfl fun _ _ _ _ _ _ _ hout hsz hd _ _=>?_
     have h11:=hd ⟨11,.guard⟩ bA rfl _ rfl
     refine qe_guard rfl (b:=(!(!(x.ix == y.ix)))) ((Ag rfl rfl (hsz 27 aM) h11).trans bA) rfl (fun hb l' hl'=>?_)
     have hb0:=hb
     have hb:(!(x.ix == y.ix))=false:=by simpa using hb
     refine Bl rfl ((Ag rfl rfl (hsz 27 aM) h11).trans eA) (Al rfl ((hout 5 aM).trans c8)) QE.refl ?_
     rw [hl'];rfl
    ·refine Ay rfl rfl rfl fun _ _ _ _ _ _ _ _ hsz hd _ _=>?_
     have h11:=hd ⟨11,.guard⟩ bA rfl _ rfl
     have h17:=hd ⟨17,.data⟩ bA rfl _ rfl
     have h18:=hd ⟨18,.data⟩ bA rfl _ rfl
     refine qe_guard rfl (b:=(!(!(x.ix == y.ix)))) ((Ag rfl rfl (hsz 27 aM) h11).trans bA) rfl (fun hb l' hl'=>?_)
     have hb0:=hb
     have hb:(!(x.ix == y.ix))=false:=by simpa using hb
     refine Bl rfl ((Ag rfl rfl (hsz 27 aM) h11).trans eA) (Bq (i:=k) (s:=2) rfl D0 aE (h17.1 hb0) (h18.1 hb0) cR) QE.refl ?_
     rw [hl'];rfl
    ·refine Ay rfl rfl rfl fun _ _ _ _ _ _ _ _ hsz hd _ _=>?_
     have h11:=hd ⟨11,.guard⟩ bA rfl _ rfl
     have h19:=hd ⟨19,.data⟩ bA rfl _ rfl
     refine qe_guard rfl (b:=(!(!(x.ix == y.ix)))) ((Ag rfl rfl (hsz 27 aM) h11).trans bA) rfl (fun hb l' hl'=>?_)
     have hb0:=hb
     have hb:(!(x.ix == y.ix))=false:=by simpa using hb
     refine Bl rfl ((Ag rfl rfl (hsz 27 aM) h11).trans eA) (Ae rfl E4 rfl aE (h19.1 hb0)) QE.refl ?_
     rw [hl'];rfl
    ·refine Ay rfl rfl rfl fun _ _ _ _ _ hm _ _ hsz hd _ _=>?_
     have h11:=hd ⟨11,.guard⟩ bA rfl _ rfl
     have h20:=hd ⟨20,.data⟩ bA rfl _ rfl
     refine qe_guard rfl (b:=(!(!(x.ix == y.ix)))) ((Ag rfl rfl (hsz 27 aM) h11).trans bA) rfl (fun hb l' hl'=>?_)
     have hb0:=hb
     have hb:(!(x.ix == y.ix))=false:=by simpa using hb
     refine Bl rfl ((Ag rfl rfl (hsz 27 aM) h11).trans eA) (Af rfl Tryz.underlying125 rfl (h20.1 hb0) ((HAT2.o.mod hm.old cI).2 1 _ rfl)) QE.refl ?_
     rw [hl'];rfl
    ·refine Ay rfl rfl rfl fun _ _ _ _ _ hm _ _ hsz hd _ _=>?_
     have h11:=hd ⟨11,.chain⟩ bA rfl _ rfl
     have h16:=hd ⟨16,.data⟩ bA rfl _ rfl
     have h21:=hd ⟨21,.data⟩ bA rfl _ rfl
     refine qe_guard rfl (b:=(!(!(x.ix == y.ix)))) ((Ag rfl rfl (hsz 27 aM) h11).trans bA) rfl (fun hb l' hl'=>?_)
     have hb0:=hb
     have hb:(!(x.ix == y.ix))=false:=by simpa using hb
     refine qe_callF (args:=#[.slice al1 x.l.length kl1,.slice al2 y.l.length kl2]) rfl ((Ag rfl rfl (hsz 27 aM) h11).trans eA) rfl Tryz.func128 (Ar (h16.1 hb0) (h21.1 hb0)) (EqL_Dn _ _ _ _ _ _ _ (HSL1.o.mod hm.old aO) (HSL2.o.mod hm.old cI) bO bN) ?_
     rintro e w2 ⟨rfl,hm2⟩
     exact ⟨_,rfl,QE.still hm2,(by rw [hl'];rfl)⟩
    ·refine Ay rfl rfl rfl fun _ _ _ _ _ _ _ _ hsz hd _ _=>?_
     have h11:=hd ⟨11,.guard⟩ bA rfl _ rfl
     have h22:=hd ⟨22,.data⟩ bA rfl _ rfl
     refine qe_guard rfl (b:=(!(!(x.ix == y.ix)))) ((Ag rfl rfl (hsz 27 aM) h11).trans bA) rfl (fun hb l' hl'=>?_)
     have hb0:=hb
     have hb:(!(x.ix == y.ix))=false:=by simpa using hb
     refine Bl rfl ((Ag rfl rfl (hsz 27 aM) h11).trans eA) (B1 rfl (h22.1 hb0)) QE.refl ?_
     rw [hl'];rfl
    ·exact stq (fun E=>A5 rfl (E.d 11) rfl rfl (or_val fun hb=>(E.d 23).1 eA))
    intro d5 hr
    have d6:=hr.size
    have c9:=hid (hr.new (S:=(fun _=>False)))
    clear hr
    refine QChain.nil fun vs hl hzz hrows hne=>?_
    obtain ⟨Z,hYZ,hZb,hV⟩:=hzz
    have f0:=fvi hV hl 0
    have f1:=fvi hV hl 1
    have f5:=fvi hV hl 5
    have f6:=fvi hV hl 6
    have f11:=fvi hV hl 11
    have f24:=fvi hV hl 24
    rw [show vs=[gw vs 0,gw vs 1,gw vs 2,gw vs 3,gw vs 4,gw vs 5,gw vs 6,gw vs 7,gw vs 8,gw vs 9,gw vs 10,gw vs 11,gw vs 12,gw vs 13,gw vs 14,gw vs 15,gw vs 16,gw vs 17,gw vs 18,gw vs 19,gw vs 20,gw vs 21,gw vs 22,gw vs 23,gw vs 24] from (Bi hl).trans rfl]
    have ha0:=HA0.o
    subst ha0
    clear HA0 hV hYZ hZb hsz0 hrows hne c3 c6 c8
    simp only [Au,Act.put,sIB,sCZ,sCS,f0,f1,f5,f6,f11,f24]
    clear hl f0 f1 f5 f6 f11 f24
    rw [tb_eqb,← HB.o]
    cases b with
    | false=>
     go_upto_region 7 with (fail)
     refine Ab 42 [4] [0] (fun a0 HA0=>?_)
     refine QSeq.pure rfl (.bool false) (fun E=>An rfl rfl) ?_
     refine qe ?_
     clear HA0 a0
     go_wp2
     go_ret
     exact ⟨Bw (take_ne hlt hlt2 (fun e=>by have h:=HB.o;rw [HX1.o,HX2.o,e,eqb_rfl] at h;cases h)).symm,(HML.o.trans c9.out iB)⟩
    | true=>
     go_upto_region 8 with (fail)
     refine Ab 42 [41,13] [0,1] (fun a0 HA0=>?_)
     have c4:=ev HA0 13 rfl
     refine QSeq.pure rfl (.int .i64 (((k:Nat):Int)+1)) (fun E=>Aq rfl (E.y 1 c4) rfl (Ai _ _ _ _ _ _) (Bz _ _ B9) (congrArg (Value.int .i64) (IntWalk.i64_in _ aL))) ?_
     refine qmv rfl 0 0 ?_
     refine qe ?_
     clear HA0 c4 a0
     go_wp2
     go_roundw
     case rel=>exact ⟨k+1,by go_num,by omega,take_succ2 hlt hlt2 HTK.o dP,by omega,(HS2.o.mod c9.out iA),(HT2.o.mod c9.out iA),(HML.o.trans c9.out iB)⟩
     case measure=>simp [intOf]<;>omega
   ·skip
    go_upto_region 4 with (fail)
    refine Ab 42 [14] [0] (fun a0 HA0=>?_)
    have c7:=ev HA0 12 rfl
    have c4:=ev HA0 13 rfl
    refine QSeq.pure rfl (.bool false) (fun E=>Aq rfl (E.v c4) (E.v c7) (Ai _ _ _ _ _ _) (A1 _ _ _ B9) (congrArg Value.bool (decide_eq_false aL))) ?_
    refine qe ?_
    clear HA0 c7 c4 a0
    go_upto_region 9 with (fail)
    refine Ab 42 [4] [0] (fun a0 HA0=>?_)
    refine QSeq.pure rfl (.bool true) (fun E=>An rfl rfl) ?_
    refine qe ?_
    clear HA0 a0
    go_wp2
    go_ret
    exact ⟨Bw (take_all aL (by have:=HLE.o;omega) HTK.o).symm,HML.o⟩
set_option maxHeartbeats 8000000 in
theorem Eq_Ba:Eqs BaR 64:=by
 intro R R2 cs ds x y w hx hy hB hB2
 obtain ⟨vx_ps,vx_os,vx_ts,rfl,hokx,hx_ps,hx_os,hx_ts⟩:=hx
 obtain ⟨ax_ps,kx_ps,rfl⟩:=hx_ps.shape
 have Hx_ps:=B8 hx_ps
 clear hx_ps
 obtain ⟨ax_os,kx_os,rfl⟩:=hx_os.shape
 have Hx_os:=B8 hx_os
 clear hx_os
 obtain ⟨ax_ts,kx_ts,rfl⟩:=hx_ts.shape
 have Hx_ts:=B8 hx_ts
 clear hx_ts
 have HOKx:=B8 hokx
 clear hokx
 obtain ⟨vy_ps,vy_os,vy_ts,rfl,hoky,hy_ps,hy_os,hy_ts⟩:=hy
 obtain ⟨ay_ps,ky_ps,rfl⟩:=hy_ps.shape
 have Hy_ps:=B8 hy_ps
 clear hy_ps
 obtain ⟨ay_os,ky_os,rfl⟩:=hy_os.shape
 have Hy_os:=B8 hy_os
 clear hy_os
 obtain ⟨ay_ts,ky_ts,rfl⟩:=hy_ts.shape
 have Hy_ts:=B8 hy_ts
 clear hy_ts
 have HOKy:=B8 hoky
 clear hoky
 have HBR:=B8 hB
 have HBT:=B8 hB2
 clear hB hB2
 go_enter Tryz.func64,Tryz.ntmps64
 go_upto_region 1 with (fail)
 obtain ⟨w1,hw1⟩:∃ zz,zz=((w.alloc (.cells (x.cells (.slice ax_ps x.ps.length kx_ps) (.slice ax_os x.os.length kx_os) (.slice ax_ts x.ts.length kx_ts):List Value).toArray 45)).alloc (.cells (y.cells (.slice ay_ps y.ps.length ky_ps) (.slice ay_os y.os.length ky_os) (.slice ay_ts y.ts.length ky_ts):List Value).toArray 45)):=⟨_,rfl⟩
 change Code.wp _ _ _ _ ((w.alloc (.cells (x.cells (.slice ax_ps x.ps.length kx_ps) (.slice ax_os x.os.length kx_os) (.slice ax_ts x.ts.length kx_ts):List Value).toArray 45)).alloc (.cells (y.cells (.slice ay_ps y.ps.length ky_ps) (.slice ay_os y.os.length ky_os) (.slice ay_ts y.ts.length ky_ts):List Value).toArray 45))
 rw [← hw1]
 have HB2:=hid (show Cs w1 (w.heap.size) (x.cells (.slice ax_ps x.ps.length kx_ps) (.slice ax_os x.os.length kx_os) (.slice ax_ts x.ts.length kx_ts):List Value).toArray 45 by rw [hw1];exact (Cs.new _ _ _).alloc _)
 have HB3:=hid (show Cs w1 (w.heap.size+1) (y.cells (.slice ay_ps y.ps.length ky_ps) (.slice ay_os y.os.length ky_os) (.slice ay_ts y.ts.length ky_ts):List Value).toArray 45 by rw [hw1];exact Cs_newN _ _ _ bA)
 have hm:Mod (fun _=>False) w w1:=by rw [hw1];exact ((Mod.refl _ _).alloc _).alloc _
 have HM0:=hid (show Mod (fun _=>False) w w1 from hm.mono iB)
 have hs1:w1.heap.size=w.heap.size+2:=by rw [hw1];simp
 have d7:=hid (Hx_ps.o.mod hm iA)
 clear Hx_ps
 have g5:=hid (Hx_os.o.mod hm iA)
 clear Hx_os
 have g6:=hid (Hx_ts.o.mod hm iA)
 clear Hx_ts
 have d8:=hid (Hy_ps.o.mod hm iA)
 clear Hy_ps
 have g7:=hid (Hy_os.o.mod hm iA)
 clear Hy_os
 have g8:=hid (Hy_ts.o.mod hm iA)
 clear Hy_ts
 clear hw1 hm
 have hlx:x.ps.length≤maxLen:=d7.out.bd
 have hly:y.ps.length≤maxLen:=d8.out.bd
 rw [Ax] at hlx hly
 go_upto_region 1 with (fail)
 refine Ab 62 [6,7,8,9,10,11,12,13,14,15,16,17,18,19,20,21,22,23,24,25,26,27,28,29,30,31,32,33,34,35,36,37,38,39,40,41,42] [0,1,2,3,4,5,6,7,8,9,10,11,12,13,14,15,16,17,18,19,20,21,22,23,24,25,26,27,28,29,30,31,32,33,34,35,36] (fun a0 HA0=>?_)
 have c3:=ev HA0 2 rfl
 have c6:=ev HA0 3 rfl
 refine qfd rfl 0 C7 c3 ?_
 refine QSeq.pure rfl _ (fun E=>Af rfl B9 rfl (E.d 0 0) (AC HB2.o rfl)) ?_
 refine qfd rfl 0 C7 c6 ?_
 refine QSeq.pure rfl _ (fun E=>Af rfl B9 rfl (E.d 2 0) (AC HB3.o rfl)) ?_
 refine QSeq.pure rfl (.bool (!(x.ep == y.ep))) (fun E=>ex_bin rfl (E.d 1 2) (E.d 3 0) (Ai _ _ _ _ _ _) (run_neq_i _ _ _ B9)) ?_
 refine qmv rfl 4 0 ?_
 refine AG (b:=(!(!(x.ep == y.ep)))) rfl (.pointer (some ⟨w.heap.size,1,none⟩)) (fun E=>((Ag rfl rfl (E.sz 11 aM) (E.d 5 0)).trans (beq_f _))) (fun E hb0=>(by have hb:(!(x.ep == y.ep))=false:=cF;exact Ae rfl C7 rfl aE (E.v c3))) ?_
 intro p6 hw
 have g9:=hid hw
 clear hw
 refine AG (b:=(!(!(x.ep == y.ep)))) rfl (.int .u64 (x.tm:Nat)) (fun E=>((Ag rfl rfl (E.sz 11 aM) (E.d 5 1)).trans (beq_f _))) (fun E hb0=>(by have hb:(!(x.ep == y.ep))=false:=cF;exact Af rfl E0 rfl ((E.q 6 0 g9.out).1 hb0) (AC HB2.o rfl))) ?_
 intro p7 hw
 have i7:=hid hw
 clear hw
 refine AG (b:=(!(!(x.ep == y.ep)))) rfl (.pointer (some ⟨w.heap.size+1,1,none⟩)) (fun E=>((Ag rfl rfl (E.sz 11 aM) (E.d 5 2)).trans (beq_f _))) (fun E hb0=>(by have hb:(!(x.ep == y.ep))=false:=cF;exact Ae rfl C7 rfl aE (E.v c6))) ?_
 intro p8 hw
 have i8:=hid hw
 clear hw
 refine AG (b:=(!(!(x.ep == y.ep)))) rfl (.int .u64 (y.tm:Nat)) (fun E=>((Ag rfl rfl (E.sz 11 aM) (E.d 5 3)).trans (beq_f _))) (fun E hb0=>(by have hb:(!(x.ep == y.ep))=false:=cF;exact Af rfl E0 rfl ((E.q 8 0 i8.out).1 hb0) (AC HB3.o rfl))) ?_
 intro p9 hw
 have i9:=hid hw
 clear hw
 refine AG (b:=(!(!(x.ep == y.ep)))) rfl (.bool (!(((x.tm:Nat):Int) == ((y.tm:Nat):Int)))) (fun E=>((Ag rfl rfl (E.sz 11 aM) (E.d 5 4)).trans (beq_f _))) (fun E hb0=>(by have hb:(!(x.ep == y.ep))=false:=cF;exact ex_bin rfl ((E.q 7 2 i7.out).1 hb0) ((E.q 9 0 i9.out).1 hb0) (Ai _ _ _ _ _ _) (run_neq_i _ _ _ E0))) ?_
 intro q6 hw
 have j0:=hid hw
 clear hw
 refine QSeq.pure rfl (.bool ((!(x.ep == y.ep)) || (!(((x.tm:Nat):Int) == ((y.tm:Nat):Int))))) (fun E=>A5 rfl (E.d 5 5) rfl rfl (or_val fun hb=>(E.q 10 0 j0.out).1 eA)) ?_
 refine qmv rfl 11 0 ?_
 refine AG (b:=(!((!(x.ep == y.ep)) || (!(((x.tm:Nat):Int) == ((y.tm:Nat):Int)))))) rfl (.pointer (some ⟨w.heap.size,2,none⟩)) (fun E=>((Ag rfl rfl (E.sz 18 aM) (E.d 12 0)).trans (beq_f _))) (fun E hb0=>(by have hb:((!(x.ep == y.ep)) || (!(((x.tm:Nat):Int) == ((y.tm:Nat):Int))))=false:=cF;exact Ae rfl C7 rfl aE (E.v c3))) ?_
 intro q7 hw
 have j3:=hid hw
 clear hw
 refine AG (b:=(!((!(x.ep == y.ep)) || (!(((x.tm:Nat):Int) == ((y.tm:Nat):Int)))))) rfl (.slice ax_ps x.ps.length kx_ps) (fun E=>((Ag rfl rfl (E.sz 18 aM) (E.d 12 1)).trans (beq_f _))) (fun E hb0=>(by have hb:((!(x.ep == y.ep)) || (!(((x.tm:Nat):Int) == ((y.tm:Nat):Int))))=false:=cF;exact Af rfl Tryz.underlying41 rfl ((E.q 13 0 j3.out).1 hb0) (AC HB2.o rfl))) ?_
 intro q8 hw
 have j4:=hid hw
 clear hw
 refine AG (b:=(!((!(x.ep == y.ep)) || (!(((x.tm:Nat):Int) == ((y.tm:Nat):Int)))))) rfl (.int .i64 x.ps.length) (fun E=>((Ag rfl rfl (E.sz 18 aM) (E.d 12 2)).trans (beq_f _))) (fun E hb0=>(by have hb:((!(x.ep == y.ep)) || (!(((x.tm:Nat):Int) == ((y.tm:Nat):Int))))=false:=cF;exact A2 rfl ((E.q 14 0 j4.out).1 hb0) Tryz.underlying41)) ?_
 intro q9 hw
 have j5:=hid hw
 clear hw
 refine AG (b:=(!((!(x.ep == y.ep)) || (!(((x.tm:Nat):Int) == ((y.tm:Nat):Int)))))) rfl (.pointer (some ⟨w.heap.size+1,2,none⟩)) (fun E=>((Ag rfl rfl (E.sz 18 aM) (E.d 12 3)).trans (beq_f _))) (fun E hb0=>(by have hb:((!(x.ep == y.ep)) || (!(((x.tm:Nat):Int) == ((y.tm:Nat):Int))))=false:=cF;exact Ae rfl C7 rfl aE (E.v c6))) ?_
 intro r5 hw
 have j6:=hid hw
 clear hw
 refine AG (b:=(!((!(x.ep == y.ep)) || (!(((x.tm:Nat):Int) == ((y.tm:Nat):Int)))))) rfl (.slice ay_ps y.ps.length ky_ps) (fun E=>((Ag rfl rfl (E.sz 18 aM) (E.d 12 4)).trans (beq_f _))) (fun E hb0=>(by have hb:((!(x.ep == y.ep)) || (!(((x.tm:Nat):Int) == ((y.tm:Nat):Int))))=false:=cF;exact Af rfl Tryz.underlying41 rfl ((E.q 16 0 j6.out).1 hb0) (AC HB3.o rfl))) ?_
 intro r6 hw
 have j7:=hid hw
 clear hw
 refine AG (b:=(!((!(x.ep == y.ep)) || (!(((x.tm:Nat):Int) == ((y.tm:Nat):Int)))))) rfl (.int .i64 y.ps.length) (fun E=>((Ag rfl rfl (E.sz 18 aM) (E.d 12 5)).trans (beq_f _))) (fun E hb0=>(by have hb:((!(x.ep == y.ep)) || (!(((x.tm:Nat):Int) == ((y.tm:Nat):Int))))=false:=cF;exact A2 rfl ((E.q 17 0 j7.out).1 hb0) Tryz.underlying41)) ?_
 intro r7 hw
 have j8:=hid hw
 clear hw
 refine AG (b:=(!((!(x.ep == y.ep)) || (!(((x.tm:Nat):Int) == ((y.tm:Nat):Int)))))) rfl (.bool (!(((x.ps.length:Nat):Int) == ((y.ps.length:Nat):Int)))) (fun E=>((Ag rfl rfl (E.sz 18 aM) (E.d 12 6)).trans (beq_f _))) (fun E hb0=>(by have hb:((!(x.ep == y.ep)) || (!(((x.tm:Nat):Int) == ((y.tm:Nat):Int))))=false:=cF;exact ex_bin rfl ((E.q 15 3 j5.out).1 hb0) ((E.q 18 0 j8.out).1 hb0) (Ai _ _ _ _ _ _) (run_neq_i _ _ _ B9))) ?_
 intro r8 hw
 have j9:=hid hw
 clear hw
 refine QSeq.pure rfl (.bool (((!(x.ep == y.ep)) || (!(((x.tm:Nat):Int) == ((y.tm:Nat):Int)))) || (!(((x.ps.length:Nat):Int) == ((y.ps.length:Nat):Int))))) (fun E=>A5 rfl (E.d 12 7) rfl rfl (or_val fun hb=>(E.q 19 0 j9.out).1 eA)) ?_
 refine qmv rfl 20 0 ?_
 refine AG (b:=(!(((!(x.ep == y.ep)) || (!(((x.tm:Nat):Int) == ((y.tm:Nat):Int)))) || (!(((x.ps.length:Nat):Int) == ((y.ps.length:Nat):Int)))))) rfl (.pointer (some ⟨w.heap.size,3,none⟩)) (fun E=>((Ag rfl rfl (E.sz 27 aM) (E.d 21 0)).trans (beq_f _))) (fun E hb0=>(by have hb:(((!(x.ep == y.ep)) || (!(((x.tm:Nat):Int) == ((y.tm:Nat):Int)))) || (!(((x.ps.length:Nat):Int) == ((y.ps.length:Nat):Int))))=false:=cF;exact Ae rfl C7 rfl aE (E.v c3))) ?_
 intro r9 hw
 have l7:=hid hw
 clear hw
 refine AG (b:=(!(((!(x.ep == y.ep)) || (!(((x.tm:Nat):Int) == ((y.tm:Nat):Int)))) || (!(((x.ps.length:Nat):Int) == ((y.ps.length:Nat):Int)))))) rfl (.slice ax_os x.os.length kx_os) (fun E=>((Ag rfl rfl (E.sz 27 aM) (E.d 21 1)).trans (beq_f _))) (fun E hb0=>(by have hb:(((!(x.ep == y.ep)) || (!(((x.tm:Nat):Int) == ((y.tm:Nat):Int)))) || (!(((x.ps.length:Nat):Int) == ((y.ps.length:Nat):Int))))=false:=cF;exact Af rfl Tryz.underlying42 rfl ((E.q 22 0 l7.out).1 hb0) (AC HB2.o rfl))) ?_
 intro s0 hw
 have l8:=hid hw
 clear hw
 refine AG (b:=(!(((!(x.ep == y.ep)) || (!(((x.tm:Nat):Int) == ((y.tm:Nat):Int)))) || (!(((x.ps.length:Nat):Int) == ((y.ps.length:Nat):Int)))))) rfl (.pointer (some ⟨w.heap.size+1,3,none⟩)) (fun E=>((Ag rfl rfl (E.sz 27 aM) (E.d 21 2)).trans (beq_f _))) (fun E hb0=>(by have hb:(((!(x.ep == y.ep)) || (!(((x.tm:Nat):Int) == ((y.tm:Nat):Int)))) || (!(((x.ps.length:Nat):Int) == ((y.ps.length:Nat):Int))))=false:=cF;exact Ae rfl C7 rfl aE (E.v c6))) ?_
 intro s5 hw
 have m7:=hid hw
 clear hw
 refine AG (b:=(!(((!(x.ep == y.ep)) || (!(((x.tm:Nat):Int) == ((y.tm:Nat):Int)))) || (!(((x.ps.length:Nat):Int) == ((y.ps.length:Nat):Int)))))) rfl (.slice ay_os y.os.length ky_os) (fun E=>((Ag rfl rfl (E.sz 27 aM) (E.d 21 3)).trans (beq_f _))) (fun E hb0=>(by have hb:(((!(x.ep == y.ep)) || (!(((x.tm:Nat):Int) == ((y.tm:Nat):Int)))) || (!(((x.ps.length:Nat):Int) == ((y.ps.length:Nat):Int))))=false:=cF;exact Af rfl Tryz.underlying42 rfl ((E.q 24 0 m7.out).1 hb0) (AC HB3.o rfl))) ?_
 intro s6 hw
 have m8:=hid hw
 clear hw
 refine AH (b:=(!(((!(x.ep == y.ep)) || (!(((x.tm:Nat):Int) == ((y.tm:Nat):Int)))) || (!(((x.ps.length:Nat):Int) == ((y.ps.length:Nat):Int)))))) rfl (.bool (eqb x.os y.os)) (args:=#[.slice ax_os x.os.length kx_os,.slice ay_os y.os.length ky_os]) (fun E=>((Ag rfl rfl (E.sz 27 aM) (E.d 21 4)).trans (beq_f _))) rfl Tryz.func94 (fun E hb0=>(by have hb:(((!(x.ep == y.ep)) || (!(((x.tm:Nat):Int) == ((y.tm:Nat):Int)))) || (!(((x.ps.length:Nat):Int) == ((y.ps.length:Nat):Int))))=false:=cF;exact Ar ((E.q 23 2 l8.out).1 hb0) ((E.q 25 0 m8.out).1 hb0))) (fun hb0=>(by have hb:(((!(x.ep == y.ep)) || (!(((x.tm:Nat):Int) == ((y.tm:Nat):Int)))) || (!(((x.ps.length:Nat):Int) == ((y.ps.length:Nat):Int))))=false:=cF;exact EqL_Op _ _ _ _ _ _ _ g5.out g7.out bO bN)) ?_
 intro s7 o8 hw hm
 have m9:=hid hw
 clear hw
 have s8:=hm.size
 have c8:=hid (show Mod (fun _=>False) w1 o8 from hm)
 clear hm
 refine AG (b:=(!(((!(x.ep == y.ep)) || (!(((x.tm:Nat):Int) == ((y.tm:Nat):Int)))) || (!(((x.ps.length:Nat):Int) == ((y.ps.length:Nat):Int)))))) rfl (.bool (!(eqb x.os y.os))) (fun E=>((Ag rfl rfl (E.sz 27 aM) (E.d 21 5)).trans (beq_f _))) (fun E hb0=>(by have hb:(((!(x.ep == y.ep)) || (!(((x.tm:Nat):Int) == ((y.tm:Nat):Int)))) || (!(((x.ps.length:Nat):Int) == ((y.ps.length:Nat):Int))))=false:=cF;exact B1 rfl ((E.q 26 0 m9.out).1 hb0))) ?_
 intro t0 hw
 have n5:=hid hw
 clear hw
 refine QSeq.pure rfl (.bool ((((!(x.ep == y.ep)) || (!(((x.tm:Nat):Int) == ((y.tm:Nat):Int)))) || (!(((x.ps.length:Nat):Int) == ((y.ps.length:Nat):Int)))) || (!(eqb x.os y.os)))) (fun E=>A5 rfl (E.d 21 6) rfl rfl (or_val fun hb=>(E.q 27 0 n5.out).1 eA)) ?_
 refine qmv rfl 28 0 ?_
 refine AG (b:=(!((((!(x.ep == y.ep)) || (!(((x.tm:Nat):Int) == ((y.tm:Nat):Int)))) || (!(((x.ps.length:Nat):Int) == ((y.ps.length:Nat):Int)))) || (!(eqb x.os y.os))))) rfl (.pointer (some ⟨w.heap.size,4,none⟩)) (fun E=>((Ag rfl rfl (E.sz 35 aM) (E.d 29 0)).trans (beq_f _))) (fun E hb0=>(by have hb:((((!(x.ep == y.ep)) || (!(((x.tm:Nat):Int) == ((y.tm:Nat):Int)))) || (!(((x.ps.length:Nat):Int) == ((y.ps.length:Nat):Int)))) || (!(eqb x.os y.os)))=false:=cF;exact Ae rfl C7 rfl aE (E.v c3))) ?_
 intro t1 hw
 have n6:=hid hw
 clear hw
 refine AG (b:=(!((((!(x.ep == y.ep)) || (!(((x.tm:Nat):Int) == ((y.tm:Nat):Int)))) || (!(((x.ps.length:Nat):Int) == ((y.ps.length:Nat):Int)))) || (!(eqb x.os y.os))))) rfl (.slice ax_ts x.ts.length kx_ts) (fun E=>((Ag rfl rfl (E.sz 35 aM) (E.d 29 1)).trans (beq_f _))) (fun E hb0=>(by have hb:((((!(x.ep == y.ep)) || (!(((x.tm:Nat):Int) == ((y.tm:Nat):Int)))) || (!(((x.ps.length:Nat):Int) == ((y.ps.length:Nat):Int)))) || (!(eqb x.os y.os)))=false:=cF;exact Af rfl D0 rfl ((E.q 30 0 n6.out).1 hb0) (AC (HB2.o.mod c8.out (fun h=>h)) rfl))) ?_
 intro t2 hw
 have n7:=hid hw
 clear hw
 refine AG (b:=(!((((!(x.ep == y.ep)) || (!(((x.tm:Nat):Int) == ((y.tm:Nat):Int)))) || (!(((x.ps.length:Nat):Int) == ((y.ps.length:Nat):Int)))) || (!(eqb x.os y.os))))) rfl (.pointer (some ⟨w.heap.size+1,4,none⟩)) (fun E=>((Ag rfl rfl (E.sz 35 aM) (E.d 29 2)).trans (beq_f _))) (fun E hb0=>(by have hb:((((!(x.ep == y.ep)) || (!(((x.tm:Nat):Int) == ((y.tm:Nat):Int)))) || (!(((x.ps.length:Nat):Int) == ((y.ps.length:Nat):Int)))) || (!(eqb x.os y.os)))=false:=cF;exact Ae rfl C7 rfl aE (E.v c6))) ?_
 intro t8 hw
 have n8:=hid hw
 clear hw
 refine AG (b:=(!((((!(x.ep == y.ep)) || (!(((x.tm:Nat):Int) == ((y.tm:Nat):Int)))) || (!(((x.ps.length:Nat):Int) == ((y.ps.length:Nat):Int)))) || (!(eqb x.os y.os))))) rfl (.slice ay_ts y.ts.length ky_ts) (fun E=>((Ag rfl rfl (E.sz 35 aM) (E.d 29 3)).trans (beq_f _))) (fun E hb0=>(by have hb:((((!(x.ep == y.ep)) || (!(((x.tm:Nat):Int) == ((y.tm:Nat):Int)))) || (!(((x.ps.length:Nat):Int) == ((y.ps.length:Nat):Int)))) || (!(eqb x.os y.os)))=false:=cF;exact Af rfl D0 rfl ((E.q 32 0 n8.out).1 hb0) (AC (HB3.o.mod c8.out (fun h=>h)) rfl))) ?_
 intro t9 hw
 have o5:=hid hw
 clear hw
 refine AH (b:=(!((((!(x.ep == y.ep)) || (!(((x.tm:Nat):Int) == ((y.tm:Nat):Int)))) || (!(((x.ps.length:Nat):Int) == ((y.ps.length:Nat):Int)))) || (!(eqb x.os y.os))))) rfl (.bool (eqb x.ts y.ts)) (args:=#[.slice ax_ts x.ts.length kx_ts,.slice ay_ts y.ts.length ky_ts]) (fun E=>((Ag rfl rfl (E.sz 35 aM) (E.d 29 4)).trans (beq_f _))) rfl Tryz.func95 (fun E hb0=>(by have hb:((((!(x.ep == y.ep)) || (!(((x.tm:Nat):Int) == ((y.tm:Nat):Int)))) || (!(((x.ps.length:Nat):Int) == ((y.ps.length:Nat):Int)))) || (!(eqb x.os y.os)))=false:=cF;exact Ar ((E.q 31 2 n7.out).1 hb0) ((E.q 33 0 o5.out).1 hb0))) (fun hb0=>(by have hb:((((!(x.ep == y.ep)) || (!(((x.tm:Nat):Int) == ((y.tm:Nat):Int)))) || (!(((x.ps.length:Nat):Int) == ((y.ps.length:Nat):Int)))) || (!(eqb x.os y.os)))=false:=cF;exact EqL_Tb _ _ _ _ _ _ _ (g6.out.mod c8.out iA) (g8.out.mod c8.out iA) bO bN)) ?_
 intro u0 o9 hw hm
 have o6:=hid hw
 clear hw
 have u1:=hm.size
 have p5:=hid hm
 have c7:=hid (c8.out.goE hm)
 clear hm c8
 refine AG (b:=(!((((!(x.ep == y.ep)) || (!(((x.tm:Nat):Int) == ((y.tm:Nat):Int)))) || (!(((x.ps.length:Nat):Int) == ((y.ps.length:Nat):Int)))) || (!(eqb x.os y.os))))) rfl (.bool (!(eqb x.ts y.ts))) (fun E=>((Ag rfl rfl (E.sz 35 aM) (E.d 29 5)).trans (beq_f _))) (fun E hb0=>(by have hb:((((!(x.ep == y.ep)) || (!(((x.tm:Nat):Int) == ((y.tm:Nat):Int)))) || (!(((x.ps.length:Nat):Int) == ((y.ps.length:Nat):Int)))) || (!(eqb x.os y.os)))=false:=cF;exact B1 rfl ((E.q 34 0 o6.out).1 hb0))) ?_
 intro u2 hw
 have o7:=hid hw
 clear hw
 refine QSeq.pure rfl (.bool (((((!(x.ep == y.ep)) || (!(((x.tm:Nat):Int) == ((y.tm:Nat):Int)))) || (!(((x.ps.length:Nat):Int) == ((y.ps.length:Nat):Int)))) || (!(eqb x.os y.os))) || (!(eqb x.ts y.ts)))) (fun E=>A5 rfl (E.d 29 6) rfl rfl (or_val fun hb=>(E.q 35 0 o7.out).1 eA)) ?_
 clear p5 g9 i7 i8 i9 j0 j3 j4 j5 j6 j7 j8 j9 l7 l8 m7 m8 m9 n5 n6 n7 n8 o5 o6 o7
 refine qe ?_
 clear HA0 c3 c6 a0
 obtain ⟨b0,hb0⟩:∃ b0,b0=(((((!(x.ep == y.ep)) || (!(((x.tm:Nat):Int) == ((y.tm:Nat):Int)))) || (!(((x.ps.length:Nat):Int) == ((y.ps.length:Nat):Int)))) || (!(eqb x.os y.os))) || (!(eqb x.ts y.ts))):=⟨_,rfl⟩
 rw [← hb0]
 cases b0 with
 | true=>
  go_upto_region 2 with (fail)
  refine Ab 62 [4] [0] (fun a0 HA0=>?_)
  refine QSeq.pure rfl (.bool false) (fun E=>An rfl rfl) ?_
  refine qe ?_
  clear HA0 a0
  go_wp2
  go_ret
  exact ⟨Bw (ba_neb x y hb0.symm).symm,(HM0.o.trans c7.out iB)⟩
 | false=>
  have HEQ:=hid (ba_eqb x y hb0.symm)
  have HLE:=hid (show x.ps.length=y.ps.length by have h:=hb0.symm;simp only [Bool.or_eq_false_iff,Bool.not_eq_false',beq_I,Int.ofNat_inj] at h;exact h.1.1.2)
  clear hb0
  go_upto_region 3 with (fail)
  refine Ab 62 [43,44,45,46] [0,1,2,3] (fun a0 HA0=>?_)
  have c3:=ev HA0 2 rfl
  refine qfd rfl 2 C7 c3 ?_
  refine QSeq.pure rfl _ (fun E=>Af rfl Tryz.underlying41 rfl (E.d 0 0) (AC (HB2.o.mod c7.out (fun h=>h)) rfl)) ?_
  refine QSeq.pure rfl (.int .i64 x.ps.length) (fun E=>A2 rfl (E.d 1 0) Tryz.underlying41) ?_
  refine QSeq.pure rfl (.int .i64 0) (fun E=>Al rfl rfl) ?_
  refine qe ?_
  clear HA0 c3 a0
  go_wp2
  go_loopw [46,5] (fun ti t5 wr=>∃ k:Nat,ti=.int .i64 (k:Int)∧k≤x.ps.length∧x.ps.take k=y.ps.take k∧o9.heap.size≤wr.heap.size∧RdS PmR R wr (.slice ax_ps x.ps.length kx_ps) x.ps∧RdS PmR R2 wr (.slice ay_ps y.ps.length ky_ps) y.ps∧Cs wr (w.heap.size) (x.cells (.slice ax_ps x.ps.length kx_ps) (.slice ax_os x.os.length kx_os) (.slice ax_ts x.ts.length kx_ts):List Value).toArray 45∧Cs wr (w.heap.size+1) (y.cells (.slice ay_ps y.ps.length ky_ps) (.slice ay_os y.os.length ky_os) (.slice ay_ts y.ts.length ky_ts):List Value).toArray 45∧Mod (fun _=>False) w wr) (fun ti t5 _=>x.ps.length - (intOf ti).toNat)
  case atStart=>exact ⟨0,rfl,Nat.zero_le _,rfl,C0 _,(d7.out.mod c7.out iA),(d8.out.mod c7.out iA),(HB2.o.mod c7.out (fun h=>h)),(HB3.o.mod c7.out (fun h=>h)),(HM0.o.trans c7.out iB)⟩
  case round=>
   obtain ⟨k,rfl,hk,htk,hz,hs,ht,hb2,hb3,hm⟩:=hrel
   obtain ⟨wl,rfl⟩:∃ x,x=wr:=⟨_,rfl⟩
   have HS2:=B8 hs
   have HT2:=B8 ht
   have HML:=B8 hm
   have HTK:=B8 htk
   have HBX:=B8 hb2
   have HBY:=B8 hb3
   clear hs ht hm htk hb2 hb3 d7 g5 g6 d8 g7 g8 HB2 HB3 HM0
   by_cases hlt:k < x.ps.length
   ·have hlt2:k < y.ps.length:=by have:=HLE.o;omega
    go_upto_region 4 with (fail)
    refine Ab 62 [47] [0] (fun a0 HA0=>?_)
    have d5:=ev HA0 45 rfl
    have c4:=ev HA0 46 rfl
    refine QSeq.pure rfl (.bool true) (fun E=>Aq rfl (E.v c4) (E.v d5) (Ai _ _ _ _ _ _) (A1 _ _ _ B9) (congrArg Value.bool (decide_eq_true aL))) ?_
    refine qe ?_
    clear HA0 d5 c4 a0
    go_upto_region 5 with (fail)
    refine Ab 62 [48,5] [0,1] (fun a0 HA0=>?_)
    have c4:=ev HA0 46 rfl
    refine qmo rfl c4 ?_
    refine qas rfl 0 0 ?_
    refine qe ?_
    clear HA0 c4 a0
    have hat:=HS2.o.at hlt
    obtain ⟨g1,o1,c1,eao,hrg,hrd,hcs⟩:=hat
    subst eao
    obtain ⟨p,hp⟩:∃ z,z=x.ps[k]:=⟨_,rfl⟩
    rw [← hp] at hrd
    have HX1:=B8 hp
    have hcl:c1.length=6:=PmR.len hrd
    have HCL1:=B8 hcl
    have HAT1:=hid (show CellsAt R wl g1 (o1+k * 6) c1 from ⟨hrg,hcs⟩)
    have HRD1:=B8 hrd
    clear hcl hcs hrd hrg hp
    have hat:=HT2.o.at hlt2
    obtain ⟨g2,o2,c2,eao,hrg,hrd,hcs⟩:=hat
    subst eao
    obtain ⟨q,hq⟩:∃ z,z=y.ps[k]:=⟨_,rfl⟩
    rw [← hq] at hrd
    have HX2:=B8 hq
    have hcl:c2.length=6:=PmR.len hrd
    have HCL2:=B8 hcl
    have HAT2:=hid (show CellsAt R2 wl g2 (o2+k * 6) c2 from ⟨hrg,hcs⟩)
    have HRD2:=B8 hrd
    clear hcl hcs hrd hrg hq
    obtain ⟨b,hb⟩:∃ b,b=eqb p q:=⟨_,rfl⟩
    have HB:=B8 hb
    clear hb
    go_upto_region 6 with (fail)
    generalize ha0:Act.mk _ _=a0
    have c3:a0.eval (.tmp 2)=.pointer (some ⟨w.heap.size,0,none⟩):=by rw [← ha0];rfl
    have c6:a0.eval (.tmp 3)=.pointer (some ⟨w.heap.size+1,0,none⟩):=by rw [← ha0];rfl
    have d9:a0.eval (.tmp 5)=.int .i64 ((k:Nat):Int):=by rw [← ha0];rfl
    have hsz0:a0.tmps.size=62:=by rw [← ha0];rfl
    have HA0:=hid ha0
    clear ha0
    refine A7 62 hsz0 [49,50,51,52,53,54,55,56,57,58,59,60] [qi (.pointer (some ⟨w.heap.size,2,none⟩)),qi (.slice (some ⟨g1,o1,none⟩) x.ps.length kx_ps),qi (.int .i64 ((k:Nat):Int)),qi (.pointer (some ⟨g1,o1+k * 6,none⟩)),qi (.agg c1.toArray),qi (.pointer (some ⟨w.heap.size+1,2,none⟩)),qi (.slice (some ⟨g2,o2,none⟩) y.ps.length ky_ps),qi (.int .i64 ((k:Nat):Int)),qi (.pointer (some ⟨g2,o2+k * 6,none⟩)),qi (.agg c2.toArray),qi (.bool b),qi (.bool (!b))] ⟨Ac,Ac,Ac,Ac,Ac,Ac,Ac,Ac,Ac,Ac,Ac,Ac,trivial⟩ [10] ⟨?_,?_,?_,?_,?_,?_,?_,?_,?_,?_,?_,?_,trivial⟩ ?_
    ·exact stq (fun E=>Ae rfl C7 rfl aE (E.v c3))
    ·exact stq (fun E=>Af rfl Tryz.underlying41 rfl (E.d 0) (AC (HBX.o.mod E.m.old aG) rfl))
    ·exact stq (fun E=>Al rfl (E.v d9))
    ·exact stq (fun E=>Bq (i:=k) (s:=6) rfl Tryz.underlying41 aE (E.d 1) (E.d 2) cR)
    ·exact stq (fun E=>Ak rfl Tryz.underlying40 rfl (off:=o1+k * 6) (cs:=c1) eE (E.d 3) (fun j u hu=>((HAT1.o.mod E.m.old aO)).2 j u hu))
    ·exact stq (fun E=>Ae rfl C7 rfl aE (E.v c6))
    ·exact stq (fun E=>Af rfl Tryz.underlying41 rfl (E.d 5) (AC (HBY.o.mod E.m.old aG) rfl))
    ·exact stq (fun E=>Al rfl (E.v d9))
    ·exact stq (fun E=>Bq (i:=k) (s:=6) rfl Tryz.underlying41 aE (E.d 6) (E.d 7) cR)
    ·exact stq (fun E=>Ak rfl Tryz.underlying40 rfl (off:=o2+k * 6) (cs:=c2) fY (E.d 8) (fun j u hu=>((HAT2.o.mod E.m.old cI)).2 j u hu))
    ·exact Ad rfl
    ·exact stq (fun E=>B1 rfl (E.d 10))
    intro u3 hr
    have u4:=hr.size
    have d6:=hid (hr.new (S:=(fun _=>False)))
    clear hr
    refine QChain.go fun Z act E=>?_
    refine Aj (args:=#[.agg c1.toArray,.agg c2.toArray]) rfl (Aa rfl) rfl Tryz.func61 (Ar (E.d 4) (E.d 9)) (HB.o.symm▸Eq_Pm _ _ _ _ _ _ _ (HRD1.o.mod d6.out iA) (HRD2.o.mod d6.out iA) aK aU) ?_
    rintro e u5 ⟨rfl,hm⟩
    have u6:=hm.size
    refine ⟨_,rfl,hm.mono iB,(fun _=>rfl),?_⟩
    intro u7 hr
    have u9:=hr.size
    have c9:=hid (d6.out.go hm hr)
    clear d6 hm hr Z act E
    refine QChain.nil fun vs hl hzz hrows hne=>?_
    obtain ⟨Z,hYZ,hZb,hV⟩:=hzz
    have f2:=fvi hV hl 2
    have f7:=fvi hV hl 7
    have f10:=fvi hV hl 10
    have f11:=fvi hV hl 11
    rw [show vs=[gw vs 0,gw vs 1,gw vs 2,gw vs 3,gw vs 4,gw vs 5,gw vs 6,gw vs 7,gw vs 8,gw vs 9,gw vs 10,gw vs 11] from (Bi hl).trans rfl]
    have ha0:=HA0.o
    subst ha0
    clear HA0 hV hYZ hZb hsz0 hrows hne c3 c6 d9
    simp only [Au,Act.put,sIB,sCZ,sCS,f2,f7,f10,f11]
    clear hl f2 f7 f10 f11
    cases b with
    | false=>
     go_upto_region 7 with (fail)
     refine Ab 62 [4] [0] (fun a0 HA0=>?_)
     refine QSeq.pure rfl (.bool false) (fun E=>An rfl rfl) ?_
     refine qe ?_
     clear HA0 a0
     go_wp2
     go_ret
     exact ⟨Bw (HEQ.o.symm.trans (take_ne hlt hlt2 (fun e=>by have h:=HB.o;rw [HX1.o,HX2.o,e,eqb_rfl] at h;cases h))).symm,(HML.o.trans c9.out iB)⟩
    | true=>
     go_upto_region 8 with (fail)
     refine Ab 62 [61,46] [0,1] (fun a0 HA0=>?_)
     have c4:=ev HA0 46 rfl
     refine QSeq.pure rfl (.int .i64 (((k:Nat):Int)+1)) (fun E=>Aq rfl (E.y 1 c4) rfl (Ai _ _ _ _ _ _) (Bz _ _ B9) (congrArg (Value.int .i64) (IntWalk.i64_in _ aL))) ?_
     refine qmv rfl 0 0 ?_
     refine qe ?_
     clear HA0 c4 a0
     go_wp2
     go_roundw
     case rel=>exact ⟨k+1,by go_num,by omega,take_succ2 hlt hlt2 HTK.o dP,by omega,(HS2.o.mod c9.out iA),(HT2.o.mod c9.out iA),(HBX.o.mod c9.out (fun h=>h)),(HBY.o.mod c9.out (fun h=>h)),(HML.o.trans c9.out iB)⟩
     case measure=>simp [intOf]<;>omega
   ·skip
    go_upto_region 4 with (fail)
    refine Ab 62 [47] [0] (fun a0 HA0=>?_)
    have d5:=ev HA0 45 rfl
    have c4:=ev HA0 46 rfl
    refine QSeq.pure rfl (.bool false) (fun E=>Aq rfl (E.v c4) (E.v d5) (Ai _ _ _ _ _ _) (A1 _ _ _ B9) (congrArg Value.bool (decide_eq_false aL))) ?_
    refine qe ?_
    clear HA0 d5 c4 a0
    go_upto_region 9 with (fail)
    refine Ab 62 [4] [0] (fun a0 HA0=>?_)
    refine QSeq.pure rfl (.bool true) (fun E=>An rfl rfl) ?_
    refine qe ?_
    clear HA0 a0
    go_wp2
    go_ret
    exact ⟨Bw (HEQ.o.symm.trans (take_all aL (by have:=HLE.o;omega) HTK.o)).symm,HML.o⟩
end Go.Proofs.YtnaoeginonpicaaGreat
