/- Texts that are built one behind the other: XGp, XRead2, XRead3, XRead4, XRead5, XSeg, XGl, XCo1, XZr, XPt3, XMg, XZm, XCo2, XOm. No condition. -/
import Derived.Test.YtnaoeginonpicaaGreatMbF3
import Derived.OpenShut
set_option maxRecDepth 100000
set_option linter.unusedVariables false
open Go renaming Lib.hid→B5
open Go.Proofs renaming Tryz.underlying3→B6,Tryz.underlying61→B7,Tryz.underlying45→C2,Tryz.underlying47→C6,Tryz.underlying43→C8,Tryz.underlying52→D1,Tryz.underlying127→D2,Tryz.underlying59→D3,Tryz.underlying25→D5,Tryz.underlying100→D6,Tryz.func67→D7,Tryz.underlying30→D8,Tryz.underlying4→E0
open List renaming append_assoc→B8,length_append→C0,size_toArray→C3,length_nil→C4,length_cons→C5,map_toArray→C7,map_cons→C9,map_nil→D0,not_mem_nil→D4,mem_cons→D9
open Nat renaming le_refl→B9,le_trans→C1
open List renaming setIfInBounds_toArray → sIB, set_cons_zero → sCZ, set_cons_succ → sCS
namespace Go.Proofs.YtnaoeginonpicaaGreat
open Go Go.RowKit Go.Gv
/-- one read behind the other -/
def gb {α β:Type} (g:RSt→α × RSt) (k:α→RSt→β × RSt) (s:RSt):β × RSt:=k (g s).1 (g s).2
/-- a number up to 2^40 -/
def gI (s:RSt):Int × RSt:=(((rInt 1099511627776 s).1:Nat),(rInt 1099511627776 s).2)
def Bt {α:Type} (g:RSt→α × RSt):Nat→List α→RSt→List α × RSt
 | 0,acc,s=>(acc,s)
 | n+1,acc,s=>if (g s).2=none then ([],none) else Bt g n (acc ++ [(g s).1]) (g s).2
def Av {α:Type} (g:RSt→α × RSt) (s:RSt):List α × RSt:=Bt g (rInt 100 s).1 [] (rInt 100 s).2
def gSig:RSt→(Int × Int) × RSt:=gb gI fun a=>gb gI fun b s=>((a,b),s)
def gCm:RSt→Cm × RSt:=gb gSig fun n=>gb A3 fun h=>gb gI fun l=>gb gSig fun g s=>(⟨n.1,n.2,h,l,g.1,g.2⟩,s)
def gSt:RSt→St × RSt:=gb gI fun p=>gb gSig fun n=>gb A3 fun h=>gb rNum fun t=>gb gSig fun g s=>(⟨p,n.1,n.2,h,t,g.1,g.2⟩,s)
def gCe:RSt→Ce × RSt:=gb gCm fun c=>gb (Av gSt) fun l s=>(⟨c,l⟩,s)
def gPm:RSt→Pm × RSt:=gb gI fun p=>gb gI fun e=>gb rNum fun f=>gb (Av gCe) fun l=>gb gSig fun g s=>(⟨p,e,f,l,g.1,g.2⟩,s)
def gOp:RSt→Op × RSt:=gb gI fun i=>gb (rRow 256) fun p=>gb A3 fun h s=>(⟨i,p,h⟩,s)
def gDn:RSt→Dn × RSt:=gb gI fun p=>gb gI fun i=>gb gSig fun g s=>(⟨p,i,g.1,g.2⟩,s)
def gTb:RSt→Tb × RSt:=gb gI fun i=>gb (Av gDn) fun l s=>(⟨i,l⟩,s)
def gBa:RSt→Ba × RSt:=gb gI fun e=>gb rNum fun t=>gb (Av gPm) fun p=>gb (Av gOp) fun o=>gb (Av gTb) fun m s=>(⟨e,t,p,o,m⟩,s)
def gVt:RSt→Vt × RSt:=gb gI fun k=>gb gI fun e=>gb gI fun r=>gb gI fun p=>gb A3 fun h=>gb gSig fun g s=>(⟨k,e,r,p,h,g.1,g.2⟩,s)
def gEn:RSt→En × RSt:=gb gSig fun n=>gb A3 fun h=>gb rNum fun t s=>(⟨n.1,n.2,h,t⟩,s)
/-- what was put is read as it was -/
def Ed {α:Type} (g:RSt→α × RSt) (put:α→List Int) (ok:α→Prop):Prop:=∀ x r,ok x→g (some (put x ++ r))=(x,some r)
/-- what is read was put so -/
def De {α:Type} (g:RSt→α × RSt) (Q:α→List Int→List Int→Prop):Prop:=∀ s r,(g s).2=some r→∃ l,s=some l∧(Bytes l→Q (g s).1 l r)
def Was {α:Type} (put:α→List Int) (ok:α→Prop) (x:α) (l r:List Int):Prop:=l=put x ++ r∧ok x
/-- the numbers that are read -/
def UpI (x:Int):Prop:=0≤x∧x≤1099511627776
theorem gI_ed:Ed gI encI UpI:=by
 intro x r h
 obtain ⟨h0,h1⟩:=h
 obtain ⟨n,rfl⟩:=Int.eq_ofNat_of_zero_le h0
 unfold gI
 rw [encI_nat,rInt_enc fI,if_neg aM]
theorem rNum_ed:Ed rNum encN (· < U64):=fun x r h=>rNum_enc h r
theorem rHash_ed:Ed A3 (fun h=>h) (fun h=>h.length=32):=fun x r h=>rHash_app h r
theorem rRow_ed (most:Int) (hm:most≤1000000):Ed (rRow most) (fun b=>encN b.length ++ b) (fun b=>(b.length:Int)≤most):=by
 intro x r h
 have:=rRow_enc (bs:=x) fI most r
 rw [if_neg aM] at this
 simpa only [B8] using this
theorem dec_can:∀ (l:List Int) (i acc n:Nat) (r:List Int),Bytes l→Bx i acc l=some (n,r)→∃ m,l=encN m ++ r∧n=acc+m * 2 ^ (7 * i)∧(0 < i→1≤m):=by
 intro l
 induction l with
 | nil=>intro i acc n r _ h;cases h
 | cons c cs ih=>
  intro i acc n r hb h
  have hc:=hb c (List.mem_cons_self ..)
  rw [Bx] at h
  by_cases h1:i=9∧1 < c
  ·rw [if_pos h1] at h;cases h
  ·rw [if_neg h1] at h
   by_cases h2:c < 128
   ·rw [if_pos h2] at h
    by_cases h3:c=0∧0 < i
    ·rw [if_pos h3] at h;cases h
    ·rw [if_neg h3] at h
     simp only [Option.some.injEq,Prod.mk.injEq] at h
     obtain ⟨rfl,rfl⟩:=h
     exact ⟨c.toNat,by rw [encN_lt aM,Int.toNat_of_nonneg hc.1];rfl,rfl,fun hi=>by omega⟩
   ·rw [if_neg h2] at h
    obtain ⟨m,e1,e2,e3⟩:=ih (i+1) _ n r (fun x hx=>hb x (List.mem_cons_of_mem _ hx)) h
    have e3:=e3 aM
    refine ⟨(c.toNat - 128)+128 * m,?_,?_,fun _=>by omega⟩
    ·rw [encN_ge aM,show (c.toNat - 128+128 * m) / 128=m by omega,show (((c.toNat - 128+128 * m:Nat):Int) % 128+128)=c by omega,e1]
     rfl
    ·rw [e2,pow128,Nat.add_mul,Nat.add_assoc,Nat.mul_comm 128 m,Nat.mul_assoc m]
theorem rNum_de:De rNum (Was encN (· < U64)):=by
 intro s r h
 cases s with
 | none=>cases h
 | some l=>
  refine ⟨l,rfl,fun hb=>?_⟩
  have hlt:=rNum_lt (s:=some l) hb
  unfold Was
  revert h hlt
  cases hd:Bx 0 0 l with
  | none=>rw [rNum_none hd];intro h;cases h
  | some p=>
   obtain ⟨n,q⟩:=p
   rw [rNum_some hd]
   intro h hlt
   cases h
   obtain ⟨m,e1,e2,-⟩:=dec_can l 0 0 n _ hb hd
   have:n=m:=by rw [e2];simp
   subst this
   exact ⟨e1,hlt⟩
theorem rInt_de (most:Int) (hm:0≤most):De (rInt most) (Was encN (fun n=>(n:Int)≤most)):=by
 intro s r h
 unfold rInt at h ⊢
 by_cases hc:(rNum s).2.isNone∨most < 0∨most < (rNum s).1
 ·rw [if_pos hc] at h;cases h
 ·rw [if_neg hc] at h ⊢
  obtain ⟨l,rfl,h2⟩:=rNum_de s r h
  exact ⟨l,rfl,fun hb=>⟨(h2 hb).1,by simp only [not_or] at hc;omega⟩⟩
theorem gI_de:De gI (Was encI UpI):=by
 intro s r h
 obtain ⟨l,rfl,h2⟩:=rInt_de 1099511627776 aF s r h
 refine ⟨l,rfl,fun hb=>?_⟩
 obtain ⟨h3,h4⟩:=h2 hb
 exact ⟨by unfold gI;rw [encI_nat];exact h3,by unfold gI UpI;exact ⟨by simp,h4⟩⟩
theorem rTake_de (n:Nat):∀ s r,(Bh n s).2=some r→∃ l,s=some l∧l=(Bh n s).1 ++ r∧(Bh n s).1.length=n:=by
 intro s r h
 cases s with
 | none=>cases h
 | some l=>
  refine ⟨l,rfl,?_⟩
  simp only [Bh] at h ⊢
  split at h
  ·cases h
  ·rename_i hlt
   rw [if_neg hlt]
   simp only [Option.some.injEq] at h
   subst h
   exact ⟨(List.take_append_drop _ _).symm,by simp;omega⟩
theorem rHash_de:De A3 (Was (fun h=>h) HK):=by
 intro s r h
 unfold A3 at h ⊢
 have h2:=rTake_de 32 s
 revert h h2
 generalize Bh 32 s=p
 obtain ⟨b,q⟩:=p
 cases q with
 | none=>intro h;cases h
 | some q=>
  intro h h2
  cases h
  obtain ⟨l,rfl,e1,e2⟩:=h2 _ rfl
  refine ⟨l,rfl,fun hb=>⟨e1,e2,fun x hx=>hb x ?_⟩⟩
  rw [e1]
  exact List.mem_append_left _ hx
theorem rRow_de (most:Int) (hm:0≤most):De (rRow most) (Was (fun b=>encN b.length ++ b) (fun b=>(b.length:Int)≤most)):=by
 intro s r h
 unfold rRow at h ⊢
 obtain ⟨l1,e1,e2,e3⟩:=rTake_de _ _ _ h
 obtain ⟨l,rfl,h2⟩:=rInt_de most hm _ _ e1
 refine ⟨l,rfl,fun hb=>?_⟩
 obtain ⟨h3,h4⟩:=h2 hb
 refine ⟨?_,show ((Bh _ _).1.length:Int)≤most by rw [e3];exact h4⟩
 show l=encN (Bh _ _).1.length ++ (Bh _ _).1 ++ r
 rw [e3,B8,← e2]
 exact h3
theorem De.bind {α β:Type} {g:RSt→α × RSt} {k:α→RSt→β × RSt} {put:α→List Int} {ok:α→Prop} {Q:α→β→List Int→List Int→Prop} (hg:De g (Was put ok)) (hk:∀ a,De (k a) (Q a)) :
 De (gb g k) (fun y l r=>∃ a l1,ok a∧l=put a ++ l1∧Q a y l1 r):=by
 intro s r h
 obtain ⟨l1,e1,h1⟩:=hk _ _ _ h
 obtain ⟨l,rfl,h2⟩:=hg _ _ e1
 refine ⟨l,rfl,fun hb=>?_⟩
 obtain ⟨h3,h4⟩:=h2 hb
 refine ⟨_,l1,h4,h3,h1 (fun x hx=>hb x ?_)⟩
 rw [h3]
 exact List.mem_append_right _ hx
theorem De.pure {β:Type} (y:β):De (fun s=>(y,s)) (fun y' l r=>y'=y∧l=r):=by
 intro s r h
 exact ⟨r,h,fun _=>⟨rfl,rfl⟩⟩
theorem De.mono {β:Type} {g:RSt→β × RSt} {Q Q':β→List Int→List Int→Prop} (h:De g Q) (hq:∀ y l r,Q y l r→Q' y l r):De g Q':=by
 intro s r hr
 obtain ⟨l,e,h2⟩:=h s r hr
 exact ⟨l,e,fun hb=>hq _ _ _ (h2 hb)⟩
/-- lists -/
def listOk {α:Type} (ok:α→Prop) (l:List α):Prop:=l.length≤100∧∀ a ∈ l,ok a
theorem gItems_ed {α:Type} {g:RSt→α × RSt} {put:α→List Int} {ok:α→Prop} (h:Ed g put ok):∀ (l acc:List α) (r:List Int),(∀ a ∈ l,ok a)→Bt g l.length acc (some ((l.map put).flatten ++ r))=(acc ++ l,some r):=by
 intro l
 induction l with
 | nil=>intro acc r _;simp [Bt]
 | cons a l ih=>
  intro acc r ha
  simp only [C5,C9,List.flatten_cons,B8,Bt]
  rw [h a _ (ha a (List.mem_cons_self ..)),if_neg bD,ih _ _ (fun b hb=>ha b (List.mem_cons_of_mem _ hb))]
  simp
theorem gList_ed {α:Type} {g:RSt→α × RSt} {put:α→List Int} {ok:α→Prop} (h:Ed g put ok):Ed (Av g) (listB put) (listOk ok):=by
 intro l r ⟨h1,h2⟩
 unfold Av listB
 rw [B8,encI_nat,rInt_enc fI,if_neg aM]
 simpa using gItems_ed h l [] r h2
theorem De.none {α:Type} {g:RSt→α × RSt} {Q:α→List Int→List Int→Prop} (h:De g Q):∀ s,s=none→(g s).2=none:=by
 intro s e
 cases hq:(g s).2 with
 | none=>rfl
 | some r=>obtain ⟨l,e2,-⟩:=h s r hq;rw [e] at e2;cases e2
theorem gItems_de {α:Type} {g:RSt→α × RSt} {put:α→List Int} {ok:α→Prop} (h:De g (Was put ok)):∀ (n:Nat) (acc:List α) (s:RSt) (r:List Int),(Bt g n acc s).2=some r→
 ∃ l,s=some l∧(Bytes l→∃ t,(Bt g n acc s).1=acc ++ t∧t.length=n∧l=(t.map put).flatten ++ r∧∀ a ∈ t,ok a):=by
 intro n
 induction n with
 | zero=>
  intro acc s r hs
  exact ⟨r,hs,fun _=>⟨[],by simp [Bt],rfl,rfl,by simp⟩⟩
 | succ n ih=>
  intro acc s r hs
  simp only [Bt] at hs ⊢
  by_cases hc:(g s).2=none
  ·rw [if_pos hc] at hs;cases hs
  ·rw [if_neg hc] at hs ⊢
   obtain ⟨l1,e1,h1⟩:=ih _ _ _ hs
   obtain ⟨l,rfl,h2⟩:=h _ _ e1
   refine ⟨l,rfl,fun hb=>?_⟩
   obtain ⟨h3,h4⟩:=h2 hb
   obtain ⟨t,q1,q2,q3,q4⟩:=h1 (fun x hx=>hb x (by rw [h3];exact List.mem_append_right _ hx))
   refine ⟨(g (some l)).1 :: t,by rw [q1];simp,by simp [q2],?_,?_⟩
   ·rw [C9,List.flatten_cons,B8,← q3];exact h3
   ·intro a ha
    rcases List.mem_cons.1 ha with rfl|ha
    ·exact h4
    ·exact q4 a ha
theorem gList_de {α:Type} {g:RSt→α × RSt} {put:α→List Int} {ok:α→Prop} (h:De g (Was put ok)):De (Av g) (Was (listB put) (listOk ok)):=by
 intro s r hs
 unfold Av at hs ⊢
 obtain ⟨l1,e1,h1⟩:=gItems_de h _ _ _ _ hs
 obtain ⟨l,rfl,h2⟩:=rInt_de 100 aF _ _ e1
 refine ⟨l,rfl,fun hb=>?_⟩
 obtain ⟨h3,h4⟩:=h2 hb
 obtain ⟨t,q1,q2,q3,q4⟩:=h1 (fun x hx=>hb x (by rw [h3];exact List.mem_append_right _ hx))
 rw [List.nil_append] at q1
 rw [q1]
 refine ⟨?_,by omega,q4⟩
 unfold listB
 rw [q2,encI_nat,B8,← q3]
 exact h3
/-! printed -/
def sgB (p:Int × Int):List Int:=encI p.1 ++ encI p.2
def sgOk (p:Int × Int):Prop:=UpI p.1∧UpI p.2
def CmOk (x:Cm):Prop:=UpI x.cl∧UpI x.sq∧HK x.h∧UpI x.ln∧UpI x.sb∧UpI x.mr
def StOk (x:St):Prop:=UpI x.rp∧UpI x.cl∧UpI x.sq∧HK x.h∧x.tm < U64∧UpI x.sb∧UpI x.mr
def CeOk (x:Ce):Prop:=CmOk x.c∧listOk StOk x.l
def PmOk (x:Pm):Prop:=UpI x.rp∧UpI x.ep∧x.fl < U64∧listOk CeOk x.l∧UpI x.sb∧UpI x.mr
def OpOk (x:Op):Prop:=UpI x.ix∧(x.pl.length:Int)≤256∧HK x.nc
def DnOk (x:Dn):Prop:=UpI x.rp∧UpI x.ix∧UpI x.sb∧UpI x.mr
def TbOk (x:Tb):Prop:=UpI x.ix∧listOk DnOk x.l
def BaOk (x:Ba):Prop:=UpI x.ep∧x.tm < U64∧listOk PmOk x.ps∧listOk OpOk x.os∧listOk TbOk x.ts
def VtOk (x:Vt):Prop:=UpI x.kd∧UpI x.ep∧UpI x.rd∧UpI x.rp∧HK x.h∧UpI x.sb∧UpI x.mr
def EnOk (x:En):Prop:=UpI x.cl∧UpI x.sq∧HK x.h∧x.tm < U64
theorem gSig_ed:Ed gSig sgB sgOk:=by
 intro x r ⟨h1,h2⟩
 simp only [gSig,gb,sgB,B8,gI_ed _ _ h1,gI_ed _ _ h2]
theorem gSig_de:De gSig (Was sgB sgOk):=by
 refine (De.bind gI_de fun a=>De.bind gI_de fun b=>De.pure _).mono ?_
 rintro y l r ⟨a,l1,ha,rfl,b,l2,hb,rfl,rfl,rfl⟩
 exact ⟨by simp only [sgB,B8],ha,hb⟩
theorem sgB_sig (a b:Int):sgB (a,b)=sigB a b:=rfl
theorem B1 (a b:Int):sgB (a,b)=nameB a b:=rfl
theorem gCm_ed:Ed gCm cmB CmOk:=by
 intro x r h
 obtain ⟨hc,hs,hh,hl,hb,hm⟩:=h
 simp only [gCm,gb,cmB,← sgB_sig,← B1,B8,gSig_ed (x.cl,x.sq) _ ⟨hc,hs⟩,rHash_ed _ _ hh.1,gI_ed _ _ hl,gSig_ed (x.sb,x.mr) _ ⟨hb,hm⟩]
theorem gCm_de:De gCm (Was cmB CmOk):=by
 refine (De.bind gSig_de fun _=>De.bind rHash_de fun _=>De.bind gI_de fun _=>De.bind gSig_de fun _=>De.pure _).mono ?_
 rintro y l r ⟨a0,l0,h0,rfl,a1,l1,h1,rfl,a2,l2,h2,rfl,a3,l3,h3,rfl,rfl,rfl⟩
 refine ⟨by simp only [cmB,← sgB_sig,← B1,B8],h0.1,h0.2,h1,h2,h3.1,h3.2⟩
theorem gSt_ed:Ed gSt stB StOk:=by
 intro x r h
 obtain ⟨hr,hc,hs,hh,ht,hb,hm⟩:=h
 simp only [gSt,gb,stB,← sgB_sig,← B1,B8,gI_ed _ _ hr,gSig_ed (x.cl,x.sq) _ ⟨hc,hs⟩,rHash_ed _ _ hh.1,rNum_ed _ _ ht,gSig_ed (x.sb,x.mr) _ ⟨hb,hm⟩]
theorem gSt_de:De gSt (Was stB StOk):=by
 refine (De.bind gI_de fun _=>De.bind gSig_de fun _=>De.bind rHash_de fun _=>De.bind rNum_de fun _=>De.bind gSig_de fun _=>De.pure _).mono ?_
 rintro y l r ⟨a0,l0,h0,rfl,a1,l1,h1,rfl,a2,l2,h2,rfl,a3,l3,h3,rfl,a4,l4,h4,rfl,rfl,rfl⟩
 refine ⟨by simp only [stB,← sgB_sig,← B1,B8],h0,h1.1,h1.2,h2,h3,h4.1,h4.2⟩
theorem gCe_ed:Ed gCe ceB CeOk:=by
 intro x r h
 obtain ⟨hc,hl⟩:=h
 simp only [gCe,gb,ceB,← sgB_sig,← B1,B8,gCm_ed _ _ hc,gList_ed gSt_ed _ _ hl]
theorem gCe_de:De gCe (Was ceB CeOk):=by
 refine (De.bind gCm_de fun _=>De.bind (gList_de gSt_de) fun _=>De.pure _).mono ?_
 rintro y l r ⟨a0,l0,h0,rfl,a1,l1,h1,rfl,rfl,rfl⟩
 refine ⟨by simp only [ceB,← sgB_sig,← B1,B8],h0,h1⟩
theorem gPm_ed:Ed gPm pmB PmOk:=by
 intro x r h
 obtain ⟨hr,he,hf,hl,hb,hm⟩:=h
 simp only [gPm,gb,pmB,← sgB_sig,← B1,B8,gI_ed _ _ hr,gI_ed _ _ he,rNum_ed _ _ hf,gList_ed gCe_ed _ _ hl,gSig_ed (x.sb,x.mr) _ ⟨hb,hm⟩]
theorem gPm_de:De gPm (Was pmB PmOk):=by
 refine (De.bind gI_de fun _=>De.bind gI_de fun _=>De.bind rNum_de fun _=>De.bind (gList_de gCe_de) fun _=>De.bind gSig_de fun _=>De.pure _).mono ?_
 rintro y l r ⟨a0,l0,h0,rfl,a1,l1,h1,rfl,a2,l2,h2,rfl,a3,l3,h3,rfl,a4,l4,h4,rfl,rfl,rfl⟩
 refine ⟨by simp only [pmB,← sgB_sig,← B1,B8],h0,h1,h2,h3,h4.1,h4.2⟩
theorem rowx {b r:List Int} (h:(b.length:Int)≤256):rRow 256 (some (encN b.length ++ (b ++ r)))=(b,some r):=by
 have:=rRow_ed 256 aF b r h
 simpa only [B8] using this
theorem gOp_ed:Ed gOp opB OpOk:=by
 intro x r h
 obtain ⟨hi,hp,hn⟩:=h
 simp only [gOp,gb,opB,← sgB_sig,← B1,B8,gI_ed _ _ hi,rowx hp,rHash_ed _ _ hn.1]
theorem gOp_de:De gOp (Was opB OpOk):=by
 refine (De.bind gI_de fun _=>De.bind (rRow_de 256 aF) fun _=>De.bind rHash_de fun _=>De.pure _).mono ?_
 rintro y l r ⟨a0,l0,h0,rfl,a1,l1,h1,rfl,a2,l2,h2,rfl,rfl,rfl⟩
 refine ⟨by simp only [opB,← sgB_sig,← B1,B8],h0,h1,h2⟩
theorem gDn_ed:Ed gDn dnB DnOk:=by
 intro x r h
 obtain ⟨hr,hi,hb,hm⟩:=h
 simp only [gDn,gb,dnB,← sgB_sig,← B1,B8,gI_ed _ _ hr,gI_ed _ _ hi,gSig_ed (x.sb,x.mr) _ ⟨hb,hm⟩]
theorem gDn_de:De gDn (Was dnB DnOk):=by
 refine (De.bind gI_de fun _=>De.bind gI_de fun _=>De.bind gSig_de fun _=>De.pure _).mono ?_
 rintro y l r ⟨a0,l0,h0,rfl,a1,l1,h1,rfl,a2,l2,h2,rfl,rfl,rfl⟩
 refine ⟨by simp only [dnB,← sgB_sig,← B1,B8],h0,h1,h2.1,h2.2⟩
theorem gTb_ed:Ed gTb tbB TbOk:=by
 intro x r h
 obtain ⟨hi,hl⟩:=h
 simp only [gTb,gb,tbB,← sgB_sig,← B1,B8,gI_ed _ _ hi,gList_ed gDn_ed _ _ hl]
theorem gTb_de:De gTb (Was tbB TbOk):=by
 refine (De.bind gI_de fun _=>De.bind (gList_de gDn_de) fun _=>De.pure _).mono ?_
 rintro y l r ⟨a0,l0,h0,rfl,a1,l1,h1,rfl,rfl,rfl⟩
 refine ⟨by simp only [tbB,← sgB_sig,← B1,B8],h0,h1⟩
theorem gBa_ed:Ed gBa baB BaOk:=by
 intro x r h
 obtain ⟨he,ht,hp,ho,hb⟩:=h
 simp only [gBa,gb,baB,← sgB_sig,← B1,B8,gI_ed _ _ he,rNum_ed _ _ ht,gList_ed gPm_ed _ _ hp,gList_ed gOp_ed _ _ ho,gList_ed gTb_ed _ _ hb]
theorem gBa_de:De gBa (Was baB BaOk):=by
 refine (De.bind gI_de fun _=>De.bind rNum_de fun _=>De.bind (gList_de gPm_de) fun _=>De.bind (gList_de gOp_de) fun _=>De.bind (gList_de gTb_de) fun _=>De.pure _).mono ?_
 rintro y l r ⟨a0,l0,h0,rfl,a1,l1,h1,rfl,a2,l2,h2,rfl,a3,l3,h3,rfl,a4,l4,h4,rfl,rfl,rfl⟩
 refine ⟨by simp only [baB,← sgB_sig,← B1,B8],h0,h1,h2,h3,h4⟩
theorem gVt_ed:Ed gVt vtB VtOk:=by
 intro x r h
 obtain ⟨hk,he,hr,hp,hh,hb,hm⟩:=h
 simp only [gVt,gb,vtB,← sgB_sig,← B1,B8,gI_ed _ _ hk,gI_ed _ _ he,gI_ed _ _ hr,gI_ed _ _ hp,rHash_ed _ _ hh.1,gSig_ed (x.sb,x.mr) _ ⟨hb,hm⟩]
theorem gVt_de:De gVt (Was vtB VtOk):=by
 refine (De.bind gI_de fun _=>De.bind gI_de fun _=>De.bind gI_de fun _=>De.bind gI_de fun _=>De.bind rHash_de fun _=>De.bind gSig_de fun _=>De.pure _).mono ?_
 rintro y l r ⟨a0,l0,h0,rfl,a1,l1,h1,rfl,a2,l2,h2,rfl,a3,l3,h3,rfl,a4,l4,h4,rfl,a5,l5,h5,rfl,rfl,rfl⟩
 refine ⟨by simp only [vtB,← sgB_sig,← B1,B8],h0,h1,h2,h3,h4,h5.1,h5.2⟩
theorem gEn_ed:Ed gEn enB EnOk:=by
 intro x r h
 obtain ⟨hc,hs,hh,ht⟩:=h
 simp only [gEn,gb,enB,← sgB_sig,← B1,B8,gSig_ed (x.cl,x.sq) _ ⟨hc,hs⟩,rHash_ed _ _ hh.1,rNum_ed _ _ ht]
theorem gEn_de:De gEn (Was enB EnOk):=by
 refine (De.bind gSig_de fun _=>De.bind rHash_de fun _=>De.bind rNum_de fun _=>De.pure _).mono ?_
 rintro y l r ⟨a0,l0,h0,rfl,a1,l1,h1,rfl,a2,l2,h2,rfl,rfl,rfl⟩
 refine ⟨by simp only [enB,← sgB_sig,← B1,B8],h0.1,h0.2,h1,h2⟩
theorem RefFail_any (r:Nat) (v:Value) (s:RSt) (w:World) (hR:Rr 100 w r v s) :
 Calls Tryz.prog 91 #[.pointer (some ⟨r,0,none⟩)] w fun e w'=>e=.returned (.tuple #[])∧RrTo 100 w r v none w':=by
 obtain ⟨hc,hr,ha⟩:=hR
 have c0:w.cell? ⟨r,0,none⟩=some v:=(hc.cell 0).trans rfl
 have c1:w.cell? ⟨r,1,none⟩=some (.bool s.isNone):=(hc.cell 1).trans rfl
 have f0:=hc.frozen 0
 have f1:=hc.frozen 1
 have HC:=B5 hc
 clear hc hr ha
 go_enter Tryz.func91,Tryz.ntmps91
 go_wp2
 go_end0
 refine ⟨rfl,.slice none 0 0,⟨((HC.o.set 0 (.slice none 0 0)).set 1 (.bool true)),RdB.nil _,Apart.zero⟩,((Mod.refl (fun k=>k=r) w).setCell (fun _=>rfl) _).setCell (fun _=>rfl) _,fun h=>by simp at h⟩
theorem acc_u64 (acc k d:Nat) (hacc:acc < 2 ^ (7 * k)) (hk:k≤9) (hd:d < 128) (h9:k=9→d≤1):acc+d * 2 ^ (7 * k) < U64:=by
 by_cases h:k=9
 ·subst h
  have:=h9 rfl
  have:d * 2 ^ (7 * 9)≤1 * 2 ^ (7 * 9):=Nat.mul_le_mul_right _ this
  unfold U64
  simp only [Nat.reduceMul,Nat.reducePow] at *
  omega
 ·have:=acc_lt acc k d hacc hd
  have h2:2 ^ (7 * (k+1))≤2 ^ 63:=Nat.pow_le_pow_right aF aM
  unfold U64
  simp only [Nat.reducePow] at h2
  omega
set_option maxHeartbeats 1000000 in
theorem RefRNum_any (r:Nat) (v:Value) (s:RSt) (w:World) (hR:Rr 100 w r v s) :
 Calls Tryz.prog 52 #[.pointer (some ⟨r,0,none⟩)] w fun e w'=>e=.returned (.int .u64 ((rNum s).1:Nat))∧RrTo 100 w r v (rNum s).2 w':=by
 have c0:w.cell? ⟨r,0,none⟩=some v:=(hR.1.cell 0).trans rfl
 have f0:=hR.1.frozen 0
 have hlt:=hR.1.lt
 have hr:=hR.2.1
 have hfail:=RefFail_any r v s w hR
 have hnone:Bx 0 0 (s.getD [])=none→rNum s=(0,none):=by
  intro h
  cases s with
  | none=>rfl
  | some l=>simp only [Option.getD_some] at h;simp [rNum,h]
 have hsome:∀ n rest,Bx 0 0 (s.getD [])=some (n,rest)→rNum s=(n,some rest)∧s.isNone=false:=by
  intro n rest h
  cases s with
  | none=>simp [Bx] at h
  | some l=>simp only [Option.getD_some] at h;simp [rNum,h]
 generalize hres:rNum s=res at *
 have HN:=B5 hnone
 have HS:=B5 hsome
 clear hnone hsome hres
 generalize hl:s.getD []=l at *
 rcases hr.form with ⟨rfl,ao,cap,rfl,_⟩|⟨g,o,cap,hpos,rfl,hlc,hcm,hcell⟩
 ·have HF:=B5 hfail
  have HE:=B5 (HN.o rfl)
  clear hfail hR hr
  go_enter Tryz.func52,Tryz.ntmps52
  go_wp2
  refine wp_loop_rounds 1 ?_
  rw [rounds_succ]
  go_wp2_with (go_at_call 91;go_must (refine HF.o.mono ?_);rintro e w1 ⟨rfl,hR1⟩;have HR1:=B5 hR1;clear hR1)
  go_ret
  exact ⟨by rw [HE.o];rfl,by rw [HE.o];exact HR1.o⟩
 ·rw [A7] at hcm
  have HR:=B5 hR
  have HF:=B5 hfail
  have HL:=B5 hl
  clear hR hr hfail hl
  go_enter Tryz.func52,Tryz.ntmps52
  go_wp2
  go_loop [3,4] (fun n i=>∃ (k acc:Nat),k≤l.length∧k≤10∧acc < U64∧(k≤9→acc < 2 ^ (7 * k)∧Bx k acc (l.drop k)=Bx 0 0 l)∧(k=10→Bx 0 0 l=none)∧i=.int .i64 k∧n=.int .u64 acc) (fun _ i=>l.length - (intOf i).toNat)
  case atStart=>exact ⟨0,0,by omega,by omega,by unfold U64;omega,fun _=>⟨by simp,by simp⟩,fun h=>absurd h aM,rfl,rfl⟩
  case round=>
   obtain ⟨k,acc,hk,hk10,hau,hdec,hten,rfl,rfl⟩:=hrel
   have HD:=B5 hdec
   have H10:=B5 hten
   have HAU:=B5 hau
   clear hdec hten hau
   by_cases hltk:k < l.length
   ·by_cases hk9:k < 10
    ·obtain ⟨hacc,hdec⟩:=HD.o aM
     have HACC:=B5 hacc
     have HDE:=B5 hdec
     clear hacc hdec
     have hc:=hcell k hltk
     have hb:0≤l[k]∧l[k] < 256:=HR.o.2.1.1.get (by rw [HL.o];exact hltk) |> fun h=>by simpa [HL.o] using h
     obtain ⟨hb0,hb1⟩:=hb
     generalize hck:l[k]=c at *
     have HCK:=B5 hck
     clear hck hcell
     have hmod:c % 128=(c.toNat % 128:Nat):=by omega
     have HMOD:=B5 hmod
     clear hmod
     have hfail:(k=9∧1 < c % 128)∨(0 < k∧c=0)→Bx 0 0 l=none:=by
      intro h
      rw [← HDE.o,drop_cons hltk HCK.o,Bx]
      rcases h with ⟨h1,h2⟩|⟨h1,h2⟩
      ·rw [if_pos ⟨h1,by omega⟩]
      ·subst h2
       rw [if_neg aM,if_pos aM,if_pos ⟨rfl,h1⟩]
     have HFL:=B5 hfail
     clear hfail
     by_cases h9:k=9∧1 < c % 128
     ·obtain ⟨rfl,h9b⟩:=h9
      have HE:=B5 (HN.o (HFL.o (.inl ⟨rfl,h9b⟩)))
      go_wp2_with (go_at_call 91;go_must (refine HF.o.mono ?_);rintro e w1 ⟨rfl,hR1⟩;have HR1:=B5 hR1;clear hR1)
      go_ret
      exact ⟨by rw [HE.o];rfl,by rw [HE.o];exact HR1.o⟩
     ·have hcase:(((k:Int) == 9)=false∧k≤8)∨(((k:Int) == 9)=true∧k=9∧c % 128≤1):=by
       by_cases h:k=9
       ·right;exact ⟨by simp [h],h,by omega⟩
       ·left;exact ⟨by simp;omega,by omega⟩
      have hd9:k=9→c.toNat % 128≤1:=fun h=>by omega
      have hval:=or_nat acc k (c.toNat % 128) HACC.o aM aM hd9
      rw [← HMOD.o] at hval
      have HV:=B5 hval
      have HD9:=B5 hd9
      clear hval hd9 h9
      by_cases hc128:c < 128
      ·have hmc:c % 128=c:=by omega
       rw [hmc] at HV
       by_cases hz:0 < k∧c=0
       ·obtain ⟨hk0,rfl⟩:=hz
        have HE:=B5 (HN.o (HFL.o (.inr ⟨hk0,rfl⟩)))
        rcases hcase with ⟨hcase,h8⟩|⟨hcase,h8,hc1⟩
        ·go_wp2_with (go_at_call 91;go_must (refine HF.o.mono ?_);rintro e w1 ⟨rfl,hR1⟩;have HR1:=B5 hR1;clear hR1)
         go_ret
         exact ⟨by rw [HE.o];rfl,by rw [HE.o];exact HR1.o⟩
        ·subst h8
         go_wp2_with (go_at_call 91;go_must (refine HF.o.mono ?_);rintro e w1 ⟨rfl,hR1⟩;have HR1:=B5 hR1;clear hR1)
         go_ret
         exact ⟨by rw [HE.o];rfl,by rw [HE.o];exact HR1.o⟩
       ·have hd:Bx 0 0 l=some (acc+c.toNat * 2 ^ (7 * k),l.drop (k+1)):=by
         rw [← HDE.o,drop_cons hltk HCK.o,Bx,if_neg (by have:=HD9.o;omega),if_pos hc128,if_neg aM]
        have HE:=B5 (HS.o _ _ hd)
        have HRL:=B5 (show RdB w (.slice (some ⟨g,o,none⟩) l.length cap) l by have:=HR.o.2.1;rwa [HL.o] at this)
        clear hd
        have hv2:=HV.o
        rw [show IntKind.u64.wrap c=c by simp only [IntKind.wrap,IntKind.bits,IntKind.signed];simp;omega,show c.toNat % 128=c.toNat by omega] at hv2
        have HV2:=B5 hv2
        clear hv2
        have hz2:(c == 0)=false∨((c == 0)=true∧k≤0∧((k:Int) == 9)=false):=by
         by_cases h:c=0
         ·right;exact ⟨by simp [h],by omega,by simp;omega⟩
         ·left;simp [h]
        clear hz
        rcases hz2 with hz2|⟨hz2,hk0,hk09⟩
        ·have hcase':(((k:Int) == 9)=false)∨(((k:Int) == 9)=true∧c≤1):=by
          rcases hcase with ⟨h,_⟩|⟨h,_,h2⟩
          ·exact .inl h
          ·exact .inr ⟨h,by omega⟩
         clear hcase
         rcases hcase' with hcase|⟨hcase,hc1⟩
         all_goals
          go_wp2
          all_goals go_ret
          all_goals
           refine ⟨?_,?_⟩
           ·rw [HE.o.1];exact ret_int HV2.o
           ·rw [HE.o.1]
            by_cases hcap:cap=k+1
            ·first|(exfalso;exact absurd hcap (by assumption))|(subst hcap;exact Rr_tail HR.o.1 HR.o.2.2 (s2:=some (l.drop (k+1))) (RdB.tail_at HRL.o (k+1) aM rfl) (fun h=>by simp at h;omega) (Mod.refl _ _) (by rw [HL.o];simp) HE.o.2)
            ·first|(exfalso;exact absurd (by assumption) hcap)|(exact Rr_tail HR.o.1 HR.o.2.2 (s2:=some (l.drop (k+1))) (RdB.tail_in HRL.o (k+1) aM hcap) (fun _=>rfl) (Mod.refl _ _) (by rw [HL.o];simp) HE.o.2)
        ·clear hcase
         go_wp2
         all_goals go_ret
         all_goals
          refine ⟨?_,?_⟩
          ·rw [HE.o.1];exact ret_int HV2.o
          ·rw [HE.o.1]
           by_cases hcap:cap=k+1
           ·first|(exfalso;exact absurd hcap (by assumption))|(subst hcap;exact Rr_tail HR.o.1 HR.o.2.2 (s2:=some (l.drop (k+1))) (RdB.tail_at HRL.o (k+1) aM rfl) (fun h=>by simp at h;omega) (Mod.refl _ _) (by rw [HL.o];simp) HE.o.2)
           ·first|(exfalso;exact absurd (by assumption) hcap)|(exact Rr_tail HR.o.1 HR.o.2.2 (s2:=some (l.drop (k+1))) (RdB.tail_in HRL.o (k+1) aM hcap) (fun _=>rfl) (Mod.refl _ _) (by rw [HL.o];simp) HE.o.2)
      ·have hv2:=HV.o
       rw [show IntKind.u64.wrap (c % 128)=c % 128 by simp only [IntKind.wrap,IntKind.bits,IntKind.signed];simp;omega] at hv2
       have HV2:=B5 hv2
       have HB:=B5 (acc_u64 acc k (c.toNat % 128) HACC.o aM aM HD9.o)
       have HK1:=B5 (show k+1≤9→acc+(c.toNat % 128) * 2 ^ (7 * k) < 2 ^ (7 * (k+1))∧Bx (k+1) (acc+(c.toNat % 128) * 2 ^ (7 * k)) (l.drop (k+1))=Bx 0 0 l from by
        intro hk1
        refine ⟨acc_lt _ _ _ HACC.o aM,?_⟩
        rw [← HDE.o,drop_cons hltk HCK.o,Bx,if_neg aM,if_neg hc128,show c.toNat % 128=c.toNat - 128 by omega])
       have HK2:=B5 (show k+1=10→Bx 0 0 l=none from by
        intro hk1
        rw [← HDE.o,drop_cons hltk HCK.o,Bx,if_pos aM])
       clear hv2
       have hcase':(((k:Int) == 9)=false)∨(((k:Int) == 9)=true∧c % 128≤1):=by
        rcases hcase with ⟨h,_⟩|⟨h,_,h2⟩
        ·exact .inl h
        ·exact .inr ⟨h,by omega⟩
       clear hcase
       rcases hcase' with hcase|⟨hcase,hc1⟩
       all_goals
        go_wp2
        go_round
        case rel=>exact ⟨k+1,_,by omega,by omega,HB.o,HK1.o,HK2.o,by go_num,by rw [HV2.o]⟩
        case measure=>simp [intOf];omega
    ·have HE:=B5 (HN.o (H10.o aM))
     go_wp2_with (go_at_call 91;go_must (refine HF.o.mono ?_);rintro e w1 ⟨rfl,hR1⟩;have HR1:=B5 hR1;clear hR1)
     go_ret
     exact ⟨by rw [HE.o];rfl,by rw [HE.o];exact HR1.o⟩
   ·have hd:Bx 0 0 l=none:=by
     by_cases h:k=10
     ·exact H10.o h
     ·rw [← (HD.o aM).2,List.drop_of_length_le aM];rfl
    have HE:=B5 (HN.o hd)
    clear hd
    go_wp2_with (go_at_call 91;go_must (refine HF.o.mono ?_);rintro e w1 ⟨rfl,hR1⟩;have HR1:=B5 hR1;clear hR1)
    go_ret
    exact ⟨by rw [HE.o];rfl,by rw [HE.o];exact HR1.o⟩
theorem rNum_zero (s:RSt):(rNum s).2=none→(rNum s).1=0:=by
 cases s with
 | none=>intro _;rfl
 | some l=>
  simp only [rNum]
  split
  ·intro h;cases h
  ·intro _;rfl
theorem RefRInt_any (r:Nat) (most:Int) (v:Value) (s:RSt) (w:World) (hR:Rr 100 w r v s) (hm:-9223372036854775808≤most∧most≤9223372036854775807) :
 Calls Tryz.prog 46 #[.pointer (some ⟨r,0,none⟩),.int .i64 most] w fun e w'=>e=.returned (.int .i64 ((rInt most s).1:Nat))∧RrTo 100 w r v (rInt most s).2 w':=by
 have hlt:=rNum_lt hR.2.1.1
 have hz:=rNum_zero s
 have key:=RefRNum_any r v s w hR
 generalize hres:rNum s=res at *
 obtain ⟨n,s1⟩:=res
 have hI:rInt most s=if s1.isNone∨most < 0∨most < n then (0,none) else (n,s1):=by simp [rInt,hres]
 rw [hI]
 clear hI hres
 simp only at key hlt hz
 have K:=B5 key
 clear key
 obtain ⟨hm0,hm1⟩:=hm
 unfold U64 at hlt
 by_cases h2:most < 0∨most < n
 ·rw [if_pos (Or.inr h2)]
  by_cases h3:most < 0
  all_goals
   go_enter Tryz.func46,Tryz.ntmps46
   go_wp2_with fail
   refine K.o.mono ?_
   rintro e w1 ⟨rfl,v1,hR1,hm1,hb1⟩
   have HF:=B5 (RefFail_any r v1 s1 w1 hR1)
   have HM1:=B5 hm1
   have HB1:=B5 hb1
   clear hR1 hm1 hb1
   go_wp2_with fail
   refine HF.o.mono ?_
   rintro e w2 ⟨rfl,hR2⟩
   have HR2:=B5 hR2
   clear hR2
   go_wp2
   go_ret
   exact ⟨rfl,RrTo.trans HM1.o HB1.o HR2.o bD⟩
 ·have he:(if s1.isNone∨most < 0∨most < n then ((0,none):Nat × RSt) else (n,s1))=(n,s1):=by
   split
   ·rename_i h
    have h5:s1=none:=by
     rcases h with h|h
     ·simpa using h
     ·exact absurd h h2
    rw [hz h5,h5]
   ·rfl
  rw [he]
  clear he hz
  have h3:¬ most < 0:=by omega
  have h4:¬ most < n:=by omega
  clear h2
  go_enter Tryz.func46,Tryz.ntmps46
  go_wp2_with fail
  refine K.o.mono ?_
  rintro e w1 ⟨rfl,hR1⟩
  have HR1:=B5 hR1
  clear hR1
  go_wp2
  go_ret
  exact ⟨rfl,HR1.o⟩
theorem RefRRow_any (r:Nat) (most:Int) (v:Value) (s:RSt) (w:World) (hR:Rr 100 w r v s) (hm:-9223372036854775808≤most∧most≤9223372036854775807) (hlen:(s.getD []).length≤1000000000) :
 Calls Tryz.prog 59 #[.pointer (some ⟨r,0,none⟩),.int .i64 most] w fun e w'=>∃ v',e=.returned v'∧OwnB w' v' (rRow most s).1∧Fresh w v'∧RrTo 100 w r v (rRow most s).2 w':=by
 have key:=RefRInt_any r most v s w hR hm
 have hl2:=rInt_len most s
 have hn:=rInt_le most s
 have hrow:rRow most s=Bh (rInt most s).1 (rInt most s).2:=rfl
 rw [hrow]
 clear hrow
 generalize rInt most s=res at *
 obtain ⟨n,s1⟩:=res
 dsimp only at *
 have hn9:(n:Int)≤9223372036854775807:=by omega
 have K:=B5 key
 have HL:=B5 (rTake_len n s1)
 clear key hn hm
 by_cases h:(s1.getD []).length < n
 ·have hs:Bh n s1=([],none):=by
   cases s1 with
   | none=>rfl
   | some l=>simp at h;simp [Bh,h]
  have HS:=B5 hs
  clear hs
  go_enter Tryz.func59,Tryz.ntmps59
  go_wp2_with fail
  refine K.o.mono ?_
  rintro e w1 ⟨rfl,v1,hR1,hm1,hb1⟩
  have HM1:=B5 hm1
  have HB1:=B5 hb1
  have c0:w1.cell? ⟨r,0,none⟩=some v1:=(hR1.1.cell 0).trans rfl
  have HF:=B5 (RefFail_any r v1 s1 w1 hR1)
  obtain ⟨ao,cap,rfl,hlc,hcm⟩:=hR1.2.1.shape
  clear hR1 hm1 hb1 hl2
  generalize hs1:(s1.getD []).length=m at *
  have hd:(m:Int) < n:=by omega
  have HS1:=B5 hs1
  clear hs1
  go_wp2_with fail
  refine HF.o.mono ?_
  rintro e w2 ⟨rfl,hR2⟩
  have HR2:=B5 hR2
  clear hR2
  go_wp2
  go_ret
  rw [HS.o]
  exact ⟨_,rfl,OwnB.nil _,(fun g hg=>by cases hg),RrTo.trans (s1:=s1) HM1.o (by rw [HS1.o];exact HB1.o) HR2.o bD⟩
 ·have hs:Bh n s1=((s1.getD []).take n,s1.map (List.drop n)):=by
   cases s1 with
   | none=>simp [Bh]
   | some l=>simp at h;simp [Bh,h]
  have HS:=B5 hs
  clear hs
  have hgd:(s1.map (List.drop n)).getD []=(s1.getD []).drop n:=by cases s1<;>simp
  have hns:s1.isNone=(s1.map (List.drop n)).isNone:=by cases s1<;>rfl
  have HGD:=B5 hgd
  have HNS:=B5 hns
  clear hgd hns
  go_enter Tryz.func59,Tryz.ntmps59
  go_wp2_with fail
  refine K.o.mono ?_
  rintro e w1 ⟨rfl,v1,hR1,hm1,hb1⟩
  have HM1:=B5 hm1
  have HB1:=B5 hb1
  clear hm1 hb1
  have c0:w1.cell? ⟨r,0,none⟩=some v1:=(hR1.1.cell 0).trans rfl
  have f0:=hR1.1.frozen 0
  have hlt:=hR1.1.lt
  obtain ⟨hc,hr,hap⟩:=hR1
  have HC:=B5 hc
  have HAP0:=B5 hap
  clear hc
  generalize hl:s1.getD []=l at *
  have HL1:=B5 hl
  clear hl
  obtain ⟨ao,cap,rfl,hlc,hcm⟩:=hr.shape
  rw [A7] at hcm
  have hup:=hr.upto n aM
  have Hroom:=B5 (show ([]:List Int).length+(l.take n).length≤Room by simp;unfold Room;omega)
  have HUP:=B5 hup
  have HR:=B5 hr
  have el:(l.take n).length=n:=by simp;omega
  have EL:=B5 el
  have hd:¬ (l.length:Int) < n:=by omega
  have hnl:n≤l.length:=by omega
  clear hup hr hap el hl2 hlen
  go_wp2_with (at_builtin;go_must (refine wpList_appB rfl (.const (.slice none 0 0)) (.tmp 24) rfl rfl (OwnB.nil _) (new:=l.take n) rfl HUP.o Hroom.o ?_))
  intro ao1 cap1 w2 happ
  have hm:Mod (fun _=>False) w1 w2:=happ.2.1.mono (fun k _ hk=>by simp [Value.ownBlock] at hk)
  have hc1:=HC.o.mod hm id
  have c1:w2.cell? ⟨r,0,none⟩=some (.slice ao l.length cap):=(hc1.cell 0).trans rfl
  have f1:=hc1.frozen 0
  have HA:=B5 happ
  have HM:=B5 hm
  clear happ hm hc1
  go_wp2
  all_goals go_ret
  ·obtain ⟨h1,_,h3⟩:=HA.o
   rw [HS.o]
   have hcap:cap=n:=by assumption
   subst hcap
   have HR2:=HR.o.tail_at cap aM rfl
   have hT:=Rr_tail HC.o (by rw [HL1.o];exact HAP0.o) (s2:=s1.map (List.drop cap)) (by rw [HGD.o];exact HR2) (fun h=>by rw [HGD.o] at h;simp at h;omega) HM.o (by rw [HGD.o,HL1.o];simp) HNS.o
   refine ⟨.slice ao1 cap cap1,rfl,?_,?_,RrTo.trans (s1:=s1) HM1.o (by rw [HL1.o];exact HB1.o) hT (by rw [HGD.o,HL1.o];simp)⟩
   ·refine Own.other h1 ?_ _
    intro g hg e
    rcases h3 with h3|⟨k,h3,hk⟩
    ·rw [h3] at hg;cases hg
    ·rw [h3] at hg;simp at hg;simp only at e;omega
   ·intro g hg
    have:=HM1.o.size
    rcases h3 with h3|⟨k,h3,hk⟩
    ·rw [h3] at hg;cases hg
    ·rw [h3] at hg;simp at hg;omega
  ·obtain ⟨h1,_,h3⟩:=HA.o
   rw [HS.o]
   have hcap:¬ cap=n:=by assumption
   have HR2:=HR.o.tail_in n aM hcap
   have hT:=Rr_tail HC.o (by rw [HL1.o];exact HAP0.o) (s2:=s1.map (List.drop n)) (by rw [HGD.o];exact HR2) (fun _=>ownBlock_map _ _ _ _ _ _) HM.o (by rw [HGD.o,HL1.o];simp) HNS.o
   refine ⟨.slice ao1 n cap1,rfl,?_,?_,RrTo.trans (s1:=s1) HM1.o (by rw [HL1.o];exact HB1.o) hT (by rw [HGD.o,HL1.o];simp)⟩
   ·refine Own.other h1 ?_ _
    intro g hg e
    rcases h3 with h3|⟨k,h3,hk⟩
    ·rw [h3] at hg;cases hg
    ·rw [h3] at hg;simp at hg;simp only at e;omega
   ·intro g hg
    have:=HM1.o.size
    rcases h3 with h3|⟨k,h3,hk⟩
    ·rw [h3] at hg;cases hg
    ·rw [h3] at hg;simp at hg;omega
theorem zeros_lay:lay ((List.replicate 32 0).map bv).toArray 0 ((List.replicate 32 0).map bv)=((List.replicate 32 0).map bv).toArray:=by rw [Ap];simp
/-- two hashes in blocks of their own, behind w -/
theorem two_hashes {r:Nat} {v:Value} {s:RSt} {w:World} (hR:Rr 100 w r v s) :
 ∃ w2,(w.alloc (.cells #[bv 0,bv 0,bv 0,bv 0,bv 0,bv 0,bv 0,bv 0,bv 0,bv 0,bv 0,bv 0,bv 0,bv 0,bv 0,bv 0,bv 0,bv 0,bv 0,bv 0,bv 0,bv 0,bv 0,bv 0,bv 0,bv 0,bv 0,bv 0,bv 0,bv 0,bv 0,bv 0] 25)).alloc (.cells #[bv 0,bv 0,bv 0,bv 0,bv 0,bv 0,bv 0,bv 0,bv 0,bv 0,bv 0,bv 0,bv 0,bv 0,bv 0,bv 0,bv 0,bv 0,bv 0,bv 0,bv 0,bv 0,bv 0,bv 0,bv 0,bv 0,bv 0,bv 0,bv 0,bv 0,bv 0,bv 0] 25)=w2∧Rr 100 w2 r v s∧Cs w2 w.heap.size ((List.replicate 32 0).map bv).toArray 25∧Cs w2 (w.heap.size+1) ((List.replicate 32 0).map bv).toArray 25∧Mod (fun _=>False) w w2:=by
 have hs:(w.alloc (.cells #[bv 0,bv 0,bv 0,bv 0,bv 0,bv 0,bv 0,bv 0,bv 0,bv 0,bv 0,bv 0,bv 0,bv 0,bv 0,bv 0,bv 0,bv 0,bv 0,bv 0,bv 0,bv 0,bv 0,bv 0,bv 0,bv 0,bv 0,bv 0,bv 0,bv 0,bv 0,bv 0] 25)).heap.size=w.heap.size+1:=by simp
 have h1:Cs (w.alloc (.cells #[bv 0,bv 0,bv 0,bv 0,bv 0,bv 0,bv 0,bv 0,bv 0,bv 0,bv 0,bv 0,bv 0,bv 0,bv 0,bv 0,bv 0,bv 0,bv 0,bv 0,bv 0,bv 0,bv 0,bv 0,bv 0,bv 0,bv 0,bv 0,bv 0,bv 0,bv 0,bv 0] 25)) w.heap.size ((List.replicate 32 0).map bv).toArray 25:=Cs.new w _ _
 have h2:Cs ((w.alloc (.cells #[bv 0,bv 0,bv 0,bv 0,bv 0,bv 0,bv 0,bv 0,bv 0,bv 0,bv 0,bv 0,bv 0,bv 0,bv 0,bv 0,bv 0,bv 0,bv 0,bv 0,bv 0,bv 0,bv 0,bv 0,bv 0,bv 0,bv 0,bv 0,bv 0,bv 0,bv 0,bv 0] 25)).alloc (.cells #[bv 0,bv 0,bv 0,bv 0,bv 0,bv 0,bv 0,bv 0,bv 0,bv 0,bv 0,bv 0,bv 0,bv 0,bv 0,bv 0,bv 0,bv 0,bv 0,bv 0,bv 0,bv 0,bv 0,bv 0,bv 0,bv 0,bv 0,bv 0,bv 0,bv 0,bv 0,bv 0] 25)) (w.alloc (.cells #[bv 0,bv 0,bv 0,bv 0,bv 0,bv 0,bv 0,bv 0,bv 0,bv 0,bv 0,bv 0,bv 0,bv 0,bv 0,bv 0,bv 0,bv 0,bv 0,bv 0,bv 0,bv 0,bv 0,bv 0,bv 0,bv 0,bv 0,bv 0,bv 0,bv 0,bv 0,bv 0] 25)).heap.size ((List.replicate 32 0).map bv).toArray 25:=Cs.new _ _ _
 rw [hs] at h2
 exact ⟨_,rfl,(hR.mod (S:=fun _=>False) ((Mod.refl _ _).alloc _) id Apart.none).mod (S:=fun _=>False) ((Mod.refl _ _).alloc _) id Apart.none,h1.mod (S:=fun _=>False) ((Mod.refl _ _).alloc _) id,h2,((Mod.refl _ _).alloc _).alloc _⟩
theorem RefRHash_fails (r:Nat) (v:Value) (s:RSt) (w:World) (hR:Rr 100 w r v s) (hlt32:(s.getD []).length < 32) :
 Calls Tryz.prog 51 #[.pointer (some ⟨r,0,none⟩)] w fun e w'=>e=.returned (hv (List.replicate 32 0))∧RrTo 100 w r v none w':=by
 have hlt:=hR.1.lt
 have c0:w.cell? ⟨r,0,none⟩=some v:=(hR.1.cell 0).trans rfl
 obtain ⟨ao,cap,rfl,hlc,hcm⟩:=hR.2.1.shape
 obtain ⟨w2,e2,hR2,hc2,hd2,hm2⟩:=two_hashes hR
 have HF:=B5 (RefFail_any r _ s w2 hR2)
 have E2:=B5 e2
 have HC2:=B5 hc2
 have HD2:=B5 hd2
 have HM2:=B5 hm2
 clear e2 hc2 hd2 hm2 hR2 hR
 generalize hs1:(s.getD []).length=m at *
 have HS1:=B5 hs1
 clear hs1
 go_enter Tryz.func51,Tryz.ntmps51
 go_wp2_with fail
 rw [E2.o]
 refine HF.o.mono ?_
 rintro e w3 ⟨rfl,v3,hR3,hm3,hb3⟩
 have HC3:=B5 (HC2.o.mod hm3 aM)
 have HD3:=B5 (HD2.o.mod hm3 aM)
 have HR3:=B5 hR3
 have HM3:=B5 hm3
 clear hR3 hm3 hb3
 have hdc:∀ j u,((List.replicate 32 0).map bv)[j]? = some u→w3.cell? ⟨w.heap.size+1,0+j,none⟩=some u:=fun j u hu=>by rw [Nat.zero_add,HD3.o.cell];simpa using hu
 have HDC:=B5 hdc
 clear hdc
 go_wp2_with (first
  | ((with_reducible show wpList _ _ _ (Oper.mk (some 13) _ _ _ _ _ :: _) _ _);go_must (refine wpList_loadA rfl 25 (.tmp 3) rfl D5 rfl (cs:=(List.replicate 32 0).map bv) size_hash rfl HDC.o ?_))
  | ((with_reducible show wpList _ _ _ (Oper.mk none (Op.store 25 (.tmp 2) (.tmp 13)) _ _ _ _ :: _) _ _);go_must (refine wpList_storeA rfl 25 (.tmp 2) (.tmp 13) rfl HC3.o (vs:=(List.replicate 32 0).map bv) size_hash (ints_oneCell .u8 _) bD rfl rfl ?_);intro w4 hc4 hm4;have HC4:=B5 hc4;have HM4:=B5 hm4;clear hc4 hm4))
 have hc4:=HC4.o
 rw [zeros_lay] at hc4
 refine bodyPost_ret (Au rfl _ _ w.heap.size ((List.replicate 32 0).map bv) rfl (fun j u hu=>by rw [hc4.cell];simpa using hu) D5 rfl size_hash) rfl ⟨rfl,?_⟩
 obtain ⟨q1,q2,q3⟩:=HR3.o
 refine ⟨v3,⟨q1.mod HM4.o aM,q2.mod HM4.o (by simp [Apart]),q3⟩,?_,by simp⟩
 have m3:Mod (fun k=>k=r) w w3:=(HM2.o.mono (fun _ _ h=>h.elim)).trans HM3.o (fun _ _ h=>h)
 exact m3.trans (HM4.o.mono (S':=fun k=>w.heap.size≤k) (fun k _ h=>by omega)) (fun i hi h=>by omega)
theorem fill_step (l:List Int) (i:Nat) (h:i < 32) (hl:32≤l.length):((l.take i ++ List.replicate (32 - i) 0).map bv).toArray.setIfInBounds i (bv l[i])=((l.take (i+1) ++ List.replicate (32 - (i+1)) 0).map bv).toArray:=by
 rw [sIB,← List.map_set]
 congr 2
 rw [show 32 - i=(32 - (i+1))+1 by omega,List.replicate_succ,List.set_append_right _ _ fA,List.take_succ_eq_append_getElem aM,List.length_take,Nat.min_eq_left aM,Nat.sub_self,sCZ,B8]
 rfl
theorem fill_get (l:List Int) (i:Nat) (h:i < 32) (hl:32≤l.length):((l.take i ++ List.replicate (32 - i) 0).map bv).toArray[i]? = some (bv 0):=by
 have h1:(l.take i).length=i:=by rw [List.length_take];omega
 have h2:(l.take i ++ List.replicate (32 - i) (0:Int))[i]? = some 0:=by
  rw [List.getElem?_append_right aM,h1,Nat.sub_self,show 32 - i=(32 - (i+1))+1 by omega,List.replicate_succ];rfl
 rw [List.getElem?_toArray,List.getElem?_map,h2];rfl
set_option maxHeartbeats 1000000 in
theorem RefRHash_works (r:Nat) (v:Value) (s:RSt) (w:World) (hR:Rr 100 w r v s) (h32:32≤(s.getD []).length) :
 Calls Tryz.prog 51 #[.pointer (some ⟨r,0,none⟩)] w fun e w'=>e=.returned (hv ((s.getD []).take 32))∧RrTo 100 w r v (s.map (List.drop 32)) w':=by
 have hlt:=hR.1.lt
 have c0:w.cell? ⟨r,0,none⟩=some v:=(hR.1.cell 0).trans rfl
 obtain ⟨w2,e2,hR2,hc2,hd2,hm2⟩:=two_hashes hR
 have hgd:(s.map (List.drop 32)).getD []=(s.getD []).drop 32:=by cases s<;>simp
 have hns:s.isNone=(s.map (List.drop 32)).isNone:=by cases s<;>rfl
 have HGD:=B5 hgd
 have HNS:=B5 hns
 have hz:=hR2.1.frozen 0
 have HR0:=B5 hR
 rcases hR.2.1.form with ⟨h0,_⟩|⟨g,o,cap,hpos,rfl,hlc,hcm,hcell⟩
 ·rw [h0] at h32;simp at h32
 have hgb:g < w.heap.size:=hR.2.1.block_lt hpos g rfl
 have hgr:g≠r:=by have:=hR.2.2 aM g rfl;simpa using this
 rw [A7] at hcm
 have E2:=B5 e2
 have HC2:=B5 hc2
 have HD2:=B5 hd2
 have HM2:=B5 hm2
 have HR2:=B5 hR2
 have HCELL:=B5 hcell
 clear e2 hc2 hd2 hm2 hR2 hR hcell hz hgd hns
 generalize hl:s.getD []=l at *
 have HL:=B5 hl
 clear hl
 go_enter Tryz.func51,Tryz.ntmps51
 go_wp2
 rw [E2.o]
 go_loopw [14] (fun t14 wr=>∃ i:Nat,t14=.int .i64 i∧i≤32∧Cs wr (w.heap.size+1) ((l.take i ++ List.replicate (32 - i) 0).map bv).toArray 25∧Mod (fun k=>k=w.heap.size+1) w2 wr) (fun t14 _=>32 - (intOf t14).toNat)
 case atStart=>exact ⟨0,rfl,by omega,by simpa using HD2.o,Mod.refl _ _⟩
 case round=>
  obtain ⟨i,rfl,hi,hD,hm⟩:=hrel
  have hR3:Rr 100 wr r (.slice (some ⟨g,o,none⟩) l.length cap) s:=HR2.o.mod hm aM (by intro _ g' hg' h;simp [Value.ownBlock] at hg';omega)
  have c1:wr.cell? ⟨r,0,none⟩=some (.slice (some ⟨g,o,none⟩) l.length cap):=(hR3.1.cell 0).trans rfl
  have f1:=hR3.1.frozen 0
  have hlt1:=hR3.1.lt
  have HR3:=B5 hR3
  have HD:=B5 hD
  have HM:=B5 hm
  clear hR3
  by_cases hi32:i < 32
  ·have hc:wr.cell? ⟨g,o+i,none⟩=some (bv l[i]):=hm.cell (HM2.o.cell (HCELL.o i aM) id) (by show g≠_;omega)
   have hf:=hD.frozen i
   have hd:wr.cell? ⟨w.heap.size+1,i,none⟩=some (bv 0):=by
    rw [hD.cell];exact fill_get l i hi32 h32
   have HF:=B5 (fill_step l i hi32 h32)
   generalize l[i]=c at *
   clear hD hm
   go_wp2
   go_roundw
   case rel=>exact ⟨i+1,by go_num,by omega,by rw [← HF.o];exact HD.o.set i _,HM.o.setCell (fun _=>rfl) _⟩
   case measure=>simp [intOf];omega
  ·obtain rfl:i=32:=by omega
   have hdf:((l.take 32 ++ List.replicate (32 - 32) 0).map bv).toArray=((l.take 32).map bv).toArray:=by simp
   rw [hdf] at HD
   clear hdf hD hm
   have hl32:(l.take 32).length=32:=by simp;omega
   have HSB:=B5 (show (Tryz.prog.info? 25).map (·.size)=some ((l.take 32).map bv).length by rw [List.length_map,hl32];exact size_hash)
   have hc32:=HC2.o.mod HM.o aM
   have HC3:=B5 hc32
   have HL32:=B5 hl32
   clear hc32 hl32
   generalize hb32:l.take 32=b32 at *
   have HB32:=B5 hb32
   clear hb32
   have hwd:∀ u j x,(b32.map bv)[j]? = some x→(wr.setCell ⟨r,0,none⟩ u).cell? ⟨w.heap.size+1,0+j,none⟩=some x:=by
    intro u j x hx
    have h2:Cs (wr.setCell ⟨r,0,none⟩ u) (w.heap.size+1) _ _:=HD.o.other (by show w.heap.size+1≠r;omega) u
    rw [Nat.zero_add,h2.cell];simpa using hx
   have HWD:=B5 hwd
   have HFIT:=B5 (show 0+(b32.map bv).length≤((List.replicate 32 0).map bv).toArray.size by simp [HL32.o])
   clear hwd
   go_wp2_with (first
    | ((with_reducible show wpList _ _ _ (Oper.mk (some 35) _ _ _ _ _ :: _) _ _);go_must (refine wpList_loadA rfl 25 (.tmp 3) rfl D5 rfl (cs:=b32.map bv) HSB.o rfl (HWD.o _) ?_))
    | ((with_reducible show wpList _ _ _ (Oper.mk none (Op.store 25 (.tmp 2) (.tmp 35)) _ _ _ _ :: _) _ _);go_must (refine wpList_storeA rfl 25 (.tmp 2) (.tmp 35) rfl (HC3.o.other (by show w.heap.size≠r;omega) _) (vs:=b32.map bv) HSB.o (ints_oneCell .u8 _) HFIT.o rfl rfl ?_);intro w4 hc4 hm4;have HC4:=B5 hc4;have HM4:=B5 hm4;clear hc4 hm4))
   all_goals
    have hc4:=HC4.o
    rw [Ap _ _ (by simp [HL32.o])] at hc4
    refine bodyPost_ret (Au rfl _ _ w.heap.size (b32.map bv) rfl (fun j u hu=>by rw [hc4.cell];simpa using hu) D5 rfl HSB.o) rfl ⟨by rw [HB32.o];rfl,?_⟩
    have hmw:Mod (fun _=>False) w wr:=HM2.o.trans HM.o (fun i hi h=>by omega)
    have hrl:=HR0.o.2.1
    rw [HL.o] at hrl
    have hm4:=HM4.o
   ·have hcap:cap=32:=by assumption
    subst hcap
    obtain ⟨v',q1,q2,q3⟩:=Rr_tail HR0.o.1 HR0.o.2.2 (s2:=s.map (List.drop 32)) (by rw [HGD.o];exact hrl.tail_at 32 aM rfl) (fun h=>by rw [HGD.o] at h;simp at h;omega) hmw (by rw [HGD.o,HL.o];simp) HNS.o
    refine ⟨v',⟨q1.1.mod hm4 aM,q1.2.1.mod hm4 ?_,q1.2.2⟩,q2.trans (hm4.mono (S':=fun k=>w.heap.size≤k) (fun k _ h=>by omega)) (fun i hi h=>by omega),q3⟩
    intro h0 g' hg' e
    rw [HGD.o] at h0;simp at h0;omega
   ·have hcap:¬ cap=32:=by assumption
    rw [if_neg hcap] at hm4
    obtain ⟨v',q1,q2,q3⟩:=Rr_tail HR0.o.1 HR0.o.2.2 (v2:=.slice (some ⟨g,o+32,none⟩) (l.length - 32) (cap - 32)) (s2:=s.map (List.drop 32)) (by rw [HGD.o];have:=hrl.tail_in 32 aM hcap;simpa only [Option.map_some,add_mk] using this) (fun _=>rfl) hmw (by rw [HGD.o,HL.o];simp) HNS.o
    refine ⟨v',⟨q1.1.mod hm4 aM,q1.2.1.mod hm4 ?_,q1.2.2⟩,q2.trans (hm4.mono (S':=fun k=>w.heap.size≤k) (fun k _ h=>by omega)) (fun i hi h=>by omega),q3⟩
    intro h0 g' hg' e
    have h5:=q3 h0
    rw [h5] at hg'
    simp [Value.ownBlock] at hg'
    omega
theorem RefRHash_any (r:Nat) (v:Value) (s:RSt) (w:World) (hR:Rr 100 w r v s) :
 Calls Tryz.prog 51 #[.pointer (some ⟨r,0,none⟩)] w fun e w'=>e=.returned (hv (A3 s).1)∧RrTo 100 w r v (A3 s).2 w':=by
 by_cases h:(s.getD []).length < 32
 ·have hs:A3 s=(List.replicate 32 0,none):=by
   cases s with
   | none=>rfl
   | some l=>simp at h;simp [A3,Bh,h]
  rw [hs]
  exact RefRHash_fails r v s w hR h
 ·have hs:A3 s=((s.getD []).take 32,s.map (List.drop 32)):=by
   cases s with
   | none=>simp at h
   | some l=>simp at h;simp [A3,Bh,show ¬ l.length < 32 by omega]
  rw [hs]
  exact RefRHash_works r v s w hR aM
section
variable {R:Nat→Prop} {r:Nat} {s:RSt} {w:World}
theorem RefRNum_R (hR:RrR 100 R w r s):Calls Tryz.prog 52 #[.pointer (some ⟨r,0,none⟩)] w fun e w'=>e=.returned (.int .u64 ((rNum s).1:Nat))∧RrR 100 R w' r (rNum s).2∧Mod R w w':=by
 obtain ⟨v,h1,h2,h3⟩:=hR
 exact (RefRNum_any r v s w h1).mono fun _ _ ⟨he,h⟩=>⟨he,RrTo_R h2 h3 (rNum_len s) h⟩
theorem RefRInt_R {most:Int} (hR:RrR 100 R w r s) (hm:-9223372036854775808≤most∧most≤9223372036854775807) :
 Calls Tryz.prog 46 #[.pointer (some ⟨r,0,none⟩),.int .i64 most] w fun e w'=>e=.returned (.int .i64 ((rInt most s).1:Nat))∧RrR 100 R w' r (rInt most s).2∧Mod R w w':=by
 obtain ⟨v,h1,h2,h3⟩:=hR
 exact (RefRInt_any r most v s w h1 hm).mono fun _ _ ⟨he,h⟩=>⟨he,RrTo_R h2 h3 (rInt_len most s) h⟩
theorem rTake_bd2 (n:Nat) (s:RSt):(Bh n s).1.length≤(s.getD []).length:=by
 cases s with
 | none=>simp
 | some l=>simp only [Bh];split<;>simp;omega
theorem RefRRow_R {most:Int} {N:Nat} (hR:RrR 100 R w r s) (hm:-9223372036854775808≤most∧most≤9223372036854775807) (hl:(s.getD []).length≤N) (hN:N≤1000000) :
 Calls Tryz.prog 59 #[.pointer (some ⟨r,0,none⟩),.int .i64 most] w fun e w'=>∃ v',e=.returned v'∧OwR (New w w') N w' v' (rRow most s).1∧RrR 100 R w' r (rRow most s).2∧Mod R w w':=by
 obtain ⟨v,h1,h2,h3⟩:=hR
 refine (RefRRow_any r most v s w h1 hm aM).mono fun _ _ ⟨v',he,ho,hf,h⟩=>⟨v',he,OwR_of _ ho hf ?_,RrTo_R h2 h3 (rRow_len most s) h⟩
 have:=rTake_bd2 (rInt most s).1 (rInt most s).2
 have:=rInt_len most s
 show (Bh _ _).1.length≤_
 omega
theorem RefRHash_R (hR:RrR 100 R w r s):Calls Tryz.prog 51 #[.pointer (some ⟨r,0,none⟩)] w fun e w'=>e=.returned (hv (A3 s).1)∧RrR 100 R w' r (A3 s).2∧Mod R w w':=by
 obtain ⟨v,h1,h2,h3⟩:=hR
 exact (RefRHash_any r v s w h1).mono fun _ _ ⟨he,h⟩=>⟨he,RrTo_R h2 h3 (rHash_len s) h⟩
end
end Go.Proofs.YtnaoeginonpicaaGreat
namespace Go.Gv
open Go Go.RowKit
theorem seg_get:∀ (segs:List (List Value)) (i:Nat) {seg:List Value} (hs:segs[i]? = some seg) (j:Nat) (u:Value),seg[j]? = some u→segs.flatten[((segs.map List.length).take i).sum+j]? = some u
 | [],i,seg,hs,j,u,hu=>by simp at hs
 | a :: r,0,seg,hs,j,u,hu=>by
  simp only [List.getElem?_cons_zero,Option.some.injEq] at hs
  subst hs
  rw [List.take_zero,List.sum_nil,Nat.zero_add,List.flatten_cons,List.getElem?_append_left (List.getElem?_eq_some_iff.1 hu).1]
  exact hu
 | a :: r,i+1,seg,hs,j,u,hu=>by
  rw [List.getElem?_cons_succ] at hs
  rw [C9,List.take_succ_cons,List.sum_cons,List.flatten_cons,List.getElem?_append_right aM,show a.length+((r.map List.length).take i).sum+j - a.length=((r.map List.length).take i).sum+j by omega]
  exact seg_get r i hs j u hu
theorem Cs.seg {w:World} {g:Nat} {T:TypeId} {segs:List (List Value)} (h:Cs w g segs.flatten.toArray T) {ns:List Nat} (hn:segs.map List.length=ns) (i:Nat) {seg:List Value} (hs:segs[i]? = some seg) {off:Nat} (ho:(ns.take i).sum=off):∀ j u,seg[j]? = some u→w.cell? ⟨g,off+j,none⟩=some u:=by
 intro j u hu
 rw [h.cell,← ho,← hn]
 simpa using seg_get segs i hs j u hu
theorem AE {w:World} {g:Nat} {T:TypeId} {segs:List (List Value)} (h:Cs w g segs.flatten.toArray T) {ns:List Nat} (hn:segs.map List.length=ns) (i:Nat) {seg:List Value} (hs:segs[i]? = some seg) {off o k:Nat} (ho:(ns.take i).sum=o) (hk:off=o+k) {u:Value} (hu:seg[k]? = some u):w.cell? ⟨g,off,none⟩=some u:=by
 subst hk
 exact h.seg hn i hs ho k u hu
theorem lay_mid (a m b:List Value) (vs:List Value) (h:vs.length=m.length):lay (a ++ (m ++ b)).toArray a.length vs=(a ++ (vs ++ b)).toArray:=by
 unfold lay
 congr 1
 simp [h]
theorem seg_split:∀ (segs:List (List Value)) (i:Nat) {seg:List Value} (hs:segs[i]? = some seg),∃ a b,segs.flatten=a ++ (seg ++ b)∧a.length=((segs.map List.length).take i).sum∧∀ v:List Value,(segs.set i v).flatten=a ++ (v ++ b)
 | [],i,seg,hs=>by simp at hs
 | x :: r,0,seg,hs=>by
  simp only [List.getElem?_cons_zero,Option.some.injEq] at hs
  subst hs
  exact ⟨[],r.flatten,rfl,rfl,fun v=>rfl⟩
 | x :: r,i+1,seg,hs=>by
  rw [List.getElem?_cons_succ] at hs
  obtain ⟨a,b,h1,h2,h3⟩:=seg_split r i hs
  refine ⟨x ++ a,b,by rw [List.flatten_cons,h1,B8],by simp [h2],fun v=>?_⟩
  rw [sCS,List.flatten_cons,h3,B8]
theorem A2 {segs:List (List Value)} {ns:List Nat} (hn:segs.map List.length=ns) (i:Nat) {vs:List Value} (hv:ns[i]? = some vs.length) {off:Nat} (ho:(ns.take i).sum=off):lay segs.flatten.toArray off vs=((segs.set i vs).flatten).toArray:=by
 subst hn
 rw [List.getElem?_map] at hv
 cases hs:segs[i]? with
 | none=>rw [hs] at hv;cases hv
 | some seg=>
  rw [hs] at hv
  simp only [Option.map_some,Option.some.injEq] at hv
  obtain ⟨a,b,h1,h2,h3⟩:=seg_split segs i hs
  rw [h1,h3,← ho,← h2]
  exact lay_mid a seg b vs hv.symm
/-- where parts of such lengths lie -/
def offs:Nat→List Nat→List (Nat × Nat)
 | _,[]=>[]
 | o,n :: ns=>(o,n) :: offs (o+n) ns
theorem offs_get:∀ (ns:List Nat) (o i:Nat),(offs o ns)[i]? = (ns[i]?).map fun n=>(o+(ns.take i).sum,n)
 | [],o,i=>by simp [offs]
 | n :: ns,o,0=>by simp [offs]
 | n :: ns,o,i+1=>by
  simp only [offs,List.getElem?_cons_succ,offs_get ns (o+n) i,List.take_succ_cons,List.sum_cons]
  congr 1
  funext m
  rw [Nat.add_assoc]
/-- parts, each where it belongs -/
def setAll:List (List Value)→List (Nat × Value)→List (List Value)
 | segs,[]=>segs
 | segs,(i,v) :: ps=>setAll (segs.set i v.cells.toList) ps
def PartsOk (ns:List Nat):List (Nat × Value)→Prop
 | []=>True
 | (i,v) :: ps=>ns[i]? = some v.cells.size∧PartsOk ns ps
theorem set_lens {segs:List (List Value)} {ns:List Nat} (hn:segs.map List.length=ns) (i:Nat) {vs:List Value} (hv:ns[i]? = some vs.length):(segs.set i vs).map List.length=ns:=by
 subst hn
 rw [List.map_set]
 exact List.ext_getElem? fun j=>by
  rcases Nat.lt_trichotomy i j with h|h|h
  ·rw [List.getElem?_set_ne aM]
  ·subst h
   rw [List.getElem?_set_self (List.getElem?_eq_some_iff.1 hv).1,hv]
  ·rw [List.getElem?_set_ne aM]
theorem Bi {places:List (Nat × Nat)} {ns:List Nat} (hp:places=offs 0 ns):∀ (parts:List (Nat × Value)) (segs:List (List Value)),segs.map List.length=ns→PartsOk ns parts→laid places segs.flatten parts=some (setAll segs parts).flatten
 | [],segs,_,_=>by unfold laid setAll;rfl
 | (i,v) :: ps,segs,hn,h=>by
  obtain ⟨h1,h2⟩:=h
  have h1':ns[i]? = some v.cells.toList.length:=by simpa using h1
  have hl:=A2 hn i h1' rfl
  unfold laid setAll
  rw [hp,offs_get,h1]
  simp only [Option.map_some,Nat.zero_add]
  have hlen:(ns.take i).sum+v.cells.size≤segs.flatten.length:=by
   subst hn
   rw [List.getElem?_map] at h1
   cases hs:segs[i]? with
   | none=>rw [hs] at h1;cases h1
   | some seg=>
    rw [hs] at h1
    simp only [Option.map_some,Option.some.injEq] at h1
    obtain ⟨a,b,e1,e2,-⟩:=seg_split segs i hs
    rw [e1,← e2,← h1]
    simp
  rw [if_neg aM]
  have e:(segs.flatten.take (ns.take i).sum ++ v.cells.toList ++ segs.flatten.drop ((ns.take i).sum+v.cells.size))=(segs.set i v.cells.toList).flatten:=by
   have:=congrArg Array.toList hl
   simpa [lay] using this
  simp only [e] at *
  rw [← hp]
  exact Bi hp ps _ (set_lens hn i h1') h2
end Go.Gv
namespace Go.Proofs.YtnaoeginonpicaaGreat
open Go Go.RowKit Go.Gv
/-- what is left is an end of what there was -/
def Suf {α:Type} (g:RSt→α × RSt):Prop:=∀ s,(g s).2=none∨∃ l k,s=some l∧(g s).2=some (l.drop k)
theorem Suf.no {α:Type} {g:RSt→α × RSt} (h:Suf g):(g none).2=none:=by
 rcases h none with h|⟨l,k,e,-⟩
 ·exact h
 ·cases e
theorem Suf.bytes {α:Type} {g:RSt→α × RSt} (h:Suf g) {s:RSt} (hb:Bytes (s.getD [])):Bytes ((g s).2.getD []):=by
 rcases h s with e|⟨l,k,rfl,e⟩
 ·rw [e];exact Bytes.nil
 ·rw [e];exact Bytes.drop hb k
theorem Suf.len {α:Type} {g:RSt→α × RSt} (h:Suf g) (s:RSt):((g s).2.getD []).length≤(s.getD []).length:=by
 rcases h s with e|⟨l,k,rfl,e⟩
 ·rw [e];simp
 ·rw [e];simp
theorem Bp {α β:Type} {g:RSt→α × RSt} {k:α→RSt→β × RSt} (hg:Suf g) (hk:∀ a,Suf (k a)):Suf (gb g k):=by
 intro s
 rcases hg s with e|⟨l,i,rfl,e⟩
 ·left
  unfold gb
  rw [e]
  exact (hk _).no
 ·rcases hk (g (some l)).1 (g (some l)).2 with e2|⟨l2,j,e2,e3⟩
  ·exact Or.inl e2
  ·rw [e] at e2
   cases e2
   exact Or.inr ⟨l,i+j,rfl,by rw [← List.drop_drop];exact e3⟩
theorem pure_suf {β:Type} (y:β):Suf (fun s=>(y,s)):=by
 intro s
 cases s with
 | none=>exact Or.inl rfl
 | some l=>exact Or.inr ⟨l,0,rfl,rfl⟩
theorem rNum_suf:Suf rNum:=by
 intro s
 cases s with
 | none=>exact Or.inl rfl
 | some l=>
  cases hd:Bx 0 0 l with
  | none=>rw [rNum_none hd];exact Or.inl rfl
  | some p=>
   obtain ⟨n,q⟩:=p
   obtain ⟨k,-,-,rfl⟩:=decGo_rest l 0 0 n q hd
   rw [rNum_some hd]
   exact Or.inr ⟨l,k,rfl,rfl⟩
theorem rInt_suf (most:Int):Suf (rInt most):=by
 intro s
 unfold rInt
 split
 ·exact Or.inl rfl
 ·exact rNum_suf s
theorem gI_suf:Suf gI:=fun s=>rInt_suf _ s
theorem rTake_suf (n:Nat):Suf (Bh n):=by
 intro s
 cases s with
 | none=>exact Or.inl rfl
 | some l=>
  simp only [Bh]
  split
  ·exact Or.inl rfl
  ·exact Or.inr ⟨l,n,rfl,rfl⟩
theorem rHash_suf:Suf A3:=by
 intro s
 have h:=rTake_suf 32 s
 unfold A3
 revert h
 generalize Bh 32 s=p
 obtain ⟨b,q⟩:=p
 cases q with
 | none=>intro _;exact Or.inl rfl
 | some q=>intro h;exact h
theorem rRow_suf (most:Int):Suf (rRow most):=by
 intro s
 unfold rRow
 exact Bp (g:=rInt most) (k:=fun n=>Bh n) (rInt_suf most) (fun n=>rTake_suf n) s
theorem gItems_suf {α:Type} {g:RSt→α × RSt} (hg:Suf g):∀ (n:Nat) (acc:List α),Suf (Bt g n acc)
 | 0,acc=>pure_suf acc
 | n+1,acc=>by
  intro s
  simp only [Bt]
  split
  ·exact Or.inl rfl
  ·exact Bp hg (fun a=>gItems_suf hg n (acc ++ [a])) s
theorem gList_suf {α:Type} {g:RSt→α × RSt} (hg:Suf g):Suf (Av g):=by
 intro s
 exact Bp (g:=rInt 100) (k:=fun n=>Bt g n []) (rInt_suf 100) (fun n=>gItems_suf hg n []) s
theorem gSig_suf:Suf gSig:=Bp gI_suf fun _=>Bp gI_suf fun _=>pure_suf _
theorem gCm_suf:Suf gCm:=Bp gSig_suf fun _=>Bp rHash_suf fun _=>Bp gI_suf fun _=>Bp gSig_suf fun _=>pure_suf _
theorem gSt_suf:Suf gSt:=Bp gI_suf fun _=>Bp gSig_suf fun _=>Bp rHash_suf fun _=>Bp rNum_suf fun _=>Bp gSig_suf fun _=>pure_suf _
theorem gCe_suf:Suf gCe:=Bp gCm_suf fun _=>Bp (gList_suf gSt_suf) fun _=>pure_suf _
theorem gPm_suf:Suf gPm:=Bp gI_suf fun _=>Bp gI_suf fun _=>Bp rNum_suf fun _=>Bp (gList_suf gCe_suf) fun _=>Bp gSig_suf fun _=>pure_suf _
theorem gOp_suf:Suf gOp:=Bp gI_suf fun _=>Bp (rRow_suf _) fun _=>Bp rHash_suf fun _=>pure_suf _
theorem gDn_suf:Suf gDn:=Bp gI_suf fun _=>Bp gI_suf fun _=>Bp gSig_suf fun _=>pure_suf _
theorem gTb_suf:Suf gTb:=Bp gI_suf fun _=>Bp (gList_suf gDn_suf) fun _=>pure_suf _
theorem gBa_suf:Suf gBa:=Bp gI_suf fun _=>Bp rNum_suf fun _=>Bp (gList_suf gPm_suf) fun _=>Bp (gList_suf gOp_suf) fun _=>Bp (gList_suf gTb_suf) fun _=>pure_suf _
theorem gVt_suf:Suf gVt:=Bp gI_suf fun _=>Bp gI_suf fun _=>Bp gI_suf fun _=>Bp gI_suf fun _=>Bp rHash_suf fun _=>Bp gSig_suf fun _=>pure_suf _
/-! what is read is a thing -/
theorem A9 (s:RSt):I64 (gI s).1:=by
 have:=rInt_le 1099511627776 s
 unfold gI I64
 simp only
 omega
theorem rHash_HK {s:RSt} (hb:Bytes (s.getD [])):HK (A3 s).1:=by
 refine ⟨rHash_l s,?_⟩
 cases s with
 | none=>intro x hx;simp [A3,Bh] at hx;subst hx;decide
 | some l=>
  by_cases h:l.length < 32
  ·have e:A3 (some l)=(List.replicate 32 0,none):=by simp [A3,Bh,h]
   rw [e]
   intro x hx
   simp at hx
   subst hx
   decide
  ·have e:A3 (some l)=(l.take 32,some (l.drop 32)):=by simp [A3,Bh,h]
   rw [e]
   exact Bytes.take hb 32
theorem gCm_OK {s:RSt} (hb:Bytes (s.getD [])):(gCm s).1.OK:=⟨⟨A9 _,A9 _,A9 _,A9 _,A9 _⟩,rHash_HK (gSig_suf.bytes hb)⟩
theorem gSt_OK {s:RSt} (hb:Bytes (s.getD [])):(gSt s).1.OK:=⟨A9 _,A9 _,A9 _,rHash_HK (gSig_suf.bytes (gI_suf.bytes hb)),rNum_lt (rHash_suf.bytes (gSig_suf.bytes (gI_suf.bytes hb))),A9 _,A9 _⟩
theorem gDn_OK {s:RSt} (hb:Bytes (s.getD [])):(gDn s).1.OK:=⟨A9 _,A9 _,A9 _,A9 _⟩
theorem gVt_OK {s:RSt} (hb:Bytes (s.getD [])):(gVt s).1.OK:=⟨A9 _,A9 _,A9 _,A9 _,rHash_HK (gI_suf.bytes (gI_suf.bytes (gI_suf.bytes (gI_suf.bytes hb)))),A9 _,A9 _⟩
theorem gEn_OK {s:RSt} (hb:Bytes (s.getD [])):(gEn s).1.OK:=⟨A9 _,A9 _,rHash_HK (gSig_suf.bytes hb),rNum_lt (rHash_suf.bytes (gSig_suf.bytes hb))⟩
theorem gCe_OK {s:RSt} (hb:Bytes (s.getD [])):(gCe s).1.OK:=gCm_OK hb
theorem gPm_OK {s:RSt} (hb:Bytes (s.getD [])):(gPm s).1.OK:=⟨A9 _,A9 _,rNum_lt (gI_suf.bytes (gI_suf.bytes hb)),A9 _,A9 _⟩
theorem gOp_OK {s:RSt} (hb:Bytes (s.getD [])):(gOp s).1.OK:=⟨A9 _,rHash_HK ((rRow_suf 256).bytes (gI_suf.bytes hb))⟩
theorem gTb_OK {s:RSt} (hb:Bytes (s.getD [])):(gTb s).1.OK:=A9 _
theorem gBa_OK {s:RSt} (hb:Bytes (s.getD [])):(gBa s).1.OK:=⟨A9 _,rNum_lt (gI_suf.bytes hb)⟩
theorem RrR.bytes {T:TypeId} {R:Nat→Prop} {w:World} {r:Nat} {s:RSt} (h:RrR T R w r s):Bytes (s.getD []):=by
 obtain ⟨v,h1,-⟩:=h
 exact h1.2.1.1
theorem szv {cs:List Value} {n:Nat} (h:cs.length=n):some n=some (Value.agg cs.toArray).cells.size:=by rw [← h];rfl
/-! contracts -/
/-- a flat thing is read -/
def GetsF {α:Type} (T:TypeId) (F:FuncId) (cells:α→List Value) (g:RSt→α × RSt):Prop:=∀ (R:Nat→Prop) (r:Nat) (s:RSt) (w:World),RrR T R w r s→(∀ k,R k→k < w.heap.size)→
 Calls Tryz.prog F #[.pointer (some ⟨r,0,none⟩)] w fun e w'=>e=.returned (.agg (cells (g s).1).toArray)∧RrR T R w' r (g s).2∧Mod R w w'
/-- a thing is read -/
def Gets {α:Type} (A:Rep α) (T:TypeId) (F:FuncId) (g:RSt→α × RSt):Prop:=∀ (R:Nat→Prop) (r:Nat) (s:RSt) (w:World),RrR T R w r s→(∀ k,R k→k < w.heap.size)→(s.getD []).length≤900000→
 Calls Tryz.prog F #[.pointer (some ⟨r,0,none⟩)] w fun e w'=>∃ cs,e=.returned (.agg cs.toArray)∧A.rd (New w w') w' cs (g s).1∧RrR T R w' r (g s).2∧Mod R w w'
/-- a thing is read, as far as it goes -/
def GetsU {α:Type} (A:Rep α) (T:TypeId) (F:FuncId) (g:RSt→α × RSt):Prop:=∀ (R:Nat→Prop) (r:Nat) (s:RSt) (w:World),RrR T R w r s→(∀ k,R k→k < w.heap.size)→(s.getD []).length≤900000→
 Calls Tryz.prog F #[.pointer (some ⟨r,0,none⟩)] w fun e w'=>∃ cs y,e=.returned (.agg cs.toArray)∧A.rd (New w w') w' cs y∧RrR T R w' r (g s).2∧((g s).2≠none→y=(g s).1)∧Mod R w w'
/-- a list of things is read -/
def GetsL {α:Type} (A:Rep α) (T:TypeId) (F Fe:FuncId) (g:RSt→α × RSt):Prop:=∀ (R:Nat→Prop) (r:Nat) (s:RSt) (w:World),RrR T R w r s→(∀ k,R k→k < w.heap.size)→(s.getD []).length≤900000→
 Calls Tryz.prog F #[.pointer (some ⟨r,0,none⟩),.func (.func Fe) #[] #[]] w fun e w'=>∃ v,e=.returned v∧RdS A (New w w') w' v (Av g s).1∧RrR T R w' r (Av g s).2∧Mod R w w'
theorem Gets.to {α:Type} {A:Rep α} {T:TypeId} {F:FuncId} {g:RSt→α × RSt} (h:Gets A T F g) {s s':RSt} {x:α} (hx:(g s).1=x) (hs:(g s).2=s') {R:Nat→Prop} {r:Nat} {w:World} (h1:RrR T R w r s) (h2:∀ k,R k→k < w.heap.size) (h3:(s.getD []).length≤900000) :
 Calls Tryz.prog F #[.pointer (some ⟨r,0,none⟩)] w fun e w'=>∃ cs,e=.returned (.agg cs.toArray)∧A.rd (New w w') w' cs x∧RrR T R w' r s'∧Mod R w w':=by
 subst hx hs
 exact h R r s w h1 h2 h3
theorem GetsF.to {α:Type} {cells:α→List Value} {T:TypeId} {F:FuncId} {g:RSt→α × RSt} (h:GetsF T F cells g) {A:Rep α} (hA:∀ (R:Nat→Prop) (w:World) (s:RSt),Bytes (s.getD [])→A.rd R w (cells (g s).1) (g s).1):Gets A T F g:=by
 intro R r s w h1 h2 h3
 exact (h R r s w h1 h2).mono fun e w' ⟨he,h4,h5⟩=>⟨_,he,hA _ _ s h1.bytes,h4,h5⟩
section
variable {R:Nat→Prop} {r:Nat} {s:RSt} {w:World}
theorem cI_Q (h:RrR 132 R w r s):Calls Tryz.prog 42 #[.pointer (some ⟨r,0,none⟩),.int .i64 1099511627776] w fun e w'=>e=.returned (.int .i64 (gI s).1)∧RrR 132 R w' r (gI s).2∧Mod R w w':=RInt_R h aF
theorem dI_Q (h:RrR 100 R w r s):Calls Tryz.prog 46 #[.pointer (some ⟨r,0,none⟩),.int .i64 1099511627776] w fun e w'=>e=.returned (.int .i64 (gI s).1)∧RrR 100 R w' r (gI s).2∧Mod R w w':=RefRInt_R h aF
theorem cRow_Q (h:RrR 132 R w r s):Calls Tryz.prog 87 #[.pointer (some ⟨r,0,none⟩),.int .i64 256] w fun e w'=>∃ v',e=.returned v'∧RdR (New w w') (rRow 256 s).1.length w' v' (rRow 256 s).1∧RrR 132 R w' r (rRow 256 s).2∧Mod R w w':=
 (RRow_R h aF).mono fun _ _ ⟨v',he,ho,h2,h3⟩=>⟨v',he,⟨ho.rd.1,ho.rd.2.1,B9 _⟩,h2,h3⟩
theorem dRow_Q (h:RrR 100 R w r s) (hl:(s.getD []).length≤900000):Calls Tryz.prog 59 #[.pointer (some ⟨r,0,none⟩),.int .i64 256] w fun e w'=>∃ v',e=.returned v'∧RdR (New w w') (rRow 256 s).1.length w' v' (rRow 256 s).1∧RrR 100 R w' r (rRow 256 s).2∧Mod R w w':=
 (RefRRow_R h aF hl aF).mono fun _ _ ⟨v',he,ho,h2,h3⟩=>⟨v',he,⟨ho.rd.1,ho.rd.2.1,B9 _⟩,h2,h3⟩
end
/-- a function that gives a thing anew, as it is, in blocks of its own; P: what is asked of the thing -/
def CopR {α:Type} (A:Rep α) (P:α→Prop) (F:FuncId):Prop:=∀ (R2:Nat→Prop) (x:α) (cs:List Value) (w:World),A.rd R2 w cs x→(∀ k,R2 k→k < w.heap.size)→P x→
 Calls Tryz.prog F #[.agg cs.toArray] w fun e w'=>∃ cs',e=.returned (.agg cs'.toArray)∧A.rd (New w w') w' cs' x∧Mod (fun _=>False) w w'
/-- the same for a list of them -/
def CopL {α:Type} (A:Rep α) (P:α→Prop) (F Fe:FuncId):Prop:=∀ (R2:Nat→Prop) (l:List α) (v:Value) (w:World),RdS A R2 w v l→(∀ k,R2 k→k < w.heap.size)→l.length≤1000→(∀ x ∈ l,P x)→
 Calls Tryz.prog F #[v,.func (.func Fe) #[] #[]] w fun e w'=>∃ v',e=.returned v'∧RdS A (New w w') w' v' l∧Mod (fun _=>False) w w'
def cpNo {α:Type} (x:α):Prop:=True
def cpCe (x:Ce):Prop:=x.l.length≤1000
def cpPm (x:Pm):Prop:=x.l.length≤1000∧∀ y ∈ x.l,cpCe y
def cpOp (x:Op):Prop:=x.pl.length≤900000
def cpTb (x:Tb):Prop:=x.l.length≤1000
def cpBa (x:Ba):Prop:=(x.ps.length≤1000∧∀ y ∈ x.ps,cpPm y)∧(x.os.length≤1000∧∀ y ∈ x.os,cpOp y)∧(x.ts.length≤1000∧∀ y ∈ x.ts,cpTb y)
theorem info_VtC:(Tryz.prog.info? 49).map (fun i=>(i.zero,i.size,i.bytes))=some (some (.agg #[.int .i64 0,.int .i64 0,.int .i64 0,.int .i64 0,.int .u8 0,.int .u8 0,.int .u8 0,.int .u8 0,.int .u8 0,.int .u8 0,.int .u8 0,.int .u8 0,.int .u8 0,.int .u8 0,.int .u8 0,.int .u8 0,.int .u8 0,.int .u8 0,.int .u8 0,.int .u8 0,.int .u8 0,.int .u8 0,.int .u8 0,.int .u8 0,.int .u8 0,.int .u8 0,.int .u8 0,.int .u8 0,.int .u8 0,.int .u8 0,.int .u8 0,.int .u8 0,.int .u8 0,.int .u8 0,.int .u8 0,.int .u8 0,.int .i64 0,.int .i64 0]),38,80):=by kernel_rfl
open Go.Proofs renaming Tryz.func139→va',Tryz.ntmps139→vb',Tryz.underlying32→ve' in
open Go.Gv renaming n'32→vc',z'1→vd' in
open Go.Proofs.YtnaoeginonpicaaGreat renaming St.len→vf',St.one→vg' in
set_option maxHeartbeats 1000000 in
theorem same_St:CopR StR cpNo 139:=
 fm14'
set_option maxHeartbeats 1000000 in
theorem same_Dn:CopR DnR cpNo 148:=by
 intro R2 x cs w hx hB2 hP
 obtain ⟨rfl,hok⟩:=hx
 have HOK:=B5 hok
 clear hok hB2 hP
 go_enter Tryz.func148,Tryz.ntmps148
 go_upto_region 1 with (fail)
 obtain ⟨w1,hw1⟩:∃ zz,zz=((w.alloc (.cells (x.cells:List Value).toArray 56)).alloc (.cells #[.int .i64 0,.int .i64 0,.int .i64 0,.int .i64 0] 56)):=⟨_,rfl⟩
 change Code.wp _ _ _ _ ((w.alloc (.cells (x.cells:List Value).toArray 56)).alloc (.cells #[.int .i64 0,.int .i64 0,.int .i64 0,.int .i64 0] 56))
 rw [← hw1]
 have HB1:=hid (show Cs w1 (w.heap.size) (x.cells:List Value).toArray 56 by rw [hw1];exact (Cs.new _ _ _).alloc _)
 have HB2:=hid (show Cs w1 (w.heap.size+1) #[.int .i64 0,.int .i64 0,.int .i64 0,.int .i64 0] 56 by rw [hw1];exact Cs_newN _ _ _ bD)
 have hm:Mod (fun _=>False) w w1:=by rw [hw1];exact ((Mod.refl _ _).alloc _).alloc _
 have HM0:=hid (show Mod (fun _=>False) w w1 from hm.mono (fun _ _ h=>h.elim))
 have hs1:w1.heap.size=w.heap.size+2:=by rw [hw1];simp
 clear hw1 hm
 go_upto_region 1 with (fail)
 refine Aa 4 [3,5] [0,1] (fun a0 HA0=>?_)
 have c3:=ev HA0 1 rfl
 have c4:=ev HA0 2 rfl
 refine QSeq.pure rfl _ (fun E=>Aj rfl Tryz.underlying56 rfl (off:=0) (cs:=x.cells) aD (E.v c3) (Cs.whole HB1.o)) ?_
 refine QSeq.go fun act E=>?_
 refine Ah rfl (Ab rfl) rfl HB2.o (off:=0) (vs:=x.cells) aD (Dn.one _) (by show 0+4≤4;decide) (E.v c4) (ec (E.d 0 0)) ?_
 intro c6 qc0 hm
 have qB2:=qc0.eqv (b:=(x.cells:List Value).toArray) (Ap _ _ rfl)
 clear qc0
 have c7:=hid qB2
 have c9:=hm.size
 have c8:=hid (show Mod (fun k=>(k=w.heap.size+1)) w1 c6 from hm)
 clear hm
 clear act E qB2 HB2
 refine qe ?_
 clear HA0 c3 c4 a0
 go_wp2
 exact bodyPost_ret (Au rfl _ _ (w.heap.size+1) x.cells rfl (fun k u hu=>by rw [c7.out.cell];simpa using hu) Tryz.underlying56 rfl aD) rfl ⟨_,rfl,⟨rfl,HOK.o⟩,(HM0.o.trans c8.out aE)⟩
open Go.Proofs renaming Tryz.func115→va',Tryz.ntmps115→vb',Tryz.underlying49→ve' in
open Go.Gv renaming n'49→vc',z'5→vd' in
open Go.Proofs.YtnaoeginonpicaaGreat renaming Vt.len→vf',Vt.one→vg' in
set_option maxHeartbeats 1000000 in
theorem same_Vt:CopR VtR cpNo 115:=
 fm14'
open Go.Proofs renaming Tryz.func138→va',Tryz.ntmps138→vb',Tryz.underlying33→vc',Tryz.underlying32→vg',Tryz.func139→vj' in
open Go.Proofs.YtnaoeginonpicaaGreat renaming StR→vd',same_St→vk',info_St→vm' in
open Go.Gv renaming n'32→ve',n'38→vf',z'0→vh',z'1→vi',n'80→vl' in
set_option maxHeartbeats 4000000 in
theorem copied_St:CopL StR cpNo 138 139:=
 fm15'
open Go.Proofs renaming Tryz.func147→va',Tryz.ntmps147→vb',Tryz.underlying125→vc',Tryz.underlying56→vg',Tryz.func148→vj' in
open Go.Proofs.YtnaoeginonpicaaGreat renaming DnR→vd',same_Dn→vk',info_Dn→vm' in
open Go.Gv renaming n'56→ve',n'4→vf',z'15→vh',z'9→vi',n'32→vl' in
set_option maxHeartbeats 4000000 in
theorem copied_Dn:CopL DnR cpNo 147 148:=
 fm15'
open Go.Proofs renaming Tryz.func114→va',Tryz.ntmps114→vb',Tryz.underlying57→vc',Tryz.underlying49→vg',Tryz.func115→vj' in
open Go.Proofs.YtnaoeginonpicaaGreat renaming VtR→vd',same_Vt→vk',info_VtC→vm' in
open Go.Gv renaming n'49→ve',n'38→vf',z'4→vh',z'5→vi',n'80→vl' in
set_option maxHeartbeats 4000000 in
theorem copied_Vt:CopL VtR cpNo 114 115:=
 fm15'
set_option maxHeartbeats 4000000 in
theorem cop_Ce:CopR CeR cpCe 110:=by
 intro R2 x cs w hx hB2 hP
 obtain ⟨v_l,rfl,hok,hs0⟩:=hx
 obtain ⟨ao,cap,rfl⟩:=hs0.shape
 have HS:=B5 hs0
 have HBT:=B5 hB2
 have HOK:=B5 hok
 have HP:=B5 hP
 clear hs0 hB2 hok hP
 go_enter Tryz.func110,Tryz.ntmps110
 go_upto_region 1 with (fail)
 obtain ⟨w1,hw1⟩:∃ zz,zz=((w.alloc (.cells (x.cells (.slice ao x.l.length cap):List Value).toArray 35)).alloc (.cells #[.int .i64 0,.int .i64 0,.int .u8 0,.int .u8 0,.int .u8 0,.int .u8 0,.int .u8 0,.int .u8 0,.int .u8 0,.int .u8 0,.int .u8 0,.int .u8 0,.int .u8 0,.int .u8 0,.int .u8 0,.int .u8 0,.int .u8 0,.int .u8 0,.int .u8 0,.int .u8 0,.int .u8 0,.int .u8 0,.int .u8 0,.int .u8 0,.int .u8 0,.int .u8 0,.int .u8 0,.int .u8 0,.int .u8 0,.int .u8 0,.int .u8 0,.int .u8 0,.int .u8 0,.int .u8 0,.int .i64 0,.int .i64 0,.int .i64 0,.slice none 0 0] 35)):=⟨_,rfl⟩
 change Code.wp _ _ _ _ ((w.alloc (.cells (x.cells (.slice ao x.l.length cap):List Value).toArray 35)).alloc (.cells #[.int .i64 0,.int .i64 0,.int .u8 0,.int .u8 0,.int .u8 0,.int .u8 0,.int .u8 0,.int .u8 0,.int .u8 0,.int .u8 0,.int .u8 0,.int .u8 0,.int .u8 0,.int .u8 0,.int .u8 0,.int .u8 0,.int .u8 0,.int .u8 0,.int .u8 0,.int .u8 0,.int .u8 0,.int .u8 0,.int .u8 0,.int .u8 0,.int .u8 0,.int .u8 0,.int .u8 0,.int .u8 0,.int .u8 0,.int .u8 0,.int .u8 0,.int .u8 0,.int .u8 0,.int .u8 0,.int .i64 0,.int .i64 0,.int .i64 0,.slice none 0 0] 35))
 rw [← hw1]
 have HB1:=hid (show Cs w1 (w.heap.size) (x.cells (.slice ao x.l.length cap):List Value).toArray 35 by rw [hw1];exact (Cs.new _ _ _).alloc _)
 have HB2:=hid (show Cs w1 (w.heap.size+1) #[.int .i64 0,.int .i64 0,.int .u8 0,.int .u8 0,.int .u8 0,.int .u8 0,.int .u8 0,.int .u8 0,.int .u8 0,.int .u8 0,.int .u8 0,.int .u8 0,.int .u8 0,.int .u8 0,.int .u8 0,.int .u8 0,.int .u8 0,.int .u8 0,.int .u8 0,.int .u8 0,.int .u8 0,.int .u8 0,.int .u8 0,.int .u8 0,.int .u8 0,.int .u8 0,.int .u8 0,.int .u8 0,.int .u8 0,.int .u8 0,.int .u8 0,.int .u8 0,.int .u8 0,.int .u8 0,.int .i64 0,.int .i64 0,.int .i64 0,.slice none 0 0] 35 by rw [hw1];exact Cs_newN _ _ _ bD)
 have hm:Mod (fun _=>False) w w1:=by rw [hw1];exact ((Mod.refl _ _).alloc _).alloc _
 have HM0:=hid (show Mod (fun _=>False) w w1 from hm.mono (fun _ _ h=>h.elim))
 have hs1:w1.heap.size=w.heap.size+2:=by rw [hw1];simp
 have d6:=hid (HS.o.mod hm (fun _ _ h=>h))
 clear HS
 clear hw1 hm
 go_upto_region 1 with (fail)
 refine Aa 8 [3,4,5,6,12] [0,1,2,3,4] (fun a0 HA0=>?_)
 have c3:=ev HA0 1 rfl
 refine qfd rfl 37 Tryz.underlying35 c3 ?_
 refine QSeq.pure rfl _ (fun E=>Af rfl Tryz.underlying33 rfl (E.d 0 0) (AL (pre:=[]) (mid:=x.c.cells) (post:=[.slice ao x.l.length cap]) (m:=37) (k:=0) HB1.o (Cm.len HOK.o.2.1) rfl rfl)) ?_
 refine QSeq.call rfl rfl Tryz.func138 (copied_St _ x.l _ _ d6.out aR HP.o (fun _ _=>trivial)) (fun E=>An (E.d 1 0) rfl) ?_
 rintro e d7 ⟨vo,rfl,qo,hm⟩
 obtain ⟨ao_o,cap_o,rfl⟩:=qo.shape
 refine ⟨_,rfl,?_⟩
 have c6:=hid qo
 have g8:=hm.size
 have c4:=hid (show Mod (fun _=>False) w1 d7 from hm)
 clear hm
 clear qo
 refine qfd rfl 37 Tryz.underlying35 c3 ?_
 refine QSeq.go fun act E=>?_
 refine Ah rfl (Ab rfl) rfl (HB1.o.mod c4.out (fun h=>h)) (off:=37) (vs:=[Value.slice ao_o x.l.length cap_o]) aD one1 (by simp [Ce.cells,Cm.len HOK.o.2.1]) (E.d 3 0) (ec (E.d 2 1)) ?_
 intro d8 qc0 hm
 have qB1:=qc0.eqv (b:=((x.c.cells ++ [Value.slice ao_o x.l.length cap_o]):List Value).toArray) (lay_l x.c _ _ HOK.o.2.1)
 clear qc0
 have d9:=hid qB1
 have g9:=hm.size
 have c7:=hid hm
 have c8:=hid (AB (S':=(fun k=>(k=w.heap.size))) c4.out hm (fun _ h=>h.elim) aQ)
 clear hm c4
 clear act E qB1 HB1
 have g5:=hid (c6.out.mod c7.out aE)
 clear c6 c7
 refine qe ?_
 clear HA0 c3 a0
 go_upto_region 2 with (fail)
 refine Aa 8 [7,9] [0,1] (fun a0 HA0=>?_)
 have c3:=ev HA0 1 rfl
 have c9:=ev HA0 2 rfl
 refine QSeq.pure rfl _ (fun E=>Aj rfl Tryz.underlying35 rfl (off:=0) (cs:=(x.c.cells ++ [Value.slice ao_o x.l.length cap_o])) dB (E.v c3) (Cs.whole d9.out)) ?_
 refine QSeq.go fun act E=>?_
 refine Ah rfl (Ab rfl) rfl (HB2.o.mod c8.out aJ) (off:=0) (vs:=(x.c.cells ++ [Value.slice ao_o x.l.length cap_o])) dB (one_ce _ _ rfl) (by simp [Cm.len HOK.o.2.1]) (E.v c9) (ec (E.d 0 0)) ?_
 intro g6 qc0 hm
 have qB2:=qc0.eqv (b:=((x.c.cells ++ [Value.slice ao_o x.l.length cap_o]):List Value).toArray) (Ap _ _ (by simp [Cm.len HOK.o.2.1]))
 clear qc0
 have g7:=hid qB2
 have i7:=hm.size
 have d5:=hid (show Mod (fun k=>(k=w.heap.size+1)) d8 g6 from hm)
 clear hm
 clear act E qB2 HB2
 refine qe ?_
 clear HA0 c3 c9 a0
 go_wp2
 exact bodyPost_ret (Au rfl _ _ (w.heap.size+1) (x.c.cells ++ [Value.slice ao_o x.l.length cap_o]) rfl (fun k u hu=>by rw [g7.out.cell];simpa using hu) Tryz.underlying35 rfl dB) rfl ⟨_,rfl,⟨_,rfl,HOK.o,(g5.out.mod d5.out aE).widen bF⟩,((HM0.o.trans c8.out aE).trans d5.out aE)⟩
open Go.Proofs renaming Tryz.func140→va',Tryz.ntmps140→vb',Tryz.underlying38→vc',Tryz.underlying35→vg',Tryz.func110→vj' in
open Go.Proofs.YtnaoeginonpicaaGreat renaming CeR→vd',cop_Ce→vk',info_Ce→vm' in
open Go.Gv renaming n'35→ve',n'38→vf',z'2→vh',z'3→vi',n'96→vl' in
set_option maxHeartbeats 4000000 in
theorem copied_Ce:CopL CeR cpCe 140 110:=
 fm15'
set_option maxHeartbeats 4000000 in
theorem cop_Pm:CopR PmR cpPm 111:=by
 intro R2 x cs w hx hB2 hP
 obtain ⟨v_l,rfl,hok,hs0⟩:=hx
 obtain ⟨ao,cap,rfl⟩:=hs0.shape
 have HS:=B5 hs0
 have HBT:=B5 hB2
 have HOK:=B5 hok
 have HP:=B5 hP
 clear hs0 hB2 hok hP
 go_enter Tryz.func111,Tryz.ntmps111
 go_upto_region 1 with (fail)
 obtain ⟨w1,hw1⟩:∃ zz,zz=((w.alloc (.cells (x.cells (.slice ao x.l.length cap):List Value).toArray 40)).alloc (.cells #[.int .i64 0,.int .i64 0,.int .u64 0,.slice none 0 0,.int .i64 0,.int .i64 0] 40)):=⟨_,rfl⟩
 change Code.wp _ _ _ _ ((w.alloc (.cells (x.cells (.slice ao x.l.length cap):List Value).toArray 40)).alloc (.cells #[.int .i64 0,.int .i64 0,.int .u64 0,.slice none 0 0,.int .i64 0,.int .i64 0] 40))
 rw [← hw1]
 have HB1:=hid (show Cs w1 (w.heap.size) (x.cells (.slice ao x.l.length cap):List Value).toArray 40 by rw [hw1];exact (Cs.new _ _ _).alloc _)
 have HB2:=hid (show Cs w1 (w.heap.size+1) #[.int .i64 0,.int .i64 0,.int .u64 0,.slice none 0 0,.int .i64 0,.int .i64 0] 40 by rw [hw1];exact Cs_newN _ _ _ bD)
 have hm:Mod (fun _=>False) w w1:=by rw [hw1];exact ((Mod.refl _ _).alloc _).alloc _
 have HM0:=hid (show Mod (fun _=>False) w w1 from hm.mono (fun _ _ h=>h.elim))
 have hs1:w1.heap.size=w.heap.size+2:=by rw [hw1];simp
 have d6:=hid (HS.o.mod hm (fun _ _ h=>h))
 clear HS
 clear hw1 hm
 go_upto_region 1 with (fail)
 refine Aa 8 [3,4,5,6,12] [0,1,2,3,4] (fun a0 HA0=>?_)
 have c3:=ev HA0 1 rfl
 refine qfd rfl 3 Tryz.underlying40 c3 ?_
 refine QSeq.pure rfl _ (fun E=>Af rfl Tryz.underlying38 rfl (E.d 0 0) (AD HB1.o rfl)) ?_
 refine QSeq.call rfl rfl Tryz.func140 (copied_Ce _ x.l _ _ d6.out aR HP.o.1 HP.o.2) (fun E=>An (E.d 1 0) rfl) ?_
 rintro e d7 ⟨vo,rfl,qo,hm⟩
 obtain ⟨ao_o,cap_o,rfl⟩:=qo.shape
 refine ⟨_,rfl,?_⟩
 have c6:=hid qo
 have g8:=hm.size
 have c4:=hid (show Mod (fun _=>False) w1 d7 from hm)
 clear hm
 clear qo
 refine qfd rfl 3 Tryz.underlying40 c3 ?_
 refine QSeq.go fun act E=>?_
 refine Ah rfl (Ab rfl) rfl (HB1.o.mod c4.out (fun h=>h)) (off:=3) (vs:=[Value.slice ao_o x.l.length cap_o]) aD one1 (by show 3+1≤6;decide) (E.d 3 0) (ec (E.d 2 1)) ?_
 intro d8 qc0 hm
 have qB1:=qc0.eqv (b:=(([.int .i64 x.rp,.int .i64 x.ep,.int .u64 (x.fl:Nat),Value.slice ao_o x.l.length cap_o,.int .i64 x.sb,.int .i64 x.mr]):List Value).toArray) rfl
 clear qc0
 have d9:=hid qB1
 have g9:=hm.size
 have c7:=hid hm
 have c8:=hid (AB (S':=(fun k=>(k=w.heap.size))) c4.out hm (fun _ h=>h.elim) aQ)
 clear hm c4
 clear act E qB1 HB1
 have g5:=hid (c6.out.mod c7.out aE)
 clear c6 c7
 refine qe ?_
 clear HA0 c3 a0
 go_upto_region 2 with (fail)
 refine Aa 8 [7,9] [0,1] (fun a0 HA0=>?_)
 have c3:=ev HA0 1 rfl
 have c9:=ev HA0 2 rfl
 refine QSeq.pure rfl _ (fun E=>Aj rfl Tryz.underlying40 rfl (off:=0) (cs:=([.int .i64 x.rp,.int .i64 x.ep,.int .u64 (x.fl:Nat),Value.slice ao_o x.l.length cap_o,.int .i64 x.sb,.int .i64 x.mr])) aD (E.v c3) (Cs.whole d9.out)) ?_
 refine QSeq.go fun act E=>?_
 refine Ah rfl (Ab rfl) rfl (HB2.o.mod c8.out aJ) (off:=0) (vs:=([.int .i64 x.rp,.int .i64 x.ep,.int .u64 (x.fl:Nat),Value.slice ao_o x.l.length cap_o,.int .i64 x.sb,.int .i64 x.mr])) aD (by intro u hu;simp only [D9,D4,or_false] at hu;rcases hu with rfl|rfl|rfl|rfl|rfl|rfl<;>rfl) (by show 0+6≤6;decide) (E.v c9) (ec (E.d 0 0)) ?_
 intro g6 qc0 hm
 have qB2:=qc0.eqv (b:=(([.int .i64 x.rp,.int .i64 x.ep,.int .u64 (x.fl:Nat),Value.slice ao_o x.l.length cap_o,.int .i64 x.sb,.int .i64 x.mr]):List Value).toArray) (Ap _ _ rfl)
 clear qc0
 have g7:=hid qB2
 have i7:=hm.size
 have d5:=hid (show Mod (fun k=>(k=w.heap.size+1)) d8 g6 from hm)
 clear hm
 clear act E qB2 HB2
 refine qe ?_
 clear HA0 c3 c9 a0
 go_wp2
 exact bodyPost_ret (Au rfl _ _ (w.heap.size+1) ([.int .i64 x.rp,.int .i64 x.ep,.int .u64 (x.fl:Nat),Value.slice ao_o x.l.length cap_o,.int .i64 x.sb,.int .i64 x.mr]) rfl (fun k u hu=>by rw [g7.out.cell];simpa using hu) Tryz.underlying40 rfl aD) rfl ⟨_,rfl,⟨_,rfl,HOK.o,(g5.out.mod d5.out aE).widen bF⟩,((HM0.o.trans c8.out aE).trans d5.out aE)⟩
open Go.Proofs renaming Tryz.func141→va',Tryz.ntmps141→vb',Tryz.underlying41→vc',Tryz.underlying40→vg',Tryz.func111→vj' in
open Go.Proofs.YtnaoeginonpicaaGreat renaming PmR→vd',cop_Pm→vk',info_Pm→vm' in
open Go.Gv renaming n'40→ve',n'6→vf',z'20→vh',z'21→vi',n'64→vl' in
set_option maxHeartbeats 4000000 in
theorem copied_Pm:CopL PmR cpPm 141 111:=
 fm15'
set_option maxHeartbeats 4000000 in
theorem cop_Tb:CopR TbR cpTb 144:=by
 intro R2 x cs w hx hB2 hP
 obtain ⟨v_l,rfl,hok,hs0⟩:=hx
 obtain ⟨ao,cap,rfl⟩:=hs0.shape
 have HS:=B5 hs0
 have HBT:=B5 hB2
 have HOK:=B5 hok
 have HP:=B5 hP
 clear hs0 hB2 hok hP
 go_enter Tryz.func144,Tryz.ntmps144
 go_upto_region 1 with (fail)
 obtain ⟨w1,hw1⟩:∃ zz,zz=((w.alloc (.cells (x.cells (.slice ao x.l.length cap):List Value).toArray 127)).alloc (.cells #[.int .i64 0,.slice none 0 0] 127)):=⟨_,rfl⟩
 change Code.wp _ _ _ _ ((w.alloc (.cells (x.cells (.slice ao x.l.length cap):List Value).toArray 127)).alloc (.cells #[.int .i64 0,.slice none 0 0] 127))
 rw [← hw1]
 have HB1:=hid (show Cs w1 (w.heap.size) (x.cells (.slice ao x.l.length cap):List Value).toArray 127 by rw [hw1];exact (Cs.new _ _ _).alloc _)
 have HB2:=hid (show Cs w1 (w.heap.size+1) #[.int .i64 0,.slice none 0 0] 127 by rw [hw1];exact Cs_newN _ _ _ bD)
 have hm:Mod (fun _=>False) w w1:=by rw [hw1];exact ((Mod.refl _ _).alloc _).alloc _
 have HM0:=hid (show Mod (fun _=>False) w w1 from hm.mono (fun _ _ h=>h.elim))
 have hs1:w1.heap.size=w.heap.size+2:=by rw [hw1];simp
 have d6:=hid (HS.o.mod hm (fun _ _ h=>h))
 clear HS
 clear hw1 hm
 go_upto_region 1 with (fail)
 refine Aa 8 [3,4,5,6,12] [0,1,2,3,4] (fun a0 HA0=>?_)
 have c3:=ev HA0 1 rfl
 refine qfd rfl 1 D2 c3 ?_
 refine QSeq.pure rfl _ (fun E=>Af rfl Tryz.underlying125 rfl (E.d 0 0) (AD HB1.o rfl)) ?_
 refine QSeq.call rfl rfl Tryz.func147 (copied_Dn _ x.l _ _ d6.out aR HP.o (fun _ _=>trivial)) (fun E=>An (E.d 1 0) rfl) ?_
 rintro e d7 ⟨vo,rfl,qo,hm⟩
 obtain ⟨ao_o,cap_o,rfl⟩:=qo.shape
 refine ⟨_,rfl,?_⟩
 have c6:=hid qo
 have g8:=hm.size
 have c4:=hid (show Mod (fun _=>False) w1 d7 from hm)
 clear hm
 clear qo
 refine qfd rfl 1 D2 c3 ?_
 refine QSeq.go fun act E=>?_
 refine Ah rfl (Ab rfl) rfl (HB1.o.mod c4.out (fun h=>h)) (off:=1) (vs:=[Value.slice ao_o x.l.length cap_o]) aD one1 (by show 1+1≤2;decide) (E.d 3 0) (ec (E.d 2 1)) ?_
 intro d8 qc0 hm
 have qB1:=qc0.eqv (b:=(([.int .i64 x.ix,Value.slice ao_o x.l.length cap_o]):List Value).toArray) rfl
 clear qc0
 have d9:=hid qB1
 have g9:=hm.size
 have c7:=hid hm
 have c8:=hid (AB (S':=(fun k=>(k=w.heap.size))) c4.out hm (fun _ h=>h.elim) aQ)
 clear hm c4
 clear act E qB1 HB1
 have g5:=hid (c6.out.mod c7.out aE)
 clear c6 c7
 refine qe ?_
 clear HA0 c3 a0
 go_upto_region 2 with (fail)
 refine Aa 8 [7,9] [0,1] (fun a0 HA0=>?_)
 have c3:=ev HA0 1 rfl
 have c9:=ev HA0 2 rfl
 refine QSeq.pure rfl _ (fun E=>Aj rfl D2 rfl (off:=0) (cs:=([.int .i64 x.ix,Value.slice ao_o x.l.length cap_o])) aD (E.v c3) (Cs.whole d9.out)) ?_
 refine QSeq.go fun act E=>?_
 refine Ah rfl (Ab rfl) rfl (HB2.o.mod c8.out aJ) (off:=0) (vs:=([.int .i64 x.ix,Value.slice ao_o x.l.length cap_o])) aD (by intro u hu;simp only [D9,D4,or_false] at hu;rcases hu with rfl|rfl<;>rfl) (by show 0+2≤2;decide) (E.v c9) (ec (E.d 0 0)) ?_
 intro g6 qc0 hm
 have qB2:=qc0.eqv (b:=(([.int .i64 x.ix,Value.slice ao_o x.l.length cap_o]):List Value).toArray) (Ap _ _ rfl)
 clear qc0
 have g7:=hid qB2
 have i7:=hm.size
 have d5:=hid (show Mod (fun k=>(k=w.heap.size+1)) d8 g6 from hm)
 clear hm
 clear act E qB2 HB2
 refine qe ?_
 clear HA0 c3 c9 a0
 go_wp2
 exact bodyPost_ret (Au rfl _ _ (w.heap.size+1) ([.int .i64 x.ix,Value.slice ao_o x.l.length cap_o]) rfl (fun k u hu=>by rw [g7.out.cell];simpa using hu) D2 rfl aD) rfl ⟨_,rfl,⟨_,rfl,HOK.o,(g5.out.mod d5.out aE).widen bF⟩,((HM0.o.trans c8.out aE).trans d5.out aE)⟩
set_option maxHeartbeats 4000000 in
theorem copied_Tb:CopL TbR cpTb 143 144:=by
 intro R2 l v w hs hB2 hl hP
 obtain ⟨ao,cap,rfl⟩:=hs.shape
 have HS:=B5 hs
 have HBT:=B5 hB2
 have HL:=B5 hl
 have HP:=B5 hP
 clear hs hB2 hl hP
 go_enter Tryz.func143,Tryz.ntmps143
 go_upto_region 2 with (fail)
 have HM0:=hid (Mod.refl (fun _=>False) w)
 go_upto_region 2 with (fail)
 refine Aa 22 [8,9,10] [0,1,2] (fun a0 HA0=>?_)
 have g5:=ev HA0 0 rfl
 refine qmo rfl g5 ?_
 refine QSeq.pure rfl (.int .i64 l.length) (fun E=>Bc rfl (E.d 0 0) C8) ?_
 refine QSeq.pure rfl (.int .i64 0) (fun E=>Al rfl rfl) ?_
 refine qe ?_
 clear HA0 g5 a0
 go_wp2
 go_loopw [5,10] (fun ta ti wr=>∃ k:Nat,ti=.int .i64 (k:Int)∧k≤l.length∧w.heap.size≤wr.heap.size∧OwS TbR 127 (fun b=>w.heap.size≤b∧b < wr.heap.size) (fun b=>w.heap.size≤b∧b < wr.heap.size) wr ta (l.take k)∧RdS TbR R2 wr (.slice ao l.length cap) l∧Mod (fun _=>False) w wr) (fun _ ti _=>l.length - (intOf ti).toNat)
 case atStart=>exact ⟨0,rfl,Nat.zero_le _,B9 _,OwS.nil _ _ _ _ _,HS.o,HM0.o⟩
 case round=>
  obtain ⟨k,rfl,hk,hz,ha,hs,hm⟩:=hrel
  obtain ⟨wl,rfl⟩:∃ x,x=wr:=⟨_,rfl⟩
  obtain ⟨aol,capl,rfl⟩:=ha.shape
  have HAL:=B5 ha
  have HSL:=B5 hs
  have HML:=B5 hm
  clear ha hs hm HS HM0
  by_cases hlt:k < l.length
  ·skip
   go_upto_region 3 with (fail)
   refine Aa 22 [11] [0] (fun a0 HA0=>?_)
   have c4:=ev HA0 9 rfl
   have c3:=ev HA0 10 rfl
   refine QSeq.pure rfl (.bool true) (fun E=>Am rfl (E.v c3) (E.v c4) (Ag _ _ _ _ _ _) (Ay _ _ _ B6) (congrArg Value.bool (decide_eq_true aM))) ?_
   refine qe ?_
   clear HA0 c4 c3 a0
   obtain ⟨g0,o0,cs,eao,hrg,hrd,hcs⟩:=HSL.o.at hlt
   subst eao
   have HCL:=hid (show cs.length=2 from TbR.len hrd)
   have HAT:=hid (show CellsAt R2 wl g0 (o0+k * 2) cs from ⟨hrg,hcs⟩)
   have HRD:=B5 hrd
   have HOC:=hid (TbR.one hrd)
   have HPK:=hid (HP.o _ (List.getElem_mem hlt))
   clear hrg hrd hcs
   go_upto_region 4 with (fail)
   refine Aa 22 [12,13,7,25] [0,1,2,3] (fun a0 HA0=>?_)
   have g6:=ev HA0 8 rfl
   have c3:=ev HA0 10 rfl
   refine QSeq.pure rfl (.pointer (some ⟨g0,o0+k * 2,none⟩)) (fun E=>ex_idxS (i:=k) (s:=2) rfl C8 aD (E.v g6) (E.v c3) aM) ?_
   refine QSeq.pure rfl _ (fun E=>Aj rfl D2 rfl (off:=o0+k * 2) (cs:=cs) dF (E.d 0 0) (fun j u hu=>(HAT.o).2 j u hu)) ?_
   refine QSeq.go fun act E=>?_
   refine B3 rfl (Ab rfl) rfl (z:=[.int .i64 0,.slice none 0 0]) aD ?_
   intro j0 qq hm
   have j8:=qq.lt
   have g7:=hid qq
   have j9:=hm.size
   have g8:=hid (show Mod (fun _=>False) wl j0 from hm)
   clear hm
   clear act E qq
   refine QSeq.go fun act E=>?_
   have hlz:(cs).length=List.length ([.int .i64 0,.slice none 0 0]:List Value):=(by rw [HCL.o];rfl)
   refine Ah rfl (Ab rfl) rfl g7.out (off:=0) (vs:=cs) cO HOC.o bK (E.d 2 0) (ec (E.d 1 1)) ?_
   intro d5 qc0 hm
   have qq:=qc0.eqv (b:=(cs:List Value).toArray) (Ap #[.int .i64 0,.slice none 0 0] _ dO)
   clear qc0 hlz
   have j3:=hid qq
   have l7:=hm.size
   have j4:=hid hm
   have c8:=hid (AB (S':=(fun _=>False)) g8.out hm (fun _ h=>h) cG)
   clear hm g8
   clear act E qq g7
   clear j4
   refine qe ?_
   clear HA0 g6 c3 a0
   go_upto_region 5 with (fail)
   refine Aa 22 [14,15,16,17,18,19,5] [0,1,2,3,4,5,6] (fun a0 HA0=>?_)
   have g9:=ev HA0 1 rfl
   have c6:=ev HA0 5 rfl
   have i7:=ev HA0 7 rfl
   refine QSeq.pure rfl _ (fun E=>Al rfl (E.y 6 c6)) ?_
   refine qmo rfl g9 ?_
   refine QSeq.pure rfl _ (fun E=>Aj rfl D2 rfl (off:=0) (cs:=cs) dF (E.v i7) (Cs.whole j3.out)) ?_
   refine QSeq.go fun act E=>?_
   have ea16:act.eval (.tmp 16)=.agg cs.toArray:=(E.d 2 0)
   refine qc_call (args:=#[.agg cs.toArray]) rfl (Ab rfl) (by rw [ex_callV rfl (E.d 1 1) Tryz.func144 aD aD];exact congrArg (fun z=>Result.ok (Next.enter _ z) _) (by simp only [C7,C9,D0,ea16];try rfl)) (cop_Tb _ _ _ _ (HRD.o.mod c8.out (fun _ _ h=>h)) aR HPK.o) ?_
   rintro e c7 ⟨cn,rfl,qnw,hm⟩
   have HCN:=hid (TbR.len qnw)
   refine ⟨_,rfl,?_⟩
   have c9:=hid qnw
   have l8:=hm.size
   have i8:=hid (show Mod (fun _=>False) d5 c7 from hm)
   clear hm
   clear act E qnw ea16
   refine QSeq.go fun act E=>?_
   refine qc_buildS (e:=127) (cs:=cn) (zc:=[.int .i64 0,.slice none 0 0]) (sz:=2) rfl (Ab rfl) rfl C8 aD rfl aF aF (E.d 3 0) (TbR.len c9.out) ?_
   intro j5 qrow hm
   have m7:=qrow.lt
   have d6:=hid qrow
   have m8:=hm.size
   have d7:=hid hm
   have d8:=hid (i8.out.goE hm)
   clear hm i8
   clear act E qrow
   refine QSeq.go fun act E=>?_
   refine qc_appS (A:=TbR) (e:=127) rfl (Ab rfl) rfl (.agg #[.int .i64 0,.slice none 0 0]) 32 C8 info_Tb (by rfl) (of_decide_eq_true aD) (E.d 0 4) (E.d 4 0) (((HAL.o.mod c8.out (fun _ _ h=>h) (fun _ _ h=>h)).mod d8.out (fun _ _ h=>h) (fun _ _ h=>h))) (AI (R:=(fun k=>(New d5 c7 k)∨(k=c7.heap.size))) d6.out ((c9.out.mod d7.out (fun _ _ h=>h)).widen bB) (by right;rfl)) aE (by have h9:=HL.o;rw [List.length_take];simp only [C5,C4];omega) (by have h9:=HL.o;rw [List.length_take];simp only [C5,C4];rw [A7];omega) ?_
   intro ao5 cap5 j6 qout hm
   have j7:=hid (qout.widen (R':=(fun k=>(New w wl k)∨(New j5 j6 k))) (E':=(fun k=>(New w wl k)∨(New d5 c7 k)∨(k=c7.heap.size))) (fun _ h=>h) aZ)
   have m9:=hm.size
   have d9:=hid hm
   have i9:=hid (AB (S':=(fun k=>(New w wl k))) d8.out hm (fun _ h=>h.elim) aQ)
   clear hm d8
   clear act E qout HAL
   refine qas rfl 5 0 ?_
   have n5:=hid ((c9.out.mod d7.out (fun _ _ h=>h)).mod d9.out aE)
   have n6:=hid (d6.out.mod d9.out aJ)
   clear c9 d6 d7 d9
   refine qe ?_
   clear HA0 g9 c6 i7 a0
   have hq:=j7.out
   rw [show l.take k ++ [l[k]]=l.take (k+1) from (List.take_succ_eq_append_getElem hlt).symm] at hq
   have HQ:=B5 hq
   clear hq
   go_upto_region 6 with (fail)
   refine Aa 22 [20,10] [0,1] (fun a0 HA0=>?_)
   have c3:=ev HA0 10 rfl
   refine QSeq.pure rfl (.int .i64 (((k:Nat):Int)+1)) (fun E=>Am rfl (E.y 1 c3) rfl (Ag _ _ _ _ _ _) (B2 _ _ B6) (congrArg (Value.int .i64) (IntWalk.i64_in _ (by have h9:=HL.o;omega)))) ?_
   refine qmv rfl 0 0 ?_
   refine qe ?_
   clear HA0 c3 a0
   go_wp2
   go_roundw
   case rel=>exact ⟨k+1,by go_num,by omega,by omega,HQ.o.widen cE cE,((HSL.o.mod c8.out (fun _ _ h=>h)).mod i9.out (sN HBT)),((HML.o.trans c8.out (fun _ _ h=>h.elim)).trans i9.out aE)⟩
   case measure=>simp [intOf];omega
  ·obtain rfl:l.length=k:=by omega
   have hq:=HAL.o
   rw [List.take_length] at hq
   have HQ:=B5 hq
   clear hq
   go_upto_region 3 with (fail)
   refine Aa 22 [11] [0] (fun a0 HA0=>?_)
   have c4:=ev HA0 9 rfl
   have c3:=ev HA0 10 rfl
   refine QSeq.pure rfl (.bool false) (fun E=>Am rfl (E.v c3) (E.v c4) (Ag _ _ _ _ _ _) (Ay _ _ _ B6) (congrArg Value.bool (decide_eq_false aM))) ?_
   refine qe ?_
   clear HA0 c4 c3 a0
   go_upto_region 7 with (fail)
   refine Aa 22 [21,4] [0,1] (fun a0 HA0=>?_)
   have c6:=ev HA0 5 rfl
   refine qmo rfl c6 ?_
   refine qas rfl 0 0 ?_
   refine qe ?_
   clear HA0 c6 a0
   go_wp2
   go_ret
   exact ⟨_,rfl,by rw [List.take_length];exact HQ.o.rd.widen cE,HML.o⟩
theorem lay_pl1 (x:Op) (u v:Value) (h:x.nc.length=32):lay (x.cells u).toArray 1 [v]=(([.int .i64 x.ix,v] ++ x.nc.map bv:List Value)).toArray:=by simp [lay,Op.cells,h]
theorem RdR_lenx {R:Nat→Prop} {N:Nat} {w:World} {ao:Option Addr} {n cap:Nat} {bs:List Int} (h:RdR R N w (.slice ao n cap) bs) (hn:n=bs.length):RdR R bs.length w (.slice ao n cap) bs:=⟨h.1,h.2.1,B9 _⟩
set_option maxHeartbeats 4000000 in
theorem cop_Op:CopR OpR cpOp 112:=by
 intro R2 x cs w hx hB2 hP
 obtain ⟨v_l,rfl,hok,hs0⟩:=hx
 obtain ⟨ao,cap,rfl⟩:=hs0.shape
 have HS:=B5 hs0
 have HBT:=B5 hB2
 have HOK:=B5 hok
 have HP:=B5 hP
 have HNB:=hid (show OwR (fun k=>False) 900000 w (.slice none 0 0) [] from ⟨Own.nil _ _ _ _,(fun g h=>by cases h),Nat.zero_le _⟩)
 clear hs0 hB2 hok hP
 go_enter Tryz.func112,Tryz.ntmps112
 go_upto_region 1 with (fail)
 obtain ⟨w1,hw1⟩:∃ zz,zz=((w.alloc (.cells (x.cells (.slice ao x.pl.length cap):List Value).toArray 54)).alloc (.cells #[.int .i64 0,.slice none 0 0,.int .u8 0,.int .u8 0,.int .u8 0,.int .u8 0,.int .u8 0,.int .u8 0,.int .u8 0,.int .u8 0,.int .u8 0,.int .u8 0,.int .u8 0,.int .u8 0,.int .u8 0,.int .u8 0,.int .u8 0,.int .u8 0,.int .u8 0,.int .u8 0,.int .u8 0,.int .u8 0,.int .u8 0,.int .u8 0,.int .u8 0,.int .u8 0,.int .u8 0,.int .u8 0,.int .u8 0,.int .u8 0,.int .u8 0,.int .u8 0,.int .u8 0,.int .u8 0] 54)):=⟨_,rfl⟩
 change Code.wp _ _ _ _ ((w.alloc (.cells (x.cells (.slice ao x.pl.length cap):List Value).toArray 54)).alloc (.cells #[.int .i64 0,.slice none 0 0,.int .u8 0,.int .u8 0,.int .u8 0,.int .u8 0,.int .u8 0,.int .u8 0,.int .u8 0,.int .u8 0,.int .u8 0,.int .u8 0,.int .u8 0,.int .u8 0,.int .u8 0,.int .u8 0,.int .u8 0,.int .u8 0,.int .u8 0,.int .u8 0,.int .u8 0,.int .u8 0,.int .u8 0,.int .u8 0,.int .u8 0,.int .u8 0,.int .u8 0,.int .u8 0,.int .u8 0,.int .u8 0,.int .u8 0,.int .u8 0,.int .u8 0,.int .u8 0] 54))
 rw [← hw1]
 have HB1:=hid (show Cs w1 (w.heap.size) (x.cells (.slice ao x.pl.length cap):List Value).toArray 54 by rw [hw1];exact (Cs.new _ _ _).alloc _)
 have HB2:=hid (show Cs w1 (w.heap.size+1) #[.int .i64 0,.slice none 0 0,.int .u8 0,.int .u8 0,.int .u8 0,.int .u8 0,.int .u8 0,.int .u8 0,.int .u8 0,.int .u8 0,.int .u8 0,.int .u8 0,.int .u8 0,.int .u8 0,.int .u8 0,.int .u8 0,.int .u8 0,.int .u8 0,.int .u8 0,.int .u8 0,.int .u8 0,.int .u8 0,.int .u8 0,.int .u8 0,.int .u8 0,.int .u8 0,.int .u8 0,.int .u8 0,.int .u8 0,.int .u8 0,.int .u8 0,.int .u8 0,.int .u8 0,.int .u8 0] 54 by rw [hw1];exact Cs_newN _ _ _ bD)
 have hm:Mod (fun _=>False) w w1:=by rw [hw1];exact ((Mod.refl _ _).alloc _).alloc _
 have HM0:=hid (show Mod (fun _=>False) w w1 from hm.mono (fun _ _ h=>h.elim))
 have hs1:w1.heap.size=w.heap.size+2:=by rw [hw1];simp
 have d8:=hid (HS.o.mod hm (fun _ _ h=>h))
 clear HS
 have c6:=hid (HNB.o.mod hm (fun _ _ h=>h))
 clear HNB
 clear hw1 hm
 go_upto_region 1 with (fail)
 refine Aa 8 [3,4,5,6,12] [0,1,2,3,4] (fun a0 HA0=>?_)
 have c3:=ev HA0 1 rfl
 refine qfd rfl 1 Tryz.underlying54 c3 ?_
 refine QSeq.pure rfl _ (fun E=>Af rfl D1 rfl (E.d 0 0) (Cs.hd1 HB1.o rfl)) ?_
 refine QSeq.go fun act E=>?_
 refine qc_appR rfl (Ab rfl) rfl rfl (E.d 1 0) c6.out d8.out (by have h9:=HP.o;unfold cpOp at h9;simpa using h9) ?_
 intro ao1 cap1 c7 qnb hm
 have c8:=hid (qnb.widen (R':=(fun k=>(False)∨(New w1 c7 k))) (fun _ h=>h) (B9 _))
 have g9:=hm.size
 have c4:=hid (show Mod (fun k=>(False)) w1 c7 from hm)
 clear hm
 clear act E qnb c6
 refine qfd rfl 1 Tryz.underlying54 c3 ?_
 refine QSeq.go fun act E=>?_
 refine Ah rfl (Ab rfl) rfl (HB1.o.mod c4.out (by intro h2;(try simp only [false_or] at h2)<;>omega)) (off:=1) (vs:=[Value.slice ao1 (([]:List Int).length+x.pl.length) cap1]) aD one1 (by simp only [C3,Op.cells,C0,List.length_map,C5,C4,HOK.o.2.1]<;>omega) (E.d 3 0) (ec (E.d 2 1)) ?_
 intro d9 qc0 hm
 have qB1:=qc0.eqv (b:=(([.int .i64 x.ix,Value.slice ao1 (([]:List Int).length+x.pl.length) cap1] ++ x.nc.map bv):List Value).toArray) (lay_pl1 x _ _ HOK.o.2.1)
 clear qc0
 have g5:=hid qB1
 have i7:=hm.size
 have c9:=hid hm
 have d5:=hid (AB (S':=(fun k=>(False)∨(k=w.heap.size))) c4.out hm (fun _ h=>Or.inl h) aT)
 clear hm c4
 clear act E qB1 HB1
 have g6:=hid (c8.out.mod c9.out eR)
 clear c8 c9
 refine qe ?_
 clear HA0 c3 a0
 go_upto_region 2 with (fail)
 refine Aa 8 [7,9] [0,1] (fun a0 HA0=>?_)
 have c3:=ev HA0 1 rfl
 have d6:=ev HA0 2 rfl
 refine QSeq.pure rfl _ (fun E=>Aj rfl Tryz.underlying54 rfl (off:=0) (cs:=([.int .i64 x.ix,Value.slice ao1 (([]:List Int).length+x.pl.length) cap1] ++ x.nc.map bv)) fQ (E.v c3) (Cs.whole g5.out)) ?_
 refine QSeq.go fun act E=>?_
 refine Ah rfl (Ab rfl) rfl (HB2.o.mod d5.out (by intro h2;(try simp only [false_or] at h2)<;>omega)) (off:=0) (vs:=([.int .i64 x.ix,Value.slice ao1 (([]:List Int).length+x.pl.length) cap1] ++ x.nc.map bv)) fQ (by intro u hu;simp only [List.mem_append,D9,D4,or_false,List.mem_map] at hu;rcases hu with (rfl|rfl)|⟨y,-,rfl⟩<;>rfl) (by simp only [C3,C0,List.length_map,C5,C4,HOK.o.2.1];decide) (E.v d6) (ec (E.d 0 0)) ?_
 intro g7 qc0 hm
 have qB2:=qc0.eqv (b:=(([.int .i64 x.ix,Value.slice ao1 (([]:List Int).length+x.pl.length) cap1] ++ x.nc.map bv):List Value).toArray) (Ap _ _ (by simp only [C0,List.length_map,HOK.o.2.1];rfl))
 clear qc0
 have g8:=hid qB2
 have i8:=hm.size
 have d7:=hid (show Mod (fun k=>(k=w.heap.size+1)) d9 g7 from hm)
 clear hm
 clear act E qB2 HB2
 refine qe ?_
 clear HA0 c3 d6 a0
 have hq:=(g6.out.mod d7.out eR)
 rw [List.nil_append] at hq
 go_wp2
 exact bodyPost_ret (Au rfl _ _ (w.heap.size+1) ([.int .i64 x.ix,Value.slice ao1 (([]:List Int).length+x.pl.length) cap1] ++ x.nc.map bv) rfl (fun k u hu=>by rw [g8.out.cell];simpa using hu) Tryz.underlying54 rfl fQ) rfl ⟨_,rfl,⟨_,rfl,HOK.o,RdR_lenx (hq.rd.widen (by intro k h1;rcases h1 with h1|h1<;>first|exact h1.elim|omega) (B9 _)) bD⟩,((HM0.o.trans d5.out eR).trans d7.out eR)⟩
open Go.Proofs renaming Tryz.func142→va',Tryz.ntmps142→vb',Tryz.underlying42→vc',Tryz.underlying54→vg',Tryz.func112→vj' in
open Go.Proofs.YtnaoeginonpicaaGreat renaming OpR→vd',cop_Op→vk',info_Op→vm' in
open Go.Gv renaming n'54→ve',n'34→vf',z'17→vh',z'18→vi',n'64→vl' in
set_option maxHeartbeats 4000000 in
theorem copied_Op:CopL OpR cpOp 142 112:=
 fm15'
set_option maxHeartbeats 4000000 in
theorem cop_Ba:CopR BaR cpBa 113:=by
 intro R2 x cs w hx hB2 hP
 obtain ⟨v_ps,v_os,v_ts,rfl,hok,hs0,hs1,hs2⟩:=hx
 obtain ⟨ao_ps,cap_ps,rfl⟩:=hs0.shape
 obtain ⟨ao_os,cap_os,rfl⟩:=hs1.shape
 obtain ⟨ao_ts,cap_ts,rfl⟩:=hs2.shape
 have HS0:=B5 hs0
 have HS1:=B5 hs1
 have HS2:=B5 hs2
 have HBT:=B5 hB2
 have HOK:=B5 hok
 have HP:=B5 hP
 clear hs0 hs1 hs2 hB2 hok hP
 go_enter Tryz.func113,Tryz.ntmps113
 go_upto_region 1 with (fail)
 obtain ⟨w1,hw1⟩:∃ zz,zz=((w.alloc (.cells #[.int .i64 x.ep,.int .u64 (x.tm:Nat),Value.slice ao_ps x.ps.length cap_ps,Value.slice ao_os x.os.length cap_os,Value.slice ao_ts x.ts.length cap_ts] 45)).alloc (.cells #[.int .i64 0,.int .u64 0,.slice none 0 0,.slice none 0 0,.slice none 0 0] 45)):=⟨_,rfl⟩
 change Code.wp _ _ _ _ ((w.alloc (.cells #[.int .i64 x.ep,.int .u64 (x.tm:Nat),Value.slice ao_ps x.ps.length cap_ps,Value.slice ao_os x.os.length cap_os,Value.slice ao_ts x.ts.length cap_ts] 45)).alloc (.cells #[.int .i64 0,.int .u64 0,.slice none 0 0,.slice none 0 0,.slice none 0 0] 45))
 rw [← hw1]
 have HB1:=hid (show Cs w1 (w.heap.size) #[.int .i64 x.ep,.int .u64 (x.tm:Nat),Value.slice ao_ps x.ps.length cap_ps,Value.slice ao_os x.os.length cap_os,Value.slice ao_ts x.ts.length cap_ts] 45 by rw [hw1];exact (Cs.new _ _ _).alloc _)
 have HB2:=hid (show Cs w1 (w.heap.size+1) #[.int .i64 0,.int .u64 0,.slice none 0 0,.slice none 0 0,.slice none 0 0] 45 by rw [hw1];exact Cs_newN _ _ _ bD)
 have hm:Mod (fun _=>False) w w1:=by rw [hw1];exact ((Mod.refl _ _).alloc _).alloc _
 have HM0:=hid (show Mod (fun _=>False) w w1 from hm.mono (fun _ _ h=>h.elim))
 have hs1:w1.heap.size=w.heap.size+2:=by rw [hw1];simp
 have l8:=hid (HS0.o.mod hm (fun _ _ h=>h))
 clear HS0
 have m7:=hid (HS1.o.mod hm (fun _ _ h=>h))
 clear HS1
 have m8:=hid (HS2.o.mod hm (fun _ _ h=>h))
 clear HS2
 clear hw1 hm
 go_upto_region 1 with (fail)
 generalize ha0:Act.mk _ _=a0
 have c3:a0.eval (.tmp 1)=.pointer (some ⟨w.heap.size,0,none⟩):=by rw [← ha0];rfl
 have hsz0:a0.tmps.size=16:=by rw [← ha0];rfl
 have HA0:=hid ha0
 clear ha0
 refine A8 16 hsz0 [3,4,5,6,7,8,9,10,11,12,26,13,28,14,30] (fun k=>(k=w.heap.size)) (fun k j=>(k=3∧((j=w.heap.size)))∨(k=4∧((j=w.heap.size)))∨(k=5∧((j=w.heap.size)))) dJ [qi (.pointer (some ⟨w.heap.size,2,none⟩)),qi (.slice ao_ps x.ps.length cap_ps),qv 0,qi (.pointer (some ⟨w.heap.size,3,none⟩)),qi (.slice ao_os x.os.length cap_os),qv 1,qi (.pointer (some ⟨w.heap.size,4,none⟩)),qi (.slice ao_ts x.ts.length cap_ts),qv 2,qi (.pointer (some ⟨w.heap.size,2,none⟩)),qv 3,qi (.pointer (some ⟨w.heap.size,3,none⟩)),qv 4,qi (.pointer (some ⟨w.heap.size,4,none⟩)),qv 5] ⟨Ad,Ad,Ar,Ad,Ad,Ar,Ad,Ad,Ar,Ad,Ar,Ad,Ar,Ad,Ar,trivial⟩ [2,5,8,10,12,14] ⟨?_,?_,?_,?_,?_,?_,?_,?_,?_,?_,?_,?_,?_,?_,?_,trivial⟩ ?_
 ·exact stq (fun E=>Ae rfl C2 rfl aD (E.v c3))
 ·refine A5 rfl rfl rfl fun _ _ _ _ _ _ hm0 _ _ hd hub _=>?_
  have h0:=hd ⟨0,.data⟩ bD rfl _ rfl
  refine Bo rfl (Ab rfl) (Af rfl Tryz.underlying41 rfl h0 (AD (HB1.o.mod hm0 cB) rfl)) QE.refl ?_
  rfl
 ·exact Ai rfl
 ·exact stq (fun E=>Ae rfl C2 rfl aD (E.v c3))
 ·refine A5 rfl rfl rfl fun _ _ _ _ _ _ hm0 _ _ hd hub _=>?_
  have h3:=hd ⟨3,.data⟩ bD rfl _ rfl
  refine Bo rfl (Ab rfl) (Af rfl Tryz.underlying42 rfl h3 (AD (HB1.o.mod hm0 cB) rfl)) QE.refl ?_
  rfl
 ·exact Ai rfl
 ·exact stq (fun E=>Ae rfl C2 rfl aD (E.v c3))
 ·refine A5 rfl rfl rfl fun _ _ _ _ _ _ hm0 _ _ hd hub _=>?_
  have h6:=hd ⟨6,.data⟩ bD rfl _ rfl
  refine Bo rfl (Ab rfl) (Af rfl C8 rfl h6 (AD (HB1.o.mod hm0 cB) rfl)) QE.refl ?_
  rfl
 ·exact Ai rfl
 ·exact stq (fun E=>Ae rfl C2 rfl aD (E.v c3))
 ·exact Ai rfl
 ·exact stq (fun E=>Ae rfl C2 rfl aD (E.v c3))
 ·exact Ai rfl
 ·exact stq (fun E=>Ae rfl C2 rfl aD (E.v c3))
 ·exact Ai rfl
 intro m9 hr
 have p6:=hr.size
 have c6:=hid (hr.new (S:=(fun k=>(k=w.heap.size))))
 have c9:=hid (HB1.o.mod hr aJ)
 clear HB1
 clear hr
 refine QChain.go fun Z act E=>?_
 refine Aq (args:=#[.slice ao_ps x.ps.length cap_ps,.func (.func 111) #[] #[]]) rfl (Ab rfl) rfl Tryz.func141 (An (E.d 1) rfl) (copied_Pm _ x.ps _ _ (l8.out.mod c6.out (sB HBT)) aR HP.o.1.1 HP.o.1.2) ?_
 rintro e n5 ⟨vops,rfl,qops,hm⟩
 obtain ⟨ao_ops,cap_ops,rfl⟩:=qops.shape
 have p7:=hm.size
 refine ⟨_,rfl,hm.mono (fun _ _ h=>h.elim),(fun _=>rfl),?_⟩
 intro n6 hr
 have p8:=hr.size
 have d5:=hid ((qops.widen (R':=(fun k=>(New m9 n5 k))) (fun _ h=>h)).mod hr aE)
 have hmr:=Mod.after hm hr
 have d6:=hid (c9.out.mod hmr aJ)
 clear c9
 clear hmr
 have c7:=hid (c6.out.go hm hr)
 clear c6 hm hr Z act E qops
 refine QChain.go fun Z act E=>?_
 refine Aq (args:=#[.slice ao_os x.os.length cap_os,.func (.func 112) #[] #[]]) rfl (Ab rfl) rfl Tryz.func142 (An (E.d 4) rfl) (copied_Op _ x.os _ _ (m7.out.mod c7.out (sB HBT)) aR HP.o.2.1.1 HP.o.2.1.2) ?_
 rintro e n7 ⟨voos,rfl,qoos,hm⟩
 obtain ⟨ao_oos,cap_oos,rfl⟩:=qoos.shape
 have p9:=hm.size
 refine ⟨_,rfl,hm.mono (fun _ _ h=>h.elim),(fun _=>rfl),?_⟩
 intro n8 hr
 have q6:=hr.size
 have d7:=hid ((qoos.widen (R':=(fun k=>(New n6 n7 k))) (fun _ h=>h)).mod hr aE)
 have hmr:=Mod.after hm hr
 have d8:=hid (d6.out.mod hmr aJ)
 have d9:=hid (d5.out.mod hmr aE)
 clear d6 d5
 clear hmr
 have c8:=hid (c7.out.go hm hr)
 clear c7 hm hr Z act E qoos
 refine QChain.go fun Z act E=>?_
 refine Aq (args:=#[.slice ao_ts x.ts.length cap_ts,.func (.func 144) #[] #[]]) rfl (Ab rfl) rfl Tryz.func143 (An (E.d 7) rfl) (copied_Tb _ x.ts _ _ (m8.out.mod c8.out (sB HBT)) aR HP.o.2.2.1 HP.o.2.2.2) ?_
 rintro e o4 ⟨vots,rfl,qots,hm⟩
 obtain ⟨ao_ots,cap_ots,rfl⟩:=qots.shape
 have q7:=hm.size
 refine ⟨_,rfl,hm.mono (fun _ _ h=>h.elim),(fun _=>rfl),?_⟩
 intro q8 hr
 have q9:=hr.size
 have g5:=hid ((qots.widen (R':=(fun k=>(New n8 o4 k))) (fun _ h=>h)).mod hr aE)
 have hmr:=Mod.after hm hr
 have g6:=hid (d8.out.mod hmr aJ)
 have g7:=hid (d9.out.mod hmr aE)
 have g8:=hid (d7.out.mod hmr aE)
 clear d8 d9 d7
 clear hmr
 have g9:=hid (c8.out.go hm hr)
 clear c8 hm hr Z act E qots
 refine QChain.go fun Z act E=>?_
 refine Ah rfl (Ab rfl) rfl g6.out (off:=2) (vs:=[Value.slice ao_ops x.ps.length cap_ops]) aD one1 (by show 2+1≤5;decide) (E.d 9) (ec (chv (v:=.slice ao_ops x.ps.length cap_ops) (E.d 2))) ?_
 intro r3 qc0 hm
 have qB1:=qc0.eqv (b:=#[.int .i64 x.ep,.int .u64 (x.tm:Nat),Value.slice ao_ops x.ps.length cap_ops,Value.slice ao_os x.os.length cap_os,Value.slice ao_ts x.ts.length cap_ts]) rfl
 clear qc0
 have r4:=hm.size
 refine ⟨hm.mono bM,(fun _=>rfl),?_⟩
 intro r5 hr
 have r6:=hr.size
 have i7:=hid (qB1.mod hr aJ)
 have hmr:=hm.two hr
 have i8:=hid (g7.out.mod hmr aE)
 have i9:=hid (g8.out.mod hmr aE)
 have j0:=hid (g5.out.mod hmr aE)
 clear g7 g8 g5
 clear hmr
 have j3:=hid (g9.out.goM hm hr (fun _ _ h=>h))
 clear g9 hm hr Z act E qB1 g6
 refine QChain.go fun Z act E=>?_
 refine Ah rfl (Ab rfl) rfl i7.out (off:=3) (vs:=[Value.slice ao_oos x.os.length cap_oos]) aD one1 (by show 3+1≤5;decide) (E.d 11) (ec (chv (v:=.slice ao_oos x.os.length cap_oos) (E.d 5))) ?_
 intro r7 qc0 hm
 have qB1:=qc0.eqv (b:=#[.int .i64 x.ep,.int .u64 (x.tm:Nat),Value.slice ao_ops x.ps.length cap_ops,Value.slice ao_oos x.os.length cap_oos,Value.slice ao_ts x.ts.length cap_ts]) rfl
 clear qc0
 have r8:=hm.size
 refine ⟨hm.mono bM,(fun _=>rfl),?_⟩
 intro r9 hr
 have s0:=hr.size
 have j4:=hid (qB1.mod hr aJ)
 have hmr:=hm.two hr
 have j5:=hid (i8.out.mod hmr aE)
 have j6:=hid (i9.out.mod hmr aE)
 have j7:=hid (j0.out.mod hmr aE)
 clear i8 i9 j0
 clear hmr
 have j8:=hid (j3.out.goM hm hr (fun _ _ h=>h))
 clear j3 hm hr Z act E qB1 i7
 refine QChain.go fun Z act E=>?_
 refine Ah rfl (Ab rfl) rfl j4.out (off:=4) (vs:=[Value.slice ao_ots x.ts.length cap_ots]) aD one1 (by show 4+1≤5;decide) (E.d 13) (ec (chv (v:=.slice ao_ots x.ts.length cap_ots) (E.d 8))) ?_
 intro s5 qc0 hm
 have qB1:=qc0.eqv (b:=#[.int .i64 x.ep,.int .u64 (x.tm:Nat),Value.slice ao_ops x.ps.length cap_ops,Value.slice ao_oos x.os.length cap_oos,Value.slice ao_ots x.ts.length cap_ots]) rfl
 clear qc0
 have s6:=hm.size
 refine ⟨hm.mono bM,(fun _=>rfl),?_⟩
 intro o5 hr
 have s7:=hr.size
 have o6:=hid (qB1.mod hr aJ)
 have hmr:=hm.two hr
 have o7:=hid (j5.out.mod hmr aE)
 have o8:=hid (j6.out.mod hmr aE)
 have o9:=hid (j7.out.mod hmr aE)
 clear j5 j6 j7
 clear hmr
 have j9:=hid (j8.out.goM hm hr (fun _ _ h=>h))
 clear j8 hm hr Z act E qB1 j4
 refine QChain.nil fun vs hl hzz hrows hne=>?_
 obtain ⟨Z,hYZ,hZb,hV⟩:=hzz
 have f2:=fvc hV hl 2
 have f5:=fvc hV hl 5
 have f8:=fvc hV hl 8
 rw [show vs=[gw vs 0,gw vs 1,gw vs 2,gw vs 3,gw vs 4,gw vs 5,gw vs 6,gw vs 7,gw vs 8,gw vs 9,gw vs 10,gw vs 11,gw vs 12,gw vs 13,gw vs 14] from (Bv hl).trans rfl]
 have ha0:=HA0.o
 subst ha0
 clear HA0 hV hYZ hZb hsz0 hrows hne c3
 simp only [Ax,Act.put,sIB,sCZ,sCS,List.set_nil,f2,f5,f8]
 clear hl f2 f5 f8
 go_upto_region 2 with (fail)
 refine Aa 16 [15,17] [0,1] (fun a0 HA0=>?_)
 have c3:=ev HA0 1 rfl
 have l7:=ev HA0 2 rfl
 refine QSeq.pure rfl _ (fun E=>Aj rfl C2 rfl (off:=0) (cs:=[.int .i64 x.ep,.int .u64 (x.tm:Nat),Value.slice ao_ops x.ps.length cap_ops,Value.slice ao_oos x.os.length cap_oos,Value.slice ao_ots x.ts.length cap_ots]) aD (E.v c3) (Cs.whole o6.out)) ?_
 refine QSeq.go fun act E=>?_
 refine Ah rfl (Ab rfl) rfl (HB2.o.mod j9.out aJ) (off:=0) (vs:=[.int .i64 x.ep,.int .u64 (x.tm:Nat),Value.slice ao_ops x.ps.length cap_ops,Value.slice ao_oos x.os.length cap_oos,Value.slice ao_ots x.ts.length cap_ots]) aD (by intro u hu;simp only [D9,D4,or_false] at hu;rcases hu with rfl|rfl|rfl|rfl|rfl<;>rfl) (by show 0+5≤5;decide) (E.v l7) (ec (E.d 0 0)) ?_
 intro p4 qc0 hm
 have qB2:=qc0.eqv (b:=#[.int .i64 x.ep,.int .u64 (x.tm:Nat),Value.slice ao_ops x.ps.length cap_ops,Value.slice ao_oos x.os.length cap_oos,Value.slice ao_ots x.ts.length cap_ots]) (Ap _ _ rfl)
 clear qc0
 have p5:=hid qB2
 have s8:=hm.size
 have c4:=hid (show Mod (fun k=>(k=w.heap.size+1)) o5 p4 from hm)
 clear hm
 clear act E qB2 HB2
 refine qe ?_
 clear HA0 c3 l7 a0
 go_wp2
 exact bodyPost_ret (Au rfl _ _ (w.heap.size+1) ([.int .i64 x.ep,.int .u64 (x.tm:Nat),Value.slice ao_ops x.ps.length cap_ops,Value.slice ao_oos x.os.length cap_oos,Value.slice ao_ots x.ts.length cap_ots]) rfl (fun k u hu=>by rw [p5.out.cell];simpa using hu) C2 rfl aD) rfl ⟨_,rfl,⟨_,_,_,rfl,HOK.o,(o7.out.mod c4.out aE).widen bF,(o8.out.mod c4.out aE).widen bF,(o9.out.mod c4.out aE).widen bF⟩,((HM0.o.trans j9.out aE).trans c4.out aE)⟩
def zCe:Ce:=⟨⟨0,0,List.replicate 32 0,0,0,0⟩,[]⟩
def zPm:Pm:=⟨0,0,0,[],0,0⟩
def zBa:Ba:=⟨0,0,[],[],[]⟩
theorem HK_zero:HK (List.replicate 32 0):=by
 refine ⟨by simp,?_⟩
 intro x hx
 simp at hx
 subst hx
 decide
theorem A4:I64 0:=by unfold I64;decide
theorem U64_0:0 < U64:=by unfold U64;decide
theorem zCe_OK:zCe.OK:=⟨⟨A4,A4,A4,A4,A4⟩,HK_zero⟩
theorem zPm_OK:zPm.OK:=⟨A4,A4,U64_0,A4,A4⟩
theorem zBa_OK:zBa.OK:=⟨A4,U64_0⟩
theorem zCe_rd (R:Nat→Prop) (w:World):CeR.rd R w (zCe.cells (.slice none 0 0)) zCe:=⟨_,rfl,zCe_OK,RdS.nil _ _ _⟩
theorem zPm_rd (R:Nat→Prop) (w:World):PmR.rd R w (zPm.cells (.slice none 0 0)) zPm:=⟨_,rfl,zPm_OK,RdS.nil _ _ _⟩
def prB (x:Pr):List Int:=encI x.ep ++ (encI x.rn ++ (encI (IntKind.i64.wrap (x.vl+1)) ++ (encI x.rp ++ (baB x.ba ++ sigB x.sb x.mr))))
theorem I64_wrap (n:Int):I64 (IntKind.i64.wrap n):=by
 have:=bounds_i64 (wf_wrap .i64 n)
 unfold I64
 omega
open Go.Proofs renaming Tryz.func100→va',Tryz.ntmps100→vb',Tryz.underlying37→vd' in
open Go.Gv renaming n'37→vc' in
set_option maxHeartbeats 4000000 in
theorem PutAk_Q:Puts StR 100 stB:=
 fm12'
set_option maxHeartbeats 4000000 in
theorem PutVt_Q:Puts VtR 103 vtB:=by
 intro R R2 g bs cs x w hW hB hx hB2 hD hl
 obtain ⟨rfl,hok⟩:=hx
 have HW:=B5 hW
 have HBR:=B5 hB
 have HBT:=B5 hB2
 have HDJ:=B5 hD
 have HOK:=B5 hok
 have HL:=B5 hl
 clear hW hB hB2 hD hl hok
 unfold vtB at HL
 go_enter Tryz.func103,Tryz.ntmps103
 go_upto_region 1 with (fail)
 obtain ⟨w1,hw1⟩:∃ zz,zz=(w.alloc (.cells (x.cells:List Value).toArray 49)):=⟨_,rfl⟩
 change Code.wp _ _ _ _ (w.alloc (.cells (x.cells:List Value).toArray 49))
 rw [← hw1]
 have HB3:=hid (show Cs w1 (w.heap.size) (x.cells:List Value).toArray 49 by rw [hw1];exact Cs.new _ _ _)
 have hm:Mod (fun _=>False) w w1:=by rw [hw1];exact (Mod.refl _ _).alloc _
 have HM0:=hid (show Mod (fun k=>(R k)) w w1 from hm.mono (fun _ _ h=>h.elim))
 have hs1:w1.heap.size=w.heap.size+1:=by rw [hw1];simp
 have g7:=hid (HW.o.mod hm (fun _ _ h=>h))
 clear HW
 clear hw1 hm
 go_upto_region 1 with (fail)
 generalize ha0:Act.mk _ _=a0
 have c9:a0.eval (.tmp 0)=.pointer (some ⟨g,0,none⟩):=by rw [← ha0];rfl
 have c3:a0.eval (.tmp 3)=.pointer (some ⟨w.heap.size,0,none⟩):=by rw [← ha0];rfl
 have hsz0:a0.tmps.size=24:=by rw [← ha0];rfl
 have HA0:=hid ha0
 clear ha0
 refine A8 24 hsz0 [4,5,6,7,8,9,10,11,12,13,14,15,16,17,18,19] (fun k=>(R k)) (fun k j=>(k=0∧((R j)))∨(k=1∧((R j)))∨(k=2∧((R j)))∨(k=3∧((R j)))∨(k=4∧((R j)))) (by intro k j h;(try dsimp only at h ⊢);rcases h with ⟨-,h⟩|⟨-,h⟩|⟨-,h⟩|⟨-,h⟩|⟨-,h⟩;(exact h);(exact h);(exact h);(exact h);(exact h)) [qi (.pointer (some ⟨g,0,none⟩)),qi (.pointer (some ⟨w.heap.size,0,none⟩)),qi (.int .i64 x.kd),qi (.pointer (some ⟨g,0,none⟩)),qi (.pointer (some ⟨w.heap.size,1,none⟩)),qi (.int .i64 x.ep),qi (.pointer (some ⟨g,0,none⟩)),qi (.pointer (some ⟨w.heap.size,2,none⟩)),qi (.int .i64 x.rd),qi (.pointer (some ⟨g,0,none⟩)),qi (.pointer (some ⟨w.heap.size,3,none⟩)),qi (.int .i64 x.rp),qi (.pointer (some ⟨g,0,none⟩)),qi (.pointer (some ⟨w.heap.size,4,none⟩)),qi (hv x.h),qi (.pointer (some ⟨g,0,none⟩))] ⟨Ad,Ad,Ad,Ad,Ad,Ad,Ad,Ad,Ad,Ad,Ad,Ad,Ad,Ad,Ad,Ad,trivial⟩ [3,6,9,12,15] ⟨?_,?_,?_,?_,?_,?_,?_,?_,?_,?_,?_,?_,?_,?_,?_,?_,trivial⟩ ?_
 ·exact stq (fun E=>Al rfl (E.v c9))
 ·exact stq (fun E=>Ae rfl Tryz.underlying49 rfl aD (E.v c3))
 ·exact stq (fun E=>Af rfl B6 rfl (E.d 1) (Cs.pre1 (HB3.o.mod E.m aN) rfl))
 ·exact Ai rfl
 ·exact stq (fun E=>Ae rfl Tryz.underlying49 rfl aD (E.v c3))
 ·exact stq (fun E=>Af rfl B6 rfl (E.d 4) (Cs.pre1 (HB3.o.mod E.m aN) rfl))
 ·exact Ai rfl
 ·exact stq (fun E=>Ae rfl Tryz.underlying49 rfl aD (E.v c3))
 ·exact stq (fun E=>Af rfl B6 rfl (E.d 7) (Cs.pre1 (HB3.o.mod E.m aN) rfl))
 ·exact Ai rfl
 ·exact stq (fun E=>Ae rfl Tryz.underlying49 rfl aD (E.v c3))
 ·exact stq (fun E=>Af rfl B6 rfl (E.d 10) (Cs.pre1 (HB3.o.mod E.m aN) rfl))
 ·exact Ai rfl
 ·exact stq (fun E=>Ae rfl Tryz.underlying49 rfl aD (E.v c3))
 ·exact stq (fun E=>Aj rfl D5 rfl (off:=4) (cs:=x.h.map bv) gS (E.d 13) (Cs.midA (HB3.o.mod E.m aN) rfl))
 ·exact Ai rfl
 intro c4 hr
 have m7:=hr.size
 have g8:=hid (hr.new (S:=(fun k=>(R k))))
 have g9:=hid (g7.out.mod hr aO)
 clear g7
 clear hr
 refine QChain.go fun Z act E=>?_
 refine Aq (args:=#[.pointer (some ⟨g,0,none⟩),.int .i64 x.kd]) rfl (Ab rfl) rfl D7 (An (E.d 0) (E.d 2)) (Bz g9.out HOK.o.kd aG) ?_
 rintro e c6 ⟨rfl,qwr,hm⟩
 have m8:=hm.size
 refine ⟨_,rfl,hm.mono aX,(fun _=>rfl),?_⟩
 intro c7 hr
 have m9:=hr.size
 have i7:=hid ((qwr.widen (R':=(fun k=>(R k)∨(New c4 c6 k))) (fun _ h=>h) (B9 _)).mod hr bG)
 have i8:=hid (g8.out.goM hm hr (fun _ _ h=>h))
 clear g8 hm hr Z act E qwr g9
 refine QChain.go fun Z act E=>?_
 refine Aq (args:=#[.pointer (some ⟨g,0,none⟩),.int .i64 x.ep]) rfl (Ab rfl) rfl D7 (An (E.d 3) (E.d 5)) (Bz i7.out HOK.o.ep aG) ?_
 rintro e c8 ⟨rfl,qwr,hm⟩
 have n5:=hm.size
 refine ⟨_,rfl,hm.mono bY,(fun _=>rfl),?_⟩
 intro d5 hr
 have n6:=hr.size
 have i9:=hid ((qwr.widen (R':=(fun k=>(R k)∨(New c4 c6 k)∨(New c7 c8 k))) aP (B9 _)).mod hr bE)
 have j0:=hid (i8.out.goM hm hr bZ)
 clear i8 hm hr Z act E qwr i7
 refine QChain.go fun Z act E=>?_
 refine Aq (args:=#[.pointer (some ⟨g,0,none⟩),.int .i64 x.rd]) rfl (Ab rfl) rfl D7 (An (E.d 6) (E.d 8)) (Bz i9.out HOK.o.rd aG) ?_
 rintro e d6 ⟨rfl,qwr,hm⟩
 have n7:=hm.size
 refine ⟨_,rfl,hm.mono fM,(fun _=>rfl),?_⟩
 intro d7 hr
 have n8:=hr.size
 have j3:=hid ((qwr.widen (R':=(fun k=>(R k)∨(New c4 c6 k)∨(New c7 c8 k)∨(New d5 d6 k))) aP (B9 _)).mod hr bU)
 have j4:=hid (j0.out.goM hm hr dG)
 clear j0 hm hr Z act E qwr i9
 refine QChain.go fun Z act E=>?_
 refine Aq (args:=#[.pointer (some ⟨g,0,none⟩),.int .i64 x.rp]) rfl (Ab rfl) rfl D7 (An (E.d 9) (E.d 11)) (Bz j3.out HOK.o.rp aG) ?_
 rintro e d8 ⟨rfl,qwr,hm⟩
 have o4:=hm.size
 refine ⟨_,rfl,hm.mono (by intro k hk h;rcases h with h|h|h|h<;>first|omega|exact Or.inl ⟨bA,Or.inr (Or.inr (Or.inr (Or.inl ⟨rfl,h⟩)))⟩),(fun _=>rfl),?_⟩
 intro d9 hr
 have o5:=hr.size
 have j5:=hid ((qwr.widen (R':=(fun k=>(R k)∨(New c4 c6 k)∨(New c7 c8 k)∨(New d5 d6 k)∨(New d7 d8 k))) aP (B9 _)).mod hr gP)
 have j6:=hid (j4.out.goM hm hr (by intro k h0 h2;rcases h2 with h2|h2|h2|h2<;>first|omega|exact h2))
 clear j4 hm hr Z act E qwr j3
 refine QChain.go fun Z act E=>?_
 refine Aq (args:=#[.pointer (some ⟨g,0,none⟩),hv x.h]) rfl (Ab rfl) rfl Tryz.func130 (An (E.d 12) (E.d 14)) (WHash_Q j5.out HOK.o.h aG) ?_
 rintro e g5 ⟨rfl,qwr,hm⟩
 have o6:=hm.size
 refine ⟨_,rfl,hm.mono (by intro k hk h;rcases h with h|h|h|h|h<;>first|omega|exact Or.inl ⟨bA,Or.inr (Or.inr (Or.inr (Or.inr (⟨rfl,h⟩))))⟩),(fun _=>rfl),?_⟩
 intro j7 hr
 have o7:=hr.size
 have j8:=hid ((qwr.widen (R':=(fun k=>(R k)∨(New c4 c6 k)∨(New c7 c8 k)∨(New d5 d6 k)∨(New d7 d8 k)∨(New d9 g5 k))) aP (B9 _)).mod hr (by intro k h1 h2;rcases h1 with h1|h1|h1|h1|h1|h1<;>first|omega|(have hb:=HBR.o k h1;omega)))
 have j9:=hid (j6.out.goM hm hr (by intro k h0 h2;rcases h2 with h2|h2|h2|h2|h2<;>first|omega|exact h2))
 clear j6 hm hr Z act E qwr j5
 refine QChain.nil fun vs hl hzz hrows hne=>?_
 obtain ⟨Z,hYZ,hZb,hV⟩:=hzz
 have f0:=fvi hV hl 0
 have f3:=fvi hV hl 3
 have f6:=fvi hV hl 6
 have f9:=fvi hV hl 9
 have f12:=fvi hV hl 12
 have f15:=fvi hV hl 15
 rw [show vs=[gw vs 0,gw vs 1,gw vs 2,gw vs 3,gw vs 4,gw vs 5,gw vs 6,gw vs 7,gw vs 8,gw vs 9,gw vs 10,gw vs 11,gw vs 12,gw vs 13,gw vs 14,gw vs 15] from (Bv hl).trans rfl]
 have ha0:=HA0.o
 subst ha0
 clear HA0 hV hYZ hZb hsz0 hrows hne c9 c3
 simp only [Ax,Act.put,sIB,sCZ,sCS,f0,f3,f6,f9,f12,f15]
 clear hl f0 f3 f6 f9 f12 f15
 go_upto_region 2 with (fail)
 refine Aa 24 [20,21,22,23] [0,1,2,3] (fun a0 HA0=>?_)
 have c9:=ev HA0 0 rfl
 have c3:=ev HA0 3 rfl
 refine qmo rfl c9 ?_
 refine qfd rfl 36 Tryz.underlying49 c3 ?_
 refine QSeq.pure rfl _ (fun E=>Aj rfl Tryz.underlying27 rfl (off:=36) (cs:=[.int .i64 x.sb,.int .i64 x.mr]) aD (E.d 1 0) (Cs.postA (m:=32) (k:=0) (HB3.o.mod j9.out aH) fZ rfl rfl)) ?_
 refine QSeq.call rfl rfl Tryz.func131 (PutSig_Q j8.out gK HOK.o.sb HOK.o.mr aG) (fun E=>An (E.d 0 2) (E.d 2 0)) ?_
 rintro e g6 ⟨rfl,qwr,hm⟩
 refine ⟨_,rfl,?_⟩
 have l7:=hid (qwr.widen (R':=(fun k=>(R k)∨(New c4 c6 k)∨(New c7 c8 k)∨(New d5 d6 k)∨(New d7 d8 k)∨(New d9 g5 k)∨(New j7 g6 k))) aP (B9 _))
 have o8:=hm.size
 have l8:=hid (show Mod (fun k=>(R k)∨(New c4 c6 k)∨(New c7 c8 k)∨(New d5 d6 k)∨(New d7 d8 k)∨(New d9 g5 k)) j7 g6 from hm)
 clear hm
 clear qwr j8
 refine qe ?_
 clear HA0 c9 c3 a0
 go_wp2
 go_end0
 have hq:=(l7.out.widen (R':=(fun k=>R k∨New w g6 k)) gQ (B9 _))
 simp only [B8] at hq
 exact ⟨rfl,by simpa only [vtB,B8] using hq,((HM0.o.trans j9.out (fun _ _ h=>h)).trans l8.out gA)⟩
set_option maxHeartbeats 4000000 in
theorem PutEn_Q:Puts EnR 104 enB:=by
 intro R R2 g bs cs x w hW hB hx hB2 hD hl
 obtain ⟨rfl,hok⟩:=hx
 have HW:=B5 hW
 have HBR:=B5 hB
 have HBT:=B5 hB2
 have HDJ:=B5 hD
 have HOK:=B5 hok
 have HL:=B5 hl
 clear hW hB hB2 hD hl hok
 unfold enB at HL
 go_enter Tryz.func104,Tryz.ntmps104
 go_upto_region 1 with (fail)
 obtain ⟨w1,hw1⟩:∃ zz,zz=(w.alloc (.cells (x.cells:List Value).toArray 51)):=⟨_,rfl⟩
 change Code.wp _ _ _ _ (w.alloc (.cells (x.cells:List Value).toArray 51))
 rw [← hw1]
 have HB3:=hid (show Cs w1 (w.heap.size) (x.cells:List Value).toArray 51 by rw [hw1];exact Cs.new _ _ _)
 have hm:Mod (fun _=>False) w w1:=by rw [hw1];exact (Mod.refl _ _).alloc _
 have HM0:=hid (show Mod (fun k=>(R k)) w w1 from hm.mono (fun _ _ h=>h.elim))
 have hs1:w1.heap.size=w.heap.size+1:=by rw [hw1];simp
 have c8:=hid (HW.o.mod hm (fun _ _ h=>h))
 clear HW
 clear hw1 hm
 go_upto_region 1 with (fail)
 refine Aa 15 [4,5,6,7] [0,1,2,3] (fun a0 HA0=>?_)
 have c6:=ev HA0 0 rfl
 have c4:=ev HA0 3 rfl
 refine qmo rfl c6 ?_
 refine qfd rfl 0 Tryz.underlying51 c4 ?_
 refine QSeq.pure rfl _ (fun E=>Aj rfl Tryz.underlying23 rfl (off:=0) (cs:=[.int .i64 x.cl,.int .i64 x.sq]) aD (E.d 1 0) (Cs.preA HB3.o rfl)) ?_
 refine QSeq.call rfl rfl Tryz.func129 (PutName_Q c8.out aL HOK.o.cl HOK.o.sq aG) (fun E=>An (E.d 0 2) (E.d 2 0)) ?_
 rintro e c3 ⟨rfl,qwr,hm⟩
 refine ⟨_,rfl,?_⟩
 have c9:=hid (qwr.widen (R':=(fun k=>(R k)∨(New w1 c3 k))) (fun _ h=>h) (B9 _))
 have i8:=hm.size
 have c7:=hid (show Mod (fun k=>(R k)) w1 c3 from hm)
 clear hm
 clear qwr c8
 refine qe ?_
 clear HA0 c6 c4 a0
 go_upto_region 2 with (fail)
 generalize ha0:Act.mk _ _=a0
 have c6:a0.eval (.tmp 0)=.pointer (some ⟨g,0,none⟩):=by rw [← ha0];rfl
 have c4:a0.eval (.tmp 3)=.pointer (some ⟨w.heap.size,0,none⟩):=by rw [← ha0];rfl
 have hsz0:a0.tmps.size=15:=by rw [← ha0];rfl
 have HA0:=hid ha0
 clear ha0
 refine A8 15 hsz0 [8,9,10,11,12,13,14] (fun k=>(R k)∨(New w1 c3 k)) (fun k j=>(k=0∧((R j)∨(New w1 c3 j)))∨(k=1∧((R j)∨(New w1 c3 j)))) fB [qi (.pointer (some ⟨g,0,none⟩)),qi (.pointer (some ⟨w.heap.size,2,none⟩)),qi (hv x.h),qi (.pointer (some ⟨g,0,none⟩)),qi (.pointer (some ⟨w.heap.size,34,none⟩)),qi (.int .u64 (x.tm:Nat)),qi (.pointer (some ⟨g,0,none⟩))] ⟨Ad,Ad,Ad,Ad,Ad,Ad,Ad,trivial⟩ [3,6] ⟨?_,?_,?_,?_,?_,?_,?_,trivial⟩ ?_
 ·exact stq (fun E=>Al rfl (E.v c6))
 ·exact stq (fun E=>Ae rfl Tryz.underlying51 rfl aD (E.v c4))
 ·exact stq (fun E=>Aj rfl D5 rfl (off:=2) (cs:=x.h.map bv) gS (E.d 1) (Cs.midA ((HB3.o.mod c7.out aH).mod E.m cZ) rfl))
 ·exact Ai rfl
 ·exact stq (fun E=>Ae rfl Tryz.underlying51 rfl aD (E.v c4))
 ·exact stq (fun E=>Af rfl D8 rfl (E.d 4) (AL (m:=32) (k:=0) ((HB3.o.mod c7.out aH).mod E.m cZ) fZ rfl rfl))
 ·exact Ai rfl
 intro d5 hr
 have i9:=hr.size
 have d6:=hid (hr.new (S:=(fun k=>(R k)∨(New w1 c3 k))))
 have d7:=hid (c9.out.mod hr bG)
 clear c9
 clear hr
 refine QChain.go fun Z act E=>?_
 refine Aq (args:=#[.pointer (some ⟨g,0,none⟩),hv x.h]) rfl (Ab rfl) rfl Tryz.func130 (An (E.d 0) (E.d 2)) (WHash_Q d7.out HOK.o.h aG) ?_
 rintro e d8 ⟨rfl,qwr,hm⟩
 have j0:=hm.size
 refine ⟨_,rfl,hm.mono fX,(fun _=>rfl),?_⟩
 intro g6 hr
 have j3:=hr.size
 have d9:=hid ((qwr.widen (R':=(fun k=>(R k)∨(New w1 c3 k)∨(New d5 d8 k))) aP (B9 _)).mod hr bE)
 have g5:=hid (d6.out.goM hm hr (fun _ _ h=>h))
 clear d6 hm hr Z act E qwr d7
 refine QChain.go fun Z act E=>?_
 refine Aq (args:=#[.pointer (some ⟨g,0,none⟩),.int .u64 (x.tm:Nat)]) rfl (Ab rfl) rfl Tryz.func96 (An (E.d 3) (E.d 5)) (WNum_Q d9.out HOK.o.tm aG) ?_
 rintro e g7 ⟨rfl,qwr,hm⟩
 have j4:=hm.size
 refine ⟨_,rfl,hm.mono fU,(fun _=>rfl),?_⟩
 intro g8 hr
 have j5:=hr.size
 have g9:=hid ((qwr.widen (R':=(fun k=>(R k)∨(New w1 c3 k)∨(New d5 d8 k)∨(New g6 g7 k))) aP (B9 _)).mod hr bU)
 have i7:=hid (g5.out.goM hm hr hO)
 clear g5 hm hr Z act E qwr d9
 refine QChain.nil fun vs hl hzz hrows hne=>?_
 obtain ⟨Z,hYZ,hZb,hV⟩:=hzz
 have f0:=fvi hV hl 0
 have f3:=fvi hV hl 3
 have f6:=fvi hV hl 6
 rw [show vs=[gw vs 0,gw vs 1,gw vs 2,gw vs 3,gw vs 4,gw vs 5,gw vs 6] from (Bv hl).trans rfl]
 have ha0:=HA0.o
 subst ha0
 clear HA0 hV hYZ hZb hsz0 hrows hne c6 c4
 simp only [Ax,Act.put,sIB,sCZ,sCS,f0,f3,f6]
 clear hl f0 f3 f6
 go_wp2
 go_end0
 have hq:=(g9.out.widen (R':=(fun k=>R k∨New w g8 k)) dN (B9 _))
 simp only [B8] at hq
 exact ⟨rfl,by simpa only [enB,B8] using hq,((HM0.o.trans c7.out (fun _ _ h=>h)).trans i7.out aC)⟩
set_option maxHeartbeats 4000000 in
theorem PutPr_Q:Puts PrR 102 prB:=by
 intro R R2 g bs cs x w hW hB hx hB2 hD hl
 obtain ⟨v_ps,v_os,v_ts,rfl,hok,hs0,hs1,hs2⟩:=hx
 have HS0:=B5 hs0
 clear hs0
 have HS1:=B5 hs1
 clear hs1
 have HS2:=B5 hs2
 clear hs2
 have HW:=B5 hW
 have HBR:=B5 hB
 have HBT:=B5 hB2
 have HDJ:=B5 hD
 have HOK:=B5 hok
 have HL:=B5 hl
 clear hW hB hB2 hD hl hok
 unfold prB at HL
 go_enter Tryz.func102,Tryz.ntmps102
 go_upto_region 1 with (fail)
 obtain ⟨w1,hw1⟩:∃ zz,zz=(w.alloc (.cells (x.cells v_ps v_os v_ts:List Value).toArray 47)):=⟨_,rfl⟩
 change Code.wp _ _ _ _ (w.alloc (.cells (x.cells v_ps v_os v_ts:List Value).toArray 47))
 rw [← hw1]
 have HB3:=hid (show Cs w1 (w.heap.size) (x.cells v_ps v_os v_ts:List Value).toArray 47 by rw [hw1];exact Cs.new _ _ _)
 have hm:Mod (fun _=>False) w w1:=by rw [hw1];exact (Mod.refl _ _).alloc _
 have HM0:=hid (show Mod (fun k=>(R k)) w w1 from hm.mono (fun _ _ h=>h.elim))
 have hs1:w1.heap.size=w.heap.size+1:=by rw [hw1];simp
 have g8:=hid (HW.o.mod hm (fun _ _ h=>h))
 clear HW
 have j9:=hid (HS0.o.mod hm (fun _ _ h=>h))
 clear HS0
 have l7:=hid (HS1.o.mod hm (fun _ _ h=>h))
 clear HS1
 have l8:=hid (HS2.o.mod hm (fun _ _ h=>h))
 clear HS2
 clear hw1 hm
 go_upto_region 1 with (fail)
 generalize ha0:Act.mk _ _=a0
 have c4:a0.eval (.tmp 0)=.pointer (some ⟨g,0,none⟩):=by rw [← ha0];rfl
 have c3:a0.eval (.tmp 3)=.pointer (some ⟨w.heap.size,0,none⟩):=by rw [← ha0];rfl
 have hsz0:a0.tmps.size=26:=by rw [← ha0];rfl
 have HA0:=hid ha0
 clear ha0
 refine A8 26 hsz0 [4,5,6,7,8,9,10,11,12,13,14,15,16,17] (fun k=>(R k)) (fun k j=>(k=0∧((R j)))∨(k=1∧((R j)))∨(k=2∧((R j)))∨(k=3∧((R j)))) (by intro k j h;(try dsimp only at h ⊢);rcases h with ⟨-,h⟩|⟨-,h⟩|⟨-,h⟩|⟨-,h⟩;(exact h);(exact h);(exact h);(exact h)) [qi (.pointer (some ⟨g,0,none⟩)),qi (.pointer (some ⟨w.heap.size,0,none⟩)),qi (.int .i64 x.ep),qi (.pointer (some ⟨g,0,none⟩)),qi (.pointer (some ⟨w.heap.size,1,none⟩)),qi (.int .i64 x.rn),qi (.pointer (some ⟨g,0,none⟩)),qi (.pointer (some ⟨w.heap.size,2,none⟩)),qi (.int .i64 x.vl),qi (.int .i64 (IntKind.i64.wrap (x.vl+1))),qi (.pointer (some ⟨g,0,none⟩)),qi (.pointer (some ⟨w.heap.size,3,none⟩)),qi (.int .i64 x.rp),qi (.pointer (some ⟨g,0,none⟩))] ⟨Ad,Ad,Ad,Ad,Ad,Ad,Ad,Ad,Ad,Ad,Ad,Ad,Ad,Ad,trivial⟩ [3,6,10,13] ⟨?_,?_,?_,?_,?_,?_,?_,?_,?_,?_,?_,?_,?_,?_,trivial⟩ ?_
 ·exact stq (fun E=>Al rfl (E.v c4))
 ·exact stq (fun E=>Ae rfl C6 rfl aD (E.v c3))
 ·exact stq (fun E=>Af rfl B6 rfl (E.d 1) (AD (HB3.o.mod E.m aN) rfl))
 ·exact Ai rfl
 ·exact stq (fun E=>Ae rfl C6 rfl aD (E.v c3))
 ·exact stq (fun E=>Af rfl B6 rfl (E.d 4) (AD (HB3.o.mod E.m aN) rfl))
 ·exact Ai rfl
 ·exact stq (fun E=>Ae rfl C6 rfl aD (E.v c3))
 ·exact stq (fun E=>Af rfl B6 rfl (E.d 7) (AD (HB3.o.mod E.m aN) rfl))
 ·exact stq (fun E=>ex_bin rfl (E.d 8) rfl (Ag _ _ _ _ _ _) (B2 _ _ B6))
 ·exact Ai rfl
 ·exact stq (fun E=>Ae rfl C6 rfl aD (E.v c3))
 ·exact stq (fun E=>Af rfl B6 rfl (E.d 11) (AD (HB3.o.mod E.m aN) rfl))
 ·exact Ai rfl
 intro c6 hr
 have m9:=hr.size
 have g9:=hid (hr.new (S:=(fun k=>(R k))))
 have i7:=hid (g8.out.mod hr aO)
 clear g8
 clear hr
 refine QChain.go fun Z act E=>?_
 refine Aq (args:=#[.pointer (some ⟨g,0,none⟩),.int .i64 x.ep]) rfl (Ab rfl) rfl D7 (An (E.d 0) (E.d 2)) (Bz i7.out HOK.o.1 aG) ?_
 rintro e c7 ⟨rfl,qwr,hm⟩
 have n5:=hm.size
 refine ⟨_,rfl,hm.mono aX,(fun _=>rfl),?_⟩
 intro c8 hr
 have n6:=hr.size
 have i8:=hid ((qwr.widen (R':=(fun k=>(R k)∨(New c6 c7 k))) (fun _ h=>h) (B9 _)).mod hr bG)
 have i9:=hid (g9.out.goM hm hr (fun _ _ h=>h))
 clear g9 hm hr Z act E qwr i7
 refine QChain.go fun Z act E=>?_
 refine Aq (args:=#[.pointer (some ⟨g,0,none⟩),.int .i64 x.rn]) rfl (Ab rfl) rfl D7 (An (E.d 3) (E.d 5)) (Bz i8.out HOK.o.2.1 aG) ?_
 rintro e c9 ⟨rfl,qwr,hm⟩
 have n7:=hm.size
 refine ⟨_,rfl,hm.mono bY,(fun _=>rfl),?_⟩
 intro d5 hr
 have n8:=hr.size
 have j0:=hid ((qwr.widen (R':=(fun k=>(R k)∨(New c6 c7 k)∨(New c8 c9 k))) aP (B9 _)).mod hr bE)
 have j3:=hid (i9.out.goM hm hr bZ)
 clear i9 hm hr Z act E qwr i8
 refine QChain.go fun Z act E=>?_
 refine Aq (args:=#[.pointer (some ⟨g,0,none⟩),.int .i64 (IntKind.i64.wrap (x.vl+1))]) rfl (Ab rfl) rfl D7 (An (E.d 6) (E.d 9)) (Bz j0.out (I64_wrap _) aG) ?_
 rintro e d6 ⟨rfl,qwr,hm⟩
 have o4:=hm.size
 refine ⟨_,rfl,hm.mono fM,(fun _=>rfl),?_⟩
 intro d9 hr
 have o5:=hr.size
 have j4:=hid ((qwr.widen (R':=(fun k=>(R k)∨(New c6 c7 k)∨(New c8 c9 k)∨(New d5 d6 k))) aP (B9 _)).mod hr bU)
 have j5:=hid (j3.out.goM hm hr dG)
 clear j3 hm hr Z act E qwr j0
 refine QChain.go fun Z act E=>?_
 refine Aq (args:=#[.pointer (some ⟨g,0,none⟩),.int .i64 x.rp]) rfl (Ab rfl) rfl D7 (An (E.d 10) (E.d 12)) (Bz j4.out HOK.o.2.2.2.1 aG) ?_
 rintro e g5 ⟨rfl,qwr,hm⟩
 have o6:=hm.size
 refine ⟨_,rfl,hm.mono (by intro k hk h;rcases h with h|h|h|h<;>first|omega|exact Or.inl ⟨bA,Or.inr (Or.inr (Or.inr (⟨rfl,h⟩)))⟩),(fun _=>rfl),?_⟩
 intro g6 hr
 have o7:=hr.size
 have j6:=hid ((qwr.widen (R':=(fun k=>(R k)∨(New c6 c7 k)∨(New c8 c9 k)∨(New d5 d6 k)∨(New d9 g5 k))) aP (B9 _)).mod hr gP)
 have d7:=hid (j5.out.goM hm hr (by intro k h0 h2;rcases h2 with h2|h2|h2|h2<;>first|omega|exact h2))
 clear j5 hm hr Z act E qwr j4
 refine QChain.nil fun vs hl hzz hrows hne=>?_
 obtain ⟨Z,hYZ,hZb,hV⟩:=hzz
 have f0:=fvi hV hl 0
 have f3:=fvi hV hl 3
 have f6:=fvi hV hl 6
 have f10:=fvi hV hl 10
 have f13:=fvi hV hl 13
 rw [show vs=[gw vs 0,gw vs 1,gw vs 2,gw vs 3,gw vs 4,gw vs 5,gw vs 6,gw vs 7,gw vs 8,gw vs 9,gw vs 10,gw vs 11,gw vs 12,gw vs 13] from (Bv hl).trans rfl]
 have ha0:=HA0.o
 subst ha0
 clear HA0 hV hYZ hZb hsz0 hrows hne c4 c3
 simp only [Ax,Act.put,sIB,sCZ,sCS,f0,f3,f6,f10,f13]
 clear hl f0 f3 f6 f10 f13
 go_upto_region 2 with (fail)
 refine Aa 26 [18,19,20,21] [0,1,2,3] (fun a0 HA0=>?_)
 have c4:=ev HA0 0 rfl
 have c3:=ev HA0 3 rfl
 refine qmo rfl c4 ?_
 refine qfd rfl 4 C6 c3 ?_
 refine QSeq.pure rfl _ (fun E=>Aj rfl C2 rfl (off:=4) (cs:=[.int .i64 x.ba.ep,.int .u64 (x.ba.tm:Nat),v_ps,v_os,v_ts]) aD (E.d 1 0) (Cs.litA (HB3.o.mod d7.out aH) rfl)) ?_
 refine QSeq.call rfl rfl Tryz.func108 (PutBa_Q _ R2 _ _ _ x.ba _ j6.out eH ⟨_,_,_,rfl,HOK.o.2.2.2.2.1,(j9.out.mod d7.out aK),(l7.out.mod d7.out aK),(l8.out.mod d7.out aK)⟩ aR dV aG) (fun E=>An (E.d 0 2) (E.d 2 0)) ?_
 rintro e d8 ⟨rfl,qwr,hm⟩
 refine ⟨_,rfl,?_⟩
 have j7:=hid (qwr.widen (R':=(fun k=>(R k)∨(New c6 c7 k)∨(New c8 c9 k)∨(New d5 d6 k)∨(New d9 g5 k)∨(New g6 d8 k))) aP (B9 _))
 have o8:=hm.size
 have j8:=hid (show Mod (fun k=>(R k)∨(New c6 c7 k)∨(New c8 c9 k)∨(New d5 d6 k)∨(New d9 g5 k)) g6 d8 from hm)
 clear hm
 clear qwr j6
 refine qe ?_
 clear HA0 c4 c3 a0
 go_upto_region 3 with (fail)
 refine Aa 26 [22,23,24,25] [0,1,2,3] (fun a0 HA0=>?_)
 have c4:=ev HA0 0 rfl
 have c3:=ev HA0 3 rfl
 refine qmo rfl c4 ?_
 refine qfd rfl 9 C6 c3 ?_
 refine QSeq.pure rfl _ (fun E=>Aj rfl Tryz.underlying27 rfl (off:=9) (cs:=[.int .i64 x.sb,.int .i64 x.mr]) aD (E.d 1 0) (Cs.litA ((HB3.o.mod d7.out aH).mod j8.out (by intro h2;rcases h2 with h2|h2|h2|h2|h2<;>first|omega|(have hb:=HBR.o _ h2;omega))) rfl)) ?_
 refine QSeq.call rfl rfl Tryz.func131 (PutSig_Q j7.out gK HOK.o.2.2.2.2.2.1 HOK.o.2.2.2.2.2.2 aG) (fun E=>An (E.d 0 2) (E.d 2 0)) ?_
 rintro e g7 ⟨rfl,qwr,hm⟩
 refine ⟨_,rfl,?_⟩
 have m7:=hid (qwr.widen (R':=(fun k=>(R k)∨(New c6 c7 k)∨(New c8 c9 k)∨(New d5 d6 k)∨(New d9 g5 k)∨(New g6 d8 k)∨(New d8 g7 k))) aP (B9 _))
 have o9:=hm.size
 have m8:=hid (show Mod (fun k=>(R k)∨(New c6 c7 k)∨(New c8 c9 k)∨(New d5 d6 k)∨(New d9 g5 k)∨(New g6 d8 k)) d8 g7 from hm)
 clear hm
 clear qwr j7
 refine qe ?_
 clear HA0 c4 c3 a0
 go_wp2
 go_end0
 have hq:=(m7.out.widen (R':=(fun k=>R k∨New w g7 k)) gQ (B9 _))
 simp only [B8] at hq
 exact ⟨rfl,by simpa only [prB,B8] using hq,(((HM0.o.trans d7.out (fun _ _ h=>h)).trans j8.out eA).trans m8.out gA)⟩
open Go.Proofs renaming Tryz.func109→va',Tryz.ntmps109→vb',Tryz.underlying57→vc',Tryz.underlying49→vf',Tryz.func103→vi' in
open Go.Proofs.YtnaoeginonpicaaGreat renaming vtB→vd',VtR→ve',PutVt_Q→vj' in
open Go.Gv renaming z'4→vg',z'5→vh' in
set_option maxHeartbeats 4000000 in
theorem PutList_Vt:PutsL VtR 109 103 vtB:=
 fm2'
/-- a decided round -/
structure Dc where
 ep:Int
 rn:Int
 ba:Ba
 l:List Vt
abbrev Dc.cells (x:Dc) (v_ps v_os v_ts v_l:Value):List Value:=[.int .i64 x.ep,.int .i64 x.rn,.int .i64 x.ba.ep,.int .u64 (x.ba.tm:Nat),v_ps,v_os,v_ts,v_l]
def Dc.OK (x:Dc):Prop:=I64 x.ep∧I64 x.rn∧x.ba.OK
def Dc.rd (R:Nat→Prop) (w:World) (cs:List Value) (x:Dc):Prop:=∃ v_ps v_os v_ts v_l,cs=x.cells v_ps v_os v_ts v_l∧x.OK∧RdS PmR R w v_ps x.ba.ps∧RdS OpR R w v_os x.ba.os∧RdS TbR R w v_ts x.ba.ts∧RdS VtR R w v_l x.l
def DcR:Rep Dc where
 sz:=8
 pos:=by decide
 rd:=Dc.rd
 len h:=by
  obtain ⟨v_ps,v_os,v_ts,v_l,rfl,hok,h0,h1,h2,h3⟩:=h
  rfl
 one h:=by
  obtain ⟨v_ps,v_os,v_ts,v_l,rfl,hok,h0,h1,h2,h3⟩:=h
  obtain ⟨_,_,e_ps⟩:=h0.shape
  obtain ⟨_,_,e_os⟩:=h1.shape
  obtain ⟨_,_,e_ts⟩:=h2.shape
  obtain ⟨_,_,e_l⟩:=h3.shape
  subst e_ps e_os e_ts e_l
  intro u hu
  simp only [Dc.cells,List.mem_append,D9,D4,or_false,List.mem_map] at hu
  rcases hu with rfl|rfl|rfl|rfl|rfl|rfl|rfl|rfl<;>rfl
 keep h hk:=by
  obtain ⟨v_ps,v_os,v_ts,v_l,rfl,hok,h0,h1,h2,h3⟩:=h
  exact ⟨_,_,_,_,rfl,hok,h0.keep hk,h1.keep hk,h2.keep hk,h3.keep hk⟩
 wid h hs:=by
  obtain ⟨v_ps,v_os,v_ts,v_l,rfl,hok,h0,h1,h2,h3⟩:=h
  exact ⟨_,_,_,_,rfl,hok,h0.widen hs,h1.widen hs,h2.widen hs,h3.widen hs⟩
 tight h:=by
  obtain ⟨v_ps,v_os,v_ts,v_l,rfl,hok,h0,h1,h2,h3⟩:=h
  exact ⟨_,_,_,_,rfl,hok,h0.tight,h1.tight,h2.tight,h3.tight⟩
/-- a message -/
structure Mg where
 kd:Int
 fr:Int
 «to»:Int
 cm:Cm
 st:St
 ce:Ce
 ak:St
 ep:Int
 rn:Int
 tm:Nat
 pm:Pm
 pr:Pr
 vt:Vt
 ix:Int
 en:En
 op:Op
 dn:Dn
 rp:ByteArray
 dc:Dc
/-- its cells, part by part -/
def Mg.segs (x:Mg) (c5 c10 c11 c15 c18:List Value):List (List Value):=[[.int .i64 x.kd],[.int .i64 x.fr],[.int .i64 x.to],x.cm.cells,x.st.cells,c5,x.ak.cells,[.int .i64 x.ep],[.int .i64 x.rn],[.int .u64 (x.tm:Nat)],c10,c11,x.vt.cells,[.int .i64 x.ix],x.en.cells,c15,x.dn.cells,[.string x.rp],c18]
structure Mg.OK (x:Mg):Prop where
 kd:I64 x.kd
 fr:I64 x.fr
 «to»:I64 x.to
 cm:x.cm.OK
 st:x.st.OK
 ak:x.ak.OK
 ep:I64 x.ep
 rn:I64 x.rn
 tm:x.tm < U64
 vt:x.vt.OK
 ix:I64 x.ix
 en:x.en.OK
 dn:x.dn.OK
abbrev mgN:List Nat:=[1,1,1,37,38,38,38,1,1,1,6,11,38,1,35,34,4,1,8]
theorem AF {x:Mg} (h:x.OK) {c5 c10 c11 c15 c18:List Value} (h5:c5.length=38) (h10:c10.length=6) (h11:c11.length=11) (h15:c15.length=34) (h18:c18.length=8):(x.segs c5 c10 c11 c15 c18).map List.length=mgN:=by
 simp only [Mg.segs,C9,D0,h5,h10,h11,h15,h18,Cm.len h.cm.2.1,St.len h.st,St.len h.ak,Vt.len h.vt,En.len h.en,C5,C4]
def Mg.rd (R:Nat→Prop) (w:World) (cs:List Value) (x:Mg):Prop:=∃ c5 c10 c11 c15 c18,cs=(x.segs c5 c10 c11 c15 c18).flatten∧x.OK∧CeR.rd R w c5 x.ce∧PmR.rd R w c10 x.pm∧PrR.rd R w c11 x.pr∧OpR.rd R w c15 x.op∧DcR.rd R w c18 x.dc
theorem Mg.lns {x:Mg} (h:x.OK) {R R2 R3 R4 R5:Nat→Prop} {w w2 w3 w4 w5:World} {c5 c10 c11 c15 c18:List Value} (h5:CeR.rd R w c5 x.ce) (h10:PmR.rd R2 w2 c10 x.pm) (h11:PrR.rd R3 w3 c11 x.pr) (h15:OpR.rd R4 w4 c15 x.op) (h18:DcR.rd R5 w5 c18 x.dc):(x.segs c5 c10 c11 c15 c18).map List.length=mgN:=
 AF h (CeR.len h5) (PmR.len h10) (PrR.len h11) (OpR.len h15) (DcR.len h18)
theorem Bb (l:List (List Value)):l.flatten.length=(l.map List.length).sum:=by rw [List.length_flatten]
def MgR:Rep Mg where
 sz:=295
 pos:=by decide
 rd:=Mg.rd
 len h:=by
  obtain ⟨c5,c10,c11,c15,c18,rfl,hok,h5,h10,h11,h15,h18⟩:=h
  rw [Bb,Mg.lns hok h5 h10 h11 h15 h18]
  rfl
 one h:=by
  obtain ⟨c5,c10,c11,c15,c18,rfl,hok,h5,h10,h11,h15,h18⟩:=h
  intro u hu
  obtain ⟨s,hs,hv⟩:=List.mem_flatten.1 hu
  simp only [Mg.segs,D9,D4,or_false] at hs
  rcases hs with rfl|rfl|rfl|rfl|rfl|rfl|rfl|rfl|rfl|rfl|rfl|rfl|rfl|rfl|rfl|rfl|rfl|rfl|rfl
  ·rw [List.mem_singleton] at hv;rw [hv];rfl
  ·rw [List.mem_singleton] at hv;rw [hv];rfl
  ·rw [List.mem_singleton] at hv;rw [hv];rfl
  ·exact Cm_one _ _ hv
  ·exact St.one _ _ hv
  ·exact CeR.one h5 _ hv
  ·exact St.one _ _ hv
  ·rw [List.mem_singleton] at hv;rw [hv];rfl
  ·rw [List.mem_singleton] at hv;rw [hv];rfl
  ·rw [List.mem_singleton] at hv;rw [hv];rfl
  ·exact PmR.one h10 _ hv
  ·exact PrR.one h11 _ hv
  ·exact Vt.one _ _ hv
  ·rw [List.mem_singleton] at hv;rw [hv];rfl
  ·exact En.one _ _ hv
  ·exact OpR.one h15 _ hv
  ·exact Dn.one _ _ hv
  ·rw [List.mem_singleton] at hv;rw [hv];rfl
  ·exact DcR.one h18 _ hv
 keep h hk:=by
  obtain ⟨c5,c10,c11,c15,c18,rfl,hok,h5,h10,h11,h15,h18⟩:=h
  exact ⟨_,_,_,_,_,rfl,hok,CeR.keep h5 hk,PmR.keep h10 hk,PrR.keep h11 hk,OpR.keep h15 hk,DcR.keep h18 hk⟩
 wid h hs:=by
  obtain ⟨c5,c10,c11,c15,c18,rfl,hok,h5,h10,h11,h15,h18⟩:=h
  exact ⟨_,_,_,_,_,rfl,hok,CeR.wid h5 hs,PmR.wid h10 hs,PrR.wid h11 hs,OpR.wid h15 hs,DcR.wid h18 hs⟩
 tight h:=by
  obtain ⟨c5,c10,c11,c15,c18,rfl,hok,h5,h10,h11,h15,h18⟩:=h
  exact ⟨_,_,_,_,_,rfl,hok,CeR.tight h5,PmR.tight h10,PrR.tight h11,OpR.tight h15,DcR.tight h18⟩
theorem Cs.segA {w:World} {g:Nat} {T:TypeId} {segs:List (List Value)} (h:Cs w g segs.flatten.toArray T) {ns:List Nat} (hn:segs.map List.length=ns) (i:Nat) {seg:List Value} (hs:segs[i]? = some seg) {off o k:Nat} {M:List Value} (ho:(ns.take i).sum=o) (hk:off=o+k) (hM:(seg.drop k).take M.length=M):∀ j u,M[j]? = some u→w.cell? ⟨g,off+j,none⟩=some u:=by
 intro j u hu
 subst hk
 rw [Nat.add_assoc]
 refine Cs.seg h hn i hs ho (k+j) u ?_
 rw [← hM,List.getElem?_take] at hu
 split at hu
 ·rw [List.getElem?_drop] at hu;exact hu
 ·cases hu
/-- what a message's kind names -/
def dcB (d:Dc):List Int:=encI d.ep ++ encI d.rn ++ baB d.ba ++ listB vtB d.l
def Bd (x:Mg):List Int:=
 if x.kd=1 then cmB x.cm else
 if x.kd=2 then stB x.st else
 if x.kd=3 then ceB x.ce else
 if x.kd=4 then stB x.ak else
 if x.kd=5 then encI x.ep ++ encI x.rn ++ encN x.tm else
 if x.kd=6 then pmB x.pm else
 if x.kd=7 then prB x.pr else
 if x.kd=8 then vtB x.vt else
 if x.kd=9 then encI x.ix ++ enB x.en else
 if x.kd=10 then opB x.op else
 if x.kd=11 then encI x.ix else
 if x.kd=12 then dnB x.dn else
 if x.kd=13 then encI x.ix ++ (encN (Bw x.rp).length ++ Bw x.rp) else
 if x.kd=14 then dcB x.dc else []
theorem Bl {a b:Int} (h:a=b):(a == b)=true:=by simp [h]
theorem Bk {a b:Int} (h:¬ a=b):(a == b)=false:=by simp [h]
def okKd (k:Int):Bool:=decide (1≤k∧k≤14)
def packB (x:Mg):List Int:=encI x.kd ++ encI x.fr ++ encI x.to ++ Bd x
def packs (x:Mg):Bool:=okKd x.kd && decide ((packB x).length≤65536)
def zH32:List Int:=List.replicate 32 0
def zCm:Cm:=⟨0,0,zH32,0,0,0⟩
def zSt:St:=⟨0,0,0,zH32,0,0,0⟩
def zPr:Pr:=⟨0,0,0,0,zBa,0,0⟩
def zVt:Vt:=⟨0,0,0,0,zH32,0,0⟩
def zEn:En:=⟨0,0,zH32,0⟩
def zOp:Op:=⟨0,[],zH32⟩
def zDn:Dn:=⟨0,0,0,0⟩
def zDc:Dc:=⟨0,0,zBa,[]⟩
def zMg:Mg:=⟨0,0,0,zCm,zSt,zCe,zSt,0,0,0,zPm,zPr,zVt,0,zEn,zOp,zDn,ByteArray.empty,zDc⟩
theorem zCm_OK:zCm.OK:=⟨⟨A4,A4,A4,A4,A4⟩,HK_zero⟩
theorem zSt_OK:zSt.OK:=⟨A4,A4,A4,HK_zero,U64_0,A4,A4⟩
theorem zVt_OK:zVt.OK:=⟨A4,A4,A4,A4,HK_zero,A4,A4⟩
theorem zEn_OK:zEn.OK:=⟨A4,A4,HK_zero,U64_0⟩
theorem zDn_OK:zDn.OK:=⟨A4,A4,A4,A4⟩
theorem zMg_OK:zMg.OK:=⟨A4,A4,A4,zCm_OK,zSt_OK,zSt_OK,A4,A4,U64_0,zVt_OK,A4,zEn_OK,zDn_OK⟩
abbrev zS:Value:=.slice none 0 0
def mg0 (k f t:Int):Mg:={ zMg with kd:=k,fr:=f,«to»:=t }
/-- a message's cells with nothing in it but its kind, whom it is from and to -/
def mg0C (k f t:Int):List Value:=((mg0 k f t).segs (zCe.cells zS) (zPm.cells zS) (zPr.cells zS zS zS) (zOp.cells zS) (zDc.cells zS zS zS zS)).flatten
theorem mg0_rd {k f t:Int} (hk:I64 k) (hf:I64 f) (ht:I64 t) (R:Nat→Prop) (w:World):MgR.rd R w (mg0C k f t) (mg0 k f t):=
 ⟨_,_,_,_,_,rfl,{ zMg_OK with kd:=hk,fr:=hf,«to»:=ht },zCe_rd _ _,zPm_rd _ _,⟨_,_,_,rfl,⟨A4,A4,A4,A4,zBa_OK,A4,A4⟩,RdS.nil _ _ _,RdS.nil _ _ _,RdS.nil _ _ _⟩,
  ⟨_,rfl,⟨A4,HK_zero⟩,⟨⟨(fun b hb=>by cases hb),Rd.nil _ _⟩,(fun h=>absurd h (show ¬ 0 < ([]:List Int).length by decide)),B9 _⟩⟩,⟨_,_,_,_,rfl,⟨A4,A4,zBa_OK⟩,RdS.nil _ _ _,RdS.nil _ _ _,RdS.nil _ _ _,RdS.nil _ _ _⟩⟩
/-- what is asked of a message that is copied: short lists -/
def cpMg (x:Mg):Prop:=cpCe x.ce∧cpPm x.pm∧cpOp x.op∧cpBa x.pr.ba∧cpBa x.dc.ba∧x.dc.l.length≤1000
theorem lay_sub {segs:List (List Value)} {ns:List Nat} (hn:segs.map List.length=ns) (i:Nat) {seg:List Value} (hs:segs[i]? = some seg) {off o k n:Nat} (ho:(ns.take i).sum=o) (hk:off=o+k) {vs:List Value} (hv:vs.length=n) (hl:k+n≤seg.length) :
 lay segs.flatten.toArray off vs=((segs.set i (seg.take k ++ (vs ++ seg.drop (k+n)))).flatten).toArray:=by
 subst hn hk hv
 obtain ⟨a,b,h1,h2,h3⟩:=seg_split segs i hs
 have e1:seg=seg.take k ++ ((seg.drop k).take vs.length ++ seg.drop (k+vs.length)):=by
  rw [← List.drop_drop,List.take_append_drop,List.take_append_drop]
 have h4:=lay_mid (a ++ seg.take k) ((seg.drop k).take vs.length) (seg.drop (k+vs.length) ++ b) vs (by rw [List.length_take,List.length_drop];omega)
 have e2:(a ++ seg.take k).length=o+k:=by rw [C0,List.length_take,h2,ho];omega
 rw [e2] at h4
 rw [h1,h3]
 have e3:a ++ (seg ++ b)=(a ++ seg.take k) ++ ((seg.drop k).take vs.length ++ (seg.drop (k+vs.length) ++ b)):=by
  conv=>lhs;rw [e1]
  simp only [B8]
 rw [e3,h4]
 simp only [B8]
set_option maxHeartbeats 8000000 in
theorem cop_Mg:CopR MgR cpMg 70:=by
 intro R2 x cs w hx hB2 hP
 obtain ⟨c5,c10,c11,c15,c18,rfl,hok,h5,h10,h11,h15,h18⟩:=hx
 have HC5:=hid (CeR.len h5)
 have HC10:=hid (PmR.len h10)
 have HC15:=hid (OpR.len h15)
 have HLN:=hid (Mg.lns hok h5 h10 h11 h15 h18)
 obtain ⟨p_ps,p_os,p_ts,rfl,hokp,hp0,hp1,hp2⟩:=h11
 obtain ⟨d_ps,d_os,d_ts,d_l,rfl,hokd,hd0,hd1,hd2,hd3⟩:=h18
 have H5:=B5 h5
 have H10:=B5 h10
 have H15:=B5 h15
 have HP0:=B5 hp0
 have HP1:=B5 hp1
 have HP2:=B5 hp2
 have HD0:=B5 hd0
 have HD1:=B5 hd1
 have HD2:=B5 hd2
 have HD3:=B5 hd3
 have HBT:=B5 hB2
 have HOK:=B5 hok
 have HOP:=B5 hokp
 have HOD:=B5 hokd
 have HP:=B5 hP
 clear hB2 hok hokp hokd hP h5 h10 h15 hp0 hp1 hp2 hd0 hd1 hd2 hd3
 go_enter Tryz.func70,Tryz.ntmps70
 go_upto_region 1 with (fail)
 obtain ⟨w1,hw1⟩:∃ zz,zz=((w.alloc (.cells ((Mg.segs x c5 c10 (x.pr.cells p_ps p_os p_ts) c15 (x.dc.cells d_ps d_os d_ts d_l)).flatten:List Value).toArray 61)).alloc (.cells ((mg0C 0 0 0):List Value).toArray 61)):=⟨_,rfl⟩
 change Code.wp _ _ _ _ ((w.alloc (.cells ((Mg.segs x c5 c10 (x.pr.cells p_ps p_os p_ts) c15 (x.dc.cells d_ps d_os d_ts d_l)).flatten:List Value).toArray 61)).alloc (.cells ((mg0C 0 0 0):List Value).toArray 61))
 rw [← hw1]
 have HB1:=hid (show Cs w1 (w.heap.size) ((Mg.segs x c5 c10 (x.pr.cells p_ps p_os p_ts) c15 (x.dc.cells d_ps d_os d_ts d_l)).flatten:List Value).toArray 61 by rw [hw1];exact (Cs.new _ _ _).alloc _)
 have HB2:=hid (show Cs w1 (w.heap.size+1) ((mg0C 0 0 0):List Value).toArray 61 by rw [hw1];exact Cs_newN _ _ _ bD)
 have hm:Mod (fun _=>False) w w1:=by rw [hw1];exact ((Mod.refl _ _).alloc _).alloc _
 have HM0:=hid (show Mod (fun _=>False) w w1 from hm.mono (fun _ _ h=>h.elim))
 have hs1:w1.heap.size=w.heap.size+2:=by rw [hw1];simp
 have t9:=hid (H5.o.mod hm (fun _ _ h=>h))
 clear H5
 have u0:=hid (H10.o.mod hm (fun _ _ h=>h))
 clear H10
 have u1:=hid (H15.o.mod hm (fun _ _ h=>h))
 clear H15
 have u2:=hid (HP0.o.mod hm (fun _ _ h=>h))
 clear HP0
 have u3:=hid (HP1.o.mod hm (fun _ _ h=>h))
 clear HP1
 have u4:=hid (HP2.o.mod hm (fun _ _ h=>h))
 clear HP2
 have u5:=hid (HD0.o.mod hm (fun _ _ h=>h))
 clear HD0
 have u6:=hid (HD1.o.mod hm (fun _ _ h=>h))
 clear HD1
 have u7:=hid (HD2.o.mod hm (fun _ _ h=>h))
 clear HD2
 have u9:=hid (HD3.o.mod hm (fun _ _ h=>h))
 clear HD3
 clear hw1 hm
 go_upto_region 1 with (fail)
 generalize ha0:Act.mk _ _=a0
 have c3:a0.eval (.tmp 1)=.pointer (some ⟨w.heap.size,0,none⟩):=by rw [← ha0];rfl
 have hsz0:a0.tmps.size=34:=by rw [← ha0];rfl
 have HA0:=hid ha0
 clear ha0
 refine A8 34 hsz0 [3,4,5,6,7,8,9,10,11,12,44,13,46,14,48] (fun k=>(k=w.heap.size)) (fun k j=>(k=3∧((j=w.heap.size)))∨(k=4∧((j=w.heap.size)))∨(k=5∧((j=w.heap.size)))) dJ [qi (.pointer (some ⟨w.heap.size,78,none⟩)),qi (.agg (c5).toArray),qv 0,qi (.pointer (some ⟨w.heap.size,157,none⟩)),qi (.agg (c10).toArray),qv 1,qi (.pointer (some ⟨w.heap.size,248,none⟩)),qi (.agg (c15).toArray),qv 2,qi (.pointer (some ⟨w.heap.size,78,none⟩)),qv 3,qi (.pointer (some ⟨w.heap.size,157,none⟩)),qv 4,qi (.pointer (some ⟨w.heap.size,248,none⟩)),qv 5] ⟨Ad,Ad,Ar,Ad,Ad,Ar,Ad,Ad,Ar,Ad,Ar,Ad,Ar,Ad,Ar,trivial⟩ [2,5,8,10,12,14] ⟨?_,?_,?_,?_,?_,?_,?_,?_,?_,?_,?_,?_,?_,?_,?_,trivial⟩ ?_
 ·exact stq (fun E=>Ae rfl B7 rfl aD (E.v c3))
 ·refine A5 rfl rfl rfl fun _ _ _ _ _ _ hm0 _ _ hd hub _=>?_
  have h0:=hd ⟨0,.data⟩ bD rfl _ rfl
  refine Bo rfl (Ab rfl) (Aj rfl Tryz.underlying35 rfl (off:=78) (cs:=(c5)) gO h0 (Cs.seg (HB1.o.mod hm0 cB) HLN.o 5 rfl rfl)) QE.refl ?_
  rfl
 ·exact Ai rfl
 ·exact stq (fun E=>Ae rfl B7 rfl aD (E.v c3))
 ·refine A5 rfl rfl rfl fun _ _ _ _ _ _ hm0 _ _ hd hub _=>?_
  have h3:=hd ⟨3,.data⟩ bD rfl _ rfl
  refine Bo rfl (Ab rfl) (Aj rfl Tryz.underlying40 rfl (off:=157) (cs:=(c10)) gJ h3 (Cs.seg (HB1.o.mod hm0 cB) HLN.o 10 rfl rfl)) QE.refl ?_
  rfl
 ·exact Ai rfl
 ·exact stq (fun E=>Ae rfl B7 rfl aD (E.v c3))
 ·refine A5 rfl rfl rfl fun _ _ _ _ _ _ hm0 _ _ hd hub _=>?_
  have h6:=hd ⟨6,.data⟩ bD rfl _ rfl
  refine Bo rfl (Ab rfl) (Aj rfl Tryz.underlying54 rfl (off:=248) (cs:=(c15)) (by rw [HC15.o];kernel_rfl) h6 (Cs.seg (HB1.o.mod hm0 cB) HLN.o 15 rfl rfl)) QE.refl ?_
  rfl
 ·exact Ai rfl
 ·exact stq (fun E=>Ae rfl B7 rfl aD (E.v c3))
 ·exact Ai rfl
 ·exact stq (fun E=>Ae rfl B7 rfl aD (E.v c3))
 ·exact Ai rfl
 ·exact stq (fun E=>Ae rfl B7 rfl aD (E.v c3))
 ·exact Ai rfl
 intro v5 hr
 have y7:=hr.size
 have d6:=hid (hr.new (S:=(fun k=>(k=w.heap.size))))
 have i7:=hid (HB1.o.mod hr aJ)
 clear HB1
 clear hr
 refine QChain.go fun Z act E=>?_
 refine Aq (args:=#[.agg (c5).toArray]) rfl (Ab rfl) rfl Tryz.func110 (A0 (E.d 1)) (cop_Ce R2 _ _ _ (t9.out.mod d6.out (sB HBT)) aR HP.o.1) ?_
 rintro e v6 ⟨cn5,rfl,qn5,hm⟩
 have HLn5:=hid (CeR.len qn5)
 have HOn5:=hid (CeR.one qn5)
 have y8:=hm.size
 refine ⟨_,rfl,hm.mono (fun _ _ h=>h.elim),(fun _=>rfl),?_⟩
 intro v7 hr
 have z0:=hr.size
 have i8:=hid ((qn5.widen (R':=(fun k=>(New v5 v6 k))) (fun _ h=>h)).mod hr aE)
 have hmr:=Mod.after hm hr
 have i9:=hid (i7.out.mod hmr aJ)
 clear i7
 clear hmr
 have d7:=hid (d6.out.go hm hr)
 clear d6 hm hr Z act E qn5
 refine QChain.go fun Z act E=>?_
 refine Aq (args:=#[.agg (c10).toArray]) rfl (Ab rfl) rfl Tryz.func111 (A0 (E.d 4)) (cop_Pm R2 _ _ _ (u0.out.mod d7.out (sB HBT)) aR HP.o.2.1) ?_
 rintro e v8 ⟨cn10,rfl,qn10,hm⟩
 have HLn10:=hid (PmR.len qn10)
 have HOn10:=hid (PmR.one qn10)
 have z7:=hm.size
 refine ⟨_,rfl,hm.mono (fun _ _ h=>h.elim),(fun _=>rfl),?_⟩
 intro x4 hr
 have z9:=hr.size
 have j0:=hid ((qn10.widen (R':=(fun k=>(New v7 v8 k))) (fun _ h=>h)).mod hr aE)
 have hmr:=Mod.after hm hr
 have j3:=hid (i9.out.mod hmr aJ)
 have j4:=hid (i8.out.mod hmr aE)
 clear i9 i8
 clear hmr
 have d8:=hid (d7.out.go hm hr)
 clear d7 hm hr Z act E qn10
 refine QChain.go fun Z act E=>?_
 refine Aq (args:=#[.agg (c15).toArray]) rfl (Ab rfl) rfl Tryz.func112 (A0 (E.d 7)) (cop_Op R2 _ _ _ (u1.out.mod d8.out (sB HBT)) aR HP.o.2.2.1) ?_
 rintro e x5 ⟨cn15,rfl,qn15,hm⟩
 have HLn15:=hid (OpR.len qn15)
 have HOn15:=hid (OpR.one qn15)
 have aa:=hm.size
 refine ⟨_,rfl,hm.mono (fun _ _ h=>h.elim),(fun _=>rfl),?_⟩
 intro ab hr
 have ac:=hr.size
 have j5:=hid ((qn15.widen (R':=(fun k=>(New x4 x5 k))) (fun _ h=>h)).mod hr aE)
 have hmr:=Mod.after hm hr
 have j6:=hid (j3.out.mod hmr aJ)
 have j7:=hid (j4.out.mod hmr aE)
 have j8:=hid (j0.out.mod hmr aE)
 clear j3 j4 j0
 clear hmr
 have j9:=hid (d8.out.go hm hr)
 clear d8 hm hr Z act E qn15
 refine QChain.go fun Z act E=>?_
 refine Ah rfl (Ab rfl) rfl j6.out (off:=78) (vs:=cn5) (by rw [HLn5.o];kernel_rfl) HOn5.o (by rw [C3,Bb,(AF HOK.o HC5.o HC10.o rfl HC15.o rfl)];show 78+_≤295;rw [HLn5.o];decide) (E.d 9) (ec (chv (v:=.agg cn5.toArray) (E.d 2))) ?_
 intro ae qc0 hm
 have qB1:=qc0.eqv (b:=((Mg.segs x cn5 c10 (x.pr.cells p_ps p_os p_ts) c15 (x.dc.cells d_ps d_os d_ts d_l)).flatten:List Value).toArray) ((A2 (AF HOK.o HC5.o HC10.o rfl HC15.o rfl) 5 (by rw [HLn5.o];rfl) rfl).trans rfl)
 clear qc0
 have af:=hm.size
 refine ⟨hm.mono bM,(fun _=>rfl),?_⟩
 intro ag hr
 have ah:=hr.size
 have l7:=hid (qB1.mod hr aJ)
 have hmr:=hm.two hr
 have l8:=hid (j7.out.mod hmr aE)
 have m7:=hid (j8.out.mod hmr aE)
 have m8:=hid (j5.out.mod hmr aE)
 clear j7 j8 j5
 clear hmr
 have m9:=hid (j9.out.goM hm hr (fun _ _ h=>h))
 clear j9 hm hr Z act E qB1 j6
 refine QChain.go fun Z act E=>?_
 refine Ah rfl (Ab rfl) rfl l7.out (off:=157) (vs:=cn10) (by rw [HLn10.o];kernel_rfl) HOn10.o (by rw [C3,Bb,(AF HOK.o HLn5.o HC10.o rfl HC15.o rfl)];show 157+_≤295;rw [HLn10.o];decide) (E.d 11) (ec (chv (v:=.agg cn10.toArray) (E.d 5))) ?_
 intro ai qc0 hm
 have qB1:=qc0.eqv (b:=((Mg.segs x cn5 cn10 (x.pr.cells p_ps p_os p_ts) c15 (x.dc.cells d_ps d_os d_ts d_l)).flatten:List Value).toArray) ((A2 (AF HOK.o HLn5.o HC10.o rfl HC15.o rfl) 10 (by rw [HLn10.o];rfl) rfl).trans rfl)
 clear qc0
 have aj:=hm.size
 refine ⟨hm.mono bM,(fun _=>rfl),?_⟩
 intro am hr
 have ap:=hr.size
 have n5:=hid (qB1.mod hr aJ)
 have hmr:=hm.two hr
 have n6:=hid (l8.out.mod hmr aE)
 have n7:=hid (m7.out.mod hmr aE)
 have n8:=hid (m8.out.mod hmr aE)
 clear l8 m7 m8
 clear hmr
 have o4:=hid (m9.out.goM hm hr (fun _ _ h=>h))
 clear m9 hm hr Z act E qB1 l7
 refine QChain.go fun Z act E=>?_
 refine Ah rfl (Ab rfl) rfl n5.out (off:=248) (vs:=cn15) (by rw [HLn15.o];kernel_rfl) HOn15.o (by rw [C3,Bb,(AF HOK.o HLn5.o HLn10.o rfl HC15.o rfl)];show 248+_≤295;rw [HLn15.o];decide) (E.d 13) (ec (chv (v:=.agg cn15.toArray) (E.d 8))) ?_
 intro aq qc0 hm
 have qB1:=qc0.eqv (b:=((Mg.segs x cn5 cn10 (x.pr.cells p_ps p_os p_ts) cn15 (x.dc.cells d_ps d_os d_ts d_l)).flatten:List Value).toArray) ((A2 (AF HOK.o HLn5.o HLn10.o rfl HC15.o rfl) 15 (by rw [HLn15.o];rfl) rfl).trans rfl)
 clear qc0
 have ar:=hm.size
 refine ⟨hm.mono bM,(fun _=>rfl),?_⟩
 intro x6 hr
 have au:=hr.size
 have d9:=hid (qB1.mod hr aJ)
 have hmr:=hm.two hr
 have o5:=hid (n6.out.mod hmr aE)
 have o6:=hid (n7.out.mod hmr aE)
 have o7:=hid (n8.out.mod hmr aE)
 clear n6 n7 n8
 clear hmr
 have c4:=hid (o4.out.goM hm hr (fun _ _ h=>h))
 clear o4 hm hr Z act E qB1 n5
 refine QChain.nil fun vs hl hzz hrows hne=>?_
 obtain ⟨Z,hYZ,hZb,hV⟩:=hzz
 have f2:=fvc hV hl 2
 have f5:=fvc hV hl 5
 have f8:=fvc hV hl 8
 rw [show vs=[gw vs 0,gw vs 1,gw vs 2,gw vs 3,gw vs 4,gw vs 5,gw vs 6,gw vs 7,gw vs 8,gw vs 9,gw vs 10,gw vs 11,gw vs 12,gw vs 13,gw vs 14] from (Bv hl).trans rfl]
 have ha0:=HA0.o
 subst ha0
 clear HA0 hV hYZ hZb hsz0 hrows hne c3
 simp only [Ax,Act.put,sIB,sCZ,sCS,List.set_nil,f2,f5,f8]
 clear hl f2 f5 f8
 go_upto_region 2 with (fail)
 refine Aa 34 [15,16,17,18,19,20,40] [0,1,2,3,4,5,6] (fun a0 HA0=>?_)
 have c3:=ev HA0 1 rfl
 refine qfd rfl 163 B7 c3 ?_
 refine QSeq.pure rfl (.pointer (some ⟨w.heap.size,167,none⟩)) (fun E=>Ae rfl C6 rfl aD (E.d 0 0)) ?_
 refine QSeq.pure rfl _ (fun E=>Aj rfl C2 rfl (off:=167) (cs:=[.int .i64 x.pr.ba.ep,.int .u64 (x.pr.ba.tm:Nat),p_ps,p_os,p_ts]) aD (E.d 1 0) (Cs.segA d9.out (AF HOK.o HLn5.o HLn10.o rfl HLn15.o rfl) 11 rfl (o:=163) (k:=4) rfl rfl rfl)) ?_
 refine QSeq.call rfl rfl Tryz.func113 (cop_Ba R2 _ _ _ ⟨_,_,_,rfl,HOP.o.2.2.2.2.1,(u2.out.mod c4.out (sB HBT)),(u3.out.mod c4.out (sB HBT)),(u4.out.mod c4.out (sB HBT))⟩ aR HP.o.2.2.2.1) (fun E=>A0 (E.d 2 0)) ?_
 rintro e x7 ⟨cbe,rfl,qe0,hm⟩
 have HOe:=hid (BaR.one qe0)
 obtain ⟨e_ps,e_os,e_ts,rfl,hokb,qe0,qe1,qe2⟩:=qe0
 clear hokb
 refine ⟨_,rfl,?_⟩
 have o8:=hid qe0
 have o9:=hid qe1
 have p4:=hid qe2
 have av:=hm.size
 have g5:=hid (show Mod (fun _=>False) x6 x7 from hm)
 clear hm
 clear qe0 qe1 qe2
 refine qfd rfl 163 B7 c3 ?_
 refine QSeq.pure rfl (.pointer (some ⟨w.heap.size,167,none⟩)) (fun E=>Ae rfl C6 rfl aD (E.d 4 0)) ?_
 refine QSeq.go fun act E=>?_
 refine Ah rfl (Ab rfl) rfl (d9.out.mod g5.out (fun h=>h)) (off:=167) (vs:=[.int .i64 x.pr.ba.ep,.int .u64 (x.pr.ba.tm:Nat),e_ps,e_os,e_ts]) aD HOe.o (by rw [C3,Bb,(AF HOK.o HLn5.o HLn10.o rfl HLn15.o rfl)];show 167+5≤295;decide) (E.d 5 0) (ec (E.d 3 2)) ?_
 intro aw qc0 hm
 have qB1:=qc0.eqv (b:=((Mg.segs x cn5 cn10 (x.pr.cells e_ps e_os e_ts) cn15 (x.dc.cells d_ps d_os d_ts d_l)).flatten:List Value).toArray) ((lay_sub (AF HOK.o HLn5.o HLn10.o rfl HLn15.o rfl) 11 rfl (o:=163) (k:=4) (n:=5) rfl rfl rfl (by show 4+5≤11;decide)).trans rfl)
 clear qc0
 have c9:=hid qB1
 have ax:=hm.size
 have d5:=hid hm
 have c6:=hid (AB (S':=(fun k=>(k=w.heap.size))) g5.out hm (fun _ h=>h.elim) aQ)
 clear hm g5
 clear act E qB1 d9
 have p5:=hid (o8.out.mod d5.out aE)
 have p6:=hid (o9.out.mod d5.out aE)
 have p7:=hid (p4.out.mod d5.out aE)
 clear o8 o9 p4 d5
 refine qe ?_
 clear HA0 c3 a0
 go_upto_region 3 with (fail)
 generalize ha0:Act.mk _ _=a0
 have c3:a0.eval (.tmp 1)=.pointer (some ⟨w.heap.size,0,none⟩):=by rw [← ha0];rfl
 have hsz0:a0.tmps.size=34:=by rw [← ha0];rfl
 have HA0:=hid ha0
 clear ha0
 refine A8 34 hsz0 [21,22,23,24,25,26,27,28,29,30,44,31,32,47] (fun k=>(k=w.heap.size)) (fun k j=>(k=2∧((j=w.heap.size)))∨(k=3∧((j=w.heap.size)))) dJ [qi (.pointer (some ⟨w.heap.size,287,none⟩)),qi (.pointer (some ⟨w.heap.size,289,none⟩)),qi (.agg #[.int .i64 x.dc.ba.ep,.int .u64 (x.dc.ba.tm:Nat),d_ps,d_os,d_ts]),qv 0,qi (.pointer (some ⟨w.heap.size,287,none⟩)),qi (.pointer (some ⟨w.heap.size,294,none⟩)),qi (d_l),qv 1,qi (.pointer (some ⟨w.heap.size,287,none⟩)),qi (.pointer (some ⟨w.heap.size,289,none⟩)),qv 2,qi (.pointer (some ⟨w.heap.size,287,none⟩)),qi (.pointer (some ⟨w.heap.size,294,none⟩)),qv 3] ⟨Ad,Ad,Ad,Ar,Ad,Ad,Ad,Ar,Ad,Ad,Ar,Ad,Ad,Ar,trivial⟩ [3,7,10,13] ⟨?_,?_,?_,?_,?_,?_,?_,?_,?_,?_,?_,?_,?_,?_,trivial⟩ ?_
 ·exact stq (fun E=>Ae rfl B7 rfl aD (E.v c3))
 ·exact stq (fun E=>Ae rfl D3 rfl aD (E.d 0))
 ·refine A5 rfl rfl rfl fun _ _ _ _ _ _ hm0 _ _ hd hub _=>?_
  have h1:=hd ⟨1,.data⟩ bD rfl _ rfl
  refine Bo rfl (Ab rfl) (Aj rfl C2 rfl (off:=289) (cs:=[.int .i64 x.dc.ba.ep,.int .u64 (x.dc.ba.tm:Nat),d_ps,d_os,d_ts]) aD h1 (Cs.segA (c9.out.mod hm0 gX) (AF HOK.o HLn5.o HLn10.o rfl HLn15.o rfl) 18 rfl (o:=287) (k:=2) rfl rfl rfl)) QE.refl ?_
  rfl
 ·exact Ai rfl
 ·exact stq (fun E=>Ae rfl B7 rfl aD (E.v c3))
 ·exact stq (fun E=>Ae rfl D3 rfl aD (E.d 4))
 ·refine A5 rfl rfl rfl fun _ _ _ _ _ _ hm0 _ _ hd hub _=>?_
  have h5:=hd ⟨5,.data⟩ bD rfl _ rfl
  refine Bo rfl (Ab rfl) (Af rfl Tryz.underlying57 rfl h5 (AE (c9.out.mod hm0 gX) (AF HOK.o HLn5.o HLn10.o rfl HLn15.o rfl) 18 rfl (o:=287) (k:=7) rfl rfl rfl)) QE.refl ?_
  rfl
 ·exact Ai rfl
 ·exact stq (fun E=>Ae rfl B7 rfl aD (E.v c3))
 ·exact stq (fun E=>Ae rfl D3 rfl aD (E.d 8))
 ·exact Ai rfl
 ·exact stq (fun E=>Ae rfl B7 rfl aD (E.v c3))
 ·exact stq (fun E=>Ae rfl D3 rfl aD (E.d 11))
 ·exact Ai rfl
 intro g6 hr
 have ay:=hr.size
 have c8:=hid (hr.new (S:=(fun k=>(k=w.heap.size))))
 have p8:=hid (c9.out.mod hr aJ)
 clear c9
 clear hr
 refine QChain.go fun Z act E=>?_
 refine Aq (args:=#[.agg #[.int .i64 x.dc.ba.ep,.int .u64 (x.dc.ba.tm:Nat),d_ps,d_os,d_ts]]) rfl (Ab rfl) rfl Tryz.func113 (A0 (E.d 2)) (cop_Ba R2 _ _ _ ⟨_,_,_,rfl,HOD.o.2.2,(((u5.out.mod c4.out (sB HBT)).mod c6.out (sB HBT)).mod c8.out (sB HBT)),(((u6.out.mod c4.out (sB HBT)).mod c6.out (sB HBT)).mod c8.out (sB HBT)),(((u7.out.mod c4.out (sB HBT)).mod c6.out (sB HBT)).mod c8.out (sB HBT))⟩ aR HP.o.2.2.2.2.1) ?_
 rintro e g7 ⟨cbf,rfl,qf0,hm⟩
 have HOf:=hid (BaR.one qf0)
 obtain ⟨f_ps,f_os,f_ts,rfl,hokb,qf0,qf1,qf2⟩:=qf0
 clear hokb
 have az:=hm.size
 refine ⟨_,rfl,hm.mono (fun _ _ h=>h.elim),(fun _=>rfl),?_⟩
 intro x8 hr
 have bc:=hr.size
 have p9:=hid ((qf0.widen (R':=(fun k=>(New g6 g7 k))) (fun _ h=>h)).mod hr aE)
 have q6:=hid ((qf1.widen (R':=(fun k=>(New g6 g7 k))) (fun _ h=>h)).mod hr aE)
 have q7:=hid ((qf2.widen (R':=(fun k=>(New g6 g7 k))) (fun _ h=>h)).mod hr aE)
 have hmr:=Mod.after hm hr
 have q8:=hid (p8.out.mod hmr aJ)
 clear p8
 clear hmr
 have g8:=hid (c8.out.go hm hr)
 clear c8 hm hr Z act E qf0 qf1 qf2
 refine QChain.go fun Z act E=>?_
 refine Aq (args:=#[d_l,.func (.func 115) #[] #[]]) rfl (Ab rfl) rfl Tryz.func114 (An (E.d 6) rfl) (copied_Vt _ x.dc.l _ _ (((u9.out.mod c4.out (sB HBT)).mod c6.out (sB HBT)).mod g8.out (sB HBT)) aR HP.o.2.2.2.2.2 (fun _ _=>trivial)) ?_
 rintro e x9 ⟨vg,rfl,qg,hm⟩
 obtain ⟨ao_g,cap_g,rfl⟩:=qg.shape
 have bf:=hm.size
 refine ⟨_,rfl,hm.mono (fun _ _ h=>h.elim),(fun _=>rfl),?_⟩
 intro bg hr
 have bh:=hr.size
 have q9:=hid ((qg.widen (R':=(fun k=>(New x8 x9 k))) (fun _ h=>h)).mod hr aE)
 have hmr:=Mod.after hm hr
 have r3:=hid (q8.out.mod hmr aJ)
 have r4:=hid (p9.out.mod hmr aE)
 have r5:=hid (q6.out.mod hmr aE)
 have r6:=hid (q7.out.mod hmr aE)
 clear q8 p9 q6 q7
 clear hmr
 have r7:=hid (g8.out.go hm hr)
 clear g8 hm hr Z act E qg
 refine QChain.go fun Z act E=>?_
 refine Ah rfl (Ab rfl) rfl r3.out (off:=289) (vs:=[.int .i64 x.dc.ba.ep,.int .u64 (x.dc.ba.tm:Nat),f_ps,f_os,f_ts]) aD HOf.o (by rw [C3,Bb,(AF HOK.o HLn5.o HLn10.o rfl HLn15.o rfl)];show 289+5≤295;decide) (E.d 9) (ec (chv (v:=.agg #[.int .i64 x.dc.ba.ep,.int .u64 (x.dc.ba.tm:Nat),f_ps,f_os,f_ts]) (E.d 3))) ?_
 intro bi qc0 hm
 have qB1:=qc0.eqv (b:=((Mg.segs x cn5 cn10 (x.pr.cells e_ps e_os e_ts) cn15 (x.dc.cells f_ps f_os f_ts d_l)).flatten:List Value).toArray) ((lay_sub (AF HOK.o HLn5.o HLn10.o rfl HLn15.o rfl) 18 rfl (o:=287) (k:=2) (n:=5) rfl rfl rfl (by show 2+5≤8;decide)).trans rfl)
 clear qc0
 have bj:=hm.size
 refine ⟨hm.mono bM,(fun _=>rfl),?_⟩
 intro bk hr
 have bl:=hr.size
 have r8:=hid (qB1.mod hr aJ)
 have hmr:=hm.two hr
 have r9:=hid (r4.out.mod hmr aE)
 have s0:=hid (r5.out.mod hmr aE)
 have s5:=hid (r6.out.mod hmr aE)
 have s6:=hid (q9.out.mod hmr aE)
 clear r4 r5 r6 q9
 clear hmr
 have s7:=hid (r7.out.goM hm hr (fun _ _ h=>h))
 clear r7 hm hr Z act E qB1 r3
 refine QChain.go fun Z act E=>?_
 refine Ah rfl (Ab rfl) rfl r8.out (off:=294) (vs:=[Value.slice ao_g x.dc.l.length cap_g]) aD one1 (by rw [C3,Bb,(AF HOK.o HLn5.o HLn10.o rfl HLn15.o rfl)];show 294+1≤295;decide) (E.d 12) (ec (chv (v:=.slice ao_g x.dc.l.length cap_g) (E.d 7))) ?_
 intro bm qc0 hm
 have qB1:=qc0.eqv (b:=((Mg.segs x cn5 cn10 (x.pr.cells e_ps e_os e_ts) cn15 (x.dc.cells f_ps f_os f_ts (Value.slice ao_g x.dc.l.length cap_g))).flatten:List Value).toArray) ((lay_sub (AF HOK.o HLn5.o HLn10.o rfl HLn15.o rfl) 18 rfl (o:=287) (k:=7) (n:=1) rfl rfl rfl (by show 7+1≤8;decide)).trans rfl)
 clear qc0
 have bn:=hm.size
 refine ⟨hm.mono bM,(fun _=>rfl),?_⟩
 intro g9 hr
 have bp:=hr.size
 have y0:=hid (qB1.mod hr aJ)
 have hmr:=hm.two hr
 have s8:=hid (r9.out.mod hmr aE)
 have t0:=hid (s0.out.mod hmr aE)
 have t1:=hid (s5.out.mod hmr aE)
 have t2:=hid (s6.out.mod hmr aE)
 clear r9 s0 s5 s6
 clear hmr
 have c7:=hid (s7.out.goM hm hr (fun _ _ h=>h))
 clear s7 hm hr Z act E qB1 r8
 refine QChain.nil fun vs hl hzz hrows hne=>?_
 obtain ⟨Z,hYZ,hZb,hV⟩:=hzz
 have f3:=fvc hV hl 3
 have f7:=fvc hV hl 7
 rw [show vs=[gw vs 0,gw vs 1,gw vs 2,gw vs 3,gw vs 4,gw vs 5,gw vs 6,gw vs 7,gw vs 8,gw vs 9,gw vs 10,gw vs 11,gw vs 12,gw vs 13] from (Bv hl).trans rfl]
 have ha0:=HA0.o
 subst ha0
 clear HA0 hV hYZ hZb hsz0 hrows hne c3
 simp only [Ax,Act.put,sIB,sCZ,sCS,List.set_nil,f3,f7]
 clear hl f3 f7
 have HSZ:=hid (show ((Mg.segs x cn5 cn10 (x.pr.cells e_ps e_os e_ts) cn15 (x.dc.cells f_ps f_os f_ts (Value.slice ao_g x.dc.l.length cap_g))).flatten).length=295 by rw [Bb,(AF HOK.o HLn5.o HLn10.o rfl HLn15.o rfl)];rfl)
 have HRM:=hid (show MgR.rd (fun k=>(New w1 g9 k)) g9 ((Mg.segs x cn5 cn10 (x.pr.cells e_ps e_os e_ts) cn15 (x.dc.cells f_ps f_os f_ts (Value.slice ao_g x.dc.l.length cap_g))).flatten) x from ⟨_,_,_,_,_,rfl,HOK.o,((o5.out.mod c6.out aE).mod c7.out aE).widen bF,((o6.out.mod c6.out aE).mod c7.out aE).widen bF,⟨_,_,_,rfl,HOP.o,(p5.out.mod c7.out aE).widen bF,(p6.out.mod c7.out aE).widen bF,(p7.out.mod c7.out aE).widen bF⟩,((o7.out.mod c6.out aE).mod c7.out aE).widen bF,⟨_,_,_,_,rfl,HOD.o,s8.out.widen bF,t0.out.widen bF,t1.out.widen bF,t2.out.widen bF⟩⟩)
 have HON:=hid (MgR.one HRM.o)
 clear o5
 clear o6
 clear o7
 clear p5
 clear p6
 clear p7
 clear s8
 clear t0
 clear t1
 clear t2
 go_upto_region 4 with (fail)
 refine Aa 34 [33,35] [0,1] (fun a0 HA0=>?_)
 have c3:=ev HA0 1 rfl
 have t4:=ev HA0 2 rfl
 refine QSeq.pure rfl _ (fun E=>Aj rfl B7 rfl (off:=0) (cs:=((Mg.segs x cn5 cn10 (x.pr.cells e_ps e_os e_ts) cn15 (x.dc.cells f_ps f_os f_ts (Value.slice ao_g x.dc.l.length cap_g))).flatten)) bX (E.v c3) (Cs.whole y0.out)) ?_
 refine QSeq.go fun act E=>?_
 refine Ah rfl (Ab rfl) rfl (((HB2.o.mod c4.out aJ).mod c6.out aJ).mod c7.out aJ) (off:=0) (vs:=((Mg.segs x cn5 cn10 (x.pr.cells e_ps e_os e_ts) cn15 (x.dc.cells f_ps f_os f_ts (Value.slice ao_g x.dc.l.length cap_g))).flatten)) bX HON.o dQ (E.v t4) (ec (E.d 0 0)) ?_
 intro y5 qc0 hm
 have qB2:=qc0.eqv (b:=(((Mg.segs x cn5 cn10 (x.pr.cells e_ps e_os e_ts) cn15 (x.dc.cells f_ps f_os f_ts (Value.slice ao_g x.dc.l.length cap_g))).flatten):List Value).toArray) (Ap _ _ gD)
 clear qc0
 have y6:=hid qB2
 have bq:=hm.size
 have t8:=hid (show Mod (fun k=>(k=w.heap.size+1)) g9 y5 from hm)
 clear hm
 clear act E qB2 HB2
 refine qe ?_
 clear HA0 c3 t4 a0
 go_wp2
 exact bodyPost_ret (Au rfl _ _ (w.heap.size+1) ((Mg.segs x cn5 cn10 (x.pr.cells e_ps e_os e_ts) cn15 (x.dc.cells f_ps f_os f_ts (Value.slice ao_g x.dc.l.length cap_g))).flatten) rfl (fun k u hu=>by rw [y6.out.cell];simpa using hu) B7 rfl bX) rfl ⟨_,rfl,(HRM.o.mod t8.out aE).widen cJ,((((HM0.o.trans c4.out aE).trans c6.out aE).trans c7.out aE).trans t8.out aE)⟩
/-- a message with what its kind names alone -/
def B4 (x:Mg):Mg:=
 if x.kd=1 then { mg0 x.kd x.fr x.to with cm:=x.cm } else
 if x.kd=2 then { mg0 x.kd x.fr x.to with st:=x.st } else
 if x.kd=3 then { mg0 x.kd x.fr x.to with ce:=x.ce } else
 if x.kd=4 then { mg0 x.kd x.fr x.to with ak:=x.ak } else
 if x.kd=5 then { mg0 x.kd x.fr x.to with ep:=x.ep,rn:=x.rn,tm:=x.tm } else
 if x.kd=6 then { mg0 x.kd x.fr x.to with pm:=x.pm } else
 if x.kd=7 then { mg0 x.kd x.fr x.to with pr:=x.pr } else
 if x.kd=8 then { mg0 x.kd x.fr x.to with vt:=x.vt } else
 if x.kd=9 then { mg0 x.kd x.fr x.to with ix:=x.ix,en:=x.en } else
 if x.kd=10 then { mg0 x.kd x.fr x.to with op:=x.op } else
 if x.kd=11 then { mg0 x.kd x.fr x.to with ix:=x.ix } else
 if x.kd=12 then { mg0 x.kd x.fr x.to with dn:=x.dn } else
 if x.kd=13 then { mg0 x.kd x.fr x.to with ix:=x.ix,rp:=x.rp } else
 if x.kd=14 then { mg0 x.kd x.fr x.to with dc:=x.dc } else
 zMg
end Go.Proofs.YtnaoeginonpicaaGreat
