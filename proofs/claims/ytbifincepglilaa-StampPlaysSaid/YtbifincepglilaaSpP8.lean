/- Texts that are built one behind the other: XSb0, XSk0, XVa1, XVa2, XVa3, XVa4, XVa5, XVa6, XSpL, XSb1, XSw0. No condition. -/
import Derived.Test.YtbifincepglilaaSpP7
import Derived.Maps.RangeRun
import Derived.Deep.CutBlock
set_option maxRecDepth 100000
set_option linter.unusedVariables false
open List renaming setIfInBounds_toArray → sIB, set_cons_zero → sCZ, set_cons_succ → sCS
/- Both stampers' calls, told alike: one plain answer each. -/
namespace Go.Proofs.Ytbifincepglilaa
open Go Go.RowKit Go.Gv
abbrev Sgs:=List (Int × List Int)
/-- what a stamp answers, and what it leaves -/
def stmp (k rep:Int) (s:SS) (L:Sgs) (c:Cm):(St × Int) × SS × Sgs:=
 if Bo L k c=false then ((zSt,3),s,L) else
 match Bs s.m (c.cl,c.sq) with
 | some y=>if y.h=c.h then ((y,0),s,L) else ((zSt,5),s,L)
 | none=>if max (max s.now (s.floor+1)) (s.last+1)+1 < U64 then ((stampY L rep c (max (max s.now (s.floor+1)) (s.last+1)),0),stampS s L rep c (max (max s.now (s.floor+1)) (s.last+1)),stampL L rep c (max (max s.now (s.floor+1)) (s.last+1))) else ((zSt,4),s,L)
structure StF (s:SS) (L:Sgs) (y:St) (e:Int) (s':SS) (L':Sgs):Prop where
 ok:y.OK
 er:0≤e∧e≤9
 ml:s'.m.length≤s.m.length+1
 ll:L'.length≤L.length+1
 ap:Apart_ L→Apart_ L'
section
variable {R Rb:Nat→Prop} {w:World} {p g:Nat} {f k rep:Int} {s s':SS} {c:Cm} {L L':Sgs} {y:St} {e:Int}
theorem stmp_facts (h:stmp k rep s L c=((y,e),s',L')) (hoks:∀ q ∈ s.m,q.2.OK) (hco:c.OK) (hrp:I64 rep) (hLL:L.length≤100000):StF s L y e s' L':=by
 unfold stmp at h
 by_cases hr:Bo L k c=false
 ·rw [if_pos hr] at h
  simp only [Prod.mk.injEq] at h
  obtain ⟨⟨rfl,rfl⟩,rfl,rfl⟩:=h
  exact ⟨Bt,by omega,by omega,by omega,fun h=>h⟩
 ·rw [if_neg hr] at h
  cases hm:Bs s.m (c.cl,c.sq) with
  | some x=>
   rw [hm] at h
   simp only at h
   by_cases hh:x.h=c.h
   ·rw [if_pos hh] at h
    simp only [Prod.mk.injEq] at h
    obtain ⟨⟨rfl,rfl⟩,rfl,rfl⟩:=h
    exact ⟨mlook_ok hoks hm,by omega,by omega,by omega,fun h=>h⟩
   ·rw [if_neg hh] at h
    simp only [Prod.mk.injEq] at h
    obtain ⟨⟨rfl,rfl⟩,rfl,rfl⟩:=h
    exact ⟨Bt,by omega,by omega,by omega,fun h=>h⟩
  | none=>
   rw [hm] at h
   simp only at h
   obtain ⟨t,ht⟩:∃ t,t=max (max s.now (s.floor+1)) (s.last+1):=⟨_,rfl⟩
   rw [← ht] at h
   by_cases htl:t+1 < U64
   ·rw [if_pos htl] at h
    simp only [Prod.mk.injEq] at h
    obtain ⟨⟨rfl,rfl⟩,rfl,rfl⟩:=h
    refine ⟨⟨hrp,hco.1.1,hco.1.2.1,hco.2,(show t < U64 by omega),hrp,mkN_I64 _ _ (signF_le _ _ (by omega))⟩,by omega,?_,signF_le _ _ (Nat.le_refl _),fun h=>apart_sign h _⟩
    show (s.m ++ _).length≤_
    rw [List.length_append]
    exact Nat.le_refl _
   ·rw [if_neg htl] at h
    simp only [Prod.mk.injEq] at h
    obtain ⟨⟨rfl,rfl⟩,rfl,rfl⟩:=h
    exact ⟨Bt,by omega,by omega,by omega,fun h=>h⟩
theorem Stamp_A (hst:stmp k rep s L c=((y,e),s',L')) (h:SpR R w p f k rep s) (hbk:BkR Rb w g L) (hB:∀ k,R k→k < w.heap.size) (hBb:∀ k,Rb k→k < w.heap.size) (hd:∀ k,R k→Rb k→False) (hco:c.OK) (hsi:I64 (1000+c.cl)) (hrp:I64 rep) (hLL:L.length≤100000) :
 Calls Try.prog 14 #[.pointer (some ⟨p,0,none⟩),.pointer (some ⟨g,0,none⟩),.agg c.cells.toArray] w fun e1 w'=>e1=.returned (.tuple #[.agg y.cells.toArray,.int .i64 e])∧SpR R w' p f k rep s'∧BkR Rb w' g L'∧Mod (fun k=>(R k)∨(Rb k)) w w':=by
 unfold stmp at hst
 by_cases hr:Bo L k c=false
 ·rw [if_pos hr] at hst
  simp only [Prod.mk.injEq] at hst
  obtain ⟨⟨rfl,rfl⟩,rfl,rfl⟩:=hst
  exact (Stamp_bad h hbk hB hBb hd hco hsi hr).mono fun e1 w' ⟨h1,h2,h3,h4⟩=>⟨h1,h2,h3,h4.mono fun _ _ h=>h.elim⟩
 ·rw [if_neg hr] at hst
  have hr2:Bo L k c=true:=by cases hq:Bo L k c with|true=>rfl|false=>exact absurd hq hr
  cases hm:Bs s.m (c.cl,c.sq) with
  | some x=>
   rw [hm] at hst
   simp only at hst
   by_cases hh:x.h=c.h
   ·rw [if_pos hh] at hst
    simp only [Prod.mk.injEq] at hst
    obtain ⟨⟨rfl,rfl⟩,rfl,rfl⟩:=hst
    exact (Stamp_old h hbk hB hBb hd hco hsi hr2 hm hh).mono fun e1 w' ⟨h1,h2,h3,h4⟩=>⟨h1,h2,h3,h4.mono fun _ _ h=>h.elim⟩
   ·rw [if_neg hh] at hst
    simp only [Prod.mk.injEq] at hst
    obtain ⟨⟨rfl,rfl⟩,rfl,rfl⟩:=hst
    exact (Stamp_other h hbk hB hBb hd hco hsi hr2 hm hh).mono fun e1 w' ⟨h1,h2,h3,h4⟩=>⟨h1,h2,h3,h4.mono fun _ _ h=>h.elim⟩
  | none=>
   rw [hm] at hst
   simp only at hst
   obtain ⟨t,ht⟩:∃ t,t=max (max s.now (s.floor+1)) (s.last+1):=⟨_,rfl⟩
   rw [← ht] at hst
   by_cases htl:t+1 < U64
   ·rw [if_pos htl] at hst
    simp only [Prod.mk.injEq] at hst
    obtain ⟨⟨rfl,rfl⟩,rfl,rfl⟩:=hst
    exact Stamp_new h hbk hB hBb hd hco hsi hr2 hm ht htl hrp (by omega)
   ·rw [if_neg htl] at hst
    simp only [Prod.mk.injEq] at hst
    obtain ⟨⟨rfl,rfl⟩,rfl,rfl⟩:=hst
    exact (Stamp_end h hbk hB hBb hd hco hsi hr2 hm ht htl).mono fun e1 w' ⟨h1,h2,h3,h4⟩=>⟨h1,h2,h3,h4.mono fun _ _ h=>h.elim⟩
/-- where the document's stamper and book lie behind a stamp -/
structure RsF (R Rb:Nat→Prop) (w w':World) (P2 P4:Nat→Prop):Prop where
 s2:∀ k,P2 k→R k∨New w w' k
 s4:∀ k,P4 k→Rb k∨New w w' k
 dj:∀ k,P2 k→P4 k→False
theorem RStamp_A (hst:stmp k rep s L c=((y,e),s',L')) (h:RpR R w p f k rep s) (hbk:RbO Rb w g L) (hB:∀ k,R k→k < w.heap.size) (hBb:∀ k,Rb k→k < w.heap.size) (hd:∀ k,R k→Rb k→False) (hap:Apart_ L) (hoks:∀ q ∈ s.m,q.2.OK) (hco:c.OK) (hsi:I64 (1000+c.cl)) (hrp:I64 rep) (hLL:L.length≤100000) (hmb:s.m.length≤100000) :
 Calls Try.prog 39 #[.pointer (some ⟨p,0,none⟩),.pointer (some ⟨g,0,none⟩),.agg c.cells.toArray] w fun e1 w'=>∃ P2 P4:Nat→Prop,e1=.returned (.tuple #[.agg y.cells.toArray,.int .i64 e])∧RpR P2 w' p f k rep s'∧RbO P4 w' g L'∧RsF R Rb w w' P2 P4∧Mod (fun k=>(R k)∨(Rb k)) w w':=by
 unfold stmp at hst
 have still:∀ {w':World},RsF R Rb w w' R Rb:=⟨fun _ h=>Or.inl h,fun _ h=>Or.inl h,hd⟩
 by_cases hr:Bo L k c=false
 ·rw [if_pos hr] at hst
  simp only [Prod.mk.injEq] at hst
  obtain ⟨⟨rfl,rfl⟩,rfl,rfl⟩:=hst
  exact (RStamp_bad h hbk hB hBb hd hap hLL hmb hco hsi hr).mono fun e1 w' ⟨h1,h2,h3,h4⟩=>⟨_,_,h1,h2,h3,still,h4.mono fun _ _ h=>h.elim⟩
 ·rw [if_neg hr] at hst
  have hr2:Bo L k c=true:=by cases hq:Bo L k c with|true=>rfl|false=>exact absurd hq hr
  cases hm:Bs s.m (c.cl,c.sq) with
  | some x=>
   rw [hm] at hst
   simp only at hst
   by_cases hh:x.h=c.h
   ·rw [if_pos hh] at hst
    simp only [Prod.mk.injEq] at hst
    obtain ⟨⟨rfl,rfl⟩,rfl,rfl⟩:=hst
    exact (RStamp_old h hbk hB hBb hd hap hLL hmb hco hsi hr2 hoks hm hh).mono fun e1 w' ⟨h1,h2,h3,h4⟩=>⟨_,_,h1,h2,h3,still,h4.mono fun _ _ h=>h.elim⟩
   ·rw [if_neg hh] at hst
    simp only [Prod.mk.injEq] at hst
    obtain ⟨⟨rfl,rfl⟩,rfl,rfl⟩:=hst
    exact (RStamp_other h hbk hB hBb hd hap hLL hmb hco hsi hr2 hoks hm hh).mono fun e1 w' ⟨h1,h2,h3,h4⟩=>⟨_,_,h1,h2,h3,still,h4.mono fun _ _ h=>h.elim⟩
  | none=>
   rw [hm] at hst
   simp only at hst
   obtain ⟨t,ht⟩:∃ t,t=max (max s.now (s.floor+1)) (s.last+1):=⟨_,rfl⟩
   rw [← ht] at hst
   by_cases htl:t+1 < U64
   ·rw [if_pos htl] at hst
    simp only [Prod.mk.injEq] at hst
    obtain ⟨⟨rfl,rfl⟩,rfl,rfl⟩:=hst
    exact (RStamp_new h hbk hB hBb hd hap hLL hmb hco hsi hr2 hm ht htl hrp).mono fun e1 w' ⟨P2,P4,h1,h2,h3,h4,h5,h6,h7⟩=>⟨P2,P4,h1,h2,h3,⟨h4,h5,h6⟩,h7⟩
   ·rw [if_neg htl] at hst
    simp only [Prod.mk.injEq] at hst
    obtain ⟨⟨rfl,rfl⟩,rfl,rfl⟩:=hst
    exact (RStamp_end h hbk hB hBb hd hap hLL hmb hco hsi hr2 hm ht htl).mono fun e1 w' ⟨h1,h2,h3,h4⟩=>⟨_,_,h1,h2,h3,still,h4.mono fun _ _ h=>h.elim⟩
/-! ### the floor -/
def raiseP (s:SS) (n:Nat):Int × SS:=if n+1 < U64 then (0,raiseS s n) else (4,s)
theorem raise_facts {n:Nat} (h:raiseP s n=(e,s')):(0≤e∧e≤9)∧s'.m=s.m:=by
 unfold raiseP at h
 by_cases hn:n+1 < U64
 ·rw [if_pos hn] at h
  simp only [Prod.mk.injEq] at h
  obtain ⟨rfl,rfl⟩:=h
  exact ⟨by omega,rfl⟩
 ·rw [if_neg hn] at h
  simp only [Prod.mk.injEq] at h
  obtain ⟨rfl,rfl⟩:=h
  exact ⟨by omega,rfl⟩
theorem Raise_A {n:Nat} (hr:raiseP s n=(e,s')) (h:SpR R w p f k rep s) (hB:∀ k,R k→k < w.heap.size) (hn:n < U64) :
 Calls Try.prog 15 #[.pointer (some ⟨p,0,none⟩),.int .u64 (n:Nat)] w fun e1 w'=>e1=.returned (.int .i64 e)∧SpR R w' p f k rep s'∧Mod R w w':=by
 unfold raiseP at hr
 by_cases hn2:n+1 < U64
 ·rw [if_pos hn2] at hr
  simp only [Prod.mk.injEq] at hr
  obtain ⟨rfl,rfl⟩:=hr
  exact Raise_Q h hB hn2
 ·rw [if_neg hn2] at hr
  simp only [Prod.mk.injEq] at hr
  obtain ⟨rfl,rfl⟩:=hr
  exact Raise_N h hB (by omega)
theorem RRaise_A {n:Nat} (hr:raiseP s n=(e,s')) (h:RpR R w p f k rep s) (hB:∀ k,R k→k < w.heap.size) (hn:n < U64) :
 Calls Try.prog 37 #[.pointer (some ⟨p,0,none⟩),.int .u64 (n:Nat)] w fun e1 w'=>e1=.returned (.int .i64 e)∧RpR R w' p f k rep s'∧Mod R w w':=by
 unfold raiseP at hr
 by_cases hn2:n+1 < U64
 ·rw [if_pos hn2] at hr
  simp only [Prod.mk.injEq] at hr
  obtain ⟨rfl,rfl⟩:=hr
  exact RRaise_Q h hB hn2
 ·rw [if_neg hn2] at hr
  simp only [Prod.mk.injEq] at hr
  obtain ⟨rfl,rfl⟩:=hr
  exact RRaise_N h hB (by omega)
theorem RTick_A {n:Nat} (h:RpR R w p f k rep s) (hB:∀ k,R k→k < w.heap.size) (hn:n < U64) :
 Calls Try.prog 36 #[.pointer (some ⟨p,0,none⟩),.int .u64 (n:Nat)] w fun e1 w'=>e1=.returned (.tuple #[])∧RpR R w' p f k rep (tickS s n)∧Mod R w w':=by
 by_cases hf:U64 - 1 - s.now < n
 ·exact RTick_F h hB hn hf
 ·exact RTick_N h hB hn (by omega)
theorem lookV_ex (hoks:∀ q ∈ s.m,q.2.OK) (n:Int × Int):∃ (y:St) (bb:Bool),lookV s.m n=.tuple #[y.val,.bool bb]∧y.OK:=by
 cases hm:Bs s.m n with
 | some y=>exact ⟨y,true,lookV_some hm,mlook_ok hoks hm⟩
 | none=>exact ⟨zSt,false,lookV_none hm,Bt⟩
end
/-! ### commitments -/
structure MdF (L:Sgs) (a:Int) (c:Cm) (L':Sgs):Prop where
 ok:c.OK
 cl:c.cl=a
 ln:0≤c.ln∧c.ln≤256
 mr:0≤c.mr∧c.mr≤1000001
 ll:L'.length≤L.length+1
 ap:Apart_ L→Apart_ L'
section
variable {R R':Nat→Prop} {N:Nat} {w:World} {g:Nat} {L L':Sgs} {a b:Int} {bs:List Int} {v:Value} {c:Cm}
theorem made_facts (hc:mkCm L a b z32 bs=c) (hL:mkBook L a b z32 bs=L') (ha:0≤a∧a≤100) (hb:I64 b) (hl:bs.length≤256) (hLL:L.length≤100000):MdF L a c L':=by
 subst hc hL
 have hia:I64 a:=by unfold I64;omega
 have his:I64 (1000+a):=by unfold I64;omega
 have hm:=mkN_le (mkBook L a b z32 bs) (mkKey a b z32 bs)
 have h2:(mkBook L a b z32 bs).length≤L.length+1:=signF_le _ _ (Nat.le_refl _)
 exact ⟨mkCm_ok L a b z32 bs hia his hb (by omega) (by omega),rfl,⟨by simp [mkCm,cm0],by simp only [mkCm,cm0];omega⟩,⟨by simp [mkCm],by simp only [mkCm];omega⟩,h2,fun h=>apart_sign h _⟩
theorem Make_D (hc:mkCm L a b z32 bs=c) (hL:mkBook L a b z32 bs=L') (hbk:BkR R w g L) (hLL:L.length≤100000) (ha:0≤a∧a≤100) (hb:I64 b) (hr:RdR R' N w v bs) (hl:bs.length≤256) :
 Calls Try.prog 10 #[.pointer (some ⟨g,0,none⟩),.agg #[.int .i64 a,.int .i64 b],hv z32,v] w fun e w'=>e=.returned (.agg c.cells.toArray)∧BkR R w' g L'∧Mod R w w':=by
 subst hc hL
 exact Make_Q hbk (by omega) a b z32 bs (by unfold I64;omega) (by unfold I64;omega) hb z32_ok hr (by omega)
theorem RMake_D (hc:mkCm L a b z32 bs=c) (hL:mkBook L a b z32 bs=L') (hbk:RbO R w g L) (hB:∀ k,R k→k < w.heap.size) (hLL:L.length≤100000) (ha:0≤a∧a≤100) (hb:I64 b) (hr:RdR R' N w v bs) (hl:bs.length≤256) :
 Calls Try.prog 38 #[.pointer (some ⟨g,0,none⟩),.agg #[.int .i64 a,.int .i64 b],hv z32,v] w fun e w'=>e=.returned (.agg c.cells.toArray)∧RbO (fun k=>R k∨New w w' k) w' g L'∧Mod R w w':=by
 subst hc hL
 exact RMake_Q hbk hB hLL a b z32 bs (by unfold I64;omega) (by unfold I64;omega) hb z32_ok hr (by omega)
theorem BLen_Q (hbk:BkR R w g L):Calls Try.prog 41 #[.pointer (some ⟨g,0,none⟩)] w fun e w'=>e=.returned (.int .i64 L.length)∧Mod (fun _=>False) w w':=by
 obtain ⟨b',h1,h2,h3⟩:=hbk
 exact Book_len h1
theorem RbO.cell (h:RbO R w g L):∃ ao cap,Cs w g #[.slice ao L.length cap] 72:=by
 obtain ⟨v,h1,h2,h3⟩:=h
 obtain ⟨ao,cap,rfl⟩:=h3.shape
 exact ⟨ao,cap,h1⟩
theorem RpR.cell {p:Nat} {f k rep:Int} {s:SS} (h:RpR R w p f k rep s):∃ ao cap,Cs w p #[.int .i64 f,.int .i64 k,.int .i64 rep,.int .u64 (s.now:Nat),.int .u64 (s.floor:Nat),.int .u64 (s.last:Nat),.slice ao s.m.length cap] 77:=by
 obtain ⟨v,h1,h2,h3,-⟩:=h
 obtain ⟨ao,cap,rfl⟩:=h3.shape
 exact ⟨ao,cap,h1⟩
theorem cmA_cells (c:Cm):c.cells=([.int .i64 c.cl,.int .i64 c.sq] ++ c.h.map bv) ++ ([.int .i64 c.ln] ++ [.int .i64 c.sb,.int .i64 c.mr]):=by simp [Cm.cells]
theorem layA (pre mid post new:List Value) (h:new.length=mid.length):lay (pre ++ (mid ++ post)).toArray pre.length new=(pre ++ (new ++ post)).toArray:=by
 unfold lay
 simp [h]
theorem layA_ln (c:Cm) (x:Int) (hl:c.h.length=32):lay c.cells.toArray 34 [.int .i64 x]=(Cm.cells { c with ln:=x }).toArray:=by
 have h:=layA ([.int .i64 c.cl,.int .i64 c.sq] ++ c.h.map bv) [.int .i64 c.ln] [.int .i64 c.sb,.int .i64 c.mr] [.int .i64 x] rfl
 rw [show ([.int .i64 c.cl,.int .i64 c.sq] ++ c.h.map bv:List Value).length=34 by simp [hl]] at h
 rw [cmA_cells,h,cmA_cells]
theorem layA_mr (c:Cm) (x:Int) (hl:c.h.length=32):lay c.cells.toArray 36 [.int .i64 x]=(Cm.cells { c with mr:=x }).toArray:=by
 have h:=layA ([.int .i64 c.cl,.int .i64 c.sq] ++ c.h.map bv ++ [.int .i64 c.ln,.int .i64 c.sb]) [.int .i64 c.mr] [] [.int .i64 x] rfl
 rw [show ([.int .i64 c.cl,.int .i64 c.sq] ++ c.h.map bv ++ [.int .i64 c.ln,.int .i64 c.sb]:List Value).length=36 by simp [hl]] at h
 rw [show c.cells=([.int .i64 c.cl,.int .i64 c.sq] ++ c.h.map bv ++ [.int .i64 c.ln,.int .i64 c.sb]) ++ ([.int .i64 c.mr] ++ []) by simp [Cm.cells],h]
 simp [Cm.cells]
end
end Go.Proofs.Ytbifincepglilaa

/- A law's own map of hashes and times; a range over it. -/
namespace Go.Proofs.Ytbifincepglilaa
open Go Go.RowKit Go.Gv
abbrev kpC (y:St):List Value:=y.h.map bv ++ [.int .u64 (y.tm:Nat)]
abbrev kpV (y:St):Value:=.agg (kpC y).toArray
theorem set_same {α:Type} {l:List α} {j:Nat} {x:α} (h:l[j]? = some x):l.set j x=l:=by
 apply List.ext_getElem?
 intro i
 rw [List.getElem?_set]
 by_cases hi:j=i
 ·subst hi
  rw [if_pos rfl,h]
  have:=(List.getElem?_eq_some_iff.1 h).1
  simp [this]
 ·rw [if_neg hi]
/-- what stands in the map; each entry's number is one that was given, no two have one -/
structure EsOf (es:Array MapEntry) (clock:Nat) (l:NMap):Prop where
 kv:es.toList.map (fun e=>(e.key,e.val))=l.map (fun p=>(nmV p.1,kpV p.2))
 lt:∀ e ∈ es.toList,e.born < clock
 nd:(es.toList.map (·.born)).Nodup
 ok:∀ p ∈ l,NmK p.1
 pw:l.Pairwise (fun p q=>p.1≠q.1)
def HmE (w:World) (b:Nat) (es:Array MapEntry) (clock:Nat):Prop:=w.heap[b]? = some (.map es clock)
def HmB (w:World) (b:Nat) (l:NMap):Prop:=∃ es clock,HmE w b es clock∧EsOf es clock l
def ItE (w:World) (r b clock:Nat) (seen:Array Nat):Prop:=w.heap[r]? = some (.mapIter (some b) clock seen clock)
section
variable {w w':World} {b c r clock:Nat} {l:NMap} {a:Int × Int} {S:Nat→Prop} {es:Array MapEntry} {seen:Array Nat}
theorem HmE.mod (h:HmE w b es clock) (hm:Mod S w w') (hn:¬ S b):HmE w' b es clock:=hm.obj h hn
theorem ItE.mod (h:ItE w r b clock seen) (hm:Mod S w w') (hn:¬ S r):ItE w' r b clock seen:=hm.obj h hn
theorem HmB.mod (h:HmB w b l) (hm:Mod S w w') (hn:¬ S b):HmB w' b l:=by
 obtain ⟨es,k,h1,h2⟩:=h
 exact ⟨es,k,h1.mod hm hn,h2⟩
theorem HmE.lt (h:HmE w b es clock):b < w.heap.size:=(Array.getElem?_eq_some_iff.1 h).1
theorem ItE.lt (h:ItE w r b clock seen):r < w.heap.size:=(Array.getElem?_eq_some_iff.1 h).1
theorem HmB.lt (h:HmB w b l):b < w.heap.size:=by
 obtain ⟨es,k,h1,h2⟩:=h
 exact h1.lt
theorem HmB.is (h:HmB w b l):MapIs w b nmV kpV NmK l:=by
 obtain ⟨es,k,h1,h2⟩:=h
 exact ⟨⟨es,k,h1,h2.kv⟩,h2.ok,h2.pw⟩
theorem mod_set (w:World) (b:Nat) (o:Obj):Mod (fun i=>i=b) w { w with heap:=w.heap.setIfInBounds b o }:=
 ⟨rfl,rfl,rfl,by simp,fun i hi hn=>by simp [show ¬ b=i from fun e=>hn e.symm]⟩
theorem HmB.upd (h:HmB w b l) (ha:NmK a) {y:St} {l':NMap} (hl:(Bs l a=none∧l'=l ++ [(a,y)])∨(Bs l a=some y∧l'=l)):∃ w1,(Instr.mapUpdate 63 (.map (some b)) (nmV a) (kpV y)).run Try.prog w=.ok () w1∧HmB w1 b l'∧Mod (fun k=>k=b) w w1:=by
 obtain ⟨es,clock,hb,he⟩:=h
 unfold HmE at hb
 obtain ⟨lk,hk⟩:=nm_enc.key a ha
 have hlt:=(Array.getElem?_eq_some_iff.1 hb).1
 rcases MapIs.found ⟨⟨es,clock,hb,he.kv⟩,he.ok,he.pw⟩ nm_enc hb he.kv a ha with ⟨f1,f2⟩|⟨j,p,f1,f2,f3,f4⟩
 ·rcases hl with ⟨hn,rfl⟩|⟨hn,-⟩
  ·refine ⟨{ w with heap:=w.heap.setIfInBounds b (.map (es.push ⟨nmV a,kpV y,clock⟩) (clock+1)) },?_,⟨es.push ⟨nmV a,kpV y,clock⟩,clock+1,by unfold HmE;simp [hlt],?_,?_,?_,?_,?_⟩,mod_set _ _ _⟩
   ·simp [Instr.mapUpdate,run_underlying Try.underlying63,MapKept.run_getObj_map hb,nm_enc.law.check w false hk,f1,MapKept.run_setObj_map _ hb,Result.andThen]
   ·have:=he.kv
    simp [this]
   ·intro e h2
    simp at h2
    rcases h2 with h2|h2
    ·have:=he.lt e (by simpa using h2);omega
    ·subst h2;exact Nat.lt_succ_self _
   ·rw [Array.toList_push,List.map_append,List.nodup_append]
    refine ⟨he.nd,by simp,?_⟩
    intro x hx z hz
    obtain ⟨e,h2,rfl⟩:=List.mem_map.1 hx
    simp at hz
    have:=he.lt e h2
    omega
   ·intro q hq
    rcases List.mem_append.1 hq with hq|hq
    ·exact he.ok q hq
    ·simp at hq;subst hq;exact ha
   ·rw [List.pairwise_append]
    refine ⟨he.pw,List.pairwise_singleton _ _,fun p hp q hq=>?_⟩
    simp at hq
    subst hq
    exact f2 p hp
  ·rw [mlook_none f2] at hn
   cases hn
 ·rcases hl with ⟨hn,-⟩|⟨hn,rfl⟩
  ·rw [mlook_at he.pw f2 f3] at hn
   cases hn
  ·rw [mlook_at he.pw f2 f3] at hn
   obtain ⟨p1,p2⟩:=p
   simp only at f3
   subst f3
   obtain rfl:p2=y:=Option.some.inj hn
   cases hj:es[j]? with
   | none=>rw [hj] at f4;cases f4
   | some e0=>
    rw [hj] at f4
    have hek:e0.key=nmV p1:=Option.some.inj f4
    have hj2:es.toList[j]? = some e0:=by rw [Array.getElem?_toList];exact hj
    have hmd:(es.modify j (fun e'=>{ e' with key:=nmV p1,val:=kpV p2 })).toList=es.toList.set j { e0 with key:=nmV p1,val:=kpV p2 }:=by
     rw [Array.toList_modify,Go.ChangeMaps.modify_eq_set _ _ _ _ hj2]
    have hbm:(es.toList.set j { e0 with key:=nmV p1,val:=kpV p2 }).map (·.born)=es.toList.map (·.born):=by
     rw [List.map_set]
     exact set_same (by rw [List.getElem?_map,hj2];rfl)
    refine ⟨{ w with heap:=w.heap.setIfInBounds b (.map (es.modify j (fun e'=>{ e' with key:=nmV p1,val:=kpV p2 })) clock) },?_,⟨es.modify j (fun e'=>{ e' with key:=nmV p1,val:=kpV p2 }),clock,by unfold HmE;simp [hlt],?_,?_,?_,he.ok,he.pw⟩,mod_set _ _ _⟩
    ·simp [Instr.mapUpdate,run_underlying Try.underlying63,MapKept.run_getObj_map hb,nm_enc.law.check w false hk,f1,hj,hek,nm_enc.law.stays w hk,MapKept.run_setObj_map _ hb,Result.andThen]
    ·rw [hmd,List.map_set,he.kv]
     exact set_same (by rw [List.getElem?_map,f2];rfl)
    ·intro e h2
     rw [hmd] at h2
     have hin:e.born ∈ es.toList.map (·.born):=by rw [← hbm];exact List.mem_map.2 ⟨e,h2,rfl⟩
     obtain ⟨e1,h3,h4⟩:=List.mem_map.1 hin
     rw [← h4]
     exact he.lt e1 h3
    ·rw [hmd,hbm]
     exact he.nd
section
variable {ops:Array Oper} {Q:Exit→Act→World→Prop} {i:Nat} {o:Oper} {act:Act} {KQ:Value→World→Prop}
end
end
theorem SpR.pw {R:Nat→Prop} {w:World} {p:Nat} {f k rep:Int} {s:SS} (h:SpR R w p f k rep s):(s.m.Pairwise (fun p q=>p.1≠q.1))∧∀ q ∈ s.m,NmK q.1:=by
 obtain ⟨b,-,-,-,hm,-⟩:=h
 exact ⟨hm.1.2.2,hm.1.2.1⟩
end Go.Proofs.Ytbifincepglilaa

/- A disk and a log on it as one object; what a put comes to; the plain law of WalTrue. -/
namespace Go.Proofs.Ytbifincepglilaa
open Go Go.RowKit Go.Gv
section
variable {R R' S:Nat→Prop} {N M:Nat} {w w':World} {x p:Nat} {rs:List (List Int)} {s:DS}
end
/-! ### what a put comes to -/
def putS (s:DS) (b:List Int):DS:=if (dStep s).dead then dAppend s (encR b) else dSync (dAppend s (encR b))
def putE (s:DS) (b:List Int):Int:=if (dStep s).dead then 9 else dErr (dAppend s (encR b))
/-- what WalTrue holds of a disk: good: what was put well; next: what was put behind it, and not well -/
structure TrueI (good next:List (List Int)) (s:DS):Prop where
 sy:s.sy=(rowsE good).length
 fg:Fit good
 fn:Fit next
 or:(s.b=rowsE good∧(s.dead=false→next=[]))∨∃ b t,next=b :: t∧s.b=rowsE good ++ encR b∧s.dead=true
theorem dead_step {s:DS} (h:s.dead=true):(dStep s).dead=true:=by simp [dStep,dEnds,h]
theorem TrueI.put {good next:List (List Int)} {s:DS} {b:List Int} (h:TrueI good next s) (hb:b.length≤65536) :
 (putE s b=0→next=[]∧TrueI (good ++ [b]) [] (putS s b))∧(putE s b=9→TrueI good (next ++ [b]) (putS s b)):=by
 obtain ⟨h1,h2,h3,h4⟩:=h
 unfold putE putS
 by_cases hd:(dStep s).dead=true
 ·rw [if_pos hd,if_pos hd]
  refine ⟨(fun h=>by cases h),fun _=>?_⟩
  have e:dAppend s (encR b)=dStep s:=by unfold dAppend;rw [if_pos hd]
  rw [e]
  refine ⟨h1,h2,h3.snoc hb,?_⟩
  rcases h4 with ⟨h5,h6⟩|⟨c,t,h5,h6,h7⟩
  ·exact .inl ⟨h5,fun h=>by rw [hd] at h;cases h⟩
  ·exact .inr ⟨c,t ++ [b],by rw [h5];rfl,h6,hd⟩
 ·rw [if_neg hd,if_neg hd]
  have hs:s.dead=false:=by
   cases he:s.dead
   ·rfl
   ·exact absurd (dead_step he) hd
  have e:dAppend s (encR b)={ dStep s with b:=s.b ++ encR b }:=by unfold dAppend;rw [if_neg hd]
  rcases h4 with ⟨h5,h6⟩|⟨c,t,h5,h6,h7⟩
  ·have h6:=h6 hs
   subst h6
   by_cases hd2:(dStep (dAppend s (encR b))).dead=true
   ·have e3:dErr (dAppend s (encR b))=9:=by unfold dErr;rw [if_pos hd2]
    have e4:dSync (dAppend s (encR b))=dStep (dAppend s (encR b)):=by unfold dSync;rw [if_pos hd2]
    rw [e3,e4]
    refine ⟨(fun h=>by cases h),fun _=>⟨?_,h2,h3.snoc hb,.inr ⟨b,[],rfl,?_,hd2⟩⟩⟩
    ·rw [e];exact h1
    ·rw [e];show s.b ++ encR b=_;rw [h5]
   ·have e3:dErr (dAppend s (encR b))=0:=by unfold dErr;rw [if_neg hd2]
    have e4:dSync (dAppend s (encR b))={ dStep (dAppend s (encR b)) with sy:=(dAppend s (encR b)).b.length }:=by unfold dSync;rw [if_neg hd2]
    rw [e3,e4]
    refine ⟨fun _=>⟨rfl,?_,h2.snoc hb,h3,.inl ⟨?_,fun _=>rfl⟩⟩,fun h=>by cases h⟩
    ·show (dAppend s (encR b)).b.length=_
     rw [e];show (s.b ++ encR b).length=_;rw [h5,rowsE_snoc]
    ·show (dAppend s (encR b)).b=_
     rw [e];show s.b ++ encR b=_;rw [h5,rowsE_snoc]
  ·rw [hs] at h7;cases h7
theorem TrueI.fresh:TrueI [] [] dZero:=⟨rfl,Fit.nil,Fit.nil,.inl ⟨rfl,fun _=>rfl⟩⟩
/-- any bytes have whole rows ahead -/
theorem Parse.any:∀ (n:Nat) (bs:List Int),bs.length≤n→Bytes bs→∃ rs,Parse bs rs:=by
 intro n
 induction n with
 | zero=>
  intro bs hn hb
  obtain rfl:bs=[]:=List.eq_nil_of_length_eq_zero (by omega)
  exact ⟨[],Fit.nil,[],rfl,.inl rfl⟩
 | succ n ih=>
  intro bs hn hb
  cases hr:(rRow 65536 (some bs)).2 with
  | none=>exact ⟨[],Fit.nil,bs,rfl,.inr hr⟩
  | some r=>
   obtain ⟨e,hl⟩:=rRow_can hb hr
   have hp:=encR_pos (rRow 65536 (some bs)).1
   have hlen:=congrArg List.length e
   rw [List.length_append] at hlen
   obtain ⟨rs,h1,rest,h2,h3⟩:=ih r (by omega) (fun x hx=>hb x (by rw [e];exact List.mem_append_right _ hx))
   refine ⟨(rRow 65536 (some bs)).1 :: rs,fun x hx=>?_,rest,?_,h3⟩
   ·rcases List.mem_cons.1 hx with rfl|hx
    ·exact hl
    ·exact h1 x hx
   ·rw [rowsE_cons,List.append_assoc,← h2]
    exact e
end Go.Proofs.Ytbifincepglilaa

/- wal.Wal: Len, Records; gavelkeep.Rows. -/
namespace Go.Proofs.Ytbifincepglilaa
open Go Go.RowKit Go.Gv
end Go.Proofs.Ytbifincepglilaa

/- wal.Open. -/
namespace Go.Proofs.Ytbifincepglilaa
open Go Go.RowKit Go.Gv
end Go.Proofs.Ytbifincepglilaa

/- wal.Wal.Put. -/
namespace Go.Proofs.Ytbifincepglilaa
open Go Go.RowKit Go.Gv
end Go.Proofs.Ytbifincepglilaa

/- The contracts of a disk and the log on it, told of both as one object. -/
namespace Go.Proofs.Ytbifincepglilaa
open Go Go.RowKit Go.Gv
section
variable {R R3:Nat→Prop} {N M x p:Nat} {rs rs':List (List Int)} {s:DS} {b bs:List Int} {sy:Nat} {w:World} {v:Value}
end
end Go.Proofs.Ytbifincepglilaa

/- Short contracts for the statements about logs. -/
namespace Go.Proofs.Ytbifincepglilaa
open Go Go.RowKit Go.Gv
section
variable {R R2 R3:Nat→Prop} {N M x p:Nat} {rs:List (List Int)} {s:DS} {b bs cs:List Int} {w:World} {v v2:Value}
theorem Cut_W {n:Nat} (hr:RdR R N w v bs) (hn:n≤100000) (e:cs=bs.take n) :
 Calls Try.prog 20 #[v,.int .i64 n] w fun e w'=>∃ v',e=.returned v'∧OwR (New w w') 900000 w' v' cs∧Mod (fun _=>False) w w':=by
 subst e
 exact (Cut_R n hr (by omega)).mono fun e w' ⟨v',he,ho,hm⟩=>⟨v',he,ho.widen (fun _ h=>h) (by omega),hm⟩
end
theorem Parse.nil:Parse [] []:=Parse.whole Fit.nil
end Go.Proofs.Ytbifincepglilaa

/- gavellaw09.play. -/
namespace Go.Proofs.Ytbifincepglilaa
open Go Go.RowKit Go.Gv
/-- four things and what is read lie apart -/
structure Dj5 (R0 R1 R2 R3 R4:Nat→Prop):Prop where
 d12:∀ k,R1 k→R2 k→False
 d13:∀ k,R1 k→R3 k→False
 d14:∀ k,R1 k→R4 k→False
 d23:∀ k,R2 k→R3 k→False
 d24:∀ k,R2 k→R4 k→False
 d34:∀ k,R3 k→R4 k→False
 d01:∀ k,R0 k→R1 k→False
 d02:∀ k,R0 k→R2 k→False
 d03:∀ k,R0 k→R3 k→False
 d04:∀ k,R0 k→R4 k→False
/-- what a play leaves -/
structure PlF (R2 R4:Nat→Prop) (w w':World) (A2 A4:Nat→Prop) (s:SS) (L:Sgs) (N:Nat):Prop where
 ml:s.m.length≤N+50
 ll:L.length≤N+50
 ap:Apart_ L
 dj:∀ k,A2 k→A4 k→False
 s2:∀ k,A2 k→R2 k∨New w w' k
 s4:∀ k,A4 k→R4 k∨New w w' k
set_option maxHeartbeats 16000000 in
theorem SPlay_P {R0 R1 R2 R3 R4:Nat→Prop} {w:World} {p y g kb:Nat} {f k rep:Int} {s:SS} {L:Sgs} {acs:List Sa} {va:Value} {N0:Nat} (h1:SpR R1 w p f k rep s) (h2:RpR R2 w y f k rep s) (h3:BkR R3 w g L) (h4:RbO R4 w kb L) (ha:RdS SaR R0 w va acs) (hb0:∀ k,R0 k→k < w.heap.size) (hb1:∀ k,R1 k→k < w.heap.size) (hb2:∀ k,R2 k→k < w.heap.size) (hb3:∀ k,R3 k→k < w.heap.size) (hb4:∀ k,R4 k→k < w.heap.size)
 (hdj:Dj5 R0 R1 R2 R3 R4) (hap:Apart_ L) (hml:s.m.length≤N0) (hll:L.length≤N0) (hN:N0≤1000) (hrp:I64 rep) :
 Calls Try.prog 23 #[.agg #[.int .i64 f,.int .i64 k],.pointer (some ⟨p,0,none⟩),.pointer (some ⟨y,0,none⟩),.pointer (some ⟨g,0,none⟩),.pointer (some ⟨kb,0,none⟩),va] w fun e w'=>∃ (s':SS) (L':Sgs) (A2 A4:Nat→Prop),e=.returned (.bool true)∧SpR R1 w' p f k rep s'∧RpR A2 w' y f k rep s'∧BkR R3 w' g L'∧RbO A4 w' kb L'∧
  PlF R2 R4 w w' A2 A4 s' L' N0∧Mod (fun k=>(R1 k)∨(R2 k)∨(R3 k)∨(R4 k)) w w':=by
 have hU:U64=18446744073709551616:=rfl
 obtain ⟨ao,cap,rfl⟩:=ha.shape
 have HSP:=Lib.hid h1
 have HRP:=Lib.hid h2
 have HBK:=Lib.hid h3
 have HRB:=Lib.hid h4
 have HA:=Lib.hid ha
 have HB0:=Lib.hid hb0
 have HB1:=Lib.hid hb1
 have HB2:=Lib.hid hb2
 have HB3:=Lib.hid hb3
 have HB4:=Lib.hid hb4
 have HD12:=hid hdj.d12
 have HD13:=hid hdj.d13
 have HD14:=hid hdj.d14
 have HD23:=hid hdj.d23
 have HD24:=hid hdj.d24
 have HD34:=hid hdj.d34
 have HD01:=hid hdj.d01
 have HD02:=hid hdj.d02
 have HD03:=hid hdj.d03
 have HD04:=hid hdj.d04
 have HAP:=Lib.hid hap
 clear h1 h2 h3 h4 ha hb0 hb1 hb2 hb3 hb4 hdj hap
 change Calls _ _ #[.agg #[.int .i64 f,.int .i64 k],.pointer (some ⟨p,0,none⟩),.pointer (some ⟨y,0,none⟩),.pointer (some ⟨g,0,none⟩),.pointer (some ⟨kb,0,none⟩),.slice ao acs.length cap] _ _
 go_enter Try.func23,Try.ntmps23
 go_upto_region 1 with (fail)
 obtain ⟨w1,hw1⟩:∃ zz,zz=(w.alloc (.cells #[.int .i64 f,.int .i64 k] 26)):=⟨_,rfl⟩
 change Code.wp _ _ _ _ (w.alloc (.cells #[.int .i64 f,.int .i64 k] 26))
 rw [← hw1]
 have HB6:=hid (show Cs w1 (w.heap.size) #[.int .i64 f,.int .i64 k] 26 by rw [hw1];exact Cs.new _ _ _)
 have hm:Mod (fun _=>False) w w1:=by rw [hw1];exact (Mod.refl _ _).alloc _
 have HM0:=hid (show Mod (fun k=>(R1 k)∨(R2 k)∨(R3 k)∨(R4 k)) w w1 from hm.mono (fun _ _ h=>h.elim))
 have hs1:w1.heap.size=w.heap.size+1:=by rw [hw1];simp
 have Hx1:=hid (HSP.out.mod hm (fun _ _ h=>h))
 clear HSP
 have Hx2:=hid (HRP.out.mod hm (fun _ _ h=>h))
 clear HRP
 have Hx3:=hid (HBK.out.mod hm (fun _ _ h=>h))
 clear HBK
 have Hx4:=hid (HRB.out.mod hm (fun _ _ h=>h))
 clear HRB
 have Hx5:=hid (HA.out.mod hm (fun _ _ h=>h))
 clear HA
 clear hw1 hm
 clear HB6
 go_upto_region 1 with (fail)
 refine Al 195 [13] [0] (fun a0 HA0=>?_)
 refine QSeq.pure rfl (.int .i64 0) (fun E=>An rfl rfl) ?_
 refine QSeq.nil (t':=[_]) rfl ?_
 obtain rfl:=HA0.out
 clear HA0
 simp only [pz,Act.put,sIB,sCZ,sCS]
 go_wp2
 go_loopw [13] (fun ti wr=>∃ (i:Nat) (s:SS) (L:Sgs) (A2 A4:Nat→Prop),ti=.int .i64 ((i:Nat):Int)∧i≤25∧s.m.length≤N0+i∧L.length≤N0+2 * i∧Apart_ L∧w.heap.size≤wr.heap.size∧SpR R1 wr p f k rep s∧RpR A2 wr y f k rep s∧BkR R3 wr g L∧RbO A4 wr kb L∧(∀ k,A2 k→A4 k→False)∧(∀ k,A2 k→R2 k∨New w wr k)∧(∀ k,A4 k→R4 k∨New w wr k)∧RdS SaR R0 wr (.slice ao acs.length cap) acs∧Mod (fun k=>(R1 k)∨(R2 k)∨(R3 k)∨(R4 k)) w wr) (fun ti _=>25 - (intOf ti).toNat)
 case atStart=>exact ⟨0,s,L,R2,R4,rfl,by omega,by omega,by omega,HAP.out,by omega,Hx1.out,Hx2.out,Hx3.out,Hx4.out,HD24.out,(fun k h=>Or.inl h),(fun k h=>Or.inl h),Hx5.out,HM0.out⟩
 case round=>
  clear Hx1 Hx2 Hx3 Hx4 Hx5 HM0
  obtain ⟨i,s,L,A2,A4,rfl,hi25,hmlwl,hllwl,hap,hzwl,hsp,hrp2,hbk,hrb,hd24,hs2,hs4,hac,hm⟩:=hrel
  obtain ⟨wl,rfl⟩:∃ x,x=wr:=⟨_,rfl⟩
  have KwlbA2:=hid (show ∀ k,A2 k→k < wl.heap.size from fun k hk=>by rcases hs2 k hk with h|h;(have hb:=HB2.out k h;omega);exact h.2)
  have KwlbA4:=hid (show ∀ k,A4 k→k < wl.heap.size from fun k hk=>by rcases hs4 k hk with h|h;(have hb:=HB4.out k h;omega);exact h.2)
  have Kwld12:=hid (show ∀ k,R1 k→A2 k→False from fun k h1 h2=>by rcases hs2 k h2 with h|h;exact HD12.out k h1 h;(have hb:=HB1.out k h1;have:=h.1;omega))
  have Kwld14:=hid (show ∀ k,R1 k→A4 k→False from fun k h1 h2=>by rcases hs4 k h2 with h|h;exact HD14.out k h1 h;(have hb:=HB1.out k h1;have:=h.1;omega))
  have Kwld32:=hid (show ∀ k,R3 k→A2 k→False from fun k h1 h2=>by rcases hs2 k h2 with h|h;exact HD23.out k h h1;(have hb:=HB3.out k h1;have:=h.1;omega))
  have Kwld34:=hid (show ∀ k,R3 k→A4 k→False from fun k h1 h2=>by rcases hs4 k h2 with h|h;exact HD34.out k h1 h;(have hb:=HB3.out k h1;have:=h.1;omega))
  have Kwld02:=hid (show ∀ k,R0 k→A2 k→False from fun k h1 h2=>by rcases hs2 k h2 with h|h;exact HD02.out k h1 h;(have hb:=HB0.out k h1;have:=h.1;omega))
  have Kwld04:=hid (show ∀ k,R0 k→A4 k→False from fun k h1 h2=>by rcases hs4 k h2 with h|h;exact HD04.out k h1 h;(have hb:=HB0.out k h1;have:=h.1;omega))
  have Kwld24:=Lib.hid hd24
  have Kwlok:=hid hsp.oks
  have Kwlbd:=hsp.bd
  have Kwlsp:=Lib.hid hsp
  have Kwlrp:=Lib.hid hrp2
  have Kwlbk:=Lib.hid hbk
  have Kwlrb:=Lib.hid hrb
  have Kwlac:=Lib.hid hac
  have Kwlm:=Lib.hid hm
  have Kwls2:=Lib.hid hs2
  have Kwls4:=Lib.hid hs4
  have Kwlap:=Lib.hid hap
  clear hsp hrp2 hbk hrb hac hm hs2 hs4 hap hd24
  go_upto_region 2 with (fail)
  refine Al 195 [27,28,29,30,31,32,33,34] [0,1,2,3,4,5,6,7] (fun a0 HA0=>?_)
  have oe5:=ev HA0 5 rfl
  have oe13:=ev HA0 13 rfl
  refine QSeq.pure rfl _ (fun E=>Ah rfl (E.v oe13)) ?_
  refine QSeq.pure rfl _ (fun E=>Ah rfl (E.v oe5)) ?_
  refine QSeq.pure rfl (.int .i64 acs.length) (fun E=>ex_lenS rfl (E.d 1 0) Try.underlying56) ?_
  refine QSeq.pure rfl (.bool (decide (((i:Nat):Int) < ((acs.length:Nat):Int)))) (fun E=>A7 rfl (E.d 0 2) (E.d 2 0) (Ak _ _ _ _ _ _) (run_lss_i _ _ _ Try.underlying3)) ?_
  refine QSeq.pure rfl _ (fun E=>Ah rfl (E.d 3 0)) ?_
  refine QSeq.may (b:=(decide (((i:Nat):Int) < ((acs.length:Nat):Int)))) rfl (.int .i64 ((i:Nat):Int)) (fun E=>((Ad rfl rfl (E.sz 31 (by decide)) (E.d 4 0)).trans (Cc _))) (fun E hb=>Ah rfl (E.v oe13)) ?_
  intro v2_5 hw
  have hv2_5:=hid hw
  clear hw
  refine QSeq.may (b:=(decide (((i:Nat):Int) < ((acs.length:Nat):Int)))) rfl (.bool (decide (((i:Nat):Int) < 25))) (fun E=>((Ad rfl rfl (E.sz 31 (by decide)) (E.d 4 1)).trans (Cc _))) (fun E hb=>A7 rfl ((E.q 5 0 hv2_5.out).1 hb) rfl (Ak _ _ _ _ _ _) (run_lss_i _ _ _ Try.underlying3)) ?_
  intro v2_6 hw
  have hv2_6:=hid hw
  clear hw
  obtain ⟨pb7,hb7⟩:∃ b:Bool,b=((decide (((i:Nat):Int) < ((acs.length:Nat):Int))) && (decide (((i:Nat):Int) < 25))):=⟨_,rfl⟩
  have HB7:=hid hb7
  clear hb7
  refine QSeq.pure rfl (.bool pb7) (fun E=>ex_pickE rfl (E.d 4 2) rfl rfl ((and_val fun hb=>(E.q 6 0 hv2_6.out).1 hb).trans (congrArg Value.bool HB7.out.symm))) ?_
  clear hv2_5 hv2_6
  refine QSeq.nil (t':=[_,_,_,_,_,_,_,_]) rfl ?_
  obtain rfl:=HA0.out
  clear HA0 oe5 oe13
  simp only [pz,Act.put,sIB,sCZ,sCS]
  by_cases hc:i < acs.length∧i < 25
  ·obtain ⟨hc1,hc2⟩:=hc
   obtain rfl:pb7=true:=HB7.out.trans (by simp only [Bool.and_eq_true,decide_eq_true_eq];omega)
   obtain ⟨g0,o0,cs,eao,hrg,hrd,hcs⟩:=Kwlac.out.at hc1
   obtain ⟨va,rfl,hoka,hva⟩:=hrd
   generalize acs[i]=a at hva hoka hcs
   obtain ⟨aa,cpa,rfl⟩:=hva.shape
   subst eao
   have HAT:=hid (show CellsAt R0 wl g0 (o0+i * 6) (a.cells (.slice aa a.b.length cpa)) from ⟨hrg,hcs⟩)
   have HEL:=Lib.hid hva
   have HOK:=Lib.hid hoka
   clear hrg hcs hva hoka
   go_upto_region 4 with (fail)
   refine Al 195 [37,38,39,40,14,200] [0,1,2,3,4,5] (fun a0 HA0=>?_)
   have oe5:=ev HA0 5 rfl
   have oe13:=ev HA0 13 rfl
   refine QSeq.pure rfl _ (fun E=>Ah rfl (E.v oe5)) ?_
   refine QSeq.pure rfl _ (fun E=>Ah rfl (E.v oe13)) ?_
   refine QSeq.pure rfl (.pointer (some ⟨g0,o0+i * 6,none⟩)) (fun E=>ex_idxS (i:=i) (s:=6) rfl Try.underlying56 (by kernel_rfl) (E.d 0 1) (E.d 1 0) (by omega)) ?_
   refine QSeq.pure rfl _ (fun E=>Ap rfl Try.underlying59 rfl (off:=o0+i * 6) (cs:=[.int .i64 a.d,.int .i64 a.x,.int .u64 (a.t:Nat),.int .i64 a.cl,.int .i64 a.sq,.slice aa a.b.length cpa]) (by kernel_rfl) (E.d 2 0) (fun j u hu=>(HAT.out).2 j u hu)) ?_
   refine QSeq.go fun act E=>?_
   refine qc_alloc rfl (Ab rfl) rfl (z:=[.int .i64 0,.int .i64 0,.int .u64 0,.int .i64 0,.int .i64 0,.slice none 0 0]) (by kernel_rfl) ?_
   intro u4_4 qac hm
   have zl4_4:=qac.lt
   have Hx6:=hid qac
   have zu4_4:=hm.size
   have Cx7:=hid (show Mod (fun _=>False) wl u4_4 from hm)
   clear hm
   clear act E qac
   refine QSeq.go fun act E=>?_
   have hlz:(([.int .i64 a.d,.int .i64 a.x,.int .u64 (a.t:Nat),.int .i64 a.cl,.int .i64 a.sq,.slice aa a.b.length cpa]:List Value)).length=List.length ([.int .i64 0,.int .i64 0,.int .u64 0,.int .i64 0,.int .i64 0,.slice none 0 0]:List Value):=rfl
   refine Bc rfl (Ab rfl) rfl Hx6.out (off:=0) (vs:=([.int .i64 a.d,.int .i64 a.x,.int .u64 (a.t:Nat),.int .i64 a.cl,.int .i64 a.sq,.slice aa a.b.length cpa]:List Value)) (by rw [hlz];kernel_rfl) (by intro u hu;simp only [List.mem_cons,List.not_mem_nil,or_false] at hu;rcases hu with rfl|rfl|rfl|rfl|rfl|rfl<;>rfl) (by rw [hlz];exact Nat.le_of_eq (Nat.zero_add _)) (E.d 4 0) (ec (E.d 3 1)) ?_
   intro u4_5 qc0 hm
   have qac:=qc0.eqv (b:=(([.int .i64 a.d,.int .i64 a.x,.int .u64 (a.t:Nat),.int .i64 a.cl,.int .i64 a.sq,.slice aa a.b.length cpa]:List Value):List Value).toArray) (A0 (#[.int .i64 0,.int .i64 0,.int .u64 0,.int .i64 0,.int .i64 0,.slice none 0 0]) _ (by rw [hlz];rfl))
   clear qc0 hlz
   have Hx8:=hid qac
   have zu4_5:=hm.size
   have HMu4_5:=hid hm
   have Cx9:=hid (Mod.goS (S':=(fun _=>False)) Cx7.out hm (fun _ h=>h) (by intro k h0 h2;omega))
   clear hm Cx7
   clear act E qac Hx6
   clear HMu4_5
   refine QSeq.nil (t':=[_,_,_,_,_,_]) rfl ?_
   obtain rfl:=HA0.out
   clear HA0 oe5 oe13
   simp only [pz,Act.put,sIB,sCZ,sCS,List.set_nil]
   clear HAT
   have hat:a.t < U64:=HOK.out.2.2.1
   obtain ⟨kc,hkc⟩:∃ m:Nat,within a.cl 3=m:=⟨(within a.cl 3).toNat,by have:=within_range a.cl 3 (by decide);omega⟩
   have rkc:=within_range a.cl 3 (by decide)
   have HWkc:=hid (Within_any a.cl 3 (by decide) (by decide) HOK.out.2.2.2.1)
   rw [hkc] at HWkc rkc
   clear hkc
   obtain ⟨ks,hks⟩:∃ m:Nat,within a.sq 4=m:=⟨(within a.sq 4).toNat,by have:=within_range a.sq 4 (by decide);omega⟩
   have rks:=within_range a.sq 4 (by decide)
   have HWks:=hid (Within_any a.sq 4 (by decide) (by decide) HOK.out.2.2.2.2)
   rw [hks] at HWks rks
   clear hks
   have HNK:=hid (show NmK (((kc:Nat):Int),((ks:Nat):Int)) from ⟨by unfold I64;(try dsimp only);omega,by unfold I64;(try dsimp only);omega⟩)
   go_upto_region 5 with (fail)
   generalize ha0:Act.mk _ _=a0
   have oe14:a0.eval (.tmp 14)=.pointer (some ⟨wl.heap.size,0,none⟩):=by rw [← ha0];rfl
   have hsz0:a0.tmps.size=195:=by rw [← ha0];rfl
   have HA0:=hid ha0
   clear ha0
   refine wp_region_Q 195 hsz0 (by kernel_rfl) (by kernel_rfl) [41,42,43,44,45,46,47,48,49,15,205] (by kernel_rfl) (by decide) (fun _=>False) (fun _ _=>False) (fun _ _ h=>h) [qi (.pointer (some ⟨wl.heap.size,3,none⟩)),qi (.pointer (some ⟨wl.heap.size,3,none⟩)),qi (.int .i64 a.cl),qi (.int .i64 ((kc:Nat):Int)),qi (.pointer (some ⟨wl.heap.size,3,none⟩)),qi (.pointer (some ⟨wl.heap.size,4,none⟩)),qi (.int .i64 a.sq),qi (.int .i64 ((ks:Nat):Int)),qi (.agg #[.int .i64 ((kc:Nat):Int),.int .i64 ((ks:Nat):Int)]),qa,qa] ⟨Aa,Aa,Aa,Aa,Aa,Aa,Aa,Aa,Aa,B5,B5,trivial⟩ [] (by kernel_rfl) (by decide) (by kernel_rfl) [⟨9,10,30,[.int .i64 0,.int .i64 0],0,(fun t=>[.int .i64 ((kc:Nat):Int),.int .i64 ((ks:Nat):Int)])⟩] (by kernel_rfl) (by intro r hr;simp only [List.mem_cons,List.not_mem_nil,or_false] at hr;rcases hr with rfl<;>exact ⟨by kernel_rfl,by kernel_rfl⟩) (by intro r hr;simp only [List.mem_cons,List.not_mem_nil,or_false] at hr;rcases hr with rfl<;>exact ⟨of_decide_eq_true (by kernel_rfl),of_decide_eq_true (by kernel_rfl)⟩) (by intro r hr;simp only [List.mem_cons,List.not_mem_nil,or_false] at hr;rcases hr with rfl<;>exact fun _ _ _ _=>⟨trivial,trivial⟩) ⟨?_,?_,?_,?_,?_,?_,?_,?_,?_,?_,?_,trivial⟩ ?_
   ·exact stq (fun E=>Ai rfl Try.underlying59 rfl (by kernel_rfl) (E.v oe14))
   ·exact stq (fun E=>Ai rfl Try.underlying30 rfl (by kernel_rfl) (E.d 0))
   ·exact stq (fun E=>Am rfl Try.underlying3 rfl (E.d 1) (Cs.lit1 (Hx8.out.mod E.m.old (by intro h2;omega)) rfl))
   ·refine Ag rfl rfl rfl fun _ _ _ _ _ _ _ _ _ hd _ _=>?_
    have h2:=hd ⟨2,.data⟩ (by simp) rfl _ rfl
    refine qe_callF (args:=#[.int .i64 a.cl,.int .i64 3]) rfl (Ab rfl) rfl Try.func8 (args2 h2 rfl) (HWkc.out _) ?_
    rintro e w2 ⟨rfl,rfl⟩
    exact ⟨_,rfl,QE.refl,rfl⟩
   ·exact stq (fun E=>Ai rfl Try.underlying59 rfl (by kernel_rfl) (E.v oe14))
   ·exact stq (fun E=>Ai rfl Try.underlying30 rfl (by kernel_rfl) (E.d 4))
   ·exact stq (fun E=>Am rfl Try.underlying3 rfl (E.d 5) (Cs.lit1 (Hx8.out.mod E.m.old (by intro h2;omega)) rfl))
   ·refine Ag rfl rfl rfl fun _ _ _ _ _ _ _ _ _ hd _ _=>?_
    have h6:=hd ⟨6,.data⟩ (by simp) rfl _ rfl
    refine qe_callF (args:=#[.int .i64 a.sq,.int .i64 4]) rfl (Ab rfl) rfl Try.func8 (args2 h6 rfl) (HWks.out _) ?_
    rintro e w2 ⟨rfl,rfl⟩
    exact ⟨_,rfl,QE.refl,rfl⟩
   ·refine Ag rfl rfl rfl fun _ _ act _ _ _ _ _ _ hd _ _=>?_
    have h3:=hd ⟨3,.data⟩ (by simp) rfl _ rfl
    have h7:=hd ⟨7,.data⟩ (by simp) rfl _ rfl
    refine Aq rfl (Ab rfl) (ex_build rfl (z:=[.int .i64 0,.int .i64 0]) (places:=[(0,1),(1,1)]) (by kernel_rfl) (parts:=[(0,.int .i64 ((kc:Nat):Int)),(1,.int .i64 ((ks:Nat):Int))]) (by simp only [List.map_toArray,List.map_cons,List.map_nil,show act.eval (.tmp 44)=_ from h3,show act.eval (.tmp 48)=_ from h7];try rfl) (r:=[.int .i64 ((kc:Nat):Int),.int .i64 ((ks:Nat):Int)]) (by rfl)) QE.refl ?_
    rfl
   ·exact stepq_make rfl rfl ⟨rfl,rfl,by kernel_rfl,by kernel_rfl⟩
   ·refine stepq_write rfl rfl rfl ⟨rfl,15,(.tmp 49),rfl,by decide,rfl,by kernel_rfl,fun Z tr act w' hm hout hsz hd hpre=>?_⟩
    have h8:=hd ⟨8,.data⟩ (by simp) rfl _ rfl
    exact ⟨Nat.zero_le _,(by rw [show act.eval ((.tmp 49))=_ from h8];rfl),rfl,(by intro u hu;simp only [List.mem_cons,List.not_mem_nil,or_false] at hu;rcases hu with rfl|rfl<;>rfl)⟩
   intro u5_0 hr
   have zu5_0:=hr.size
   have Cx10:=hid (hr.new (S:=(fun _=>False)))
   clear hr
   refine QChain.nil fun vs hl hzz hrows hne=>?_
   obtain ⟨Z,hYZ,hZb,hV⟩:=hzz
   obtain ⟨b15,g9,hBb15,hYb15,hCb15⟩:=hrows _ (by simp only [List.mem_cons,List.not_mem_nil,or_false];trivial)
   have f9:gw vs 9=_:=getv g9
   (try dsimp only at hBb15 hYb15);(try simp only [false_or] at hBb15 hYb15)
   have zqb15:=hCb15.lt
   have Hx11:=hid (show Cs u5_0 b15 #[.int .i64 ((kc:Nat):Int),.int .i64 ((ks:Nat):Int)] 30 from hCb15)
   have f3:=fvi hV hl 3
   have f7:=fvi hV hl 7
   rw [show vs=[gw vs 0,gw vs 1,gw vs 2,gw vs 3,gw vs 4,gw vs 5,gw vs 6,gw vs 7,gw vs 8,gw vs 9,gw vs 10] from (Bh hl).trans rfl]
   have ha0:=HA0.out
   subst ha0
   clear HA0 hV hYZ hZb hsz0 hrows hne oe14 hCb15 g9
   simp only [Ar,Act.put,sIB,sCZ,sCS,List.set_nil,f9,f3,f7]
   clear hl f9 f3 f7
   obtain ⟨m,hm⟩:∃ m:Nat,within a.d 6=m:=⟨(within a.d 6).toNat,by have:=within_range a.d 6 (by decide);omega⟩
   have rm:=within_range a.d 6 (by decide)
   have HWm:=hid (Within_any a.d 6 (by decide) (by decide) HOK.out.1)
   rw [hm] at HWm rm
   clear hm
   go_upto_region 6 with (fail)
   refine Al 195 [50,51,52] [0,1,2] (fun a0 HA0=>?_)
   have oe14:=ev HA0 14 rfl
   refine QSeq.pure rfl (.pointer (some ⟨wl.heap.size,0,none⟩)) (fun E=>Ai rfl Try.underlying59 rfl (by kernel_rfl) (E.v oe14)) ?_
   refine QSeq.pure rfl _ (fun E=>Am rfl Try.underlying3 rfl (E.d 0 0) (Cs.lit1 (Hx8.out.mod Cx10.out (fun h=>h)) rfl)) ?_
   refine QSeq.go fun act E=>?_
   refine Ax (args:=#[.int .i64 a.d,.int .i64 6]) rfl (Ab rfl) rfl Try.func8 (args2 (E.d 1 0) rfl) (HWm.out _) ?_
   rintro e w2 ⟨rfl,hw2⟩
   obtain rfl:u5_0=w2:=by first|exact hw2|exact hw2.symm
   refine ⟨_,rfl,?_⟩
   clear act E
   refine QSeq.nil (t':=[_,_,_]) rfl ?_
   obtain rfl:=HA0.out
   clear HA0 oe14
   simp only [pz,Act.put,sIB,sCZ,sCS]
   go_upto_block 2 with (fail)
   go_cut [] from 16 to 129 (fun w'=>∃ (t:SS) (L2:Sgs) (B2 B4:Nat→Prop),t.m.length≤N0+(i+1)∧L2.length≤N0+2 * (i+1)∧Apart_ L2∧w.heap.size≤w'.heap.size∧SpR R1 w' p f k rep t∧RpR B2 w' y f k rep t∧BkR R3 w' g L2∧RbO B4 w' kb L2∧(∀ k,B2 k→B4 k→False)∧(∀ k,B2 k→R2 k∨New w w' k)∧(∀ k,B4 k→R4 k∨New w w' k)∧RdS SaR R0 w' (.slice (some ⟨g0,o0,none⟩) acs.length cap) acs∧Cs w' (b15) #[.int .i64 ((kc:Nat):Int),.int .i64 ((ks:Nat):Int)] 30∧Mod (fun k=>(R1 k)∨(R2 k)∨(R3 k)∨(R4 k)) w w')
   case first=>
    by_cases h3:m=3
    ·skip
     go_upto_region 20 with (fail)
     refine Al 195 [108,107] [0,1] (fun a0 HA0=>?_)
     have oe52:=ev HA0 52 rfl
     refine QSeq.pure rfl (.bool true) (fun E=>Av rfl (E.v oe52) rfl (Ak _ _ _ _ _ _) (Bg _ _ _ Try.underlying3) (congrArg Value.bool (eq_tt (by omega)))) ?_
     refine QSeq.pure rfl _ (fun E=>An rfl (E.d 0 0)) ?_
     refine QSeq.nil (t':=[_,_]) rfl ?_
     obtain rfl:=HA0.out
     clear HA0 oe52
     simp only [pz,Act.put,sIB,sCZ,sCS]
     go_upto_region 22 with (fail)
     refine Al 195 [110,111,112,113] [0,1,2,3] (fun a0 HA0=>?_)
     have oe1:=ev HA0 1 rfl
     have oe14:=ev HA0 14 rfl
     refine QSeq.pure rfl _ (fun E=>Ah rfl (E.v oe1)) ?_
     refine QSeq.pure rfl (.pointer (some ⟨wl.heap.size,2,none⟩)) (fun E=>Ai rfl Try.underlying59 rfl (by kernel_rfl) (E.v oe14)) ?_
     refine QSeq.pure rfl _ (fun E=>Am rfl Try.underlying45 rfl (E.d 1 0) (Cs.lit1 (Hx8.out.mod Cx10.out (fun h=>h)) rfl)) ?_
     refine QSeq.call rfl rfl Try.func13 (Tick_Q (n:=a.t) ((Kwlsp.out.mod Cx9.out (fun _ _ h=>h)).mod Cx10.out (fun _ _ h=>h)) (by intro k h1;have hb:=HB1.out k h1;omega) hat) (fun E=>args2 (E.d 0 2) (E.d 2 0)) ?_
     rintro e u22_3 ⟨rfl,qsp,hm⟩
     refine ⟨_,rfl,?_⟩
     have Hx12:=hid qsp
     have zu22_3:=hm.size
     have Cx13:=hid (show Mod (fun k=>(R1 k)) u5_0 u22_3 from hm)
     clear hm
     clear qsp Kwlsp
     refine QSeq.nil (t':=[_,_,_,_]) rfl ?_
     obtain rfl:=HA0.out
     clear HA0 oe1 oe14
     simp only [pz,Act.put,sIB,sCZ,sCS]
     go_upto_region 23 with (fail)
     refine Al 195 [114,115,116,117] [0,1,2,3] (fun a0 HA0=>?_)
     have oe2:=ev HA0 2 rfl
     have oe14:=ev HA0 14 rfl
     refine QSeq.pure rfl _ (fun E=>Ah rfl (E.v oe2)) ?_
     refine QSeq.pure rfl (.pointer (some ⟨wl.heap.size,2,none⟩)) (fun E=>Ai rfl Try.underlying59 rfl (by kernel_rfl) (E.v oe14)) ?_
     refine QSeq.pure rfl _ (fun E=>Am rfl Try.underlying45 rfl (E.d 1 0) (Cs.lit1 ((Hx8.out.mod Cx10.out (fun h=>h)).mod Cx13.out (by intro h2;first|omega|(have hb:=HB1.out _ h2;omega))) rfl)) ?_
     refine QSeq.call rfl rfl Try.func36 (RTick_A (n:=a.t) (((Kwlrp.out.mod Cx9.out (fun _ _ h=>h)).mod Cx10.out (fun _ _ h=>h)).mod Cx13.out (by intro k h1 h2;first|omega|(have hb:=KwlbA2.out k h1;omega)|(have hb:=HB1.out k h2;omega)|exact HD13.out k h1 h2|exact HD13.out k h2 h1|exact HD01.out k h1 h2|exact HD01.out k h2 h1|exact HD03.out k h1 h2|exact HD03.out k h2 h1|exact Kwld12.out k h1 h2|exact Kwld12.out k h2 h1|exact Kwld14.out k h1 h2|exact Kwld14.out k h2 h1|exact Kwld32.out k h1 h2|exact Kwld32.out k h2 h1|exact Kwld34.out k h1 h2|exact Kwld34.out k h2 h1|exact Kwld02.out k h1 h2|exact Kwld02.out k h2 h1|exact Kwld04.out k h1 h2|exact Kwld04.out k h2 h1|exact Kwld24.out k h1 h2|exact Kwld24.out k h2 h1|(have hb:=KwlbA2.out k h1;have hb2:=HB1.out k h2;omega))) (by intro k h1;have hb:=KwlbA2.out k h1;omega) hat) (fun E=>args2 (E.d 0 2) (E.d 2 0)) ?_
     rintro e u23_3 ⟨rfl,qrp,hm⟩
     refine ⟨_,rfl,?_⟩
     have Hx14:=hid qrp
     have zu23_3:=hm.size
     have Cx15:=hid (show Mod (fun k=>(A2 k)) u22_3 u23_3 from hm)
     clear hm
     clear qrp Kwlrp
     refine QSeq.nil (t':=[_,_,_,_]) rfl ?_
     obtain rfl:=HA0.out
     clear HA0 oe2 oe14
     simp only [pz,Act.put,sIB,sCZ,sCS]
     clear HEL
     clear Hx8
     go_wp2_with fail
     go_meet
     case rel=>exact ⟨(tickS s a.t),L,(fun k=>(A2 k)),(fun k=>(A4 k)),(show s.m.length≤_ by omega),(by omega),Kwlap.out,by omega,(Hx12.out.mod Cx15.out (by intro k h1 h2;first|omega|(have hb:=HB1.out k h1;omega)|(have hb:=KwlbA2.out k h2;omega)|exact HD13.out k h1 h2|exact HD13.out k h2 h1|exact HD01.out k h1 h2|exact HD01.out k h2 h1|exact HD03.out k h1 h2|exact HD03.out k h2 h1|exact Kwld12.out k h1 h2|exact Kwld12.out k h2 h1|exact Kwld14.out k h1 h2|exact Kwld14.out k h2 h1|exact Kwld32.out k h1 h2|exact Kwld32.out k h2 h1|exact Kwld34.out k h1 h2|exact Kwld34.out k h2 h1|exact Kwld02.out k h1 h2|exact Kwld02.out k h2 h1|exact Kwld04.out k h1 h2|exact Kwld04.out k h2 h1|exact Kwld24.out k h1 h2|exact Kwld24.out k h2 h1|(have hb:=HB1.out k h1;have hb2:=KwlbA2.out k h2;omega))),Hx14.out,((((Kwlbk.out.mod Cx9.out (fun _ _ h=>h)).mod Cx10.out (fun _ _ h=>h)).mod Cx13.out (by intro k h1 h2;first|omega|(have hb:=HB3.out k h1;omega)|(have hb:=HB1.out k h2;omega)|exact HD13.out k h1 h2|exact HD13.out k h2 h1|exact HD01.out k h1 h2|exact HD01.out k h2 h1|exact HD03.out k h1 h2|exact HD03.out k h2 h1|exact Kwld12.out k h1 h2|exact Kwld12.out k h2 h1|exact Kwld14.out k h1 h2|exact Kwld14.out k h2 h1|exact Kwld32.out k h1 h2|exact Kwld32.out k h2 h1|exact Kwld34.out k h1 h2|exact Kwld34.out k h2 h1|exact Kwld02.out k h1 h2|exact Kwld02.out k h2 h1|exact Kwld04.out k h1 h2|exact Kwld04.out k h2 h1|exact Kwld24.out k h1 h2|exact Kwld24.out k h2 h1|(have hb:=HB3.out k h1;have hb2:=HB1.out k h2;omega))).mod Cx15.out (by intro k h1 h2;first|omega|(have hb:=HB3.out k h1;omega)|(have hb:=KwlbA2.out k h2;omega)|exact HD13.out k h1 h2|exact HD13.out k h2 h1|exact HD01.out k h1 h2|exact HD01.out k h2 h1|exact HD03.out k h1 h2|exact HD03.out k h2 h1|exact Kwld12.out k h1 h2|exact Kwld12.out k h2 h1|exact Kwld14.out k h1 h2|exact Kwld14.out k h2 h1|exact Kwld32.out k h1 h2|exact Kwld32.out k h2 h1|exact Kwld34.out k h1 h2|exact Kwld34.out k h2 h1|exact Kwld02.out k h1 h2|exact Kwld02.out k h2 h1|exact Kwld04.out k h1 h2|exact Kwld04.out k h2 h1|exact Kwld24.out k h1 h2|exact Kwld24.out k h2 h1|(have hb:=HB3.out k h1;have hb2:=KwlbA2.out k h2;omega))),((((Kwlrb.out.mod Cx9.out (fun _ _ h=>h)).mod Cx10.out (fun _ _ h=>h)).mod Cx13.out (by intro k h1 h2;first|omega|(have hb:=KwlbA4.out k h1;omega)|(have hb:=HB1.out k h2;omega)|exact HD13.out k h1 h2|exact HD13.out k h2 h1|exact HD01.out k h1 h2|exact HD01.out k h2 h1|exact HD03.out k h1 h2|exact HD03.out k h2 h1|exact Kwld12.out k h1 h2|exact Kwld12.out k h2 h1|exact Kwld14.out k h1 h2|exact Kwld14.out k h2 h1|exact Kwld32.out k h1 h2|exact Kwld32.out k h2 h1|exact Kwld34.out k h1 h2|exact Kwld34.out k h2 h1|exact Kwld02.out k h1 h2|exact Kwld02.out k h2 h1|exact Kwld04.out k h1 h2|exact Kwld04.out k h2 h1|exact Kwld24.out k h1 h2|exact Kwld24.out k h2 h1|(have hb:=KwlbA4.out k h1;have hb2:=HB1.out k h2;omega))).mod Cx15.out (by intro k h1 h2;first|omega|(have hb:=KwlbA4.out k h1;omega)|(have hb:=KwlbA2.out k h2;omega)|exact HD13.out k h1 h2|exact HD13.out k h2 h1|exact HD01.out k h1 h2|exact HD01.out k h2 h1|exact HD03.out k h1 h2|exact HD03.out k h2 h1|exact Kwld12.out k h1 h2|exact Kwld12.out k h2 h1|exact Kwld14.out k h1 h2|exact Kwld14.out k h2 h1|exact Kwld32.out k h1 h2|exact Kwld32.out k h2 h1|exact Kwld34.out k h1 h2|exact Kwld34.out k h2 h1|exact Kwld02.out k h1 h2|exact Kwld02.out k h2 h1|exact Kwld04.out k h1 h2|exact Kwld04.out k h2 h1|exact Kwld24.out k h1 h2|exact Kwld24.out k h2 h1|(have hb:=KwlbA4.out k h1;have hb2:=KwlbA2.out k h2;omega))),(by intro k h1 h2;first|omega|(have hb:=KwlbA2.out k h1;omega)|(have hb:=KwlbA4.out k h2;omega)|exact HD13.out k h1 h2|exact HD13.out k h2 h1|exact HD01.out k h1 h2|exact HD01.out k h2 h1|exact HD03.out k h1 h2|exact HD03.out k h2 h1|exact Kwld12.out k h1 h2|exact Kwld12.out k h2 h1|exact Kwld14.out k h1 h2|exact Kwld14.out k h2 h1|exact Kwld32.out k h1 h2|exact Kwld32.out k h2 h1|exact Kwld34.out k h1 h2|exact Kwld34.out k h2 h1|exact Kwld02.out k h1 h2|exact Kwld02.out k h2 h1|exact Kwld04.out k h1 h2|exact Kwld04.out k h2 h1|exact Kwld24.out k h1 h2|exact Kwld24.out k h2 h1|(have hb:=KwlbA2.out k h1;have hb2:=KwlbA4.out k h2;omega)),(by intro k h1;(try dsimp only at h1);first|exact (Kwls2.out k h1).elim Or.inl (fun h=>Or.inr (by unfold New at h ⊢; omega))|exact Or.inr (by unfold New;omega)),(by intro k h1;(try dsimp only at h1);first|exact (Kwls4.out k h1).elim Or.inl (fun h=>Or.inr (by unfold New at h ⊢; omega))|exact Or.inr (by unfold New;omega)),((((Kwlac.out.mod Cx9.out (fun _ _ h=>h)).mod Cx10.out (fun _ _ h=>h)).mod Cx13.out (by intro k h1 h2;first|omega|(have hb:=HB0.out k h1;omega)|(have hb:=HB1.out k h2;omega)|exact HD13.out k h1 h2|exact HD13.out k h2 h1|exact HD01.out k h1 h2|exact HD01.out k h2 h1|exact HD03.out k h1 h2|exact HD03.out k h2 h1|exact Kwld12.out k h1 h2|exact Kwld12.out k h2 h1|exact Kwld14.out k h1 h2|exact Kwld14.out k h2 h1|exact Kwld32.out k h1 h2|exact Kwld32.out k h2 h1|exact Kwld34.out k h1 h2|exact Kwld34.out k h2 h1|exact Kwld02.out k h1 h2|exact Kwld02.out k h2 h1|exact Kwld04.out k h1 h2|exact Kwld04.out k h2 h1|exact Kwld24.out k h1 h2|exact Kwld24.out k h2 h1|(have hb:=HB0.out k h1;have hb2:=HB1.out k h2;omega))).mod Cx15.out (by intro k h1 h2;first|omega|(have hb:=HB0.out k h1;omega)|(have hb:=KwlbA2.out k h2;omega)|exact HD13.out k h1 h2|exact HD13.out k h2 h1|exact HD01.out k h1 h2|exact HD01.out k h2 h1|exact HD03.out k h1 h2|exact HD03.out k h2 h1|exact Kwld12.out k h1 h2|exact Kwld12.out k h2 h1|exact Kwld14.out k h1 h2|exact Kwld14.out k h2 h1|exact Kwld32.out k h1 h2|exact Kwld32.out k h2 h1|exact Kwld34.out k h1 h2|exact Kwld34.out k h2 h1|exact Kwld02.out k h1 h2|exact Kwld02.out k h2 h1|exact Kwld04.out k h1 h2|exact Kwld04.out k h2 h1|exact Kwld24.out k h1 h2|exact Kwld24.out k h2 h1|(have hb:=HB0.out k h1;have hb2:=KwlbA2.out k h2;omega))),((Hx11.out.mod Cx13.out (by intro h2;first|omega|(have hb:=HB1.out _ h2;omega))).mod Cx15.out (by intro h2;first|omega|(have hb:=KwlbA2.out _ h2;omega))),((((Kwlm.out.trans Cx9.out (fun _ _ h=>h.elim)).trans Cx10.out (fun _ _ h=>h.elim)).trans Cx13.out (by intro k h1 h2;first|exact h2|omega|exact Or.inl h2|exact Or.inr h2|exact Or.inr (Or.inl h2)|exact Or.inr (Or.inr h2)|(have hb:=HB1.out k h2;omega)|exact Or.inr (Or.inr (Or.inl h2))|exact Or.inr (Or.inr (Or.inr h2))|exact (Kwls2.out _ h2).elim (fun h=>Or.inr (Or.inl h)) (fun h=>absurd h.1 (by omega))|exact (Kwls4.out _ h2).elim (fun h=>Or.inr (Or.inr (Or.inr h))) (fun h=>absurd h.1 (by omega)))).trans Cx15.out (by intro k h1 h2;first|exact h2|omega|exact Or.inl h2|exact Or.inr h2|exact Or.inr (Or.inl h2)|exact Or.inr (Or.inr h2)|(have hb:=KwlbA2.out k h2;omega)|exact Or.inr (Or.inr (Or.inl h2))|exact Or.inr (Or.inr (Or.inr h2))|exact (Kwls2.out _ h2).elim (fun h=>Or.inr (Or.inl h)) (fun h=>absurd h.1 (by omega))|exact (Kwls4.out _ h2).elim (fun h=>Or.inr (Or.inr (Or.inr h))) (fun h=>absurd h.1 (by omega))))⟩
    ·skip
     go_upto_region 20 with (fail)
     refine Al 195 [108,107] [0,1] (fun a0 HA0=>?_)
     have oe52:=ev HA0 52 rfl
     refine QSeq.pure rfl (.bool false) (fun E=>Av rfl (E.v oe52) rfl (Ak _ _ _ _ _ _) (Bg _ _ _ Try.underlying3) (congrArg Value.bool (eq_ff (by omega)))) ?_
     refine QSeq.pure rfl _ (fun E=>An rfl (E.d 0 0)) ?_
     refine QSeq.nil (t':=[_,_]) rfl ?_
     obtain rfl:=HA0.out
     clear HA0 oe52
     simp only [pz,Act.put,sIB,sCZ,sCS]
     by_cases h4:m=4
     ·skip
      go_upto_region 21 with (fail)
      refine Al 195 [109,107] [0,1] (fun a0 HA0=>?_)
      have oe52:=ev HA0 52 rfl
      refine QSeq.pure rfl (.bool true) (fun E=>Av rfl (E.v oe52) rfl (Ak _ _ _ _ _ _) (Bg _ _ _ Try.underlying3) (congrArg Value.bool (eq_tt (by omega)))) ?_
      refine QSeq.pure rfl _ (fun E=>An rfl (E.d 0 0)) ?_
      refine QSeq.nil (t':=[_,_]) rfl ?_
      obtain rfl:=HA0.out
      clear HA0 oe52
      simp only [pz,Act.put,sIB,sCZ,sCS]
      go_upto_region 22 with (fail)
      refine Al 195 [110,111,112,113] [0,1,2,3] (fun a0 HA0=>?_)
      have oe1:=ev HA0 1 rfl
      have oe14:=ev HA0 14 rfl
      refine QSeq.pure rfl _ (fun E=>Ah rfl (E.v oe1)) ?_
      refine QSeq.pure rfl (.pointer (some ⟨wl.heap.size,2,none⟩)) (fun E=>Ai rfl Try.underlying59 rfl (by kernel_rfl) (E.v oe14)) ?_
      refine QSeq.pure rfl _ (fun E=>Am rfl Try.underlying45 rfl (E.d 1 0) (Cs.lit1 (Hx8.out.mod Cx10.out (fun h=>h)) rfl)) ?_
      refine QSeq.call rfl rfl Try.func13 (Tick_Q (n:=a.t) ((Kwlsp.out.mod Cx9.out (fun _ _ h=>h)).mod Cx10.out (fun _ _ h=>h)) (by intro k h1;have hb:=HB1.out k h1;omega) hat) (fun E=>args2 (E.d 0 2) (E.d 2 0)) ?_
      rintro e u22_3 ⟨rfl,qsp,hm⟩
      refine ⟨_,rfl,?_⟩
      have Hx16:=hid qsp
      have zu22_3:=hm.size
      have Cx17:=hid (show Mod (fun k=>(R1 k)) u5_0 u22_3 from hm)
      clear hm
      clear qsp Kwlsp
      refine QSeq.nil (t':=[_,_,_,_]) rfl ?_
      obtain rfl:=HA0.out
      clear HA0 oe1 oe14
      simp only [pz,Act.put,sIB,sCZ,sCS]
      go_upto_region 23 with (fail)
      refine Al 195 [114,115,116,117] [0,1,2,3] (fun a0 HA0=>?_)
      have oe2:=ev HA0 2 rfl
      have oe14:=ev HA0 14 rfl
      refine QSeq.pure rfl _ (fun E=>Ah rfl (E.v oe2)) ?_
      refine QSeq.pure rfl (.pointer (some ⟨wl.heap.size,2,none⟩)) (fun E=>Ai rfl Try.underlying59 rfl (by kernel_rfl) (E.v oe14)) ?_
      refine QSeq.pure rfl _ (fun E=>Am rfl Try.underlying45 rfl (E.d 1 0) (Cs.lit1 ((Hx8.out.mod Cx10.out (fun h=>h)).mod Cx17.out (by intro h2;first|omega|(have hb:=HB1.out _ h2;omega))) rfl)) ?_
      refine QSeq.call rfl rfl Try.func36 (RTick_A (n:=a.t) (((Kwlrp.out.mod Cx9.out (fun _ _ h=>h)).mod Cx10.out (fun _ _ h=>h)).mod Cx17.out (by intro k h1 h2;first|omega|(have hb:=KwlbA2.out k h1;omega)|(have hb:=HB1.out k h2;omega)|exact HD13.out k h1 h2|exact HD13.out k h2 h1|exact HD01.out k h1 h2|exact HD01.out k h2 h1|exact HD03.out k h1 h2|exact HD03.out k h2 h1|exact Kwld12.out k h1 h2|exact Kwld12.out k h2 h1|exact Kwld14.out k h1 h2|exact Kwld14.out k h2 h1|exact Kwld32.out k h1 h2|exact Kwld32.out k h2 h1|exact Kwld34.out k h1 h2|exact Kwld34.out k h2 h1|exact Kwld02.out k h1 h2|exact Kwld02.out k h2 h1|exact Kwld04.out k h1 h2|exact Kwld04.out k h2 h1|exact Kwld24.out k h1 h2|exact Kwld24.out k h2 h1|(have hb:=KwlbA2.out k h1;have hb2:=HB1.out k h2;omega))) (by intro k h1;have hb:=KwlbA2.out k h1;omega) hat) (fun E=>args2 (E.d 0 2) (E.d 2 0)) ?_
      rintro e u23_3 ⟨rfl,qrp,hm⟩
      refine ⟨_,rfl,?_⟩
      have Hx18:=hid qrp
      have zu23_3:=hm.size
      have Cx19:=hid (show Mod (fun k=>(A2 k)) u22_3 u23_3 from hm)
      clear hm
      clear qrp Kwlrp
      refine QSeq.nil (t':=[_,_,_,_]) rfl ?_
      obtain rfl:=HA0.out
      clear HA0 oe2 oe14
      simp only [pz,Act.put,sIB,sCZ,sCS]
      clear HEL
      clear Hx8
      go_wp2_with fail
      go_meet
      case rel=>exact ⟨(tickS s a.t),L,(fun k=>(A2 k)),(fun k=>(A4 k)),(show s.m.length≤_ by omega),(by omega),Kwlap.out,by omega,(Hx16.out.mod Cx19.out (by intro k h1 h2;first|omega|(have hb:=HB1.out k h1;omega)|(have hb:=KwlbA2.out k h2;omega)|exact HD13.out k h1 h2|exact HD13.out k h2 h1|exact HD01.out k h1 h2|exact HD01.out k h2 h1|exact HD03.out k h1 h2|exact HD03.out k h2 h1|exact Kwld12.out k h1 h2|exact Kwld12.out k h2 h1|exact Kwld14.out k h1 h2|exact Kwld14.out k h2 h1|exact Kwld32.out k h1 h2|exact Kwld32.out k h2 h1|exact Kwld34.out k h1 h2|exact Kwld34.out k h2 h1|exact Kwld02.out k h1 h2|exact Kwld02.out k h2 h1|exact Kwld04.out k h1 h2|exact Kwld04.out k h2 h1|exact Kwld24.out k h1 h2|exact Kwld24.out k h2 h1|(have hb:=HB1.out k h1;have hb2:=KwlbA2.out k h2;omega))),Hx18.out,((((Kwlbk.out.mod Cx9.out (fun _ _ h=>h)).mod Cx10.out (fun _ _ h=>h)).mod Cx17.out (by intro k h1 h2;first|omega|(have hb:=HB3.out k h1;omega)|(have hb:=HB1.out k h2;omega)|exact HD13.out k h1 h2|exact HD13.out k h2 h1|exact HD01.out k h1 h2|exact HD01.out k h2 h1|exact HD03.out k h1 h2|exact HD03.out k h2 h1|exact Kwld12.out k h1 h2|exact Kwld12.out k h2 h1|exact Kwld14.out k h1 h2|exact Kwld14.out k h2 h1|exact Kwld32.out k h1 h2|exact Kwld32.out k h2 h1|exact Kwld34.out k h1 h2|exact Kwld34.out k h2 h1|exact Kwld02.out k h1 h2|exact Kwld02.out k h2 h1|exact Kwld04.out k h1 h2|exact Kwld04.out k h2 h1|exact Kwld24.out k h1 h2|exact Kwld24.out k h2 h1|(have hb:=HB3.out k h1;have hb2:=HB1.out k h2;omega))).mod Cx19.out (by intro k h1 h2;first|omega|(have hb:=HB3.out k h1;omega)|(have hb:=KwlbA2.out k h2;omega)|exact HD13.out k h1 h2|exact HD13.out k h2 h1|exact HD01.out k h1 h2|exact HD01.out k h2 h1|exact HD03.out k h1 h2|exact HD03.out k h2 h1|exact Kwld12.out k h1 h2|exact Kwld12.out k h2 h1|exact Kwld14.out k h1 h2|exact Kwld14.out k h2 h1|exact Kwld32.out k h1 h2|exact Kwld32.out k h2 h1|exact Kwld34.out k h1 h2|exact Kwld34.out k h2 h1|exact Kwld02.out k h1 h2|exact Kwld02.out k h2 h1|exact Kwld04.out k h1 h2|exact Kwld04.out k h2 h1|exact Kwld24.out k h1 h2|exact Kwld24.out k h2 h1|(have hb:=HB3.out k h1;have hb2:=KwlbA2.out k h2;omega))),((((Kwlrb.out.mod Cx9.out (fun _ _ h=>h)).mod Cx10.out (fun _ _ h=>h)).mod Cx17.out (by intro k h1 h2;first|omega|(have hb:=KwlbA4.out k h1;omega)|(have hb:=HB1.out k h2;omega)|exact HD13.out k h1 h2|exact HD13.out k h2 h1|exact HD01.out k h1 h2|exact HD01.out k h2 h1|exact HD03.out k h1 h2|exact HD03.out k h2 h1|exact Kwld12.out k h1 h2|exact Kwld12.out k h2 h1|exact Kwld14.out k h1 h2|exact Kwld14.out k h2 h1|exact Kwld32.out k h1 h2|exact Kwld32.out k h2 h1|exact Kwld34.out k h1 h2|exact Kwld34.out k h2 h1|exact Kwld02.out k h1 h2|exact Kwld02.out k h2 h1|exact Kwld04.out k h1 h2|exact Kwld04.out k h2 h1|exact Kwld24.out k h1 h2|exact Kwld24.out k h2 h1|(have hb:=KwlbA4.out k h1;have hb2:=HB1.out k h2;omega))).mod Cx19.out (by intro k h1 h2;first|omega|(have hb:=KwlbA4.out k h1;omega)|(have hb:=KwlbA2.out k h2;omega)|exact HD13.out k h1 h2|exact HD13.out k h2 h1|exact HD01.out k h1 h2|exact HD01.out k h2 h1|exact HD03.out k h1 h2|exact HD03.out k h2 h1|exact Kwld12.out k h1 h2|exact Kwld12.out k h2 h1|exact Kwld14.out k h1 h2|exact Kwld14.out k h2 h1|exact Kwld32.out k h1 h2|exact Kwld32.out k h2 h1|exact Kwld34.out k h1 h2|exact Kwld34.out k h2 h1|exact Kwld02.out k h1 h2|exact Kwld02.out k h2 h1|exact Kwld04.out k h1 h2|exact Kwld04.out k h2 h1|exact Kwld24.out k h1 h2|exact Kwld24.out k h2 h1|(have hb:=KwlbA4.out k h1;have hb2:=KwlbA2.out k h2;omega))),(by intro k h1 h2;first|omega|(have hb:=KwlbA2.out k h1;omega)|(have hb:=KwlbA4.out k h2;omega)|exact HD13.out k h1 h2|exact HD13.out k h2 h1|exact HD01.out k h1 h2|exact HD01.out k h2 h1|exact HD03.out k h1 h2|exact HD03.out k h2 h1|exact Kwld12.out k h1 h2|exact Kwld12.out k h2 h1|exact Kwld14.out k h1 h2|exact Kwld14.out k h2 h1|exact Kwld32.out k h1 h2|exact Kwld32.out k h2 h1|exact Kwld34.out k h1 h2|exact Kwld34.out k h2 h1|exact Kwld02.out k h1 h2|exact Kwld02.out k h2 h1|exact Kwld04.out k h1 h2|exact Kwld04.out k h2 h1|exact Kwld24.out k h1 h2|exact Kwld24.out k h2 h1|(have hb:=KwlbA2.out k h1;have hb2:=KwlbA4.out k h2;omega)),(by intro k h1;(try dsimp only at h1);first|exact (Kwls2.out k h1).elim Or.inl (fun h=>Or.inr (by unfold New at h ⊢; omega))|exact Or.inr (by unfold New;omega)),(by intro k h1;(try dsimp only at h1);first|exact (Kwls4.out k h1).elim Or.inl (fun h=>Or.inr (by unfold New at h ⊢; omega))|exact Or.inr (by unfold New;omega)),((((Kwlac.out.mod Cx9.out (fun _ _ h=>h)).mod Cx10.out (fun _ _ h=>h)).mod Cx17.out (by intro k h1 h2;first|omega|(have hb:=HB0.out k h1;omega)|(have hb:=HB1.out k h2;omega)|exact HD13.out k h1 h2|exact HD13.out k h2 h1|exact HD01.out k h1 h2|exact HD01.out k h2 h1|exact HD03.out k h1 h2|exact HD03.out k h2 h1|exact Kwld12.out k h1 h2|exact Kwld12.out k h2 h1|exact Kwld14.out k h1 h2|exact Kwld14.out k h2 h1|exact Kwld32.out k h1 h2|exact Kwld32.out k h2 h1|exact Kwld34.out k h1 h2|exact Kwld34.out k h2 h1|exact Kwld02.out k h1 h2|exact Kwld02.out k h2 h1|exact Kwld04.out k h1 h2|exact Kwld04.out k h2 h1|exact Kwld24.out k h1 h2|exact Kwld24.out k h2 h1|(have hb:=HB0.out k h1;have hb2:=HB1.out k h2;omega))).mod Cx19.out (by intro k h1 h2;first|omega|(have hb:=HB0.out k h1;omega)|(have hb:=KwlbA2.out k h2;omega)|exact HD13.out k h1 h2|exact HD13.out k h2 h1|exact HD01.out k h1 h2|exact HD01.out k h2 h1|exact HD03.out k h1 h2|exact HD03.out k h2 h1|exact Kwld12.out k h1 h2|exact Kwld12.out k h2 h1|exact Kwld14.out k h1 h2|exact Kwld14.out k h2 h1|exact Kwld32.out k h1 h2|exact Kwld32.out k h2 h1|exact Kwld34.out k h1 h2|exact Kwld34.out k h2 h1|exact Kwld02.out k h1 h2|exact Kwld02.out k h2 h1|exact Kwld04.out k h1 h2|exact Kwld04.out k h2 h1|exact Kwld24.out k h1 h2|exact Kwld24.out k h2 h1|(have hb:=HB0.out k h1;have hb2:=KwlbA2.out k h2;omega))),((Hx11.out.mod Cx17.out (by intro h2;first|omega|(have hb:=HB1.out _ h2;omega))).mod Cx19.out (by intro h2;first|omega|(have hb:=KwlbA2.out _ h2;omega))),((((Kwlm.out.trans Cx9.out (fun _ _ h=>h.elim)).trans Cx10.out (fun _ _ h=>h.elim)).trans Cx17.out (by intro k h1 h2;first|exact h2|omega|exact Or.inl h2|exact Or.inr h2|exact Or.inr (Or.inl h2)|exact Or.inr (Or.inr h2)|(have hb:=HB1.out k h2;omega)|exact Or.inr (Or.inr (Or.inl h2))|exact Or.inr (Or.inr (Or.inr h2))|exact (Kwls2.out _ h2).elim (fun h=>Or.inr (Or.inl h)) (fun h=>absurd h.1 (by omega))|exact (Kwls4.out _ h2).elim (fun h=>Or.inr (Or.inr (Or.inr h))) (fun h=>absurd h.1 (by omega)))).trans Cx19.out (by intro k h1 h2;first|exact h2|omega|exact Or.inl h2|exact Or.inr h2|exact Or.inr (Or.inl h2)|exact Or.inr (Or.inr h2)|(have hb:=KwlbA2.out k h2;omega)|exact Or.inr (Or.inr (Or.inl h2))|exact Or.inr (Or.inr (Or.inr h2))|exact (Kwls2.out _ h2).elim (fun h=>Or.inr (Or.inl h)) (fun h=>absurd h.1 (by omega))|exact (Kwls4.out _ h2).elim (fun h=>Or.inr (Or.inr (Or.inr h))) (fun h=>absurd h.1 (by omega))))⟩
     ·skip
      go_upto_region 21 with (fail)
      refine Al 195 [109,107] [0,1] (fun a0 HA0=>?_)
      have oe52:=ev HA0 52 rfl
      refine QSeq.pure rfl (.bool false) (fun E=>Av rfl (E.v oe52) rfl (Ak _ _ _ _ _ _) (Bg _ _ _ Try.underlying3) (congrArg Value.bool (eq_ff (by omega)))) ?_
      refine QSeq.pure rfl _ (fun E=>An rfl (E.d 0 0)) ?_
      refine QSeq.nil (t':=[_,_]) rfl ?_
      obtain rfl:=HA0.out
      clear HA0 oe52
      simp only [pz,Act.put,sIB,sCZ,sCS]
      by_cases h5:m=5
      ·skip
       go_upto_region 24 with (fail)
       refine Al 195 [119,118] [0,1] (fun a0 HA0=>?_)
       have oe52:=ev HA0 52 rfl
       refine QSeq.pure rfl (.bool true) (fun E=>Av rfl (E.v oe52) rfl (Ak _ _ _ _ _ _) (Bg _ _ _ Try.underlying3) (congrArg Value.bool (eq_tt (by omega)))) ?_
       refine QSeq.pure rfl _ (fun E=>An rfl (E.d 0 0)) ?_
       refine QSeq.nil (t':=[_,_]) rfl ?_
       obtain rfl:=HA0.out
       clear HA0 oe52
       simp only [pz,Act.put,sIB,sCZ,sCS]
       obtain ⟨e1,s1,hrz⟩:∃ e s',raiseP s a.t=(e,s'):=⟨_,_,rfl⟩
       have HRZ:=Lib.hid hrz
       have hrf:=raise_facts hrz
       clear hrz
       have hr1:=hrf.1
       have hsm:s1.m.length=s.m.length:=by rw [hrf.2]
       clear hrf
       go_upto_region 25 with (fail)
       generalize ha0:Act.mk _ _=a0
       have oe1:a0.eval (.tmp 1)=.pointer (some ⟨p,0,none⟩):=by rw [← ha0];rfl
       have oe2:a0.eval (.tmp 2)=.pointer (some ⟨y,0,none⟩):=by rw [← ha0];rfl
       have oe14:a0.eval (.tmp 14)=.pointer (some ⟨wl.heap.size,0,none⟩):=by rw [← ha0];rfl
       have hsz0:a0.tmps.size=195:=by rw [← ha0];rfl
       have HA0:=hid ha0
       clear ha0
       refine B0 195 hsz0 [120,121,122,123,124,125,126,127,128] (fun k=>(R1 k)∨(A2 k)) (fun k j=>(k=0∧((R1 j)))∨(k=1∧((A2 j)))) (by intro k j h;(try dsimp only at h ⊢);rcases h with ⟨-,h⟩|⟨-,h⟩;(exact Or.inl (h));(exact Or.inr (h))) [qi (.pointer (some ⟨p,0,none⟩)),qi (.pointer (some ⟨wl.heap.size,2,none⟩)),qi (.int .u64 (a.t:Nat)),qi (.int .i64 e1),qi (.pointer (some ⟨y,0,none⟩)),qi (.pointer (some ⟨wl.heap.size,2,none⟩)),qi (.int .u64 (a.t:Nat)),qi (.int .i64 e1),qi (.bool false)] ⟨Aa,Aa,Aa,Aa,Aa,Aa,Aa,Aa,Aa,trivial⟩ [3,7] ⟨?_,?_,?_,?_,?_,?_,?_,?_,?_,trivial⟩ ?_
       ·exact stq (fun E=>Ah rfl (E.v oe1))
       ·exact stq (fun E=>Ai rfl Try.underlying59 rfl (by kernel_rfl) (E.v oe14))
       ·exact stq (fun E=>Am rfl Try.underlying45 rfl (E.d 1) (Cs.lit1 ((Hx8.out.mod Cx10.out (fun h=>h)).mod E.m (by intro h2;rcases h2 with ⟨h0,h2|h2⟩|h2<;>first|omega|(have hb:=HB1.out _ h2;omega)|(have hb:=KwlbA2.out _ h2;omega))) rfl))
       ·exact Au rfl
       ·exact stq (fun E=>Ah rfl (E.v oe2))
       ·exact stq (fun E=>Ai rfl Try.underlying59 rfl (by kernel_rfl) (E.v oe14))
       ·exact stq (fun E=>Am rfl Try.underlying45 rfl (E.d 5) (Cs.lit1 ((Hx8.out.mod Cx10.out (fun h=>h)).mod E.m (by intro h2;rcases h2 with ⟨h0,h2|h2⟩|h2<;>first|omega|(have hb:=HB1.out _ h2;omega)|(have hb:=KwlbA2.out _ h2;omega))) rfl))
       ·exact Au rfl
       ·exact stq (fun E=>Av rfl (E.d 3) (E.d 7) (Ak _ _ _ _ _ _) (run_neq_i _ _ _ Try.underlying40) (congrArg Value.bool (ne_ff rfl)))
       intro u25_0 hr
       have zu25_0:=hr.size
       have Cx20:=hid (hr.new (S:=(fun k=>(R1 k)∨(A2 k))))
       have Hx21:=hid (((Kwlsp.out.mod Cx9.out (fun _ _ h=>h)).mod Cx10.out (fun _ _ h=>h)).mod hr (by intro k h1 h2;have hb:=HB1.out k h1;omega))
       clear Kwlsp
       have Hx22:=hid (((Kwlrp.out.mod Cx9.out (fun _ _ h=>h)).mod Cx10.out (fun _ _ h=>h)).mod hr (by intro k h1 h2;have hb:=KwlbA2.out k h1;omega))
       clear Kwlrp
       clear hr
       refine QChain.go fun Z act E=>?_
       refine Ax (args:=#[.pointer (some ⟨p,0,none⟩),.int .u64 (a.t:Nat)]) rfl (Ab rfl) rfl Try.func15 (args2 (E.d 0) (E.d 2)) (Raise_A (n:=a.t) HRZ.out Hx21.out (by intro k h1;have hb:=HB1.out k h1;omega) hat) ?_
       rintro e u25_1a ⟨rfl,qsp,hm⟩
       have zu25_1a:=hm.size
       refine ⟨_,rfl,hm.mono (by intro k hk h;first|omega|exact Or.inl ⟨(by have hb:=HB1.out k h;omega),Or.inl ⟨rfl,h⟩⟩),(fun _=>rfl),?_⟩
       intro u25_1 hr
       have zu25_1:=hr.size
       have Hx23:=hid (qsp.mod hr (by intro k h1 h2;have hb:=HB1.out k h1;omega))
       have hmr:=hm.two hr
       have Hx24:=hid (Hx22.out.mod hmr (by intro k h1 h2;rcases h2 with h2|h2<;>first|omega|(have hb:=KwlbA2.out k h1;omega)|(have hb:=HB1.out k h2;omega)|exact HD13.out k h1 h2|exact HD13.out k h2 h1|exact HD01.out k h1 h2|exact HD01.out k h2 h1|exact HD03.out k h1 h2|exact HD03.out k h2 h1|exact Kwld12.out k h1 h2|exact Kwld12.out k h2 h1|exact Kwld14.out k h1 h2|exact Kwld14.out k h2 h1|exact Kwld32.out k h1 h2|exact Kwld32.out k h2 h1|exact Kwld34.out k h1 h2|exact Kwld34.out k h2 h1|exact Kwld02.out k h1 h2|exact Kwld02.out k h2 h1|exact Kwld04.out k h1 h2|exact Kwld04.out k h2 h1|exact Kwld24.out k h1 h2|exact Kwld24.out k h2 h1|(have hb:=KwlbA2.out k h1;have hb2:=HB1.out k h2;omega)))
       clear Hx22
       clear hmr
       have Cx25:=hid (Cx20.out.goM hm hr (by intro k h0 h2;first|omega|exact Or.inl h2|exact Or.inr (h2)))
       clear Cx20 hm hr Z act E qsp Hx21
       refine QChain.go fun Z act E=>?_
       refine Ax (args:=#[.pointer (some ⟨y,0,none⟩),.int .u64 (a.t:Nat)]) rfl (Ab rfl) rfl Try.func37 (args2 (E.d 4) (E.d 6)) (RRaise_A (n:=a.t) HRZ.out Hx24.out (by intro k h1;have hb:=KwlbA2.out k h1;omega) hat) ?_
       rintro e u25_2a ⟨rfl,qrp,hm⟩
       have zu25_2a:=hm.size
       refine ⟨_,rfl,hm.mono (by intro k hk h;first|omega|exact Or.inl ⟨(by have hb:=KwlbA2.out k h;omega),Or.inr (⟨rfl,h⟩)⟩),(fun _=>rfl),?_⟩
       intro u25_2 hr
       have zu25_2:=hr.size
       have Hx26:=hid (qrp.mod hr (by intro k h1 h2;have hb:=KwlbA2.out k h1;omega))
       have hmr:=hm.two hr
       have Hx27:=hid (Hx23.out.mod hmr (by intro k h1 h2;rcases h2 with h2|h2<;>first|omega|(have hb:=HB1.out k h1;omega)|(have hb:=KwlbA2.out k h2;omega)|exact HD13.out k h1 h2|exact HD13.out k h2 h1|exact HD01.out k h1 h2|exact HD01.out k h2 h1|exact HD03.out k h1 h2|exact HD03.out k h2 h1|exact Kwld12.out k h1 h2|exact Kwld12.out k h2 h1|exact Kwld14.out k h1 h2|exact Kwld14.out k h2 h1|exact Kwld32.out k h1 h2|exact Kwld32.out k h2 h1|exact Kwld34.out k h1 h2|exact Kwld34.out k h2 h1|exact Kwld02.out k h1 h2|exact Kwld02.out k h2 h1|exact Kwld04.out k h1 h2|exact Kwld04.out k h2 h1|exact Kwld24.out k h1 h2|exact Kwld24.out k h2 h1|(have hb:=HB1.out k h1;have hb2:=KwlbA2.out k h2;omega)))
       clear Hx23
       clear hmr
       have Cx28:=hid (Cx25.out.goM hm hr (by intro k h0 h2;first|omega|exact Or.inl h2|exact Or.inr (h2)))
       clear Cx25 hm hr Z act E qrp Hx24
       refine QChain.nil fun vs hl hzz hrows hne=>?_
       obtain ⟨Z,hYZ,hZb,hV⟩:=hzz
       have f0:=fvi hV hl 0
       have f3:=fvi hV hl 3
       have f4:=fvi hV hl 4
       have f7:=fvi hV hl 7
       have f8:=fvi hV hl 8
       rw [show vs=[gw vs 0,gw vs 1,gw vs 2,gw vs 3,gw vs 4,gw vs 5,gw vs 6,gw vs 7,gw vs 8] from (Bh hl).trans rfl]
       have ha0:=HA0.out
       subst ha0
       clear HA0 hV hYZ hZb hsz0 hrows hne oe1 oe2 oe14
       simp only [Ar,Act.put,sIB,sCZ,sCS,f0,f3,f4,f7,f8]
       clear hl f0 f3 f4 f7 f8
       clear HEL
       clear Hx8
       go_wp2_with fail
       go_meet
       case rel=>exact ⟨s1,L,(fun k=>(A2 k)),(fun k=>(A4 k)),(by omega),(by omega),Kwlap.out,by omega,Hx27.out,Hx26.out,(((Kwlbk.out.mod Cx9.out (fun _ _ h=>h)).mod Cx10.out (fun _ _ h=>h)).mod Cx28.out (by intro k h1 h2;rcases h2 with h2|h2<;>first|omega|(have hb:=HB3.out k h1;omega)|(have hb:=HB1.out k h2;omega)|(have hb:=KwlbA2.out k h2;omega)|exact HD13.out k h1 h2|exact HD13.out k h2 h1|exact HD01.out k h1 h2|exact HD01.out k h2 h1|exact HD03.out k h1 h2|exact HD03.out k h2 h1|exact Kwld12.out k h1 h2|exact Kwld12.out k h2 h1|exact Kwld14.out k h1 h2|exact Kwld14.out k h2 h1|exact Kwld32.out k h1 h2|exact Kwld32.out k h2 h1|exact Kwld34.out k h1 h2|exact Kwld34.out k h2 h1|exact Kwld02.out k h1 h2|exact Kwld02.out k h2 h1|exact Kwld04.out k h1 h2|exact Kwld04.out k h2 h1|exact Kwld24.out k h1 h2|exact Kwld24.out k h2 h1|(have hb:=HB3.out k h1;have hb2:=HB1.out k h2;omega)|(have hb:=HB3.out k h1;have hb2:=KwlbA2.out k h2;omega))),(((Kwlrb.out.mod Cx9.out (fun _ _ h=>h)).mod Cx10.out (fun _ _ h=>h)).mod Cx28.out (by intro k h1 h2;rcases h2 with h2|h2<;>first|omega|(have hb:=KwlbA4.out k h1;omega)|(have hb:=HB1.out k h2;omega)|(have hb:=KwlbA2.out k h2;omega)|exact HD13.out k h1 h2|exact HD13.out k h2 h1|exact HD01.out k h1 h2|exact HD01.out k h2 h1|exact HD03.out k h1 h2|exact HD03.out k h2 h1|exact Kwld12.out k h1 h2|exact Kwld12.out k h2 h1|exact Kwld14.out k h1 h2|exact Kwld14.out k h2 h1|exact Kwld32.out k h1 h2|exact Kwld32.out k h2 h1|exact Kwld34.out k h1 h2|exact Kwld34.out k h2 h1|exact Kwld02.out k h1 h2|exact Kwld02.out k h2 h1|exact Kwld04.out k h1 h2|exact Kwld04.out k h2 h1|exact Kwld24.out k h1 h2|exact Kwld24.out k h2 h1|(have hb:=KwlbA4.out k h1;have hb2:=HB1.out k h2;omega)|(have hb:=KwlbA4.out k h1;have hb2:=KwlbA2.out k h2;omega))),(by intro k h1 h2;first|omega|(have hb:=KwlbA2.out k h1;omega)|(have hb:=KwlbA4.out k h2;omega)|exact HD13.out k h1 h2|exact HD13.out k h2 h1|exact HD01.out k h1 h2|exact HD01.out k h2 h1|exact HD03.out k h1 h2|exact HD03.out k h2 h1|exact Kwld12.out k h1 h2|exact Kwld12.out k h2 h1|exact Kwld14.out k h1 h2|exact Kwld14.out k h2 h1|exact Kwld32.out k h1 h2|exact Kwld32.out k h2 h1|exact Kwld34.out k h1 h2|exact Kwld34.out k h2 h1|exact Kwld02.out k h1 h2|exact Kwld02.out k h2 h1|exact Kwld04.out k h1 h2|exact Kwld04.out k h2 h1|exact Kwld24.out k h1 h2|exact Kwld24.out k h2 h1|(have hb:=KwlbA2.out k h1;have hb2:=KwlbA4.out k h2;omega)),(by intro k h1;(try dsimp only at h1);first|exact (Kwls2.out k h1).elim Or.inl (fun h=>Or.inr (by unfold New at h ⊢; omega))|exact Or.inr (by unfold New;omega)),(by intro k h1;(try dsimp only at h1);first|exact (Kwls4.out k h1).elim Or.inl (fun h=>Or.inr (by unfold New at h ⊢; omega))|exact Or.inr (by unfold New;omega)),(((Kwlac.out.mod Cx9.out (fun _ _ h=>h)).mod Cx10.out (fun _ _ h=>h)).mod Cx28.out (by intro k h1 h2;rcases h2 with h2|h2<;>first|omega|(have hb:=HB0.out k h1;omega)|(have hb:=HB1.out k h2;omega)|(have hb:=KwlbA2.out k h2;omega)|exact HD13.out k h1 h2|exact HD13.out k h2 h1|exact HD01.out k h1 h2|exact HD01.out k h2 h1|exact HD03.out k h1 h2|exact HD03.out k h2 h1|exact Kwld12.out k h1 h2|exact Kwld12.out k h2 h1|exact Kwld14.out k h1 h2|exact Kwld14.out k h2 h1|exact Kwld32.out k h1 h2|exact Kwld32.out k h2 h1|exact Kwld34.out k h1 h2|exact Kwld34.out k h2 h1|exact Kwld02.out k h1 h2|exact Kwld02.out k h2 h1|exact Kwld04.out k h1 h2|exact Kwld04.out k h2 h1|exact Kwld24.out k h1 h2|exact Kwld24.out k h2 h1|(have hb:=HB0.out k h1;have hb2:=HB1.out k h2;omega)|(have hb:=HB0.out k h1;have hb2:=KwlbA2.out k h2;omega))),(Hx11.out.mod Cx28.out (by intro h2;rcases h2 with h2|h2<;>first|omega|(have hb:=HB1.out _ h2;omega)|(have hb:=KwlbA2.out _ h2;omega))),(((Kwlm.out.trans Cx9.out (fun _ _ h=>h.elim)).trans Cx10.out (fun _ _ h=>h.elim)).trans Cx28.out (by intro k h1 h2;rcases h2 with h2|h2<;>first|exact h2|omega|exact Or.inl h2|exact Or.inr h2|exact Or.inr (Or.inl h2)|exact Or.inr (Or.inr h2)|(have hb:=HB1.out k h2;omega)|(have hb:=KwlbA2.out k h2;omega)|exact Or.inr (Or.inr (Or.inl h2))|exact Or.inr (Or.inr (Or.inr h2))|exact (Kwls2.out _ h2).elim (fun h=>Or.inr (Or.inl h)) (fun h=>absurd h.1 (by omega))|exact (Kwls4.out _ h2).elim (fun h=>Or.inr (Or.inr (Or.inr h))) (fun h=>absurd h.1 (by omega))))⟩
      ·skip
       go_upto_region 24 with (fail)
       refine Al 195 [119,118] [0,1] (fun a0 HA0=>?_)
       have oe52:=ev HA0 52 rfl
       refine QSeq.pure rfl (.bool false) (fun E=>Av rfl (E.v oe52) rfl (Ak _ _ _ _ _ _) (Bg _ _ _ Try.underlying3) (congrArg Value.bool (eq_ff (by omega)))) ?_
       refine QSeq.pure rfl _ (fun E=>An rfl (E.d 0 0)) ?_
       refine QSeq.nil (t':=[_,_]) rfl ?_
       obtain rfl:=HA0.out
       clear HA0 oe52
       simp only [pz,Act.put,sIB,sCZ,sCS]
       obtain ⟨cb,hcb⟩:∃ c,c=a.b.take 2:=⟨_,rfl⟩
       have HCB:=Lib.hid hcb
       have hcl:cb.length≤2:=by rw [hcb,List.length_take];omega
       clear hcb
       go_upto_region 7 with (fail)
       refine Al 195 [53,54,55,16] [0,1,2,3] (fun a0 HA0=>?_)
       have oe14:=ev HA0 14 rfl
       refine QSeq.pure rfl (.pointer (some ⟨wl.heap.size,5,none⟩)) (fun E=>Ai rfl Try.underlying59 rfl (by kernel_rfl) (E.v oe14)) ?_
       refine QSeq.pure rfl _ (fun E=>Am rfl Try.underlying38 rfl (E.d 0 0) (Cs.lit1 (Hx8.out.mod Cx10.out (fun h=>h)) rfl)) ?_
       refine QSeq.call rfl rfl Try.func20 (Cut_W (n:=2) ((HEL.out.mod Cx9.out (fun _ _ h=>h)).mod Cx10.out (fun _ _ h=>h)) (by decide) HCB.out) (fun E=>args2 (E.d 1 0) rfl) ?_
       rintro e u7_2 ⟨v_cut,rfl,qcut,hm⟩
       refine ⟨_,rfl,?_⟩
       have Hx29:=hid qcut
       have zu7_2:=hm.size
       have Cx30:=hid (show Mod (fun _=>False) u5_0 u7_2 from hm)
       clear hm
       clear qcut
       refine QSeq.pure rfl _ (fun E=>An rfl (E.d 2 0)) ?_
       refine QSeq.nil (t':=[_,_,_,_]) rfl ?_
       obtain rfl:=HA0.out
       clear HA0 oe14
       simp only [pz,Act.put,sIB,sCZ,sCS]
       clear HEL
       obtain ⟨c0,hc0⟩:∃ c,mkCm L ((kc:Nat):Int) ((ks:Nat):Int) z32 cb=c:=⟨_,rfl⟩
       obtain ⟨Lm,hLm⟩:∃ l,mkBook L ((kc:Nat):Int) ((ks:Nat):Int) z32 cb=l:=⟨_,rfl⟩
       have HC0:=Lib.hid hc0
       have HLM:=Lib.hid hLm
       have HMD:=hid (made_facts hc0 hLm (by omega) HNK.out.2 (by omega) (by omega))
       clear hc0 hLm
       have hmln:=HMD.out.ln
       have hmmr:=HMD.out.mr
       have hmcl:=HMD.out.cl
       have hmll:=HMD.out.ll
       have HAPM:=hid (HMD.out.ap Kwlap.out)
       go_upto_region 8 with (fail)
       refine Al 195 [56,57,58,59,60,17,201] [0,1,2,3,4,5,6] (fun a0 HA0=>?_)
       have oe3:=ev HA0 3 rfl
       have oe15:=ev HA0 15 rfl
       have oe16:=ev HA0 16 rfl
       refine QSeq.pure rfl _ (fun E=>Ah rfl (E.v oe3)) ?_
       refine QSeq.pure rfl _ (fun E=>Ap rfl Try.underlying30 rfl (off:=0) (cs:=[.int .i64 ((kc:Nat):Int),.int .i64 ((ks:Nat):Int)]) (by kernel_rfl) (E.v oe15) (Cs.litA (Hx11.out.mod Cx30.out (fun h=>h)) rfl)) ?_
       refine QSeq.pure rfl (hv z32) (fun E=>ex_build0 rfl (r:=((z32.map bv):List Value).toArray) (by kernel_rfl)) ?_
       refine QSeq.pure rfl _ (fun E=>Ah rfl (E.v oe16)) ?_
       refine QSeq.call rfl rfl Try.func10 (Make_D HC0.out HLM.out (((Kwlbk.out.mod Cx9.out (fun _ _ h=>h)).mod Cx10.out (fun _ _ h=>h)).mod Cx30.out (fun _ _ h=>h)) (by omega) (by omega) HNK.out.2 Hx29.out.rd (by omega)) (fun E=>args4 (E.d 0 3) (E.d 1 2) (E.d 2 1) (E.d 3 0)) ?_
       rintro e u8_4 ⟨rfl,qbk,hm⟩
       refine ⟨_,rfl,?_⟩
       have Hx31:=hid qbk
       have zu8_4:=hm.size
       have Cx32:=hid (show Mod (fun k=>(R3 k)) u7_2 u8_4 from hm)
       clear hm
       clear qbk Kwlbk
       refine QSeq.go fun act E=>?_
       refine qc_alloc rfl (Ab rfl) rfl (z:=[.int .i64 0,.int .i64 0,.int .u8 0,.int .u8 0,.int .u8 0,.int .u8 0,.int .u8 0,.int .u8 0,.int .u8 0,.int .u8 0,.int .u8 0,.int .u8 0,.int .u8 0,.int .u8 0,.int .u8 0,.int .u8 0,.int .u8 0,.int .u8 0,.int .u8 0,.int .u8 0,.int .u8 0,.int .u8 0,.int .u8 0,.int .u8 0,.int .u8 0,.int .u8 0,.int .u8 0,.int .u8 0,.int .u8 0,.int .u8 0,.int .u8 0,.int .u8 0,.int .u8 0,.int .u8 0,.int .i64 0,.int .i64 0,.int .i64 0]) (by kernel_rfl) ?_
       intro u8_5 qb17 hm
       have zl8_5:=qb17.lt
       have Hx33:=hid qb17
       have zu8_5:=hm.size
       have HMu8_5:=hid hm
       have Cx34:=hid (Cx32.out.goE hm)
       clear hm Cx32
       clear act E qb17
       refine QSeq.go fun act E=>?_
       have hlz:(c0.cells).length=List.length ([.int .i64 0,.int .i64 0,.int .u8 0,.int .u8 0,.int .u8 0,.int .u8 0,.int .u8 0,.int .u8 0,.int .u8 0,.int .u8 0,.int .u8 0,.int .u8 0,.int .u8 0,.int .u8 0,.int .u8 0,.int .u8 0,.int .u8 0,.int .u8 0,.int .u8 0,.int .u8 0,.int .u8 0,.int .u8 0,.int .u8 0,.int .u8 0,.int .u8 0,.int .u8 0,.int .u8 0,.int .u8 0,.int .u8 0,.int .u8 0,.int .u8 0,.int .u8 0,.int .u8 0,.int .u8 0,.int .i64 0,.int .i64 0,.int .i64 0]:List Value):=(by rw [Cm.len HMD.out.ok.2.1];rfl)
       refine Bc rfl (Ab rfl) rfl Hx33.out (off:=0) (vs:=c0.cells) (by rw [hlz];kernel_rfl) (Cm.one c0) (by rw [hlz];exact Nat.le_of_eq (Nat.zero_add _)) (E.d 5 0) (ec (E.d 4 1)) ?_
       intro u8_6 qc0 hm
       have qb17:=qc0.eqv (b:=(c0.cells:List Value).toArray) (A0 (#[.int .i64 0,.int .i64 0,.int .u8 0,.int .u8 0,.int .u8 0,.int .u8 0,.int .u8 0,.int .u8 0,.int .u8 0,.int .u8 0,.int .u8 0,.int .u8 0,.int .u8 0,.int .u8 0,.int .u8 0,.int .u8 0,.int .u8 0,.int .u8 0,.int .u8 0,.int .u8 0,.int .u8 0,.int .u8 0,.int .u8 0,.int .u8 0,.int .u8 0,.int .u8 0,.int .u8 0,.int .u8 0,.int .u8 0,.int .u8 0,.int .u8 0,.int .u8 0,.int .u8 0,.int .u8 0,.int .i64 0,.int .i64 0,.int .i64 0]) _ (by rw [hlz];rfl))
       clear qc0 hlz
       have Hx35:=hid qb17
       have zu8_6:=hm.size
       have HMu8_6:=hid hm
       have Cx36:=hid (Mod.goS (S':=(fun k=>(R3 k))) Cx34.out hm (fun _ h=>h) (by intro k h0 h2;omega))
       clear hm Cx34
       clear act E qb17 Hx33
       have Hx37:=hid ((Hx31.out.mod HMu8_5.out (fun _ _ h=>h)).mod HMu8_6.out (by intro k h1 h2;have hb:=HB3.out k h1;omega))
       clear Hx31 HMu8_5 HMu8_6
       refine QSeq.nil (t':=[_,_,_,_,_,_,_]) rfl ?_
       obtain rfl:=HA0.out
       clear HA0 oe3 oe15 oe16
       simp only [pz,Act.put,sIB,sCZ,sCS,List.set_nil]
       go_upto_region 9 with (fail)
       generalize ha0:Act.mk _ _=a0
       have oe4:a0.eval (.tmp 4)=.pointer (some ⟨kb,0,none⟩):=by rw [← ha0];rfl
       have oe15:a0.eval (.tmp 15)=.pointer (some ⟨b15,0,none⟩):=by rw [← ha0];rfl
       have oe16:a0.eval (.tmp 16)=v_cut:=by rw [← ha0];rfl
       have oe17:a0.eval (.tmp 17)=.pointer (some ⟨u8_4.heap.size,0,none⟩):=by rw [← ha0];rfl
       have hsz0:a0.tmps.size=195:=by rw [← ha0];rfl
       have HA0:=hid ha0
       clear ha0
       refine B0 195 hsz0 [61,62,63,64,65,66,67] (fun k=>(A4 k)) (fun k j=>(k=0∧((A4 j)))) (fun _ _ h=>h.2) [qi (.agg c0.cells.toArray),qi (.pointer (some ⟨kb,0,none⟩)),qi (.agg #[.int .i64 ((kc:Nat):Int),.int .i64 ((ks:Nat):Int)]),qi (hv z32),qi (v_cut),qi (.agg c0.cells.toArray),qi (.bool false)] ⟨Aa,Aa,Aa,Aa,Aa,Aa,Aa,trivial⟩ [5] ⟨?_,?_,?_,?_,?_,?_,?_,trivial⟩ ?_
       ·exact stq (fun E=>Ap rfl Try.underlying36 rfl (off:=0) (cs:=c0.cells) (by rw [Cm.len HMD.out.ok.2.1];exact Bd) (E.v oe17) (Cs.whole (Hx35.out.mod E.m (by intro h2;rcases h2 with ⟨h0,h2⟩|h2<;>first|omega|(have hb:=KwlbA4.out _ h2;omega)))))
       ·exact stq (fun E=>Ah rfl (E.v oe4))
       ·exact stq (fun E=>Ap rfl Try.underlying30 rfl (off:=0) (cs:=[.int .i64 ((kc:Nat):Int),.int .i64 ((ks:Nat):Int)]) (by kernel_rfl) (E.v oe15) (Cs.litA (((Hx11.out.mod Cx30.out (fun h=>h)).mod Cx36.out (by intro h2;first|omega|(have hb:=HB3.out _ h2;omega))).mod E.m (by intro h2;rcases h2 with ⟨h0,h2⟩|h2<;>first|omega|(have hb:=KwlbA4.out _ h2;omega))) rfl))
       ·exact stq (fun E=>ex_build0 rfl (r:=((z32.map bv):List Value).toArray) (by kernel_rfl))
       ·exact stq (fun E=>Ah rfl (E.v oe16))
       ·exact Au rfl
       ·exact stq (fun E=>Av rfl (E.d 0) (E.d 5) (agg_guardE _ _ _ _ _ _ (by kernel_rfl) _) (EqW.runN eqW_commit (ki_cm HMD.out.ok.2.1) (ki_cm HMD.out.ok.2.1) (c:=true) (by simp) _) rfl)
       intro u9_0 hr
       have zu9_0:=hr.size
       have Cx38:=hid (hr.new (S:=(fun k=>(A4 k))))
       have Hx39:=hid (((((Kwlrb.out.mod Cx9.out (fun _ _ h=>h)).mod Cx10.out (fun _ _ h=>h)).mod Cx30.out (fun _ _ h=>h)).mod Cx36.out (by intro k h1 h2;first|omega|(have hb:=KwlbA4.out k h1;omega)|(have hb:=HB3.out k h2;omega)|exact HD13.out k h1 h2|exact HD13.out k h2 h1|exact HD01.out k h1 h2|exact HD01.out k h2 h1|exact HD03.out k h1 h2|exact HD03.out k h2 h1|exact Kwld12.out k h1 h2|exact Kwld12.out k h2 h1|exact Kwld14.out k h1 h2|exact Kwld14.out k h2 h1|exact Kwld32.out k h1 h2|exact Kwld32.out k h2 h1|exact Kwld34.out k h1 h2|exact Kwld34.out k h2 h1|exact Kwld02.out k h1 h2|exact Kwld02.out k h2 h1|exact Kwld04.out k h1 h2|exact Kwld04.out k h2 h1|exact Kwld24.out k h1 h2|exact Kwld24.out k h2 h1|(have hb:=KwlbA4.out k h1;have hb2:=HB3.out k h2;omega))).mod hr (by intro k h1 h2;have hb:=KwlbA4.out k h1;omega))
       clear Kwlrb
       clear hr
       refine QChain.go fun Z act E=>?_
       refine Ax (args:=#[.pointer (some ⟨kb,0,none⟩),.agg #[.int .i64 ((kc:Nat):Int),.int .i64 ((ks:Nat):Int)],hv z32,v_cut]) rfl (Ab rfl) rfl Try.func38 (args4 (E.d 1) (E.d 2) (E.d 3) (E.d 4)) (RMake_D HC0.out HLM.out Hx39.out (by intro k h1;have hb:=KwlbA4.out k h1;omega) (by omega) (by omega) HNK.out.2 ((Hx29.out.mod Cx36.out (by intro k h1 h2;have hb:=HB3.out k h2;omega)).mod Cx38.out (by intro k h1 h2;have hb:=KwlbA4.out k h2;omega)).rd (by omega)) ?_
       rintro e u9_1a ⟨rfl,qrb,hm⟩
       have zu9_1a:=hm.size
       refine ⟨_,rfl,hm.mono (by intro k hk h;first|omega|exact Or.inl ⟨(by have hb:=KwlbA4.out k h;omega),⟨rfl,h⟩⟩),(fun _=>rfl),?_⟩
       intro u9_1 hr
       have zu9_1:=hr.size
       have Hx40:=hid ((qrb.widen (R':=(fun k=>(A4 k)∨(New u9_0 u9_1a k))) (fun _ h=>h)).mod hr (by intro k h1 h2;rcases h1 with h1|h1<;>first|omega|(have hb:=KwlbA4.out k h1;omega)))
       have Cx41:=hid (Cx38.out.goM hm hr (fun _ _ h=>h))
       clear Cx38 hm hr Z act E qrb Hx39
       clear Hx29
       refine QChain.nil fun vs hl hzz hrows hne=>?_
       obtain ⟨Z,hYZ,hZb,hV⟩:=hzz
       have f1:=fvi hV hl 1
       have f4:=fvi hV hl 4
       have f5:=fvi hV hl 5
       have f6:=fvi hV hl 6
       rw [show vs=[gw vs 0,gw vs 1,gw vs 2,gw vs 3,gw vs 4,gw vs 5,gw vs 6] from (Bh hl).trans rfl]
       have ha0:=HA0.out
       subst ha0
       clear HA0 hV hYZ hZb hsz0 hrows hne oe4 oe15 oe16 oe17
       simp only [Ar,Act.put,sIB,sCZ,sCS,f1,f4,f5,f6]
       clear hl f1 f4 f5 f6
       obtain ⟨x,hx⟩:∃ m:Nat,within a.x 8=m:=⟨(within a.x 8).toNat,by have:=within_range a.x 8 (by decide);omega⟩
       have rx:=within_range a.x 8 (by decide)
       have HWx:=hid (Within_any a.x 8 (by decide) (by decide) HOK.out.2.1)
       rw [hx] at HWx rx
       clear hx
       go_upto_region 11 with (fail)
       refine Al 195 [68,69,70] [0,1,2] (fun a0 HA0=>?_)
       have oe14:=ev HA0 14 rfl
       refine QSeq.pure rfl (.pointer (some ⟨wl.heap.size,1,none⟩)) (fun E=>Ai rfl Try.underlying59 rfl (by kernel_rfl) (E.v oe14)) ?_
       refine QSeq.pure rfl _ (fun E=>Am rfl Try.underlying3 rfl (E.d 0 0) (Cs.lit1 ((((Hx8.out.mod Cx10.out (fun h=>h)).mod Cx30.out (fun h=>h)).mod Cx36.out (by intro h2;first|omega|(have hb:=HB3.out _ h2;omega))).mod Cx41.out (by intro h2;first|omega|(have hb:=KwlbA4.out _ h2;omega))) rfl)) ?_
       refine QSeq.go fun act E=>?_
       refine Ax (args:=#[.int .i64 a.x,.int .i64 8]) rfl (Ab rfl) rfl Try.func8 (args2 (E.d 1 0) rfl) (HWx.out _) ?_
       rintro e w2 ⟨rfl,hw2⟩
       obtain rfl:u9_1=w2:=by first|exact hw2|exact hw2.symm
       refine ⟨_,rfl,?_⟩
       clear act E
       refine QSeq.nil (t':=[_,_,_]) rfl ?_
       obtain rfl:=HA0.out
       clear HA0 oe14
       simp only [pz,Act.put,sIB,sCZ,sCS]
       clear Hx8
       have hdc:decide (((i:Nat):Int) < ((acs.length:Nat):Int))=true:=decide_eq_true (by omega)
       simp only [hdc]
       clear hdc
       go_upto_block 3 with (fail)
       go_cut [] from 71 to 85 (fun w'=>∃ c1:Cm,c1.OK∧I64 (1000+c1.cl)∧Cs w' (u8_4.heap.size) c1.cells.toArray 36∧Mod (fun k=>k=u8_4.heap.size) u9_1 w')
       case first=>
        have HM2:=hid (Mod.refl (fun k=>k=u8_4.heap.size) u9_1)
        by_cases h6:x=6
        ·skip
         go_upto_region 12 with (fail)
         refine Al 195 [72,71] [0,1] (fun a0 HA0=>?_)
         have oe70:=ev HA0 70 rfl
         refine QSeq.pure rfl (.bool true) (fun E=>Av rfl (E.v oe70) rfl (Ak _ _ _ _ _ _) (Bg _ _ _ Try.underlying3) (congrArg Value.bool (eq_tt (by omega)))) ?_
         refine QSeq.pure rfl _ (fun E=>An rfl (E.d 0 0)) ?_
         refine QSeq.nil (t':=[_,_]) rfl ?_
         obtain rfl:=HA0.out
         clear HA0 oe70
         simp only [pz,Act.put,sIB,sCZ,sCS]
         clear h6
         obtain ⟨c1,hc1⟩:∃ c:Cm,c={ c0 with ln:=c0.ln+1 }:=⟨_,rfl⟩
         have HC1:=Lib.hid hc1
         have HOK1:=hid (show c1.OK by rw [hc1];exact ⟨⟨HMD.out.ok.1.1,HMD.out.ok.1.2.1,(by unfold I64;(try dsimp only);omega),HMD.out.ok.1.2.2.2⟩,HMD.out.ok.2⟩)
         have HSI1:=hid (show I64 (1000+c1.cl) by rw [hc1];unfold I64;(try dsimp only);omega)
         clear hc1
         go_upto_region 13 with (fail)
         refine Al 195 [73,74,75,76,199] [0,1,2,3,4] (fun a0 HA0=>?_)
         have oe17:=ev HA0 17 rfl
         refine QSeq.pure rfl (.pointer (some ⟨u8_4.heap.size,34,none⟩)) (fun E=>Ai rfl Try.underlying36 rfl (by kernel_rfl) (E.v oe17)) ?_
         refine QSeq.pure rfl (.int .i64 c0.ln) (fun E=>Am rfl Try.underlying3 rfl (E.d 0 0) ((Hx35.out.mod Cx41.out (by intro h2;first|omega|(have hb:=KwlbA4.out _ h2;omega))).c34 HMD.out.ok.2.1)) ?_
         refine QSeq.pure rfl (.int .i64 (c0.ln+1)) (fun E=>Av rfl (E.d 1 0) rfl (Ak _ _ _ _ _ _) (Be _ _ Try.underlying3) (congrArg (Value.int .i64) (i64_eq (b:=c0.ln+1) rfl (by omega) (by omega)))) ?_
         refine QSeq.pure rfl (.pointer (some ⟨u8_4.heap.size,34,none⟩)) (fun E=>Ai rfl Try.underlying36 rfl (by kernel_rfl) (E.v oe17)) ?_
         refine QSeq.go fun act E=>?_
         refine Bc rfl (Ab rfl) rfl (Hx35.out.mod Cx41.out (by intro h2;first|omega|(have hb:=KwlbA4.out _ h2;omega))) (off:=34) (vs:=[Value.int .i64 (c0.ln+1)]) (by kernel_rfl) one1 (by rw [List.size_toArray,Cm.len HMD.out.ok.2.1];show 34+1≤37;decide) (E.d 3 0) (ec (E.d 2 1)) ?_
         intro u13_4 qc0 hm
         have qb17:=qc0.eqv (b:=(c1.cells:List Value).toArray) (by rw [HC1.out];exact layA_ln c0 _ HMD.out.ok.2.1)
         clear qc0
         have Hx42:=hid qb17
         have zu13_4:=hm.size
         have Cx43:=hid (show Mod (fun k=>(k=u8_4.heap.size)) u9_1 u13_4 from hm)
         clear hm
         clear act E qb17 Hx35
         refine QSeq.nil (t':=[_,_,_,_,_]) rfl ?_
         obtain rfl:=HA0.out
         clear HA0 oe17
         simp only [pz,Act.put,sIB,sCZ,sCS,List.set_nil]
         go_wp2_with fail
         go_meet
         case rel=>exact ⟨c1,HOK1.out,HSI1.out,Hx42.out,(HM2.out.trans Cx43.out (fun _ _ h=>h))⟩
        ·skip
         go_upto_region 12 with (fail)
         refine Al 195 [72,71] [0,1] (fun a0 HA0=>?_)
         have oe70:=ev HA0 70 rfl
         refine QSeq.pure rfl (.bool false) (fun E=>Av rfl (E.v oe70) rfl (Ak _ _ _ _ _ _) (Bg _ _ _ Try.underlying3) (congrArg Value.bool (eq_ff (by omega)))) ?_
         refine QSeq.pure rfl _ (fun E=>An rfl (E.d 0 0)) ?_
         refine QSeq.nil (t':=[_,_]) rfl ?_
         obtain rfl:=HA0.out
         clear HA0 oe70
         simp only [pz,Act.put,sIB,sCZ,sCS]
         by_cases h7:x=7
         ·skip
          go_upto_region 14 with (fail)
          refine Al 195 [78,77] [0,1] (fun a0 HA0=>?_)
          have oe70:=ev HA0 70 rfl
          refine QSeq.pure rfl (.bool true) (fun E=>Av rfl (E.v oe70) rfl (Ak _ _ _ _ _ _) (Bg _ _ _ Try.underlying3) (congrArg Value.bool (eq_tt (by omega)))) ?_
          refine QSeq.pure rfl _ (fun E=>An rfl (E.d 0 0)) ?_
          refine QSeq.nil (t':=[_,_]) rfl ?_
          obtain rfl:=HA0.out
          clear HA0 oe70
          simp only [pz,Act.put,sIB,sCZ,sCS]
          clear h7
          obtain ⟨c1,hc1⟩:∃ c:Cm,c={ c0 with mr:=c0.mr+1 }:=⟨_,rfl⟩
          have HC1:=Lib.hid hc1
          have HOK1:=hid (show c1.OK by rw [hc1];exact ⟨⟨HMD.out.ok.1.1,HMD.out.ok.1.2.1,HMD.out.ok.1.2.2.1,HMD.out.ok.1.2.2.2.1,(by unfold I64;(try dsimp only);omega)⟩,HMD.out.ok.2⟩)
          have HSI1:=hid (show I64 (1000+c1.cl) by rw [hc1];unfold I64;(try dsimp only);omega)
          clear hc1
          go_upto_region 15 with (fail)
          refine Al 195 [79,80,81,82,83,84,201] [0,1,2,3,4,5,6] (fun a0 HA0=>?_)
          have oe17:=ev HA0 17 rfl
          refine QSeq.pure rfl (.pointer (some ⟨u8_4.heap.size,35,none⟩)) (fun E=>Ai rfl Try.underlying36 rfl (by kernel_rfl) (E.v oe17)) ?_
          refine QSeq.pure rfl (.pointer (some ⟨u8_4.heap.size,36,none⟩)) (fun E=>Ai rfl Try.underlying34 rfl (by kernel_rfl) (E.d 0 0)) ?_
          refine QSeq.pure rfl (.int .i64 c0.mr) (fun E=>Am rfl Try.underlying3 rfl (E.d 1 0) ((Hx35.out.mod Cx41.out (by intro h2;first|omega|(have hb:=KwlbA4.out _ h2;omega))).c36 HMD.out.ok.2.1)) ?_
          refine QSeq.pure rfl (.int .i64 (c0.mr+1)) (fun E=>Av rfl (E.d 2 0) rfl (Ak _ _ _ _ _ _) (Be _ _ Try.underlying3) (congrArg (Value.int .i64) (i64_eq (b:=c0.mr+1) rfl (by omega) (by omega)))) ?_
          refine QSeq.pure rfl (.pointer (some ⟨u8_4.heap.size,35,none⟩)) (fun E=>Ai rfl Try.underlying36 rfl (by kernel_rfl) (E.v oe17)) ?_
          refine QSeq.pure rfl (.pointer (some ⟨u8_4.heap.size,36,none⟩)) (fun E=>Ai rfl Try.underlying34 rfl (by kernel_rfl) (E.d 4 0)) ?_
          refine QSeq.go fun act E=>?_
          refine Bc rfl (Ab rfl) rfl (Hx35.out.mod Cx41.out (by intro h2;first|omega|(have hb:=KwlbA4.out _ h2;omega))) (off:=36) (vs:=[Value.int .i64 (c0.mr+1)]) (by kernel_rfl) one1 (by rw [List.size_toArray,Cm.len HMD.out.ok.2.1];show 36+1≤37;decide) (E.d 5 0) (ec (E.d 3 2)) ?_
          intro u15_6 qc0 hm
          have qb17:=qc0.eqv (b:=(c1.cells:List Value).toArray) (by rw [HC1.out];exact layA_mr c0 _ HMD.out.ok.2.1)
          clear qc0
          have Hx44:=hid qb17
          have zu15_6:=hm.size
          have Cx45:=hid (show Mod (fun k=>(k=u8_4.heap.size)) u9_1 u15_6 from hm)
          clear hm
          clear act E qb17 Hx35
          refine QSeq.nil (t':=[_,_,_,_,_,_,_]) rfl ?_
          obtain rfl:=HA0.out
          clear HA0 oe17
          simp only [pz,Act.put,sIB,sCZ,sCS,List.set_nil]
          go_wp2_with fail
          go_meet
          case rel=>exact ⟨c1,HOK1.out,HSI1.out,Hx44.out,(HM2.out.trans Cx45.out (fun _ _ h=>h))⟩
         ·skip
          go_upto_region 14 with (fail)
          refine Al 195 [78,77] [0,1] (fun a0 HA0=>?_)
          have oe70:=ev HA0 70 rfl
          refine QSeq.pure rfl (.bool false) (fun E=>Av rfl (E.v oe70) rfl (Ak _ _ _ _ _ _) (Bg _ _ _ Try.underlying3) (congrArg Value.bool (eq_ff (by omega)))) ?_
          refine QSeq.pure rfl _ (fun E=>An rfl (E.d 0 0)) ?_
          refine QSeq.nil (t':=[_,_]) rfl ?_
          obtain rfl:=HA0.out
          clear HA0 oe70
          simp only [pz,Act.put,sIB,sCZ,sCS]
          obtain ⟨c1,hc1⟩:∃ c:Cm,c=c0:=⟨_,rfl⟩
          have HC1:=Lib.hid hc1
          have HOK1:=hid (show c1.OK by rw [hc1];exact HMD.out.ok)
          have HSI1:=hid (show I64 (1000+c1.cl) by rw [hc1];unfold I64;(try dsimp only);omega)
          clear hc1
          have hq:=(Hx35.out.mod Cx41.out (by intro h2;first|omega|(have hb:=KwlbA4.out _ h2;omega)))
          rw [← HC1.out] at hq
          have HB17:=Lib.hid hq
          clear hq
          clear Hx35
          go_wp2_with fail
          go_meet
          case rel=>exact ⟨c1,HOK1.out,HSI1.out,HB17.out,HM2.out⟩
       case rest=>
        obtain ⟨wq,rfl⟩:∃ x,x=wc:=⟨_,rfl⟩
        obtain ⟨c1,hok1,hsi1,hcb,hm⟩:=hcut
        have HOK1:=Lib.hid hok1
        have HSI1:=Lib.hid hsi1
        have HCB1:=Lib.hid hcb
        clear hok1 hsi1 hcb
        have zwq:=hm.size
        have Hx46:=hid ((((((Kwlsp.out.mod Cx9.out (fun _ _ h=>h)).mod Cx10.out (fun _ _ h=>h)).mod Cx30.out (fun _ _ h=>h)).mod Cx36.out (by intro k h1 h2;first|omega|(have hb:=HB1.out k h1;omega)|(have hb:=HB3.out k h2;omega)|exact HD13.out k h1 h2|exact HD13.out k h2 h1|exact HD01.out k h1 h2|exact HD01.out k h2 h1|exact HD03.out k h1 h2|exact HD03.out k h2 h1|exact Kwld12.out k h1 h2|exact Kwld12.out k h2 h1|exact Kwld14.out k h1 h2|exact Kwld14.out k h2 h1|exact Kwld32.out k h1 h2|exact Kwld32.out k h2 h1|exact Kwld34.out k h1 h2|exact Kwld34.out k h2 h1|exact Kwld02.out k h1 h2|exact Kwld02.out k h2 h1|exact Kwld04.out k h1 h2|exact Kwld04.out k h2 h1|exact Kwld24.out k h1 h2|exact Kwld24.out k h2 h1|(have hb:=HB1.out k h1;have hb2:=HB3.out k h2;omega))).mod Cx41.out (by intro k h1 h2;first|omega|(have hb:=HB1.out k h1;omega)|(have hb:=KwlbA4.out k h2;omega)|exact HD13.out k h1 h2|exact HD13.out k h2 h1|exact HD01.out k h1 h2|exact HD01.out k h2 h1|exact HD03.out k h1 h2|exact HD03.out k h2 h1|exact Kwld12.out k h1 h2|exact Kwld12.out k h2 h1|exact Kwld14.out k h1 h2|exact Kwld14.out k h2 h1|exact Kwld32.out k h1 h2|exact Kwld32.out k h2 h1|exact Kwld34.out k h1 h2|exact Kwld34.out k h2 h1|exact Kwld02.out k h1 h2|exact Kwld02.out k h2 h1|exact Kwld04.out k h1 h2|exact Kwld04.out k h2 h1|exact Kwld24.out k h1 h2|exact Kwld24.out k h2 h1|(have hb:=HB1.out k h1;have hb2:=KwlbA4.out k h2;omega))).mod hm (by intro k h1 h2;have hb:=HB1.out k h1;omega))
        have Hx47:=hid ((((((Kwlrp.out.mod Cx9.out (fun _ _ h=>h)).mod Cx10.out (fun _ _ h=>h)).mod Cx30.out (fun _ _ h=>h)).mod Cx36.out (by intro k h1 h2;first|omega|(have hb:=KwlbA2.out k h1;omega)|(have hb:=HB3.out k h2;omega)|exact HD13.out k h1 h2|exact HD13.out k h2 h1|exact HD01.out k h1 h2|exact HD01.out k h2 h1|exact HD03.out k h1 h2|exact HD03.out k h2 h1|exact Kwld12.out k h1 h2|exact Kwld12.out k h2 h1|exact Kwld14.out k h1 h2|exact Kwld14.out k h2 h1|exact Kwld32.out k h1 h2|exact Kwld32.out k h2 h1|exact Kwld34.out k h1 h2|exact Kwld34.out k h2 h1|exact Kwld02.out k h1 h2|exact Kwld02.out k h2 h1|exact Kwld04.out k h1 h2|exact Kwld04.out k h2 h1|exact Kwld24.out k h1 h2|exact Kwld24.out k h2 h1|(have hb:=KwlbA2.out k h1;have hb2:=HB3.out k h2;omega))).mod Cx41.out (by intro k h1 h2;first|omega|(have hb:=KwlbA2.out k h1;omega)|(have hb:=KwlbA4.out k h2;omega)|exact HD13.out k h1 h2|exact HD13.out k h2 h1|exact HD01.out k h1 h2|exact HD01.out k h2 h1|exact HD03.out k h1 h2|exact HD03.out k h2 h1|exact Kwld12.out k h1 h2|exact Kwld12.out k h2 h1|exact Kwld14.out k h1 h2|exact Kwld14.out k h2 h1|exact Kwld32.out k h1 h2|exact Kwld32.out k h2 h1|exact Kwld34.out k h1 h2|exact Kwld34.out k h2 h1|exact Kwld02.out k h1 h2|exact Kwld02.out k h2 h1|exact Kwld04.out k h1 h2|exact Kwld04.out k h2 h1|exact Kwld24.out k h1 h2|exact Kwld24.out k h2 h1|(have hb:=KwlbA2.out k h1;have hb2:=KwlbA4.out k h2;omega))).mod hm (by intro k h1 h2;have hb:=KwlbA2.out k h1;omega))
        have Hx48:=hid ((Hx37.out.mod Cx41.out (by intro k h1 h2;first|omega|(have hb:=HB3.out k h1;omega)|(have hb:=KwlbA4.out k h2;omega)|exact HD13.out k h1 h2|exact HD13.out k h2 h1|exact HD01.out k h1 h2|exact HD01.out k h2 h1|exact HD03.out k h1 h2|exact HD03.out k h2 h1|exact Kwld12.out k h1 h2|exact Kwld12.out k h2 h1|exact Kwld14.out k h1 h2|exact Kwld14.out k h2 h1|exact Kwld32.out k h1 h2|exact Kwld32.out k h2 h1|exact Kwld34.out k h1 h2|exact Kwld34.out k h2 h1|exact Kwld02.out k h1 h2|exact Kwld02.out k h2 h1|exact Kwld04.out k h1 h2|exact Kwld04.out k h2 h1|exact Kwld24.out k h1 h2|exact Kwld24.out k h2 h1|(have hb:=HB3.out k h1;have hb2:=KwlbA4.out k h2;omega))).mod hm (by intro k h1 h2;have hb:=HB3.out k h1;omega))
        have Hx49:=hid (Hx40.out.mod hm (by intro k h1 h2;rcases h1 with h1|h1<;>first|omega|(have hb:=KwlbA4.out k h1;omega)))
        have Hx50:=hid ((((((Kwlac.out.mod Cx9.out (fun _ _ h=>h)).mod Cx10.out (fun _ _ h=>h)).mod Cx30.out (fun _ _ h=>h)).mod Cx36.out (by intro k h1 h2;first|omega|(have hb:=HB0.out k h1;omega)|(have hb:=HB3.out k h2;omega)|exact HD13.out k h1 h2|exact HD13.out k h2 h1|exact HD01.out k h1 h2|exact HD01.out k h2 h1|exact HD03.out k h1 h2|exact HD03.out k h2 h1|exact Kwld12.out k h1 h2|exact Kwld12.out k h2 h1|exact Kwld14.out k h1 h2|exact Kwld14.out k h2 h1|exact Kwld32.out k h1 h2|exact Kwld32.out k h2 h1|exact Kwld34.out k h1 h2|exact Kwld34.out k h2 h1|exact Kwld02.out k h1 h2|exact Kwld02.out k h2 h1|exact Kwld04.out k h1 h2|exact Kwld04.out k h2 h1|exact Kwld24.out k h1 h2|exact Kwld24.out k h2 h1|(have hb:=HB0.out k h1;have hb2:=HB3.out k h2;omega))).mod Cx41.out (by intro k h1 h2;first|omega|(have hb:=HB0.out k h1;omega)|(have hb:=KwlbA4.out k h2;omega)|exact HD13.out k h1 h2|exact HD13.out k h2 h1|exact HD01.out k h1 h2|exact HD01.out k h2 h1|exact HD03.out k h1 h2|exact HD03.out k h2 h1|exact Kwld12.out k h1 h2|exact Kwld12.out k h2 h1|exact Kwld14.out k h1 h2|exact Kwld14.out k h2 h1|exact Kwld32.out k h1 h2|exact Kwld32.out k h2 h1|exact Kwld34.out k h1 h2|exact Kwld34.out k h2 h1|exact Kwld02.out k h1 h2|exact Kwld02.out k h2 h1|exact Kwld04.out k h1 h2|exact Kwld04.out k h2 h1|exact Kwld24.out k h1 h2|exact Kwld24.out k h2 h1|(have hb:=HB0.out k h1;have hb2:=KwlbA4.out k h2;omega))).mod hm (by intro k h1 h2;have hb:=HB0.out k h1;omega))
        have Hx51:=hid ((((((Kwlm.out.trans Cx9.out (fun _ _ h=>h.elim)).trans Cx10.out (fun _ _ h=>h.elim)).trans Cx30.out (fun _ _ h=>h.elim)).trans Cx36.out (by intro k h1 h2;first|exact h2|omega|exact Or.inl h2|exact Or.inr h2|exact Or.inr (Or.inl h2)|exact Or.inr (Or.inr h2)|(have hb:=HB3.out k h2;omega)|exact Or.inr (Or.inr (Or.inl h2))|exact Or.inr (Or.inr (Or.inr h2))|exact (Kwls2.out _ h2).elim (fun h=>Or.inr (Or.inl h)) (fun h=>absurd h.1 (by omega))|exact (Kwls4.out _ h2).elim (fun h=>Or.inr (Or.inr (Or.inr h))) (fun h=>absurd h.1 (by omega)))).trans Cx41.out (by intro k h1 h2;first|exact h2|omega|exact Or.inl h2|exact Or.inr h2|exact Or.inr (Or.inl h2)|exact Or.inr (Or.inr h2)|(have hb:=KwlbA4.out k h2;omega)|exact Or.inr (Or.inr (Or.inl h2))|exact Or.inr (Or.inr (Or.inr h2))|exact (Kwls2.out _ h2).elim (fun h=>Or.inr (Or.inl h)) (fun h=>absurd h.1 (by omega))|exact (Kwls4.out _ h2).elim (fun h=>Or.inr (Or.inr (Or.inr h))) (fun h=>absurd h.1 (by omega)))).trans hm (by intro k h1 h2;first|exact h2|omega|exact Or.inl h2|exact Or.inr h2|exact Or.inr (Or.inl h2)|exact Or.inr (Or.inr h2)|exact Or.inr (Or.inr (Or.inl h2))|exact Or.inr (Or.inr (Or.inr h2))|exact (Kwls2.out _ h2).elim (fun h=>Or.inr (Or.inl h)) (fun h=>absurd h.1 (by omega))|exact (Kwls4.out _ h2).elim (fun h=>Or.inr (Or.inr (Or.inr h))) (fun h=>absurd h.1 (by omega))))
        have Hx52:=hid ((((Hx11.out.mod Cx30.out (fun h=>h)).mod Cx36.out (by intro h2;first|omega|(have hb:=HB3.out _ h2;omega))).mod Cx41.out (by intro h2;first|omega|(have hb:=KwlbA4.out _ h2;omega))).mod hm (by intro h2;omega))
        clear Kwlsp Kwlrp Hx37 Hx40 Kwlac Kwlm Hx11
        clear hm
        obtain ⟨y1,e1,s1,L1,hst⟩:∃ y e s' L',stmp k rep s Lm c1=((y,e),s',L'):=⟨_,_,_,_,rfl⟩
        have HST:=Lib.hid hst
        have HSF:=hid (stmp_facts hst Kwlok.out HOK1.out hrp (by omega))
        clear hst
        have hf1:=HSF.out.ml
        have hf2:=HSF.out.ll
        have hf3:=HSF.out.er
        go_upto_region 16 with (fail)
        refine Al 195 [86,87,88,89,85,90,91,18,203,19] [0,1,2,3,4,5,6,7,8,9] (fun a0 HA0=>?_)
        have oe1:=ev HA0 1 rfl
        have oe3:=ev HA0 3 rfl
        have oe17:=ev HA0 17 rfl
        refine QSeq.pure rfl _ (fun E=>Ah rfl (E.v oe1)) ?_
        refine QSeq.pure rfl _ (fun E=>Ah rfl (E.v oe3)) ?_
        refine QSeq.pure rfl _ (fun E=>Ap rfl Try.underlying36 rfl (off:=0) (cs:=c1.cells) (by rw [Cm.len HOK1.out.2.1];exact Bd) (E.v oe17) (Cs.whole HCB1.out)) ?_
        refine QSeq.call rfl rfl Try.func14 (Stamp_A HST.out Hx46.out Hx48.out (by intro k h1;have hb:=HB1.out k h1;omega) (by intro k h1;have hb:=HB3.out k h1;omega) (by intro k h1 h2;first|omega|(have hb:=HB1.out k h1;omega)|(have hb:=HB3.out k h2;omega)|exact HD13.out k h1 h2|exact HD13.out k h2 h1|exact HD01.out k h1 h2|exact HD01.out k h2 h1|exact HD03.out k h1 h2|exact HD03.out k h2 h1|exact Kwld12.out k h1 h2|exact Kwld12.out k h2 h1|exact Kwld14.out k h1 h2|exact Kwld14.out k h2 h1|exact Kwld32.out k h1 h2|exact Kwld32.out k h2 h1|exact Kwld34.out k h1 h2|exact Kwld34.out k h2 h1|exact Kwld02.out k h1 h2|exact Kwld02.out k h2 h1|exact Kwld04.out k h1 h2|exact Kwld04.out k h2 h1|exact Kwld24.out k h1 h2|exact Kwld24.out k h2 h1|(have hb:=HB1.out k h1;have hb2:=HB3.out k h2;omega)) HOK1.out HSI1.out hrp (by omega)) (fun E=>args3 (E.d 0 2) (E.d 1 1) (E.d 2 0)) ?_
        rintro e u16_3 ⟨rfl,qsp,qbk,hm⟩
        refine ⟨_,rfl,?_⟩
        have Hx53:=hid qsp
        have Hx54:=hid qbk
        have zu16_3:=hm.size
        have Cx55:=hid (show Mod (fun k=>(R1 k)∨(R3 k)) wq u16_3 from hm)
        clear hm
        clear qsp qbk Hx46 Hx48
        refine QSeq.pure rfl _ (fun E=>Ah rfl (E.d 3 0)) ?_
        refine QSeq.pure rfl (.agg y1.cells.toArray) (fun E=>A9 rfl (E.d 4 0) rfl) ?_
        refine QSeq.pure rfl (.int .i64 e1) (fun E=>A9 rfl (E.d 4 1) rfl) ?_
        refine QSeq.go fun act E=>?_
        refine qc_alloc rfl (Ab rfl) rfl (z:=[.int .i64 0,.int .i64 0,.int .i64 0,.int .u8 0,.int .u8 0,.int .u8 0,.int .u8 0,.int .u8 0,.int .u8 0,.int .u8 0,.int .u8 0,.int .u8 0,.int .u8 0,.int .u8 0,.int .u8 0,.int .u8 0,.int .u8 0,.int .u8 0,.int .u8 0,.int .u8 0,.int .u8 0,.int .u8 0,.int .u8 0,.int .u8 0,.int .u8 0,.int .u8 0,.int .u8 0,.int .u8 0,.int .u8 0,.int .u8 0,.int .u8 0,.int .u8 0,.int .u8 0,.int .u8 0,.int .u8 0,.int .u64 0,.int .i64 0,.int .i64 0]) (by kernel_rfl) ?_
        intro u16_7 qb18 hm
        have zl16_7:=qb18.lt
        have Hx56:=hid qb18
        have zu16_7:=hm.size
        have HMu16_7:=hid hm
        have Cx57:=hid (Cx55.out.goE hm)
        clear hm Cx55
        clear act E qb18
        refine QSeq.go fun act E=>?_
        have hlz:(y1.cells).length=List.length ([.int .i64 0,.int .i64 0,.int .i64 0,.int .u8 0,.int .u8 0,.int .u8 0,.int .u8 0,.int .u8 0,.int .u8 0,.int .u8 0,.int .u8 0,.int .u8 0,.int .u8 0,.int .u8 0,.int .u8 0,.int .u8 0,.int .u8 0,.int .u8 0,.int .u8 0,.int .u8 0,.int .u8 0,.int .u8 0,.int .u8 0,.int .u8 0,.int .u8 0,.int .u8 0,.int .u8 0,.int .u8 0,.int .u8 0,.int .u8 0,.int .u8 0,.int .u8 0,.int .u8 0,.int .u8 0,.int .u8 0,.int .u64 0,.int .i64 0,.int .i64 0]:List Value):=(by rw [St.len HSF.out.ok];rfl)
        refine Bc rfl (Ab rfl) rfl Hx56.out (off:=0) (vs:=y1.cells) (by rw [hlz];kernel_rfl) (St.one y1) (by rw [hlz];exact Nat.le_of_eq (Nat.zero_add _)) (E.d 7 0) (ec (E.d 5 2)) ?_
        intro u16_8 qc0 hm
        have qb18:=qc0.eqv (b:=(y1.cells:List Value).toArray) (A0 (#[.int .i64 0,.int .i64 0,.int .i64 0,.int .u8 0,.int .u8 0,.int .u8 0,.int .u8 0,.int .u8 0,.int .u8 0,.int .u8 0,.int .u8 0,.int .u8 0,.int .u8 0,.int .u8 0,.int .u8 0,.int .u8 0,.int .u8 0,.int .u8 0,.int .u8 0,.int .u8 0,.int .u8 0,.int .u8 0,.int .u8 0,.int .u8 0,.int .u8 0,.int .u8 0,.int .u8 0,.int .u8 0,.int .u8 0,.int .u8 0,.int .u8 0,.int .u8 0,.int .u8 0,.int .u8 0,.int .u8 0,.int .u64 0,.int .i64 0,.int .i64 0]) _ (by rw [hlz];rfl))
        clear qc0 hlz
        have Hx58:=hid qb18
        have zu16_8:=hm.size
        have HMu16_8:=hid hm
        have Cx59:=hid (Mod.goS (S':=(fun k=>(R1 k)∨(R3 k))) Cx57.out hm (fun _ h=>h) (by intro k h0 h2;omega))
        clear hm Cx57
        clear act E qb18 Hx56
        refine QSeq.pure rfl _ (fun E=>An rfl (E.d 6 2)) ?_
        have Hx60:=hid ((Hx53.out.mod HMu16_7.out (fun _ _ h=>h)).mod HMu16_8.out (by intro k h1 h2;have hb:=HB1.out k h1;omega))
        have Hx61:=hid ((Hx54.out.mod HMu16_7.out (fun _ _ h=>h)).mod HMu16_8.out (by intro k h1 h2;have hb:=HB3.out k h1;omega))
        clear Hx53 Hx54 HMu16_7 HMu16_8
        refine QSeq.nil (t':=[_,_,_,_,_,_,_,_,_,_]) rfl ?_
        obtain rfl:=HA0.out
        clear HA0 oe1 oe3 oe17
        simp only [pz,Act.put,sIB,sCZ,sCS,List.set_nil]
        go_upto_region 17 with (fail)
        refine Al 195 [93,94,95,96,92,97,98,20,203,21] [0,1,2,3,4,5,6,7,8,9] (fun a0 HA0=>?_)
        have oe2:=ev HA0 2 rfl
        have oe4:=ev HA0 4 rfl
        have oe17:=ev HA0 17 rfl
        refine QSeq.pure rfl _ (fun E=>Ah rfl (E.v oe2)) ?_
        refine QSeq.pure rfl _ (fun E=>Ah rfl (E.v oe4)) ?_
        refine QSeq.pure rfl _ (fun E=>Ap rfl Try.underlying36 rfl (off:=0) (cs:=c1.cells) (by rw [Cm.len HOK1.out.2.1];exact Bd) (E.v oe17) (Cs.whole (HCB1.out.mod Cx59.out (by intro h2;rcases h2 with h2|h2<;>first|omega|(have hb:=HB1.out _ h2;omega)|(have hb:=HB3.out _ h2;omega))))) ?_
        refine QSeq.call rfl rfl Try.func39 (RStamp_A HST.out (Hx47.out.mod Cx59.out (by intro k h1 h2;rcases h2 with h2|h2<;>first|omega|(have hb:=KwlbA2.out k h1;omega)|(have hb:=HB1.out k h2;omega)|(have hb:=HB3.out k h2;omega)|exact HD13.out k h1 h2|exact HD13.out k h2 h1|exact HD01.out k h1 h2|exact HD01.out k h2 h1|exact HD03.out k h1 h2|exact HD03.out k h2 h1|exact Kwld12.out k h1 h2|exact Kwld12.out k h2 h1|exact Kwld14.out k h1 h2|exact Kwld14.out k h2 h1|exact Kwld32.out k h1 h2|exact Kwld32.out k h2 h1|exact Kwld34.out k h1 h2|exact Kwld34.out k h2 h1|exact Kwld02.out k h1 h2|exact Kwld02.out k h2 h1|exact Kwld04.out k h1 h2|exact Kwld04.out k h2 h1|exact Kwld24.out k h1 h2|exact Kwld24.out k h2 h1|exact HDP.out k h1 h2|exact HDP.out k h2 h1|(have hb:=KwlbA2.out k h1;have hb2:=HB1.out k h2;omega)|(have hb:=KwlbA2.out k h1;have hb2:=HB3.out k h2;omega))) (Hx49.out.mod Cx59.out (by intro k h1 h2;rcases h1 with h1|h1<;>rcases h2 with h2|h2<;>first|omega|(have hb:=KwlbA4.out k h1;omega)|(have hb:=HB1.out k h2;omega)|(have hb:=HB3.out k h2;omega)|exact HD13.out k h1 h2|exact HD13.out k h2 h1|exact HD01.out k h1 h2|exact HD01.out k h2 h1|exact HD03.out k h1 h2|exact HD03.out k h2 h1|exact Kwld12.out k h1 h2|exact Kwld12.out k h2 h1|exact Kwld14.out k h1 h2|exact Kwld14.out k h2 h1|exact Kwld32.out k h1 h2|exact Kwld32.out k h2 h1|exact Kwld34.out k h1 h2|exact Kwld34.out k h2 h1|exact Kwld02.out k h1 h2|exact Kwld02.out k h2 h1|exact Kwld04.out k h1 h2|exact Kwld04.out k h2 h1|exact Kwld24.out k h1 h2|exact Kwld24.out k h2 h1|exact HDP.out k h1 h2|exact HDP.out k h2 h1|(have hb:=KwlbA4.out k h1;have hb2:=HB1.out k h2;omega)|(have hb:=KwlbA4.out k h1;have hb2:=HB3.out k h2;omega))) (by intro k h1;have hb:=KwlbA2.out k h1;omega) (by intro k h1;rcases h1 with h1|h1<;>first|omega|(have hb:=KwlbA4.out k h1;omega)) (by intro k h1 h2;rcases h2 with h2|h2<;>first|omega|(have hb:=KwlbA2.out k h1;omega)|(have hb:=KwlbA4.out k h2;omega)|exact HD13.out k h1 h2|exact HD13.out k h2 h1|exact HD01.out k h1 h2|exact HD01.out k h2 h1|exact HD03.out k h1 h2|exact HD03.out k h2 h1|exact Kwld12.out k h1 h2|exact Kwld12.out k h2 h1|exact Kwld14.out k h1 h2|exact Kwld14.out k h2 h1|exact Kwld32.out k h1 h2|exact Kwld32.out k h2 h1|exact Kwld34.out k h1 h2|exact Kwld34.out k h2 h1|exact Kwld02.out k h1 h2|exact Kwld02.out k h2 h1|exact Kwld04.out k h1 h2|exact Kwld04.out k h2 h1|exact Kwld24.out k h1 h2|exact Kwld24.out k h2 h1|exact HDP.out k h1 h2|exact HDP.out k h2 h1|(have hb:=KwlbA2.out k h1;have hb2:=KwlbA4.out k h2;omega)) HAPM.out Kwlok.out HOK1.out HSI1.out hrp (by omega) (by omega)) (fun E=>args3 (E.d 0 2) (E.d 1 1) (E.d 2 0)) ?_
        rintro e u17_3 ⟨P2,P4,rfl,qrp,qrb,hrf,hm⟩
        have hzr:=hm.size
        have HS2:=hid (show ∀ k,P2 k→R2 k∨New w u17_3 k from fun k hk=>by rcases hrf.s2 k hk with h|h;(rcases Kwls2.out k h with h|h;exact Or.inl h;exact Or.inr (by unfold New at h ⊢; omega));exact Or.inr (by unfold New at h ⊢; omega))
        have HS4:=hid (show ∀ k,P4 k→R4 k∨New w u17_3 k from fun k hk=>by rcases hrf.s4 k hk with h|h;((try dsimp only at h);rcases h with h|h;(rcases Kwls4.out k h with h|h;exact Or.inl h;exact Or.inr (by unfold New at h ⊢; omega));exact Or.inr (by unfold New at h ⊢; omega));exact Or.inr (by unfold New at h ⊢; omega))
        have HDP:=hid hrf.dj
        have HBP2:=hid (show ∀ k,P2 k→k < u17_3.heap.size from fun k hk=>by rcases HS2.out k hk with h|h;(have hb:=HB2.out k h;omega);exact h.2)
        have HBP4:=hid (show ∀ k,P4 k→k < u17_3.heap.size from fun k hk=>by rcases HS4.out k hk with h|h;(have hb:=HB4.out k h;omega);exact h.2)
        clear hrf hzr
        refine ⟨_,rfl,?_⟩
        have Hx62:=hid qrp
        have Hx63:=hid qrb
        have zu17_3:=hm.size
        have Cx64:=hid (show Mod (fun k=>(A2 k)∨(A4 k)∨(New u9_0 u9_1a k)) u16_8 u17_3 from hm)
        clear hm
        clear qrp qrb Hx47 Hx49
        refine QSeq.pure rfl _ (fun E=>Ah rfl (E.d 3 0)) ?_
        refine QSeq.pure rfl (.agg y1.cells.toArray) (fun E=>A9 rfl (E.d 4 0) rfl) ?_
        refine QSeq.pure rfl (.int .i64 e1) (fun E=>A9 rfl (E.d 4 1) rfl) ?_
        refine QSeq.go fun act E=>?_
        refine qc_alloc rfl (Ab rfl) rfl (z:=[.int .i64 0,.int .i64 0,.int .i64 0,.int .u8 0,.int .u8 0,.int .u8 0,.int .u8 0,.int .u8 0,.int .u8 0,.int .u8 0,.int .u8 0,.int .u8 0,.int .u8 0,.int .u8 0,.int .u8 0,.int .u8 0,.int .u8 0,.int .u8 0,.int .u8 0,.int .u8 0,.int .u8 0,.int .u8 0,.int .u8 0,.int .u8 0,.int .u8 0,.int .u8 0,.int .u8 0,.int .u8 0,.int .u8 0,.int .u8 0,.int .u8 0,.int .u8 0,.int .u8 0,.int .u8 0,.int .u8 0,.int .u64 0,.int .i64 0,.int .i64 0]) (by kernel_rfl) ?_
        intro u17_7 qb20 hm
        have zl17_7:=qb20.lt
        have Hx65:=hid qb20
        have zu17_7:=hm.size
        have HMu17_7:=hid hm
        have Cx66:=hid (Cx64.out.goE hm)
        clear hm Cx64
        clear act E qb20
        refine QSeq.go fun act E=>?_
        have hlz:(y1.cells).length=List.length ([.int .i64 0,.int .i64 0,.int .i64 0,.int .u8 0,.int .u8 0,.int .u8 0,.int .u8 0,.int .u8 0,.int .u8 0,.int .u8 0,.int .u8 0,.int .u8 0,.int .u8 0,.int .u8 0,.int .u8 0,.int .u8 0,.int .u8 0,.int .u8 0,.int .u8 0,.int .u8 0,.int .u8 0,.int .u8 0,.int .u8 0,.int .u8 0,.int .u8 0,.int .u8 0,.int .u8 0,.int .u8 0,.int .u8 0,.int .u8 0,.int .u8 0,.int .u8 0,.int .u8 0,.int .u8 0,.int .u8 0,.int .u64 0,.int .i64 0,.int .i64 0]:List Value):=(by rw [St.len HSF.out.ok];rfl)
        refine Bc rfl (Ab rfl) rfl Hx65.out (off:=0) (vs:=y1.cells) (by rw [hlz];kernel_rfl) (St.one y1) (by rw [hlz];exact Nat.le_of_eq (Nat.zero_add _)) (E.d 7 0) (ec (E.d 5 2)) ?_
        intro u17_8 qc0 hm
        have qb20:=qc0.eqv (b:=(y1.cells:List Value).toArray) (A0 (#[.int .i64 0,.int .i64 0,.int .i64 0,.int .u8 0,.int .u8 0,.int .u8 0,.int .u8 0,.int .u8 0,.int .u8 0,.int .u8 0,.int .u8 0,.int .u8 0,.int .u8 0,.int .u8 0,.int .u8 0,.int .u8 0,.int .u8 0,.int .u8 0,.int .u8 0,.int .u8 0,.int .u8 0,.int .u8 0,.int .u8 0,.int .u8 0,.int .u8 0,.int .u8 0,.int .u8 0,.int .u8 0,.int .u8 0,.int .u8 0,.int .u8 0,.int .u8 0,.int .u8 0,.int .u8 0,.int .u8 0,.int .u64 0,.int .i64 0,.int .i64 0]) _ (by rw [hlz];rfl))
        clear qc0 hlz
        have Hx67:=hid qb20
        have zu17_8:=hm.size
        have HMu17_8:=hid hm
        have Cx68:=hid (Mod.goS (S':=(fun k=>(A2 k)∨(A4 k)∨(New u9_0 u9_1a k))) Cx66.out hm (fun _ h=>h) (by intro k h0 h2;omega))
        clear hm Cx66
        clear act E qb20 Hx65
        refine QSeq.pure rfl _ (fun E=>An rfl (E.d 6 2)) ?_
        have Hx69:=hid ((Hx62.out.mod HMu17_7.out (fun _ _ h=>h)).mod HMu17_8.out (by intro k h1 h2;have hb:=HBP2.out k h1;omega))
        have Hx70:=hid ((Hx63.out.mod HMu17_7.out (fun _ _ h=>h)).mod HMu17_8.out (by intro k h1 h2;have hb:=HBP4.out k h1;omega))
        clear Hx62 Hx63 HMu17_7 HMu17_8
        refine QSeq.nil (t':=[_,_,_,_,_,_,_,_,_,_]) rfl ?_
        obtain rfl:=HA0.out
        clear HA0 oe2 oe4 oe17
        simp only [pz,Act.put,sIB,sCZ,sCS,List.set_nil]
        clear HCB1
        go_upto_region 18 with (fail)
        refine Al 195 [99,100,101,102,103,104,105,106] [0,1,2,3,4,5,6,7] (fun a0 HA0=>?_)
        have oe18:=ev HA0 18 rfl
        have oe19:=ev HA0 19 rfl
        have oe20:=ev HA0 20 rfl
        have oe21:=ev HA0 21 rfl
        refine QSeq.pure rfl _ (fun E=>Ap rfl Try.underlying47 rfl (off:=0) (cs:=y1.cells) (by rw [St.len HSF.out.ok];exact Bb) (E.v oe18) (Cs.whole (Hx58.out.mod Cx68.out (by intro h2;rcases h2 with h2|h2|h2<;>first|omega|(have hb:=KwlbA2.out _ h2;omega)|(have hb:=KwlbA4.out _ h2;omega))))) ?_
        refine QSeq.pure rfl _ (fun E=>Ap rfl Try.underlying47 rfl (off:=0) (cs:=y1.cells) (by rw [St.len HSF.out.ok];exact Bb) (E.v oe20) (Cs.whole Hx67.out)) ?_
        refine QSeq.pure rfl (.bool false) (fun E=>Av rfl (E.d 0 1) (E.d 1 0) (agg_guardE _ _ _ _ _ _ (by kernel_rfl) _) (EqW.runN eqW_stamp (ki_st HSF.out.ok) (ki_st HSF.out.ok) (c:=true) (by simp) _) rfl) ?_
        refine QSeq.pure rfl _ (fun E=>Ah rfl (E.d 2 0)) ?_
        refine QSeq.pureG rfl (.int .i64 e1) (fun E=>((Ad rfl rfl (E.sz 102 (by decide)) (E.d 3 0)).trans rfl)) (fun E=>Ah rfl (E.v oe19)) ?_
        refine QSeq.pureG rfl (.int .i64 e1) (fun E=>((Ad rfl rfl (E.sz 102 (by decide)) (E.d 3 1)).trans rfl)) (fun E=>Ah rfl (E.v oe21)) ?_
        refine QSeq.pureG rfl (.bool false) (fun E=>((Ad rfl rfl (E.sz 102 (by decide)) (E.d 3 2)).trans rfl)) (fun E=>Av rfl (E.d 4 1) (E.d 5 0) (Ak _ _ _ _ _ _) (run_neq_i _ _ _ Try.underlying40) (congrArg Value.bool (ne_ff rfl))) ?_
        refine QSeq.pure rfl (.bool false) (fun E=>A5 rfl (E.d 3 3) rfl (E.d 6 0)) ?_
        refine QSeq.nil (t':=[_,_,_,_,_,_,_,_]) rfl ?_
        obtain rfl:=HA0.out
        clear HA0 oe18 oe19 oe20 oe21
        simp only [pz,Act.put,sIB,sCZ,sCS]
        clear Hx58
        clear Hx67
        go_wp2_with fail
        go_meet
        case rel=>exact ⟨s1,L1,(fun k=>(P2 k)),(fun k=>(P4 k)),(by omega),(by omega),(HSF.out.ap HAPM.out),by omega,(Hx60.out.mod Cx68.out (by intro k h1 h2;rcases h2 with h2|h2|h2<;>first|omega|(have hb:=HB1.out k h1;omega)|(have hb:=KwlbA2.out k h2;omega)|(have hb:=KwlbA4.out k h2;omega)|exact HD13.out k h1 h2|exact HD13.out k h2 h1|exact HD01.out k h1 h2|exact HD01.out k h2 h1|exact HD03.out k h1 h2|exact HD03.out k h2 h1|exact Kwld12.out k h1 h2|exact Kwld12.out k h2 h1|exact Kwld14.out k h1 h2|exact Kwld14.out k h2 h1|exact Kwld32.out k h1 h2|exact Kwld32.out k h2 h1|exact Kwld34.out k h1 h2|exact Kwld34.out k h2 h1|exact Kwld02.out k h1 h2|exact Kwld02.out k h2 h1|exact Kwld04.out k h1 h2|exact Kwld04.out k h2 h1|exact Kwld24.out k h1 h2|exact Kwld24.out k h2 h1|exact HDP.out k h1 h2|exact HDP.out k h2 h1|(have hb:=HB1.out k h1;have hb2:=KwlbA2.out k h2;omega)|(have hb:=HB1.out k h1;have hb2:=KwlbA4.out k h2;omega))),Hx69.out,(Hx61.out.mod Cx68.out (by intro k h1 h2;rcases h2 with h2|h2|h2<;>first|omega|(have hb:=HB3.out k h1;omega)|(have hb:=KwlbA2.out k h2;omega)|(have hb:=KwlbA4.out k h2;omega)|exact HD13.out k h1 h2|exact HD13.out k h2 h1|exact HD01.out k h1 h2|exact HD01.out k h2 h1|exact HD03.out k h1 h2|exact HD03.out k h2 h1|exact Kwld12.out k h1 h2|exact Kwld12.out k h2 h1|exact Kwld14.out k h1 h2|exact Kwld14.out k h2 h1|exact Kwld32.out k h1 h2|exact Kwld32.out k h2 h1|exact Kwld34.out k h1 h2|exact Kwld34.out k h2 h1|exact Kwld02.out k h1 h2|exact Kwld02.out k h2 h1|exact Kwld04.out k h1 h2|exact Kwld04.out k h2 h1|exact Kwld24.out k h1 h2|exact Kwld24.out k h2 h1|exact HDP.out k h1 h2|exact HDP.out k h2 h1|(have hb:=HB3.out k h1;have hb2:=KwlbA2.out k h2;omega)|(have hb:=HB3.out k h1;have hb2:=KwlbA4.out k h2;omega))),Hx70.out,(by intro k h1 h2;first|omega|(have hb:=HBP2.out k h1;omega)|(have hb:=HBP4.out k h2;omega)|exact HD13.out k h1 h2|exact HD13.out k h2 h1|exact HD01.out k h1 h2|exact HD01.out k h2 h1|exact HD03.out k h1 h2|exact HD03.out k h2 h1|exact Kwld12.out k h1 h2|exact Kwld12.out k h2 h1|exact Kwld14.out k h1 h2|exact Kwld14.out k h2 h1|exact Kwld32.out k h1 h2|exact Kwld32.out k h2 h1|exact Kwld34.out k h1 h2|exact Kwld34.out k h2 h1|exact Kwld02.out k h1 h2|exact Kwld02.out k h2 h1|exact Kwld04.out k h1 h2|exact Kwld04.out k h2 h1|exact Kwld24.out k h1 h2|exact Kwld24.out k h2 h1|exact HDP.out k h1 h2|exact HDP.out k h2 h1|(have hb:=HBP2.out k h1;have hb2:=HBP4.out k h2;omega)),(by intro k h1;(try dsimp only at h1);first|exact (HS2.out k h1).elim Or.inl (fun h=>Or.inr (by unfold New at h ⊢; omega))|exact Or.inr (by unfold New;omega)),(by intro k h1;(try dsimp only at h1);first|exact (HS4.out k h1).elim Or.inl (fun h=>Or.inr (by unfold New at h ⊢; omega))|exact Or.inr (by unfold New;omega)),((Hx50.out.mod Cx59.out (by intro k h1 h2;rcases h2 with h2|h2<;>first|omega|(have hb:=HB0.out k h1;omega)|(have hb:=HB1.out k h2;omega)|(have hb:=HB3.out k h2;omega)|exact HD13.out k h1 h2|exact HD13.out k h2 h1|exact HD01.out k h1 h2|exact HD01.out k h2 h1|exact HD03.out k h1 h2|exact HD03.out k h2 h1|exact Kwld12.out k h1 h2|exact Kwld12.out k h2 h1|exact Kwld14.out k h1 h2|exact Kwld14.out k h2 h1|exact Kwld32.out k h1 h2|exact Kwld32.out k h2 h1|exact Kwld34.out k h1 h2|exact Kwld34.out k h2 h1|exact Kwld02.out k h1 h2|exact Kwld02.out k h2 h1|exact Kwld04.out k h1 h2|exact Kwld04.out k h2 h1|exact Kwld24.out k h1 h2|exact Kwld24.out k h2 h1|exact HDP.out k h1 h2|exact HDP.out k h2 h1|(have hb:=HB0.out k h1;have hb2:=HB1.out k h2;omega)|(have hb:=HB0.out k h1;have hb2:=HB3.out k h2;omega))).mod Cx68.out (by intro k h1 h2;rcases h2 with h2|h2|h2<;>first|omega|(have hb:=HB0.out k h1;omega)|(have hb:=KwlbA2.out k h2;omega)|(have hb:=KwlbA4.out k h2;omega)|exact HD13.out k h1 h2|exact HD13.out k h2 h1|exact HD01.out k h1 h2|exact HD01.out k h2 h1|exact HD03.out k h1 h2|exact HD03.out k h2 h1|exact Kwld12.out k h1 h2|exact Kwld12.out k h2 h1|exact Kwld14.out k h1 h2|exact Kwld14.out k h2 h1|exact Kwld32.out k h1 h2|exact Kwld32.out k h2 h1|exact Kwld34.out k h1 h2|exact Kwld34.out k h2 h1|exact Kwld02.out k h1 h2|exact Kwld02.out k h2 h1|exact Kwld04.out k h1 h2|exact Kwld04.out k h2 h1|exact Kwld24.out k h1 h2|exact Kwld24.out k h2 h1|exact HDP.out k h1 h2|exact HDP.out k h2 h1|(have hb:=HB0.out k h1;have hb2:=KwlbA2.out k h2;omega)|(have hb:=HB0.out k h1;have hb2:=KwlbA4.out k h2;omega))),((Hx52.out.mod Cx59.out (by intro h2;rcases h2 with h2|h2<;>first|omega|(have hb:=HB1.out _ h2;omega)|(have hb:=HB3.out _ h2;omega))).mod Cx68.out (by intro h2;rcases h2 with h2|h2|h2<;>first|omega|(have hb:=KwlbA2.out _ h2;omega)|(have hb:=KwlbA4.out _ h2;omega))),((Hx51.out.trans Cx59.out (by intro k h1 h2;rcases h2 with h2|h2<;>first|exact h2|omega|exact Or.inl h2|exact Or.inr h2|exact Or.inr (Or.inl h2)|exact Or.inr (Or.inr h2)|(have hb:=HB1.out k h2;omega)|(have hb:=HB3.out k h2;omega)|exact Or.inr (Or.inr (Or.inl h2))|exact Or.inr (Or.inr (Or.inr h2))|exact (Kwls2.out _ h2).elim (fun h=>Or.inr (Or.inl h)) (fun h=>absurd h.1 (by omega))|exact (Kwls4.out _ h2).elim (fun h=>Or.inr (Or.inr (Or.inr h))) (fun h=>absurd h.1 (by omega)))).trans Cx68.out (by intro k h1 h2;rcases h2 with h2|h2|h2<;>first|exact h2|omega|exact Or.inl h2|exact Or.inr h2|exact Or.inr (Or.inl h2)|exact Or.inr (Or.inr h2)|(have hb:=KwlbA2.out k h2;omega)|(have hb:=KwlbA4.out k h2;omega)|exact Or.inr (Or.inr (Or.inl h2))|exact Or.inr (Or.inr (Or.inr h2))|exact (Kwls2.out _ h2).elim (fun h=>Or.inr (Or.inl h)) (fun h=>absurd h.1 (by omega))|exact (Kwls4.out _ h2).elim (fun h=>Or.inr (Or.inr (Or.inr h))) (fun h=>absurd h.1 (by omega))))⟩
   case rest=>
    clear Kwlsp Kwlrp Kwlbk Kwlrb Kwlac Kwlm HEL Hx8 Hx11
    obtain ⟨t,L2,B2,B4,hmlwv,hllwv,hap,hzwv,hsp,hrp2,hbk,hrb,hd24,hs2,hs4,hac,hnm,hm⟩:=hcut
    obtain ⟨wv,rfl⟩:∃ x,x=wc:=⟨_,rfl⟩
    have KwvbB2:=hid (show ∀ k,B2 k→k < wv.heap.size from fun k hk=>by rcases hs2 k hk with h|h;(have hb:=HB2.out k h;omega);exact h.2)
    have KwvbB4:=hid (show ∀ k,B4 k→k < wv.heap.size from fun k hk=>by rcases hs4 k hk with h|h;(have hb:=HB4.out k h;omega);exact h.2)
    have Kwvd12:=hid (show ∀ k,R1 k→B2 k→False from fun k h1 h2=>by rcases hs2 k h2 with h|h;exact HD12.out k h1 h;(have hb:=HB1.out k h1;have:=h.1;omega))
    have Kwvd14:=hid (show ∀ k,R1 k→B4 k→False from fun k h1 h2=>by rcases hs4 k h2 with h|h;exact HD14.out k h1 h;(have hb:=HB1.out k h1;have:=h.1;omega))
    have Kwvd32:=hid (show ∀ k,R3 k→B2 k→False from fun k h1 h2=>by rcases hs2 k h2 with h|h;exact HD23.out k h h1;(have hb:=HB3.out k h1;have:=h.1;omega))
    have Kwvd34:=hid (show ∀ k,R3 k→B4 k→False from fun k h1 h2=>by rcases hs4 k h2 with h|h;exact HD34.out k h1 h;(have hb:=HB3.out k h1;have:=h.1;omega))
    have Kwvd02:=hid (show ∀ k,R0 k→B2 k→False from fun k h1 h2=>by rcases hs2 k h2 with h|h;exact HD02.out k h1 h;(have hb:=HB0.out k h1;have:=h.1;omega))
    have Kwvd04:=hid (show ∀ k,R0 k→B4 k→False from fun k h1 h2=>by rcases hs4 k h2 with h|h;exact HD04.out k h1 h;(have hb:=HB0.out k h1;have:=h.1;omega))
    have Kwvd24:=Lib.hid hd24
    have Kwvok:=hid hsp.oks
    have Kwvbd:=hsp.bd
    have Kwvsp:=Lib.hid hsp
    have Kwvrp:=Lib.hid hrp2
    have Kwvbk:=Lib.hid hbk
    have Kwvrb:=Lib.hid hrb
    have Kwvac:=Lib.hid hac
    have Kwvm:=Lib.hid hm
    have Kwvs2:=Lib.hid hs2
    have Kwvs4:=Lib.hid hs4
    have Kwvap:=Lib.hid hap
    clear hsp hrp2 hbk hrb hac hm hs2 hs4 hap hd24
    have HNM:=Lib.hid hnm
    clear hnm
    obtain ⟨ys,bb,hlk,hys⟩:=lookV_ex Kwvok.out (((kc:Nat):Int),((ks:Nat):Int))
    have HLK:=Lib.hid hlk
    have HYS:=Lib.hid hys
    clear hlk hys
    go_upto_region 27 with (fail)
    refine Al 195 [130,131,132,129,133,134,135,22,203,23,24] [0,1,2,3,4,5,6,7,8,9,10] (fun a0 HA0=>?_)
    have oe1:=ev HA0 1 rfl
    have oe15:=ev HA0 15 rfl
    refine QSeq.pure rfl _ (fun E=>Ah rfl (E.v oe1)) ?_
    refine QSeq.pure rfl _ (fun E=>Ap rfl Try.underlying30 rfl (off:=0) (cs:=[.int .i64 ((kc:Nat):Int),.int .i64 ((ks:Nat):Int)]) (by kernel_rfl) (E.v oe15) (Cs.litA HNM.out rfl)) ?_
    refine QSeq.call rfl rfl Try.func21 (Of_Q (n:=(((kc:Nat):Int),((ks:Nat):Int))) (y:=ys) (bb:=bb) Kwvsp.out (by intro k h1;have hb:=HB1.out k h1;omega) HNK.out HLK.out HYS.out) (fun E=>args2 (E.d 0 1) (E.d 1 0)) ?_
    rintro e u27_2 ⟨rfl,hm⟩
    refine ⟨_,rfl,?_⟩
    have zu27_2:=hm.size
    have Cx71:=hid (show Mod (fun _=>False) wv u27_2 from hm)
    clear hm
    refine QSeq.pure rfl _ (fun E=>Ah rfl (E.d 2 0)) ?_
    refine QSeq.pure rfl (hv ys.h) (fun E=>A9 rfl (E.d 3 0) rfl) ?_
    refine QSeq.pure rfl (.int .u64 (ys.tm:Nat)) (fun E=>A9 rfl (E.d 3 1) rfl) ?_
    refine QSeq.pure rfl (.bool bb) (fun E=>A9 rfl (E.d 3 2) rfl) ?_
    refine QSeq.go fun act E=>?_
    refine qc_alloc rfl (Ab rfl) rfl (z:=[.int .u8 0,.int .u8 0,.int .u8 0,.int .u8 0,.int .u8 0,.int .u8 0,.int .u8 0,.int .u8 0,.int .u8 0,.int .u8 0,.int .u8 0,.int .u8 0,.int .u8 0,.int .u8 0,.int .u8 0,.int .u8 0,.int .u8 0,.int .u8 0,.int .u8 0,.int .u8 0,.int .u8 0,.int .u8 0,.int .u8 0,.int .u8 0,.int .u8 0,.int .u8 0,.int .u8 0,.int .u8 0,.int .u8 0,.int .u8 0,.int .u8 0,.int .u8 0]) (by kernel_rfl) ?_
    intro u27_7 qb22 hm
    have zl27_7:=qb22.lt
    have Hx72:=hid qb22
    have zu27_7:=hm.size
    have HMu27_7:=hid hm
    have Cx73:=hid (Cx71.out.goE hm)
    clear hm Cx71
    clear act E qb22
    refine QSeq.go fun act E=>?_
    have hlz:((ys.h.map bv)).length=List.length ([.int .u8 0,.int .u8 0,.int .u8 0,.int .u8 0,.int .u8 0,.int .u8 0,.int .u8 0,.int .u8 0,.int .u8 0,.int .u8 0,.int .u8 0,.int .u8 0,.int .u8 0,.int .u8 0,.int .u8 0,.int .u8 0,.int .u8 0,.int .u8 0,.int .u8 0,.int .u8 0,.int .u8 0,.int .u8 0,.int .u8 0,.int .u8 0,.int .u8 0,.int .u8 0,.int .u8 0,.int .u8 0,.int .u8 0,.int .u8 0,.int .u8 0,.int .u8 0]:List Value):=(by rw [List.length_map,HYS.out.h.1];rfl)
    refine Bc rfl (Ab rfl) rfl Hx72.out (off:=0) (vs:=(ys.h.map bv)) (by rw [hlz];kernel_rfl) (by intro u hu;obtain ⟨z,-,rfl⟩:=List.mem_map.1 hu;rfl) (by rw [hlz];exact Nat.le_of_eq (Nat.zero_add _)) (E.d 7 0) (ec (E.d 4 3)) ?_
    intro u27_8 qc0 hm
    have qb22:=qc0.eqv (b:=((ys.h.map bv):List Value).toArray) (A0 (#[.int .u8 0,.int .u8 0,.int .u8 0,.int .u8 0,.int .u8 0,.int .u8 0,.int .u8 0,.int .u8 0,.int .u8 0,.int .u8 0,.int .u8 0,.int .u8 0,.int .u8 0,.int .u8 0,.int .u8 0,.int .u8 0,.int .u8 0,.int .u8 0,.int .u8 0,.int .u8 0,.int .u8 0,.int .u8 0,.int .u8 0,.int .u8 0,.int .u8 0,.int .u8 0,.int .u8 0,.int .u8 0,.int .u8 0,.int .u8 0,.int .u8 0,.int .u8 0]) _ (by rw [hlz];rfl))
    clear qc0 hlz
    have Hx74:=hid qb22
    have zu27_8:=hm.size
    have HMu27_8:=hid hm
    have Cx75:=hid (Mod.goS (S':=(fun _=>False)) Cx73.out hm (fun _ h=>h) (by intro k h0 h2;omega))
    clear hm Cx73
    clear act E qb22 Hx72
    refine QSeq.pure rfl _ (fun E=>An rfl (E.d 5 3)) ?_
    refine QSeq.pure rfl _ (fun E=>An rfl (E.d 6 3)) ?_
    clear HMu27_7 HMu27_8
    refine QSeq.nil (t':=[_,_,_,_,_,_,_,_,_,_,_]) rfl ?_
    obtain rfl:=HA0.out
    clear HA0 oe1 oe15
    simp only [pz,Act.put,sIB,sCZ,sCS,List.set_nil]
    go_upto_region 28 with (fail)
    refine Al 195 [137,138,139,136,140,141,25,202,26] [0,1,2,3,4,5,6,7,8] (fun a0 HA0=>?_)
    have oe2:=ev HA0 2 rfl
    have oe15:=ev HA0 15 rfl
    refine QSeq.pure rfl _ (fun E=>Ah rfl (E.v oe2)) ?_
    refine QSeq.pure rfl _ (fun E=>Ap rfl Try.underlying30 rfl (off:=0) (cs:=[.int .i64 ((kc:Nat):Int),.int .i64 ((ks:Nat):Int)]) (by kernel_rfl) (E.v oe15) (Cs.litA (HNM.out.mod Cx75.out (fun h=>h)) rfl)) ?_
    refine QSeq.call rfl rfl Try.func40 (ROf_V (n:=(((kc:Nat):Int),((ks:Nat):Int))) (Kwvrp.out.mod Cx75.out (fun _ _ h=>h)) (by intro k h1;have hb:=KwvbB2.out k h1;omega) (by omega) HLK.out) (fun E=>args2 (E.d 0 1) (E.d 1 0)) ?_
    rintro e u28_2 ⟨rfl,hm⟩
    refine ⟨_,rfl,?_⟩
    have zu28_2:=hm.size
    have Cx76:=hid (show Mod (fun _=>False) u27_8 u28_2 from hm)
    clear hm
    refine QSeq.pure rfl _ (fun E=>Ah rfl (E.d 2 0)) ?_
    refine QSeq.pure rfl (ys.val) (fun E=>A9 rfl (E.d 3 0) rfl) ?_
    refine QSeq.pure rfl (.bool bb) (fun E=>A9 rfl (E.d 3 1) rfl) ?_
    refine QSeq.go fun act E=>?_
    refine qc_alloc rfl (Ab rfl) rfl (z:=[.int .i64 0,.int .i64 0,.int .i64 0,.int .u8 0,.int .u8 0,.int .u8 0,.int .u8 0,.int .u8 0,.int .u8 0,.int .u8 0,.int .u8 0,.int .u8 0,.int .u8 0,.int .u8 0,.int .u8 0,.int .u8 0,.int .u8 0,.int .u8 0,.int .u8 0,.int .u8 0,.int .u8 0,.int .u8 0,.int .u8 0,.int .u8 0,.int .u8 0,.int .u8 0,.int .u8 0,.int .u8 0,.int .u8 0,.int .u8 0,.int .u8 0,.int .u8 0,.int .u8 0,.int .u8 0,.int .u8 0,.int .u64 0,.int .i64 0,.int .i64 0]) (by kernel_rfl) ?_
    intro u28_6 qb25 hm
    have zl28_6:=qb25.lt
    have Hx77:=hid qb25
    have zu28_6:=hm.size
    have HMu28_6:=hid hm
    have Cx78:=hid (Cx76.out.goE hm)
    clear hm Cx76
    clear act E qb25
    refine QSeq.go fun act E=>?_
    have hlz:(ys.cells).length=List.length ([.int .i64 0,.int .i64 0,.int .i64 0,.int .u8 0,.int .u8 0,.int .u8 0,.int .u8 0,.int .u8 0,.int .u8 0,.int .u8 0,.int .u8 0,.int .u8 0,.int .u8 0,.int .u8 0,.int .u8 0,.int .u8 0,.int .u8 0,.int .u8 0,.int .u8 0,.int .u8 0,.int .u8 0,.int .u8 0,.int .u8 0,.int .u8 0,.int .u8 0,.int .u8 0,.int .u8 0,.int .u8 0,.int .u8 0,.int .u8 0,.int .u8 0,.int .u8 0,.int .u8 0,.int .u8 0,.int .u8 0,.int .u64 0,.int .i64 0,.int .i64 0]:List Value):=(by rw [St.len HYS.out];rfl)
    refine Bc rfl (Ab rfl) rfl Hx77.out (off:=0) (vs:=ys.cells) (by rw [hlz];kernel_rfl) (St.one ys) (by rw [hlz];exact Nat.le_of_eq (Nat.zero_add _)) (E.d 6 0) (ec (E.d 4 2)) ?_
    intro u28_7 qc0 hm
    have qb25:=qc0.eqv (b:=(ys.cells:List Value).toArray) (A0 (#[.int .i64 0,.int .i64 0,.int .i64 0,.int .u8 0,.int .u8 0,.int .u8 0,.int .u8 0,.int .u8 0,.int .u8 0,.int .u8 0,.int .u8 0,.int .u8 0,.int .u8 0,.int .u8 0,.int .u8 0,.int .u8 0,.int .u8 0,.int .u8 0,.int .u8 0,.int .u8 0,.int .u8 0,.int .u8 0,.int .u8 0,.int .u8 0,.int .u8 0,.int .u8 0,.int .u8 0,.int .u8 0,.int .u8 0,.int .u8 0,.int .u8 0,.int .u8 0,.int .u8 0,.int .u8 0,.int .u8 0,.int .u64 0,.int .i64 0,.int .i64 0]) _ (by rw [hlz];rfl))
    clear qc0 hlz
    have Hx79:=hid qb25
    have zu28_7:=hm.size
    have HMu28_7:=hid hm
    have Cx80:=hid (Mod.goS (S':=(fun _=>False)) Cx78.out hm (fun _ h=>h) (by intro k h0 h2;omega))
    clear hm Cx78
    clear act E qb25 Hx77
    refine QSeq.pure rfl _ (fun E=>An rfl (E.d 5 2)) ?_
    clear HMu28_6 HMu28_7
    refine QSeq.nil (t':=[_,_,_,_,_,_,_,_,_]) rfl ?_
    obtain rfl:=HA0.out
    clear HA0 oe2 oe15
    simp only [pz,Act.put,sIB,sCZ,sCS,List.set_nil]
    obtain ⟨ao9,cap9,hry⟩:=(((Kwvrp.out.mod Cx75.out (fun _ _ h=>h)).mod Cx80.out (fun _ _ h=>h))).cell
    obtain ⟨ao8,cap8,hrk⟩:=(((Kwvrb.out.mod Cx75.out (fun _ _ h=>h)).mod Cx80.out (fun _ _ h=>h))).cell
    have hyl:=hry.lt
    have hkl:=hrk.lt
    have HRY:=Lib.hid hry
    have HRK:=Lib.hid hrk
    clear hry hrk
    go_upto_region 29 with (fail)
    generalize ha0:Act.mk _ _=a0
    have oe1:a0.eval (.tmp 1)=.pointer (some ⟨p,0,none⟩):=by rw [← ha0];rfl
    have oe2:a0.eval (.tmp 2)=.pointer (some ⟨y,0,none⟩):=by rw [← ha0];rfl
    have oe3:a0.eval (.tmp 3)=.pointer (some ⟨g,0,none⟩):=by rw [← ha0];rfl
    have oe4:a0.eval (.tmp 4)=.pointer (some ⟨kb,0,none⟩):=by rw [← ha0];rfl
    have oe22:a0.eval (.tmp 22)=.pointer (some ⟨u27_2.heap.size,0,none⟩):=by rw [← ha0];rfl
    have oe23:a0.eval (.tmp 23)=.int .u64 (ys.tm:Nat):=by rw [← ha0];rfl
    have oe24:a0.eval (.tmp 24)=.bool bb:=by rw [← ha0];rfl
    have oe25:a0.eval (.tmp 25)=.pointer (some ⟨u28_2.heap.size,0,none⟩):=by rw [← ha0];rfl
    have oe26:a0.eval (.tmp 26)=.bool bb:=by rw [← ha0];rfl
    have hsz0:a0.tmps.size=195:=by rw [← ha0];rfl
    have HA0:=hid ha0
    clear ha0
    refine Az 195 hsz0 [142,143,144,145,146,147,148,149,150,151,152,153,154,155,156,157,158,159,160,161,162,163,164,165,166,167,168,169,170,171,172,173,174,175,176,177,178,179,180,181,182,183,184,185,186,187,188,189,190,191,192,193,194] [qi (.bool bb),qi (.bool bb),qi (.bool false),qi (.bool false),qi (hv ys.h),qi (.pointer (some ⟨u28_2.heap.size,3,none⟩)),qi (hv ys.h),qi (.bool false),qi (.bool false),qi (.bool false),qi (.int .u64 (ys.tm:Nat)),qi (.pointer (some ⟨u28_2.heap.size,35,none⟩)),qi (.int .u64 (ys.tm:Nat)),qi (.bool false),qi (.bool false),qi (.bool false),qi (.pointer (some ⟨p,0,none⟩)),qi (.int .u64 ((t.now:Nat):Int)),qi (.pointer (some ⟨y,0,none⟩)),qi (.pointer (some ⟨y,0,none⟩)),qi (.pointer (some ⟨y,3,none⟩)),qi (.int .u64 ((t.now:Nat):Int)),qi (.bool false),qi (.bool false),qi (.bool false),qi (.pointer (some ⟨p,0,none⟩)),qi (.int .u64 ((t.floor:Nat):Int)),qi (.pointer (some ⟨y,0,none⟩)),qi (.pointer (some ⟨y,0,none⟩)),qi (.pointer (some ⟨y,4,none⟩)),qi (.int .u64 ((t.floor:Nat):Int)),qi (.bool false),qi (.bool false),qi (.bool false),qi (.pointer (some ⟨p,0,none⟩)),qi (.int .i64 ((t.m.length:Nat):Int)),qi (.pointer (some ⟨y,0,none⟩)),qi (.pointer (some ⟨y,0,none⟩)),qi (.pointer (some ⟨y,6,none⟩)),qi (.slice ao9 t.m.length cap9),qi (.int .i64 t.m.length),qi (.bool false),qi (.bool false),qi (.bool false),qi (.pointer (some ⟨g,0,none⟩)),qi (.int .i64 ((L2.length:Nat):Int)),qi (.pointer (some ⟨kb,0,none⟩)),qi (.pointer (some ⟨kb,0,none⟩)),qi (.pointer (some ⟨kb,0,none⟩)),qi (.slice ao8 L2.length cap8),qi (.int .i64 L2.length),qi (.bool false),qi (.bool false)] ⟨Aa,Aa,Aa,Aa,Aa,Aa,Aa,Aa,Aa,Aa,Aa,Aa,Aa,Aa,Aa,Aa,Aa,Aa,Aa,Aa,Aa,Aa,Aa,Aa,Aa,Aa,Aa,Aa,Aa,Aa,Aa,Aa,Aa,Aa,Aa,Aa,Aa,Aa,Aa,Aa,Aa,Aa,Aa,Aa,Aa,Aa,Aa,Aa,Aa,Aa,Aa,Aa,Aa,trivial⟩ [] ⟨?_,?_,?_,?_,?_,?_,?_,?_,?_,?_,?_,?_,?_,?_,?_,?_,?_,?_,?_,?_,?_,?_,?_,?_,?_,?_,?_,?_,?_,?_,?_,?_,?_,?_,?_,?_,?_,?_,?_,?_,?_,?_,?_,?_,?_,?_,?_,?_,?_,?_,?_,?_,?_,trivial⟩ ?_
    ·exact stq (fun E=>Ah rfl (E.v oe24))
    ·exact stq (fun E=>Ah rfl (E.v oe26))
    ·exact stq (fun E=>Av rfl (E.d 0) (E.d 1) (guard_bools _ _ _ _ _ _) (run_neq_bools _ _ _ Try.underlying4) (congrArg Value.bool (show (!(bb == bb))=false by simp)))
    ·exact stq (fun E=>Ah rfl (E.d 2))
    ·refine Ag rfl rfl rfl fun _ _ _ _ _ hm _ hout hsz hd _ _=>?_
     have h3:=hd ⟨3,.guard⟩ (by simp) rfl _ rfl
     refine Aq rfl ((Ad rfl rfl (hsz 145 (by decide)) h3).trans rfl) (Ap rfl Try.underlying32 rfl (off:=0) (cs:=(ys.h.map bv)) (by rw [List.length_map,HYS.out.h.1];exact Bj) ((hout 22 (by decide)).trans oe22) (Cs.whole ((Hx74.out.mod Cx80.out (fun h=>h)).mod hm.old (by intro h2;omega)))) QE.refl ?_
     rfl
    ·refine Ag rfl rfl rfl fun _ _ _ _ _ _ _ hout hsz hd _ _=>?_
     have h3:=hd ⟨3,.guard⟩ (by simp) rfl _ rfl
     refine Aq rfl ((Ad rfl rfl (hsz 145 (by decide)) h3).trans rfl) (Ai rfl Try.underlying47 rfl (by kernel_rfl) ((hout 25 (by decide)).trans oe25)) QE.refl ?_
     rfl
    ·refine Ag rfl rfl rfl fun _ _ _ _ _ hm _ _ hsz hd _ _=>?_
     have h3:=hd ⟨3,.guard⟩ (by simp) rfl _ rfl
     have h5:=hd ⟨5,.data⟩ (by simp) rfl _ rfl
     refine Aq rfl ((Ad rfl rfl (hsz 145 (by decide)) h3).trans rfl) (Ap rfl Try.underlying32 rfl (off:=3) (cs:=ys.h.map bv) (by rw [List.length_map,HYS.out.h.1];exact Bj) h5 (Cs.midA (Hx79.out.mod hm.old (by intro h2;omega)) rfl)) QE.refl ?_
     rfl
    ·refine Ag rfl rfl rfl fun _ _ _ _ _ _ _ _ hsz hd _ _=>?_
     have h3:=hd ⟨3,.guard⟩ (by simp) rfl _ rfl
     have h4:=hd ⟨4,.data⟩ (by simp) rfl _ rfl
     have h6:=hd ⟨6,.data⟩ (by simp) rfl _ rfl
     refine Aq rfl ((Ad rfl rfl (hsz 145 (by decide)) h3).trans rfl) (Av rfl h4 h6 (agg_guardE _ _ _ _ _ _ (by kernel_rfl) _) (run_neq_hv HYS.out.h.1 HYS.out.h.1 (c:=true) (by simp) _) rfl) QE.refl ?_
     rfl
    ·exact stq (fun E=>A5 rfl (E.d 3) rfl (E.d 7))
    ·exact stq (fun E=>Ah rfl (E.d 8))
    ·refine Ag rfl rfl rfl fun _ _ _ _ _ _ _ hout hsz hd _ _=>?_
     have h9:=hd ⟨9,.guard⟩ (by simp) rfl _ rfl
     refine Aq rfl ((Ad rfl rfl (hsz 151 (by decide)) h9).trans rfl) (Ah rfl ((hout 23 (by decide)).trans oe23)) QE.refl ?_
     rfl
    ·refine Ag rfl rfl rfl fun _ _ _ _ _ _ _ hout hsz hd _ _=>?_
     have h9:=hd ⟨9,.guard⟩ (by simp) rfl _ rfl
     refine Aq rfl ((Ad rfl rfl (hsz 151 (by decide)) h9).trans rfl) (Ai rfl Try.underlying47 rfl (by kernel_rfl) ((hout 25 (by decide)).trans oe25)) QE.refl ?_
     rfl
    ·refine Ag rfl rfl rfl fun _ _ _ _ _ hm _ _ hsz hd _ _=>?_
     have h9:=hd ⟨9,.guard⟩ (by simp) rfl _ rfl
     have h11:=hd ⟨11,.data⟩ (by simp) rfl _ rfl
     refine Aq rfl ((Ad rfl rfl (hsz 151 (by decide)) h9).trans rfl) (Am rfl Try.underlying45 rfl h11 (Cs.post1 (m:=32) (k:=0) (Hx79.out.mod hm.old (by intro h2;omega)) (by rw [List.length_map];exact HYS.out.h.1) rfl rfl)) QE.refl ?_
     rfl
    ·refine Ag rfl rfl rfl fun _ _ _ _ _ _ _ _ hsz hd _ _=>?_
     have h9:=hd ⟨9,.guard⟩ (by simp) rfl _ rfl
     have h10:=hd ⟨10,.data⟩ (by simp) rfl _ rfl
     have h12:=hd ⟨12,.data⟩ (by simp) rfl _ rfl
     refine Aq rfl ((Ad rfl rfl (hsz 151 (by decide)) h9).trans rfl) (Av rfl h10 h12 (Ak _ _ _ _ _ _) (run_neq_i _ _ _ Try.underlying45) (congrArg Value.bool (ne_ff rfl))) QE.refl ?_
     rfl
    ·exact stq (fun E=>A5 rfl (E.d 9) rfl (E.d 13))
    ·exact stq (fun E=>Ah rfl (E.d 14))
    ·refine Ag rfl rfl rfl fun _ _ _ _ _ _ _ hout hsz hd _ _=>?_
     have h15:=hd ⟨15,.guard⟩ (by simp) rfl _ rfl
     refine Aq rfl ((Ad rfl rfl (hsz 157 (by decide)) h15).trans rfl) (Ah rfl ((hout 1 (by decide)).trans oe1)) QE.refl ?_
     rfl
    ·refine Ag rfl rfl rfl fun _ _ _ _ _ hm _ _ hsz hd _ _=>?_
     have h15:=hd ⟨15,.chain⟩ (by simp) rfl _ rfl
     have h16:=hd ⟨16,.data⟩ (by simp) rfl _ rfl
     refine qe_callF (args:=#[.pointer (some ⟨p,0,none⟩)]) rfl ((Ad rfl rfl (hsz 157 (by decide)) h15).trans rfl) rfl Try.func19 (Ca h16) (Now_Q (((Kwvsp.out.mod Cx75.out (fun _ _ h=>h)).mod Cx80.out (fun _ _ h=>h)).mod hm.old (by intro k h1 h2;have hb:=HB1.out k h1;omega))) ?_
     rintro e w2 ⟨rfl,rfl⟩
     exact ⟨_,rfl,QE.refl,rfl⟩
    ·refine Ag rfl rfl rfl fun _ _ _ _ _ _ _ hout hsz hd _ _=>?_
     have h15:=hd ⟨15,.guard⟩ (by simp) rfl _ rfl
     refine Aq rfl ((Ad rfl rfl (hsz 157 (by decide)) h15).trans rfl) (Ah rfl ((hout 2 (by decide)).trans oe2)) QE.refl ?_
     rfl
    ·refine Ag rfl rfl rfl fun _ _ _ _ _ _ _ _ hsz hd _ _=>?_
     have h15:=hd ⟨15,.guard⟩ (by simp) rfl _ rfl
     have h18:=hd ⟨18,.data⟩ (by simp) rfl _ rfl
     refine Aq rfl ((Ad rfl rfl (hsz 157 (by decide)) h15).trans rfl) (A1 rfl h18) QE.refl ?_
     rfl
    ·refine Ag rfl rfl rfl fun _ _ _ _ _ _ _ _ hsz hd _ _=>?_
     have h15:=hd ⟨15,.guard⟩ (by simp) rfl _ rfl
     have h19:=hd ⟨19,.data⟩ (by simp) rfl _ rfl
     refine Aq rfl ((Ad rfl rfl (hsz 157 (by decide)) h15).trans rfl) (Ai rfl Try.underlying77 rfl (by kernel_rfl) h19) QE.refl ?_
     rfl
    ·refine Ag rfl rfl rfl fun _ _ _ _ _ hm _ _ hsz hd _ _=>?_
     have h15:=hd ⟨15,.guard⟩ (by simp) rfl _ rfl
     have h20:=hd ⟨20,.data⟩ (by simp) rfl _ rfl
     refine Aq rfl ((Ad rfl rfl (hsz 157 (by decide)) h15).trans rfl) (Am rfl Try.underlying45 rfl h20 (Cs.lit1 (HRY.out.mod hm.old (by intro h2;omega)) rfl)) QE.refl ?_
     rfl
    ·refine Ag rfl rfl rfl fun _ _ _ _ _ _ _ _ hsz hd _ _=>?_
     have h15:=hd ⟨15,.guard⟩ (by simp) rfl _ rfl
     have h17:=hd ⟨17,.data⟩ (by simp) rfl _ rfl
     have h21:=hd ⟨21,.data⟩ (by simp) rfl _ rfl
     refine Aq rfl ((Ad rfl rfl (hsz 157 (by decide)) h15).trans rfl) (Av rfl h17 h21 (Ak _ _ _ _ _ _) (run_neq_i _ _ _ Try.underlying45) (congrArg Value.bool (ne_ff rfl))) QE.refl ?_
     rfl
    ·exact stq (fun E=>A5 rfl (E.d 15) rfl (E.d 22))
    ·exact stq (fun E=>Ah rfl (E.d 23))
    ·refine Ag rfl rfl rfl fun _ _ _ _ _ _ _ hout hsz hd _ _=>?_
     have h24:=hd ⟨24,.guard⟩ (by simp) rfl _ rfl
     refine Aq rfl ((Ad rfl rfl (hsz 166 (by decide)) h24).trans rfl) (Ah rfl ((hout 1 (by decide)).trans oe1)) QE.refl ?_
     rfl
    ·refine Ag rfl rfl rfl fun _ _ _ _ _ hm _ _ hsz hd _ _=>?_
     have h24:=hd ⟨24,.chain⟩ (by simp) rfl _ rfl
     have h25:=hd ⟨25,.data⟩ (by simp) rfl _ rfl
     refine qe_callF (args:=#[.pointer (some ⟨p,0,none⟩)]) rfl ((Ad rfl rfl (hsz 166 (by decide)) h24).trans rfl) rfl Try.func16 (Ca h25) (Floor_Q (((Kwvsp.out.mod Cx75.out (fun _ _ h=>h)).mod Cx80.out (fun _ _ h=>h)).mod hm.old (by intro k h1 h2;have hb:=HB1.out k h1;omega))) ?_
     rintro e w2 ⟨rfl,rfl⟩
     exact ⟨_,rfl,QE.refl,rfl⟩
    ·refine Ag rfl rfl rfl fun _ _ _ _ _ _ _ hout hsz hd _ _=>?_
     have h24:=hd ⟨24,.guard⟩ (by simp) rfl _ rfl
     refine Aq rfl ((Ad rfl rfl (hsz 166 (by decide)) h24).trans rfl) (Ah rfl ((hout 2 (by decide)).trans oe2)) QE.refl ?_
     rfl
    ·refine Ag rfl rfl rfl fun _ _ _ _ _ _ _ _ hsz hd _ _=>?_
     have h24:=hd ⟨24,.guard⟩ (by simp) rfl _ rfl
     have h27:=hd ⟨27,.data⟩ (by simp) rfl _ rfl
     refine Aq rfl ((Ad rfl rfl (hsz 166 (by decide)) h24).trans rfl) (A1 rfl h27) QE.refl ?_
     rfl
    ·refine Ag rfl rfl rfl fun _ _ _ _ _ _ _ _ hsz hd _ _=>?_
     have h24:=hd ⟨24,.guard⟩ (by simp) rfl _ rfl
     have h28:=hd ⟨28,.data⟩ (by simp) rfl _ rfl
     refine Aq rfl ((Ad rfl rfl (hsz 166 (by decide)) h24).trans rfl) (Ai rfl Try.underlying77 rfl (by kernel_rfl) h28) QE.refl ?_
     rfl
    ·refine Ag rfl rfl rfl fun _ _ _ _ _ hm _ _ hsz hd _ _=>?_
     have h24:=hd ⟨24,.guard⟩ (by simp) rfl _ rfl
     have h29:=hd ⟨29,.data⟩ (by simp) rfl _ rfl
     refine Aq rfl ((Ad rfl rfl (hsz 166 (by decide)) h24).trans rfl) (Am rfl Try.underlying45 rfl h29 (Cs.lit1 (HRY.out.mod hm.old (by intro h2;omega)) rfl)) QE.refl ?_
     rfl
    ·refine Ag rfl rfl rfl fun _ _ _ _ _ _ _ _ hsz hd _ _=>?_
     have h24:=hd ⟨24,.guard⟩ (by simp) rfl _ rfl
     have h26:=hd ⟨26,.data⟩ (by simp) rfl _ rfl
     have h30:=hd ⟨30,.data⟩ (by simp) rfl _ rfl
     refine Aq rfl ((Ad rfl rfl (hsz 166 (by decide)) h24).trans rfl) (Av rfl h26 h30 (Ak _ _ _ _ _ _) (run_neq_i _ _ _ Try.underlying45) (congrArg Value.bool (ne_ff rfl))) QE.refl ?_
     rfl
    ·exact stq (fun E=>A5 rfl (E.d 24) rfl (E.d 31))
    ·exact stq (fun E=>Ah rfl (E.d 32))
    ·refine Ag rfl rfl rfl fun _ _ _ _ _ _ _ hout hsz hd _ _=>?_
     have h33:=hd ⟨33,.guard⟩ (by simp) rfl _ rfl
     refine Aq rfl ((Ad rfl rfl (hsz 175 (by decide)) h33).trans rfl) (Ah rfl ((hout 1 (by decide)).trans oe1)) QE.refl ?_
     rfl
    ·refine Ag rfl rfl rfl fun _ _ _ _ _ hm _ _ hsz hd _ _=>?_
     have h33:=hd ⟨33,.chain⟩ (by simp) rfl _ rfl
     have h34:=hd ⟨34,.data⟩ (by simp) rfl _ rfl
     refine qe_callF (args:=#[.pointer (some ⟨p,0,none⟩)]) rfl ((Ad rfl rfl (hsz 175 (by decide)) h33).trans rfl) rfl Try.func17 (Ca h34) (SLen_Q (((Kwvsp.out.mod Cx75.out (fun _ _ h=>h)).mod Cx80.out (fun _ _ h=>h)).mod hm.old (by intro k h1 h2;have hb:=HB1.out k h1;omega))) ?_
     rintro e w2 ⟨rfl,rfl⟩
     exact ⟨_,rfl,QE.refl,rfl⟩
    ·refine Ag rfl rfl rfl fun _ _ _ _ _ _ _ hout hsz hd _ _=>?_
     have h33:=hd ⟨33,.guard⟩ (by simp) rfl _ rfl
     refine Aq rfl ((Ad rfl rfl (hsz 175 (by decide)) h33).trans rfl) (Ah rfl ((hout 2 (by decide)).trans oe2)) QE.refl ?_
     rfl
    ·refine Ag rfl rfl rfl fun _ _ _ _ _ _ _ _ hsz hd _ _=>?_
     have h33:=hd ⟨33,.guard⟩ (by simp) rfl _ rfl
     have h36:=hd ⟨36,.data⟩ (by simp) rfl _ rfl
     refine Aq rfl ((Ad rfl rfl (hsz 175 (by decide)) h33).trans rfl) (A1 rfl h36) QE.refl ?_
     rfl
    ·refine Ag rfl rfl rfl fun _ _ _ _ _ _ _ _ hsz hd _ _=>?_
     have h33:=hd ⟨33,.guard⟩ (by simp) rfl _ rfl
     have h37:=hd ⟨37,.data⟩ (by simp) rfl _ rfl
     refine Aq rfl ((Ad rfl rfl (hsz 175 (by decide)) h33).trans rfl) (Ai rfl Try.underlying77 rfl (by kernel_rfl) h37) QE.refl ?_
     rfl
    ·refine Ag rfl rfl rfl fun _ _ _ _ _ hm _ _ hsz hd _ _=>?_
     have h33:=hd ⟨33,.guard⟩ (by simp) rfl _ rfl
     have h38:=hd ⟨38,.data⟩ (by simp) rfl _ rfl
     refine Aq rfl ((Ad rfl rfl (hsz 175 (by decide)) h33).trans rfl) (Am rfl Try.underlying75 rfl h38 (Cs.lit1 (HRY.out.mod hm.old (by intro h2;omega)) rfl)) QE.refl ?_
     rfl
    ·refine Ag rfl rfl rfl fun _ _ _ _ _ _ _ _ hsz hd _ _=>?_
     have h33:=hd ⟨33,.guard⟩ (by simp) rfl _ rfl
     have h39:=hd ⟨39,.data⟩ (by simp) rfl _ rfl
     refine Aq rfl ((Ad rfl rfl (hsz 175 (by decide)) h33).trans rfl) (ex_lenS rfl h39 Try.underlying75) QE.refl ?_
     rfl
    ·refine Ag rfl rfl rfl fun _ _ _ _ _ _ _ _ hsz hd _ _=>?_
     have h33:=hd ⟨33,.guard⟩ (by simp) rfl _ rfl
     have h35:=hd ⟨35,.data⟩ (by simp) rfl _ rfl
     have h40:=hd ⟨40,.data⟩ (by simp) rfl _ rfl
     refine Aq rfl ((Ad rfl rfl (hsz 175 (by decide)) h33).trans rfl) (Av rfl h35 h40 (Ak _ _ _ _ _ _) (run_neq_i _ _ _ Try.underlying3) (congrArg Value.bool (ne_ff rfl))) QE.refl ?_
     rfl
    ·exact stq (fun E=>A5 rfl (E.d 33) rfl (E.d 41))
    ·exact stq (fun E=>Ah rfl (E.d 42))
    ·refine Ag rfl rfl rfl fun _ _ _ _ _ _ _ hout hsz hd _ _=>?_
     have h43:=hd ⟨43,.guard⟩ (by simp) rfl _ rfl
     refine Aq rfl ((Ad rfl rfl (hsz 185 (by decide)) h43).trans rfl) (Ah rfl ((hout 3 (by decide)).trans oe3)) QE.refl ?_
     rfl
    ·refine Ag rfl rfl rfl fun _ _ _ _ _ hm _ _ hsz hd _ _=>?_
     have h43:=hd ⟨43,.chain⟩ (by simp) rfl _ rfl
     have h44:=hd ⟨44,.data⟩ (by simp) rfl _ rfl
     refine qe_callF (args:=#[.pointer (some ⟨g,0,none⟩)]) rfl ((Ad rfl rfl (hsz 185 (by decide)) h43).trans rfl) rfl Try.func41 (Ca h44) (BLen_Q (((Kwvbk.out.mod Cx75.out (fun _ _ h=>h)).mod Cx80.out (fun _ _ h=>h)).mod hm.old (by intro k h1 h2;have hb:=HB3.out k h1;omega))) ?_
     rintro e w2 ⟨rfl,hm2⟩
     exact ⟨_,rfl,QE.still hm2,rfl⟩
    ·refine Ag rfl rfl rfl fun _ _ _ _ _ _ _ hout hsz hd _ _=>?_
     have h43:=hd ⟨43,.guard⟩ (by simp) rfl _ rfl
     refine Aq rfl ((Ad rfl rfl (hsz 185 (by decide)) h43).trans rfl) (Ah rfl ((hout 4 (by decide)).trans oe4)) QE.refl ?_
     rfl
    ·refine Ag rfl rfl rfl fun _ _ _ _ _ _ _ _ hsz hd _ _=>?_
     have h43:=hd ⟨43,.guard⟩ (by simp) rfl _ rfl
     have h46:=hd ⟨46,.data⟩ (by simp) rfl _ rfl
     refine Aq rfl ((Ad rfl rfl (hsz 185 (by decide)) h43).trans rfl) (A1 rfl h46) QE.refl ?_
     rfl
    ·refine Ag rfl rfl rfl fun _ _ _ _ _ _ _ _ hsz hd _ _=>?_
     have h43:=hd ⟨43,.guard⟩ (by simp) rfl _ rfl
     have h47:=hd ⟨47,.data⟩ (by simp) rfl _ rfl
     refine Aq rfl ((Ad rfl rfl (hsz 185 (by decide)) h43).trans rfl) (Ai rfl Try.underlying72 rfl (by kernel_rfl) h47) QE.refl ?_
     rfl
    ·refine Ag rfl rfl rfl fun _ _ _ _ _ hm _ _ hsz hd _ _=>?_
     have h43:=hd ⟨43,.guard⟩ (by simp) rfl _ rfl
     have h48:=hd ⟨48,.data⟩ (by simp) rfl _ rfl
     refine Aq rfl ((Ad rfl rfl (hsz 185 (by decide)) h43).trans rfl) (Am rfl Try.underlying70 rfl h48 (Cs.lit1 (HRK.out.mod hm.old (by intro h2;omega)) rfl)) QE.refl ?_
     rfl
    ·refine Ag rfl rfl rfl fun _ _ _ _ _ _ _ _ hsz hd _ _=>?_
     have h43:=hd ⟨43,.guard⟩ (by simp) rfl _ rfl
     have h49:=hd ⟨49,.data⟩ (by simp) rfl _ rfl
     refine Aq rfl ((Ad rfl rfl (hsz 185 (by decide)) h43).trans rfl) (ex_lenS rfl h49 Try.underlying70) QE.refl ?_
     rfl
    ·refine Ag rfl rfl rfl fun _ _ _ _ _ _ _ _ hsz hd _ _=>?_
     have h43:=hd ⟨43,.guard⟩ (by simp) rfl _ rfl
     have h45:=hd ⟨45,.data⟩ (by simp) rfl _ rfl
     have h50:=hd ⟨50,.data⟩ (by simp) rfl _ rfl
     refine Aq rfl ((Ad rfl rfl (hsz 185 (by decide)) h43).trans rfl) (Av rfl h45 h50 (Ak _ _ _ _ _ _) (run_neq_i _ _ _ Try.underlying3) (congrArg Value.bool (ne_ff rfl))) QE.refl ?_
     rfl
    ·exact stq (fun E=>A5 rfl (E.d 43) rfl (E.d 51))
    intro u29_0 hr
    have zu29_0:=hr.size
    have Cx81:=hid (hr.new (S:=(fun _=>False)))
    clear hr
    refine QChain.nil fun vs hl hzz hrows hne=>?_
    obtain ⟨Z,hYZ,hZb,hV⟩:=hzz
    have f0:=fvi hV hl 0
    have f1:=fvi hV hl 1
    have f3:=fvi hV hl 3
    have f9:=fvi hV hl 9
    have f10:=fvi hV hl 10
    have f15:=fvi hV hl 15
    have f16:=fvi hV hl 16
    have f17:=fvi hV hl 17
    have f18:=fvi hV hl 18
    have f24:=fvi hV hl 24
    have f25:=fvi hV hl 25
    have f26:=fvi hV hl 26
    have f27:=fvi hV hl 27
    have f33:=fvi hV hl 33
    have f34:=fvi hV hl 34
    have f35:=fvi hV hl 35
    have f36:=fvi hV hl 36
    have f40:=fvi hV hl 40
    have f43:=fvi hV hl 43
    have f44:=fvi hV hl 44
    have f45:=fvi hV hl 45
    have f46:=fvi hV hl 46
    have f50:=fvi hV hl 50
    have f52:=fvi hV hl 52
    rw [show vs=[gw vs 0,gw vs 1,gw vs 2,gw vs 3,gw vs 4,gw vs 5,gw vs 6,gw vs 7,gw vs 8,gw vs 9,gw vs 10,gw vs 11,gw vs 12,gw vs 13,gw vs 14,gw vs 15,gw vs 16,gw vs 17,gw vs 18,gw vs 19,gw vs 20,gw vs 21,gw vs 22,gw vs 23,gw vs 24,gw vs 25,gw vs 26,gw vs 27,gw vs 28,gw vs 29,gw vs 30,gw vs 31,gw vs 32,gw vs 33,gw vs 34,gw vs 35,gw vs 36,gw vs 37,gw vs 38,gw vs 39,gw vs 40,gw vs 41,gw vs 42,gw vs 43,gw vs 44,gw vs 45,gw vs 46,gw vs 47,gw vs 48,gw vs 49,gw vs 50,gw vs 51,gw vs 52] from (Bh hl).trans rfl]
    have ha0:=HA0.out
    subst ha0
    clear HA0 hV hYZ hZb hsz0 hrows hne oe1 oe2 oe3 oe4 oe22 oe23 oe24 oe25 oe26
    simp only [Ar,Act.put,sIB,sCZ,sCS,f0,f1,f3,f9,f10,f15,f16,f17,f18,f24,f25,f26,f27,f33,f34,f35,f36,f40,f43,f44,f45,f46,f50,f52]
    clear hl f0 f1 f3 f9 f10 f15 f16 f17 f18 f24 f25 f26 f27 f33 f34 f35 f36 f40 f43 f44 f45 f46 f50 f52
    clear Hx74
    clear Hx79
    clear HRY
    clear HRK
    clear HNM
    go_upto_region 3 with (fail)
    refine Al 195 [35,36,13] [0,1,2] (fun a0 HA0=>?_)
    have oe13:=ev HA0 13 rfl
    refine QSeq.pure rfl _ (fun E=>Ah rfl (E.y 2 oe13)) ?_
    refine QSeq.pure rfl (.int .i64 (((i+1):Nat):Int)) (fun E=>Av rfl (E.d 0 0) rfl (Ak _ _ _ _ _ _) (Be _ _ Try.underlying3) (congrArg (Value.int .i64) (i64_eq (b:=(((i+1):Nat):Int)) (by omega) (by omega) (by omega)))) ?_
    refine QSeq.pure rfl _ (fun E=>An rfl (E.d 1 0)) ?_
    refine QSeq.nil (t':=[_,_,_]) rfl ?_
    obtain rfl:=HA0.out
    clear HA0 oe13
    simp only [pz,Act.put,sIB,sCZ,sCS]
    go_wp2
    go_roundw
    case rel=>exact ⟨i+1,t,L2,B2,B4,rfl,by omega,hmlwv,hllwv,Kwvap.out,by omega,(((Kwvsp.out.mod Cx75.out (fun _ _ h=>h)).mod Cx80.out (fun _ _ h=>h)).mod Cx81.out (fun _ _ h=>h)),(((Kwvrp.out.mod Cx75.out (fun _ _ h=>h)).mod Cx80.out (fun _ _ h=>h)).mod Cx81.out (fun _ _ h=>h)),(((Kwvbk.out.mod Cx75.out (fun _ _ h=>h)).mod Cx80.out (fun _ _ h=>h)).mod Cx81.out (fun _ _ h=>h)),(((Kwvrb.out.mod Cx75.out (fun _ _ h=>h)).mod Cx80.out (fun _ _ h=>h)).mod Cx81.out (fun _ _ h=>h)),Kwvd24.out,(fun k h=>(Kwvs2.out k h).elim Or.inl (fun h=>Or.inr (by unfold New at h ⊢; omega))),(fun k h=>(Kwvs4.out k h).elim Or.inl (fun h=>Or.inr (by unfold New at h ⊢; omega))),(((Kwvac.out.mod Cx75.out (fun _ _ h=>h)).mod Cx80.out (fun _ _ h=>h)).mod Cx81.out (fun _ _ h=>h)),(((Kwvm.out.trans Cx75.out (fun _ _ h=>h.elim)).trans Cx80.out (fun _ _ h=>h.elim)).trans Cx81.out (fun _ _ h=>h.elim))⟩
    case measure=>simp [intOf];omega
  ·obtain rfl:pb7=false:=HB7.out.trans (by rw [Bool.eq_false_iff];intro h;simp only [Bool.and_eq_true,decide_eq_true_eq] at h;omega)
   go_upto_region 31 with (fail)
   refine Al 195 [12] [0] (fun a0 HA0=>?_)
   refine QSeq.pure rfl (.bool true) (fun E=>An rfl rfl) ?_
   refine QSeq.nil (t':=[_]) rfl ?_
   obtain rfl:=HA0.out
   clear HA0
   simp only [pz,Act.put,sIB,sCZ,sCS]
   go_wp2
   go_ret
   exact ⟨s,L,A2,A4,rfl,Kwlsp.out,Kwlrp.out,Kwlbk.out,Kwlrb.out,⟨by omega,by omega,Kwlap.out,Kwld24.out,(fun k h=>(Kwls2.out k h).elim Or.inl (fun h=>Or.inr (by unfold New at h ⊢; omega))),(fun k h=>(Kwls4.out k h).elim Or.inl (fun h=>Or.inr (by unfold New at h ⊢; omega)))⟩,Kwlm.out⟩
end Go.Proofs.Ytbifincepglilaa

/- Where a replica may be; stampers and books that are new. -/
namespace Go.Proofs.Ytbifincepglilaa
open Go Go.RowKit Go.Gv
def mayR (F C r:Int):Bool:=okConf F C && decide (0≤r) && decide (r < 3 * F+1)
theorem okConf_bd {F C:Int} (h:okConf F C=true):(1≤F∧F≤21)∧(1≤C∧C≤100):=by
 unfold okConf at h
 have:=of_decide_eq_true h
 omega
theorem mayR_bd {F C r:Int} (h:mayR F C r=true):okConf F C=true∧(1≤F∧F≤21)∧(1≤C∧C≤100)∧(0≤r∧r < 3 * F+1):=by
 unfold mayR at h
 simp only [Bool.and_eq_true,decide_eq_true_eq] at h
 exact ⟨h.1.1,(okConf_bd h.1.1).1,(okConf_bd h.1.1).2,h.1.2,h.2⟩
theorem mayR_not {F C r:Int} (h:mayR F C r=false):okConf F C=false∨(okConf F C=true∧r < 0)∨(okConf F C=true∧3 * F+1≤r):=by
 cases ho:okConf F C with
 | false=>exact Or.inl rfl
 | true=>
  unfold mayR at h
  rw [ho] at h
  simp only [Bool.true_and,Bool.and_eq_false_iff,decide_eq_false_iff_not] at h
  rcases h with h|h
  ·exact Or.inr (Or.inl ⟨rfl,by omega⟩)
  ·exact Or.inr (Or.inr ⟨rfl,by omega⟩)
theorem New_no {F C r:Int} (h:mayR F C r=false) (w:World):Calls Try.prog 11 #[.agg #[.int .i64 F,.int .i64 C],.int .i64 r] w fun e w'=>e=.returned (.tuple #[.pointer none,.int .i64 1])∧Mod (fun _=>False) w w':=by
 rcases mayR_not h with h|⟨h,h2⟩|⟨h,h2⟩
 ·exact New_no_conf h w
 ·exact New_no_lo h (okConf_bd h).1 h2 w
 ·exact New_no_hi h (okConf_bd h).1 h2 w
theorem May_no {F C r:Int} (h:mayR F C r=false) (w:World):Calls Try.prog 22 #[.agg #[.int .i64 F,.int .i64 C],.int .i64 r] w fun e w'=>e=.returned (.bool false)∧Mod (fun _=>False) w w':=by
 rcases mayR_not h with h|⟨h,h2⟩|⟨h,h2⟩
 ·exact May_conf h w
 ·exact May_lo h (okConf_bd h).1 h2 w
 ·exact May_hi h (okConf_bd h).1 h2 w
theorem RpR.fresh {w:World} {p:Nat} {f k rep:Int} (hc:Cs w p #[.int .i64 f,.int .i64 k,.int .i64 rep,.int .u64 0,.int .u64 0,.int .u64 0,.slice none 0 0] 77):RpR (fun k=>k=p) w p f k rep ss0:=
 ⟨.slice none 0 0,hc,rfl,((OwS.nil GvR 115 (fun _=>False) (fun _=>False) w).rd).widen (fun _ h=>h.elim (fun h=>h.elim) (fun h=>h.elim)),(by show 0 < U64;unfold U64;decide),(by show 0+1 < U64;unfold U64;decide),(by show 0+1 < U64;unfold U64;decide)⟩
theorem RbO.fresh {w:World} {g:Nat} (hc:Cs w g #[.slice none 0 0] 72):RbO (fun k=>k=g) w g []:=
 ⟨_,hc,rfl,OwS.nil _ _ _ _ _⟩
theorem run_eql_n2 {P:Program} {tp te:TypeId} (w:World) (hp:P.underlying tp=some (.pointer te)) (hte:(P.info? te).isSome=true):(binOp .eql tp (.pointer none) (.pointer none)).run P w=.ok (.bool true) w:=by
 obtain ⟨j,hj⟩:=Option.isSome_iff_exists.1 hte
 have h:∀ d:Nat,(Op.equalIn (d+1) tp (.pointer none) (.pointer none)).run P w=.ok true w:=fun d=>by
  simp [Op.equalIn,run_underlying hp,sizeOf,typeInfo,hj]
 simp only [binOp]
 simp [Op.equal,Op.maxDepth,h 9999]
/-- four regions that lie apart, none of them old -/
theorem apart_nil:Apart_ []:=List.Pairwise.nil
end Go.Proofs.Ytbifincepglilaa

/- gavellaw09.wakes. -/
namespace Go.Proofs.Ytbifincepglilaa
open Go Go.RowKit Go.Gv
set_option maxHeartbeats 4000000 in
theorem wakes09 (w:World):Calls Try.prog 18 #[] w fun e w'=>e=.returned (.bool true)∧Mod (fun _=>False) w w':=by
 go_enter Try.func18,Try.ntmps18
 go_upto_region 1 with (fail)
 have HM0:=hid (Mod.refl (fun _=>False) w)
 go_upto_region 1 with (fail)
 refine Al 44 [6,1] [0,1] (fun a0 HA0=>?_)
 refine QSeq.call rfl rfl Try.func9 (Book_new_Q _) (fun E=>args0) ?_
 rintro e u1_0 ⟨g,rfl,qbk,hm⟩
 refine ⟨_,rfl,?_⟩
 have Hx1:=hid qbk
 have zu1_0:=hm.size
 have Cx2:=hid (show Mod (fun _=>False) w u1_0 from hm)
 clear hm
 clear qbk
 refine QSeq.pure rfl _ (fun E=>An rfl (E.d 0 0)) ?_
 refine QSeq.nil (t':=[_,_]) rfl ?_
 obtain rfl:=HA0.out
 clear HA0
 simp only [pz,Act.put,sIB,sCZ,sCS]
 go_upto_region 2 with (fail)
 refine Al 44 [8,9,7,10,11,2,3] [0,1,2,3,4,5,6] (fun a0 HA0=>?_)
 refine QSeq.pure rfl (.agg #[.int .i64 1,.int .i64 1]) (fun E=>ex_build rfl (z:=[.int .i64 0,.int .i64 0]) (places:=[(0,1),(1,1)]) (by kernel_rfl) (parts:=[(0,.int .i64 1),(1,.int .i64 1)]) (by simp only [List.map_toArray,List.map_cons,List.map_nil];try rfl) (r:=[.int .i64 1,.int .i64 1]) (by rfl)) ?_
 refine QSeq.call rfl rfl Try.func11 (New_Q (F:=1) (C:=1) (r:=0) (by decide) (by decide) (by decide) _) (fun E=>args2 (E.d 0 0) rfl) ?_
 rintro e u2_1 ⟨p,rfl,qsp,hm⟩
 refine ⟨_,rfl,?_⟩
 have Hx3:=hid qsp
 have zu2_1:=hm.size
 have Cx4:=hid (show Mod (fun _=>False) u1_0 u2_1 from hm)
 clear hm
 clear qsp
 refine QSeq.pure rfl _ (fun E=>Ah rfl (E.d 1 0)) ?_
 refine QSeq.pure rfl (.pointer (some ⟨p,0,none⟩)) (fun E=>A9 rfl (E.d 2 0) rfl) ?_
 refine QSeq.pure rfl (.int .i64 0) (fun E=>A9 rfl (E.d 2 1) rfl) ?_
 refine QSeq.pure rfl _ (fun E=>An rfl (E.d 3 1)) ?_
 refine QSeq.pure rfl _ (fun E=>An rfl (E.d 4 1)) ?_
 refine QSeq.nil (t':=[_,_,_,_,_,_,_]) rfl ?_
 obtain rfl:=HA0.out
 clear HA0
 simp only [pz,Act.put,sIB,sCZ,sCS]
 go_upto_region 3 with (fail)
 refine Al 44 [12,13,14,15,16,17,18,19,20,21] [0,1,2,3,4,5,6,7,8,9] (fun a0 HA0=>?_)
 have oe1:=ev HA0 1 rfl
 have oe2:=ev HA0 2 rfl
 have oe3:=ev HA0 3 rfl
 refine QSeq.pure rfl _ (fun E=>Ah rfl (E.v oe1)) ?_
 refine QSeq.pure rfl (.bool false) (fun E=>A7 rfl (E.d 0 0) rfl (guard_ptr _ _ _ _ _ _ _) (run_eql_nil _ Try.underlying27 (by kernel_rfl) _)) ?_
 refine QSeq.pure rfl _ (fun E=>Ah rfl (E.d 1 0)) ?_
 refine QSeq.pureG rfl (.int .i64 0) (fun E=>((Ad rfl rfl (E.sz 14 (by decide)) (E.d 2 0)).trans rfl)) (fun E=>Ah rfl (E.v oe3)) ?_
 refine QSeq.pureG rfl (.bool false) (fun E=>((Ad rfl rfl (E.sz 14 (by decide)) (E.d 2 1)).trans rfl)) (fun E=>Av rfl (E.d 3 0) rfl (Ak _ _ _ _ _ _) (run_neq_i _ _ _ Try.underlying40) (congrArg Value.bool (show _=false from rfl))) ?_
 refine QSeq.pure rfl (.bool false) (fun E=>A5 rfl (E.d 2 2) rfl (E.d 4 0)) ?_
 refine QSeq.pure rfl _ (fun E=>Ah rfl (E.d 5 0)) ?_
 refine QSeq.pureG rfl (.pointer (some ⟨p,0,none⟩)) (fun E=>((Ad rfl rfl (E.sz 18 (by decide)) (E.d 6 0)).trans rfl)) (fun E=>Ah rfl (E.v oe2)) ?_
 refine QSeq.pureG rfl (.bool false) (fun E=>((Ad rfl rfl (E.sz 18 (by decide)) (E.d 6 1)).trans rfl)) (fun E=>A7 rfl (E.d 7 0) rfl (guard_ptr _ _ _ _ _ _ _) (run_eql_nil _ Try.underlying39 (by kernel_rfl) _)) ?_
 refine QSeq.pure rfl (.bool false) (fun E=>A5 rfl (E.d 6 2) rfl (E.d 8 0)) ?_
 refine QSeq.nil (t':=[_,_,_,_,_,_,_,_,_,_]) rfl ?_
 obtain rfl:=HA0.out
 clear HA0 oe1 oe2 oe3
 simp only [pz,Act.put,sIB,sCZ,sCS]
 go_upto_region 5 with (fail)
 refine Al 44 [23,24,25,26,27,28,29,22,30,31,4,55,5] [0,1,2,3,4,5,6,7,8,9,10,11,12] (fun a0 HA0=>?_)
 have oe1:=ev HA0 1 rfl
 have oe2:=ev HA0 2 rfl
 refine QSeq.pure rfl _ (fun E=>Ah rfl (E.v oe2)) ?_
 refine QSeq.pure rfl _ (fun E=>Ah rfl (E.v oe1)) ?_
 refine QSeq.pure rfl _ (fun E=>Ah rfl (E.v oe1)) ?_
 refine QSeq.pure rfl (.agg #[.int .i64 0,.int .i64 1]) (fun E=>ex_build rfl (z:=[.int .i64 0,.int .i64 0]) (places:=[(0,1),(1,1)]) (by kernel_rfl) (parts:=[(1,.int .i64 1)]) (by simp only [List.map_toArray,List.map_cons,List.map_nil];try rfl) (r:=[.int .i64 0,.int .i64 1]) (by rfl)) ?_
 refine QSeq.pure rfl (hv z32) (fun E=>ex_build0 rfl (r:=((z32.map bv):List Value).toArray) (by kernel_rfl)) ?_
 refine QSeq.call rfl rfl Try.func10 (Make_B (Hx1.out.mod Cx4.out (fun _ _ h=>h)) (by decide) 1 0 1 [] (by decide) (by decide) (by decide) (RdR_nil _) (by decide)) (fun E=>args4 (E.d 2 2) (E.d 3 1) (E.d 4 0) rfl) ?_
 rintro e u5_5 ⟨ca,La,rfl,qbk,hmd,hm⟩
 have HMDa:=Lib.hid hmd
 clear hmd
 refine ⟨_,rfl,?_⟩
 have Hx5:=hid qbk
 have zu5_5:=hm.size
 have Cx6:=hid (show Mod (fun k=>(New w u1_0 k)) u2_1 u5_5 from hm)
 clear hm
 clear qbk Hx1
 refine QSeq.call rfl rfl Try.func14 (Stamp_B (t:=1) (Hx3.out.mod Cx6.out (by intro k h1 h2;omega)) Hx5.out (by intro k h1;omega) (by intro k h1;omega) (by intro k h1 h2;omega) HMDa.out.ok HMDa.out.si HMDa.out.rt rfl rfl (by unfold U64;decide) (by unfold I64;decide) (Nat.le_trans HMDa.out.ln (by decide))) (fun E=>args3 (E.d 0 5) (E.d 1 4) (E.d 5 0)) ?_
 rintro e u5_6 ⟨ya,Ma,rfl,qsp,qbk,hst,hm⟩
 have HYFa:=Lib.hid hst
 clear hst
 refine ⟨_,rfl,?_⟩
 have Hx7:=hid qsp
 have Hx8:=hid qbk
 have zu5_6:=hm.size
 have HMu5_6:=hid hm
 have Cx9:=hid (Mod.goS (S':=(fun k=>(New w u1_0 k)∨(New u1_0 u2_1 k))) Cx6.out hm (fun _ h=>Or.inl h) (by intro k h0 h2;rcases h2 with h2|h2;exact Or.inr (h2);exact Or.inl h2))
 clear hm Cx6
 clear qsp qbk Hx3 Hx5
 refine QSeq.pure rfl _ (fun E=>Ah rfl (E.d 6 0)) ?_
 refine QSeq.pure rfl (.agg ya.cells.toArray) (fun E=>A9 rfl (E.d 7 0) rfl) ?_
 refine QSeq.pure rfl (.int .i64 0) (fun E=>A9 rfl (E.d 7 1) rfl) ?_
 refine QSeq.go fun act E=>?_
 refine qc_alloc rfl (Ab rfl) rfl (z:=[.int .i64 0,.int .i64 0,.int .i64 0,.int .u8 0,.int .u8 0,.int .u8 0,.int .u8 0,.int .u8 0,.int .u8 0,.int .u8 0,.int .u8 0,.int .u8 0,.int .u8 0,.int .u8 0,.int .u8 0,.int .u8 0,.int .u8 0,.int .u8 0,.int .u8 0,.int .u8 0,.int .u8 0,.int .u8 0,.int .u8 0,.int .u8 0,.int .u8 0,.int .u8 0,.int .u8 0,.int .u8 0,.int .u8 0,.int .u8 0,.int .u8 0,.int .u8 0,.int .u8 0,.int .u8 0,.int .u8 0,.int .u64 0,.int .i64 0,.int .i64 0]) (by kernel_rfl) ?_
 intro u5_10 qb4 hm
 have zl5_10:=qb4.lt
 have Hx10:=hid qb4
 have zu5_10:=hm.size
 have HMu5_10:=hid hm
 have Cx11:=hid (Cx9.out.goE hm)
 clear hm Cx9
 clear act E qb4
 refine QSeq.go fun act E=>?_
 have hlz:(ya.cells).length=List.length ([.int .i64 0,.int .i64 0,.int .i64 0,.int .u8 0,.int .u8 0,.int .u8 0,.int .u8 0,.int .u8 0,.int .u8 0,.int .u8 0,.int .u8 0,.int .u8 0,.int .u8 0,.int .u8 0,.int .u8 0,.int .u8 0,.int .u8 0,.int .u8 0,.int .u8 0,.int .u8 0,.int .u8 0,.int .u8 0,.int .u8 0,.int .u8 0,.int .u8 0,.int .u8 0,.int .u8 0,.int .u8 0,.int .u8 0,.int .u8 0,.int .u8 0,.int .u8 0,.int .u8 0,.int .u8 0,.int .u8 0,.int .u64 0,.int .i64 0,.int .i64 0]:List Value):=(by rw [St.len HYFa.out.ok];rfl)
 refine Bc rfl (Ab rfl) rfl Hx10.out (off:=0) (vs:=ya.cells) (by rw [hlz];kernel_rfl) (St.one ya) (by rw [hlz];exact Nat.le_of_eq (Nat.zero_add _)) (E.d 10 0) (ec (E.d 8 2)) ?_
 intro u5_11 qc0 hm
 have qb4:=qc0.eqv (b:=(ya.cells:List Value).toArray) (A0 (#[.int .i64 0,.int .i64 0,.int .i64 0,.int .u8 0,.int .u8 0,.int .u8 0,.int .u8 0,.int .u8 0,.int .u8 0,.int .u8 0,.int .u8 0,.int .u8 0,.int .u8 0,.int .u8 0,.int .u8 0,.int .u8 0,.int .u8 0,.int .u8 0,.int .u8 0,.int .u8 0,.int .u8 0,.int .u8 0,.int .u8 0,.int .u8 0,.int .u8 0,.int .u8 0,.int .u8 0,.int .u8 0,.int .u8 0,.int .u8 0,.int .u8 0,.int .u8 0,.int .u8 0,.int .u8 0,.int .u8 0,.int .u64 0,.int .i64 0,.int .i64 0]) _ (by rw [hlz];rfl))
 clear qc0 hlz
 have Hx12:=hid qb4
 have zu5_11:=hm.size
 have HMu5_11:=hid hm
 have Cx13:=hid (Mod.goS (S':=(fun k=>(New w u1_0 k)∨(New u1_0 u2_1 k))) Cx11.out hm (fun _ h=>h) (by intro k h0 h2;omega))
 clear hm Cx11
 clear act E qb4 Hx10
 refine QSeq.pure rfl _ (fun E=>An rfl (E.d 9 2)) ?_
 have Hx14:=hid ((Hx8.out.mod HMu5_10.out (fun _ _ h=>h)).mod HMu5_11.out (by intro k h1 h2;omega))
 have Hx15:=hid ((Hx7.out.mod HMu5_10.out (fun _ _ h=>h)).mod HMu5_11.out (by intro k h1 h2;omega))
 clear Hx8 Hx7 HMu5_6 HMu5_10 HMu5_11
 refine QSeq.nil (t':=[_,_,_,_,_,_,_,_,_,_,_,_,_]) rfl ?_
 obtain rfl:=HA0.out
 clear HA0 oe1 oe2
 simp only [pz,Act.put,sIB,sCZ,sCS,List.set_nil]
 go_upto_region 6 with (fail)
 refine Al 44 [32,33,34,35,36,37,38,39,40,41,42,43,0] [0,1,2,3,4,5,6,7,8,9,10,11,12] (fun a0 HA0=>?_)
 have oe2:=ev HA0 2 rfl
 have oe4:=ev HA0 4 rfl
 have oe5:=ev HA0 5 rfl
 refine QSeq.pure rfl _ (fun E=>Ah rfl (E.v oe5)) ?_
 refine QSeq.pure rfl (.bool true) (fun E=>Av rfl (E.d 0 0) rfl (Ak _ _ _ _ _ _) (Bg _ _ _ Try.underlying40) (congrArg Value.bool (show _=true from rfl))) ?_
 refine QSeq.pure rfl _ (fun E=>Ah rfl (E.d 1 0)) ?_
 refine QSeq.pureG rfl (.pointer (some ⟨u5_6.heap.size,35,none⟩)) (fun E=>((Ad rfl rfl (E.sz 34 (by decide)) (E.d 2 0)).trans rfl)) (fun E=>Ai rfl Try.underlying47 rfl (by kernel_rfl) (E.v oe4)) ?_
 refine QSeq.pureG rfl (.int .u64 (ya.tm:Nat)) (fun E=>((Ad rfl rfl (E.sz 34 (by decide)) (E.d 2 1)).trans rfl)) (fun E=>Am rfl Try.underlying45 rfl (E.d 3 0) (Cs.post1 (m:=32) (k:=0) Hx12.out (by rw [List.length_map];exact HYFa.out.ok.h.1) rfl rfl)) ?_
 refine QSeq.pureG rfl (.bool true) (fun E=>((Ad rfl rfl (E.sz 34 (by decide)) (E.d 2 2)).trans rfl)) (fun E=>Av rfl (E.d 4 0) rfl (Ak _ _ _ _ _ _) (Bg _ _ _ Try.underlying45) (congrArg Value.bool (eq_tt (by rw [HYFa.out.tm];rfl)))) ?_
 refine QSeq.pure rfl (.bool true) (fun E=>A5 rfl (E.d 2 3) (E.d 5 0) rfl) ?_
 refine QSeq.pure rfl _ (fun E=>Ah rfl (E.d 6 0)) ?_
 refine QSeq.pureG rfl (.pointer (some ⟨p,0,none⟩)) (fun E=>((Ad rfl rfl (E.sz 39 (by decide)) (E.d 7 0)).trans rfl)) (fun E=>Ah rfl (E.v oe2)) ?_
 refine QSeq.go fun act E=>?_
 refine Ax (args:=#[.pointer (some ⟨p,0,none⟩)]) rfl ((Ad rfl rfl (E.sz 39 (by decide)) (E.d 7 1)).trans rfl) rfl Try.func17 (Ca (E.d 8 0)) (SLen_Q Hx15.out) ?_
 rintro e w2 ⟨rfl,hw2⟩
 obtain rfl:u5_11=w2:=by first|exact hw2|exact hw2.symm
 refine ⟨_,rfl,?_⟩
 clear act E
 refine QSeq.pureG rfl (.bool true) (fun E=>((Ad rfl rfl (E.sz 39 (by decide)) (E.d 7 2)).trans rfl)) (fun E=>Av rfl (E.d 9 0) rfl (Ak _ _ _ _ _ _) (Bg _ _ _ Try.underlying3) (congrArg Value.bool (show _=true from rfl))) ?_
 refine QSeq.pure rfl (.bool true) (fun E=>A5 rfl (E.d 7 3) (E.d 10 0) rfl) ?_
 refine QSeq.pure rfl _ (fun E=>An rfl (E.d 11 0)) ?_
 refine QSeq.nil (t':=[_,_,_,_,_,_,_,_,_,_,_,_,_]) rfl ?_
 obtain rfl:=HA0.out
 clear HA0 oe2 oe4 oe5
 simp only [pz,Act.put,sIB,sCZ,sCS]
 go_wp2
 go_ret
 exact ⟨rfl,(((HM0.out.trans Cx2.out (fun _ _ h=>h.elim)).trans Cx4.out (fun _ _ h=>h.elim)).trans Cx13.out (by intro k h1 h2;omega))⟩
end Go.Proofs.Ytbifincepglilaa
