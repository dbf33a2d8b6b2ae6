/- Texts that are built one behind the other: XVal3, XBytes, XBld, XVal4, XQ, XRep, XKeep, XCode2, XCode3, XCode1, XCode4, XKeep2, XCodeW, XPlain1, XReg, XLift, XFits, XIdx, XArith, XQ2. No condition. -/
import Derived.Test.YtnaoeginonpicaaGreatMvF1
import Derived.Great.BuildSlice
import Derived.Laws.IdiomStrings
import Derived.Laws.BytesArg
import Derived.Test.YtnaoeginonpicaaGreatRows
import Derived.Lib.Hide
import Derived.Deep.QuietTactic
import Derived.BigQuiet
import Derived.Deep.RegionLaw
import Derived.Laws.Tables
import Derived.Great.FillDense
import Derived.Deep.DeepMust
import Derived.Laws.Cover3
import Derived.Laws.CopyOwn
import Derived.OpenShut
import Derived.ProofKit
import Derived.ChangeOld
import Derived.Deep.Slices
import Derived.Laws.Small
set_option maxRecDepth 100000
set_option linter.unusedVariables false
open Go renaming Lib.hid→B8
open Go.Proofs renaming Tryz.underlying3→B9,Tryz.underlying61→C1,Tryz.underlying45→C7,Tryz.underlying43→D0,Tryz.underlying52→D2,Tryz.underlying47→D4,Tryz.underlying124→D7,Tryz.underlying25→D8,Tryz.underlying59→D9,Tryz.underlying30→E0,Tryz.func22→E3,Tryz.underlying127→E4,Tryz.underlying100→E5,Tryz.func67→E6,Tryz.underlying29→E7,Tryz.underlying4→E8,Tryz.func21→E9
open Nat renaming le_refl→C0,le_trans→C4
open List renaming append_assoc→C2,length_append→C3,map_cons→C5,map_nil→C6,map_toArray→C8,not_mem_nil→C9,mem_cons→D1,size_toArray→D3,length_nil→D5,length_cons→D6
open List renaming setIfInBounds_toArray → sIB, set_cons_zero → sCZ, set_cons_succ → sCS
namespace Go.Gv
open Go Go.RowKit
section
variable {P:Program} {ops:Array Oper} {Q:Exit→Act→World→Prop}
abbrev GPred:=List Value→Value→World→Prop
def ga:GPred:=fun _ _ _=>True
structure StableG (S:Nat→Nat→Prop) (R:Nat→World→World→Prop) (p:GPred):Prop where
 still:∀ t v w w',p t v w→R t.length w w'→p t v w'
 on:∀ t u v w w',p t v w→Mod (S t.length) w w'→p (t ++ [u]) v w'
variable {S:Nat→Nat→Prop} {R:Nat→World→World→Prop}
theorem ga_stable:StableG S R ga:=⟨fun _ _ _ _ h _=>h,fun _ _ _ _ _ h _=>h⟩
theorem gv_at {t:List Value} {j:Nat} {v u:Value} (h:t[j]? = some v):(t ++ [u])[j]? = some v:=by
 rw [List.getElem?_append_left (List.getElem?_eq_some_iff.1 h).1];exact h
def AllStableG (S:Nat→Nat→Prop) (R:Nat→World→World→Prop):List GPred→Prop
 | []=>True
 | p :: r=>StableG S R p∧AllStableG S R r
theorem AllStableG.get:∀ (l:List GPred),AllStableG S R l→∀ i,StableG S R (l.getD i ga)
 | [],_,_=>by simpa using ga_stable
 | p :: r,h,0=>h.1
 | p :: r,h,i+1=>by simpa using AllStableG.get r h.2 i
/-- how an operation leaves things -/
def JG (S:Nat→Nat→Prop) (R:Nat→World→World→Prop) (l:List GPred) (c:List Nat) (G:List Value→World→Prop) (i:Nat) (o:Oper) (t:List Value) (a:Act) (w:World):Act→World→Prop:=fun a' w'=>
 ∃ v,a'=a.put o.dst v∧(c.contains i=true→Mod (S t.length) w w'∧(l.getD i ga) (t ++ [v]) v w'∧G (t ++ [v]) w')∧(c.contains i=false→R t.length w w'∧(l.getD i ga) t v w')
/-- what is to be shown of an operation -/
def StepG (P:Program) (ops:Array Oper) (Q:Exit→Act→World→Prop) (a0:Act) (w0:World) (n:Nat) (ss:List Nat) (T:Nat→Prop) (S:Nat→Nat→Prop) (R:Nat→World→World→Prop) (l:List GPred) (c:List Nat) (G:List Value→World→Prop) (i:Nat) (o:Oper):Prop:=
 ∀ t a w,Mod T w0 w→(∀ t,t ∉ ss→a.eval (.tmp t)=a0.eval (.tmp t))→(∀ s,s < n→s < a.tmps.size)→
  (∀ e ∈ o.after,Region.binds .any e=true→∀ s,(ops[e.on]?).bind (·.dst)=some s→(l.getD e.on ga) t (a.eval (.tmp s)) w)→G t w→(∀ k,c[k]? = some i→t.length=k)→(∀ k q,c[k]? = some q→(clo ops ops.size (B4 ops q)).contains i=true→t.length≤k)→
  wpOp P ops Q i (JG S R l c G i o t a w) a w
theorem wp_region_G {d:Bool} {id:Nat} {a0:Act} {w0:World} (n:Nat) (hn:a0.tmps.size=n) (hm:P.follows .mixedOrders=true) (hac:backward ops=true) (ss:List Nat) (hss:okSlots ops n ss=true) (hnd:ss.Nodup)
 (T:Nat→Prop) (S:Nat→Nat→Prop) (hT:∀ k j,S k j→T j) (R:Nat→World→World→Prop) (hR:∀ k w w',Mod (fun _=>False) w w'→R k w w') (hRT:∀ k w w',Mod T w0 w→R k w w'→Mod T w0 w') (l:List GPred) (stable:AllStableG S R l) (c:List Nat) (hlk:linked ops c=true) (hcn:c.Nodup) (hcs:(c.all fun i=>decide (i < ops.size))=true)
 (G:List Value→World→Prop) (Gst:∀ t w w',G t w→R t.length w w'→G t w') (g0:G [] w0)
 (step:Each (StepG P ops Q a0 w0 n ss T S R l c G) 0 ops.toList)
 (fin:∀ vs t w,vs.length=ss.length→t.length=c.length→Mod T w0 w→G t w→(∀ p v,vs[p]? = some v→(l.getD p ga) t v w)→Q .normal (Au a0 ss vs) w):(Code.region id ops d).wp P Q a0 w0:=by
 have hinj:∀ (j k i:Nat),c[j]? = some i→c[k]? = some i→j=k:=by
  intro j k i h1 h2
  exact (List.getElem?_inj (List.getElem?_eq_some_iff.1 h1).1 hcn).1 (h1.trans h2.symm)
 refine wp_region_both hm (backward_spec hac) ss (fun L vs w=>Mod T w0 w∧Down ops L∧∃ t:List Value,t.length≤c.length∧(∀ j p,j < t.length→c[j]? = some p→L p=true)∧(∀ j p,t.length≤j→c[j]? = some p→L p=false)∧G t w∧∀ p v,L p=true→vs[p]? = some v→(l.getD p ga) t v w)
  ⟨Mod.refl _ _,(fun i h=>by cases h),[],Nat.zero_le _,(fun j p h=>by simp at h),(fun _ _ _ _=>rfl),g0,(fun p v h=>by cases h)⟩
  ⟨(Mod.refl _ _).drew,(fun i h=>by cases h),[],Nat.zero_le _,(fun j p h=>by simp at h),(fun _ _ _ _=>rfl),Gst _ _ _ g0 (hR _ _ _ (Mod.refl _ _).drew),(fun p v h=>by cases h)⟩ ?_ ?_
 ·rintro i o ho L vs w hL hd hl ⟨hmod,hD,t,hkl,hk1,hk2,hG,hV⟩
  have hst:=Each.get _ 0 step i o (by simpa using ho)
  rw [Nat.zero_add] at hst
  obtain ⟨s,hs,hds⟩:=okSlots_at hss ho
  have haf:∀ x ∈ B4 ops i,L x=true:=by
   intro x hx
   obtain ⟨o',ho',e,he,hb,rfl⟩:=mem_afterOf.1 hx
   rw [ho] at ho'
   cases ho'
   exact hd e he hb
  have hDn:Down ops (upd L i):=by
   intro j hj x hx
   unfold upd at hj ⊢
   by_cases e:x=i
   ·rw [if_pos e]
   ·rw [if_neg e]
    by_cases e2:j=i
    ·subst e2;exact haf x hx
    ·rw [if_neg e2] at hj;exact hD j hj x hx
  have hGk:∀ k':Nat,c[k']? = some i→k'=t.length:=by
   intro k' hk'
   have hall:=linked_all hD hlk k' i hk' haf
   rcases Nat.lt_trichotomy k' t.length with h|h|h
   ·have:=hk1 k' i h hk';rw [hL] at this;cases this
   ·exact h
   ·have hlt:t.length < c.length:=by have:=(List.getElem?_eq_some_iff.1 hk').1;omega
    have:=hall t.length c[t.length] h (List.getElem?_eq_getElem hlt)
    rw [hk2 t.length c[t.length] (C0 _) (List.getElem?_eq_getElem hlt)] at this
    cases this
  have hub:∀ k q,c[k]? = some q→(clo ops ops.size (B4 ops q)).contains i=true→t.length≤k:=by
   intro k q hq hc
   rcases Nat.lt_or_ge k t.length with h|h
   ·have h1:=hk1 k q h hq
    have h2:=clo_done hD _ _ (fun x hx=>hD q h1 x hx) i (by simpa using hc)
    rw [hL] at h2
    cases h2
   ·exact h
  refine wpOp_mono ?_ (hst t (Au a0 ss vs) w hmod (fun t ht=>eval_out _ _ _ _ ht) (fun t ht=>by rw [putAll_size,hn];exact ht) (fun e he hb s' hs'=>?_) hG (fun k' hk'=>(hGk k' hk').symm) hub)
  ·rintro a' w' ⟨v,rfl,hc1,hc2⟩
   have hlt:i < vs.length:=by rw [hl];exact (List.getElem?_eq_some_iff.1 hs).1
   have hput:(Au a0 ss vs).put o.dst v=Au a0 ss (vs.set i v):=by
    have e1:=putAll_put _ _ a0 i s v hnd hl hs
    rcases hds with ⟨h1,h2⟩|⟨h1,h2⟩
    ·rw [h1];exact e1
    ·rw [h1,← e1,put_far _ (by rw [putAll_size,hn];exact h2)];rfl
   by_cases hci:c.contains i=true
   ·obtain ⟨hm',hv,hg'⟩:=hc1 hci
    refine ⟨vs.set i v,hput,by simpa using hl,hmod.trans hm' (fun j _ h=>hT _ _ h),hDn,t ++ [v],?_,fun j p hj hp=>?_,fun j p hj hp=>?_,hg',fun p u hp hu=>?_⟩
    ·obtain ⟨k',hk'⟩:=List.getElem?_of_mem (show i ∈ c by simpa using hci)
     have:=hGk k' hk'
     have:=(List.getElem?_eq_some_iff.1 hk').1
     rw [C3];simp;omega
    ·unfold upd
     by_cases e:p=i
     ·rw [if_pos e]
     ·rw [if_neg e]
      refine hk1 j p ?_ hp
      rw [C3] at hj
      simp at hj
      by_cases e2:j=t.length
      ·subst e2
       obtain ⟨k',hk'⟩:=List.getElem?_of_mem (show i ∈ c by simpa using hci)
       have:=hGk k' hk'
       subst this
       rw [hk'] at hp
       exact absurd (Option.some.inj hp).symm e
      ·omega
    ·rw [C3] at hj
     simp at hj
     unfold upd
     have e:¬ p=i:=fun e=>by subst e;have:=hGk j hp;omega
     rw [if_neg e]
     exact hk2 j p aL hp
    ·by_cases e:p=i
     ·subst e
      rw [List.getElem?_set_self',List.getElem?_eq_getElem hlt] at hu
      simp at hu
      subst hu
      exact hv
     ·rw [List.getElem?_set_ne (Ne.symm e)] at hu
      unfold upd at hp
      rw [if_neg e] at hp
      exact (AllStableG.get l stable p).on _ _ _ _ _ (hV p u hp hu) hm'
   ·have hci':c.contains i=false:=by simpa using hci
    obtain ⟨hm',hv⟩:=hc2 hci'
    have hni:∀ j p:Nat,c[j]? = some p→¬ p=i:=fun j p hp e=>hci (by subst e;simpa using List.mem_of_getElem? hp)
    refine ⟨vs.set i v,hput,by simpa using hl,hRT _ _ _ hmod hm',hDn,t,hkl,fun j p hj hp=>?_,fun j p hj hp=>?_,Gst _ _ _ hG hm',fun p u hp hu=>?_⟩
    ·unfold upd;rw [if_neg (hni j p hp)];exact hk1 j p hj hp
    ·unfold upd;rw [if_neg (hni j p hp)];exact hk2 j p hj hp
    ·by_cases e:p=i
     ·subst e
      rw [List.getElem?_set_self',List.getElem?_eq_getElem hlt] at hu
      simp at hu
      subst hu
      exact hv
     ·rw [List.getElem?_set_ne (Ne.symm e)] at hu
      unfold upd at hp
      rw [if_neg e] at hp
      exact (AllStableG.get l stable p).still _ _ _ _ (hV p u hp hu) hm'
  ·have hLe:=hd e he hb
   cases hoe:ops[e.on]? with
   | none=>rw [hoe] at hs';cases hs'
   | some o2=>
    rw [hoe] at hs'
    obtain ⟨s2,hs2,hds2⟩:=okSlots_at hss hoe
    rcases hds2 with ⟨h1,h2⟩|⟨h1,h2⟩
    ·have e3:s2=s':=Option.some.inj (h1.symm.trans hs')
     subst e3
     have hvl:e.on < vs.length:=by rw [hl];exact (List.getElem?_eq_some_iff.1 hs2).1
     rw [eval_in a0 ss vs e.on s2 vs[e.on] hnd hl hs2 (by rw [hn];exact h2) (List.getElem?_eq_getElem hvl)]
     exact hV _ _ hLe (List.getElem?_eq_getElem hvl)
    ·have:(none:Option Nat)=some s':=h1.symm.trans hs'
     cases this
 ·rintro L vs w hL hl ⟨hmod,hD,t,hkl,hk1,hk2,hG,hV⟩
  have hk:t.length=c.length:=by
   rcases Nat.lt_or_ge t.length c.length with h|h
   ·have h1:=hk2 t.length c[t.length] (C0 _) (List.getElem?_eq_getElem h)
    rw [hL c[t.length] (by simpa using List.all_eq_true.1 hcs _ (List.getElem_mem h))] at h1
    cases h1
   ·omega
  have hsl:ss.length=ops.size:=by
   unfold okSlots at hss
   rw [Bool.and_eq_true] at hss
   simpa using hss.1
  refine fin vs t w hl hk hmod hG fun p v hv=>hV p v (hL p ?_) hv
  have:=(List.getElem?_eq_some_iff.1 hv).1
  omega
variable {i:Nat} {o:Oper} {a:Act} {w w':World} {l:List GPred} {c:List Nat} {G:List Value→World→Prop} {t:List Value}
def Still:Nat→World→World→Prop:=fun _ w w'=>Mod (fun _=>False) w w'
/-- w' is w but for the marks of new rows of type T8 (and new blocks) -/
structure Marked (B:Nat) (T8:TypeId) (w w':World):Prop where
 os:w'.os=w.os
 tape:w'.tape=w.tape
 output:w'.output=w.output
 size:w.heap.size≤w'.heap.size
 block:∀ k,k < w.heap.size→w'.heap[k]? = w.heap[k]?∨(B≤k∧∃ C m,w.heap[k]? = some (.cells C T8 m)∧w'.heap[k]? = some (.cells C T8 (C.size,C.size+1)))
/-- rows may be marked as long as no more than K of the chain are done -/
def StillM (B:Nat) (T8:TypeId) (K:Nat):Nat→World→World→Prop:=fun k w w'=>Mod (fun _=>False) w w'∨(k≤K∧Marked B T8 w w')
/-- a literal's row, as long as no more than K of the chain are done -/
def litG (B:Nat) (T8:TypeId) (K:Nat) (C:Array Value):GPred:=fun t v w=>t.length≤K→∃ g,v=.slice (some ⟨g,0,none⟩) C.size C.size∧B≤g∧∃ m,(m=(0,0)∨m=(C.size,C.size+1))∧w.heap[g]? = some (.cells C T8 m)
variable {a:Act} {o:Oper} {w w':World}
theorem ex_lit {ts T8:TypeId} {n:Nat} {parts:Array (Nat × Operand)} (ho:o.op=.buildSlice ts n parts) (hu:P.underlying ts=some (.slice T8)) (hie:(P.info? T8).map (fun i=>(i.size,i.zero))=some (1,some (.int .u8 0))) (hn:n≠0∧n≤1000) {C:Array Value}
 (hf:Instr.fill (fun i=>some (i * 1,1)) ((Array.range (n * 1)).map (#[Value.int .u8 0][· % 1]!)) (parts.map fun (i,x)=>(i,a.eval x)).toList=some C) :
 (execOp a.eval o).run P w=.ok (.value (.slice (some ⟨w.heap.size,0,none⟩) n n)) (w.alloc (.cells C T8)):=by
 cases hq:P.info? T8 with
 | none=>rw [hq] at hie;cases hie
 | some ie=>
  rw [hq] at hie
  have e:=Option.some.inj hie
  have e1:ie.size=1:=congrArg Prod.fst e
  have e2:ie.zero=some (.int .u8 0):=congrArg Prod.snd e
  have hr:=run_buildSlice (P:=P) w ts T8 n (parts.map fun (i,x)=>(i,a.eval x)) C ie (.int .u8 0) hu hq e2 (by rw [e1];omega) (by rw [e1];omega) (by rw [e1];exact hf)
  unfold execOp
  simp only [ho,Sem.run_bind,hr,Result.andThen_ok,Sem.run_pure]
end
/-- a state that goes by how many of the chain are done -/
def ByLen (St:Nat→List Value→World→Prop):List Value→World→Prop:=fun t w=>St t.length t w
section
variable {St:Nat→List Value→World→Prop} {t:List Value} {w:World} {v:Value} {k:Nat}
theorem ByLen.at (h:ByLen St t w) (hl:t.length=k):St k t w:=by subst hl;exact h
theorem ByLen.on (hl:t.length=k) (h:St (k+1) (t ++ [v]) w):ByLen St (t ++ [v]) w:=by
 show St (t ++ [v]).length _ _
 rw [C3,hl]
 exact h
theorem ByLen.still (h:∀ k t w w',St k t w→Mod (fun _=>False) w w'→St k t w'):∀ t w w',ByLen St t w→Still t.length w w'→ByLen St t w':=fun _ _ _ h1 h2=>h _ _ _ _ h1 h2
end
end Go.Gv
namespace Go.Proofs.YtnaoeginonpicaaGreat
open Go Go.RowKit Go.Gv
theorem info_u8:(Tryz.prog.info? 5).map (fun i=>(i.zero,i.size,i.bytes))=some (some (.int .u8 0),1,1):=by kernel_rfl
def Room:Nat:=140737488355328
def U64:Nat:=18446744073709551616
abbrev bv (x:Int):Value:=.int .u8 x
def IsB (u:Value):Prop:=∃ x:Int,u=.int .u8 x∧0≤x∧x < 256
def Bytes (bs:List Int):Prop:=∀ x ∈ bs,0≤x∧x < 256
theorem Bytes.nil:Bytes []:=by intro x hx;cases hx
theorem Bytes.one {x:Int} (h0:0≤x) (h1:x < 256):Bytes [x]:=by intro y hy;simp at hy;subst hy;exact ⟨h0,h1⟩
theorem Bytes.append {a b:List Int} (ha:Bytes a) (hb:Bytes b):Bytes (a ++ b):=fun x hx=>(List.mem_append.1 hx).elim (ha x) (hb x)
theorem Bytes.take {a:List Int} (ha:Bytes a) (n:Nat):Bytes (a.take n):=fun x hx=>ha x (List.mem_of_mem_take hx)
theorem Bytes.drop {a:List Int} (ha:Bytes a) (n:Nat):Bytes (a.drop n):=fun x hx=>ha x (List.mem_of_mem_drop hx)
theorem Bytes.get {a:List Int} (ha:Bytes a) {n:Nat} (h:n < a.length):0≤a[n]∧a[n] < 256:=ha _ (List.getElem_mem h)
def OwnB (w:World) (v:Value) (bs:List Int):Prop:=Own IsB 5 1 w v bs.length (bs.map bv)
def RdB (w:World) (v:Value) (bs:List Int):Prop:=Bytes bs∧Rd 1 w v bs.length (bs.map bv)
theorem isB_all {bs:List Int} (h:Bytes bs):∀ u ∈ bs.map bv,IsB u:=by
 intro u hu;obtain ⟨x,hx,rfl⟩:=List.mem_map.1 hu;exact ⟨x,rfl,h x hx⟩
theorem IsB_zero:∀ u ∈ (Value.int .u8 0).cells.toList,IsB u:=by
 intro u hu;simp [Value.cells] at hu;subst hu;exact ⟨0,rfl,by omega,by omega⟩
section
variable {w w':World} {v:Value} {bs:List Int} {S:Nat→Prop}
theorem OwnB.bytes (h:OwnB w v bs):Bytes bs:=by
 intro x hx
 obtain ⟨y,hy,h1⟩:=h.2.1 (bv x) (List.mem_map_of_mem hx)
 simp at hy;subst hy;exact h1
theorem OwnB.rd (h:OwnB w v bs):RdB w v bs:=⟨h.bytes,Own.rd h⟩
theorem RdB.zero (w:World) (ao:Option Addr) (cap:Nat) (h1:cap≤maxLen) (h2:ao=none→cap=0):RdB w (.slice ao 0 cap) []:=⟨Bytes.nil,Rd.zero 1 w ao cap h1 h2⟩
theorem OwnB.nil (w:World):OwnB w (.slice none 0 0) []:=Own.nil _ _ _ _
theorem RdB.nil (w:World):RdB w (.slice none 0 0) []:=⟨Bytes.nil,Rd.nil _ _⟩
theorem OwnB.mod (h:OwnB w v bs) (hm:Mod S w w') (hn:∀ g,v.ownBlock=some g→¬ S g):OwnB w' v bs:=Own.mod h hm hn
theorem RdB.mod (h:RdB w v bs) (hm:Mod S w w') (hn:Apart v bs.length S):RdB w' v bs:=⟨h.1,h.2.mod hm hn⟩
theorem RdB.alloc (h:RdB w v bs) (o:Obj):RdB (w.alloc o) v bs:=⟨h.1,h.2.alloc o⟩
theorem RdB.drew (h:RdB w v bs):RdB w.drew v bs:=⟨h.1,h.2.drew⟩
theorem OwnB.alloc (h:OwnB w v bs) (o:Obj):OwnB (w.alloc o) v bs:=Own.alloc h o
theorem OwnB.drew (h:OwnB w v bs):OwnB w.drew v bs:=Own.drew h
theorem RdB.shape (h:RdB w v bs):∃ ao cap,v=.slice ao bs.length cap∧bs.length≤cap∧cap≤maxLen:=by
 obtain ⟨_,_,ao,cap,rfl,h1,h2,_⟩:=h;exact ⟨ao,cap,rfl,h1,h2⟩
theorem RdB.form (h:RdB w v bs):(bs=[]∧∃ ao cap,v=.slice ao 0 cap∧cap≤maxLen)∨∃ g o cap,0 < bs.length∧v=.slice (some ⟨g,o,none⟩) bs.length cap∧bs.length≤cap∧cap≤maxLen∧∀ (j:Nat) (hj:j < bs.length),w.cell? ⟨g,o+j,none⟩=some (.int .u8 bs[j]):=by
 rcases h.2.form aM with ⟨h1,h2,ao,cap,h3,h4,_⟩|⟨g,o,cap,h0,h1,h2,h3,_,h5⟩
 ·exact .inl ⟨List.eq_nil_of_length_eq_zero h1,ao,cap,h3,h4⟩
 ·exact .inr ⟨g,o,cap,h0,h1,h2,h3,fun j hj=>h5 j _ (by simp [hj])⟩
theorem RdB.block_lt (h:RdB w v bs) (h0:0 < bs.length):∀ g,v.ownBlock=some g→g < w.heap.size:=by
 intro g hg
 rcases h.form with ⟨rfl,_⟩|⟨g',o,cap,_,rfl,_,_,hc⟩
 ·simp at h0
 ·simp [Value.ownBlock] at hg
  subst hg
  exact World.block_lt_of_cell? _ _ (hc 0 h0)
theorem RdB.cut {ao:Option Addr} {n cap:Nat} (hr:RdB w (.slice ao n cap) bs) (lo hi m:Nat) (h1:lo≤hi) (h2:hi≤bs.length) (h3:hi≤m) (h4:m≤cap) :
 RdB w (.slice (if m=lo then ao else ao.map (·.add (lo * 1))) (hi - lo) (m - lo)) ((bs.drop lo).take (hi - lo)):=by
 obtain ⟨hb,hr:Rd 1 w _ _ _⟩:=hr
 have e:n=bs.length:=by obtain ⟨_,_,_,e,_⟩:=hr;simp at e;exact e.2.1
 subst e
 have h:=Rd.sliced hr lo hi m h1 h2 h3 h4
 refine ⟨(hb.drop _).take _,?_⟩
 have el:((bs.drop lo).take (hi - lo)).length=hi - lo:=by simp;omega
 rw [el]
 simpa [List.map_take,List.map_drop] using h
theorem RdB.upto {ao:Option Addr} {n cap:Nat} (hr:RdB w (.slice ao n cap) bs) (k:Nat) (hk:k≤bs.length):RdB w (.slice ao k cap) (bs.take k):=by
 obtain ⟨hb,hl,ao',cap',e,h1,h2,h3,h4⟩:=hr
 simp only [Value.slice.injEq] at e
 obtain ⟨rfl,rfl,rfl⟩:=e
 have el:(bs.take k).length=k:=by simp;omega
 refine ⟨hb.take k,?_⟩
 rw [el]
 refine ⟨by simp;omega,ao,cap,rfl,by omega,h2,h3,fun x hx j u hu=>h4 x hx j u ?_⟩
 rw [List.map_take,List.getElem?_take] at hu
 split at hu
 ·exact hu
 ·cases hu
theorem RdB.tail_at {ao:Option Addr} {m cap:Nat} (hr:RdB w (.slice ao m cap) bs) (n:Nat) (hn:n≤bs.length) (h:cap=n):RdB w (.slice ao (bs.length - n) 0) (bs.drop n):=by
 have hl:m=bs.length∧m≤cap∧cap≤maxLen:=by
  obtain ⟨hb,hl,ao',cap',e,h1,h2,h3,h4⟩:=hr
  simp only [Value.slice.injEq] at e
  obtain ⟨rfl,rfl,rfl⟩:=e
  exact ⟨rfl,h1,h2⟩
 have e1:bs.length - n=0:=by omega
 rw [e1,List.drop_of_length_le aL]
 exact ⟨Bytes.nil,Rd.zero 1 w ao 0 (by simp [Ax]) (fun _=>rfl)⟩
theorem RdB.tail_in {ao:Option Addr} {m cap:Nat} (hr:RdB w (.slice ao m cap) bs) (n:Nat) (hn:n≤bs.length) (h:¬ cap=n):RdB w (.slice (ao.map fun x=>x.add n) (bs.length - n) (cap - n)) (bs.drop n):=by
 have hl:m=bs.length∧m≤cap∧cap≤maxLen:=by
  obtain ⟨hb,hl,ao',cap',e,h1,h2,h3,h4⟩:=hr
  simp only [Value.slice.injEq] at e
  obtain ⟨rfl,rfl,rfl⟩:=e
  exact ⟨rfl,h1,h2⟩
 have:=RdB.cut hr n bs.length cap hn (C0 _) aL (C0 _)
 rw [if_neg h,List.take_of_length_le bA] at this
 simpa using this
theorem RdB.len {ao:Option Addr} {n cap:Nat} (hr:RdB w (.slice ao n cap) bs):n=bs.length∧n≤cap∧cap≤maxLen:=by
 obtain ⟨hb,hl,ao',cap',e,h1,h2,h3,h4⟩:=hr
 simp only [Value.slice.injEq] at e
 obtain ⟨rfl,rfl,rfl⟩:=e
 exact ⟨rfl,h1,h2⟩
end
theorem ret_int {k:IntKind} {a b:Int} (h:a=b):Ending.returned (.int k a)=.returned (.int k b):=by rw [h]
theorem Bw {a b:Bool} (h:a=b):Ending.returned (.bool a)=.returned (.bool b):=by rw [h]
/-- one new cell, as a slice -/
theorem RdB_one (w:World) {x:Int} (h0:0≤x) (h1:x < 256) (e:TypeId):RdB (w.alloc (.cells #[bv x] e)) (.slice (some ⟨w.heap.size,0,none⟩) 1 1) [x]:=
 ⟨Bytes.one h0 h1,Rd.mk (C0 _) dR rfl fun j y hy=>by
  rw [Nat.zero_add,(Cs.new w #[bv x] e).cell];simpa using hy⟩
/-- what an append of bytes may come to -/
def AppB (w:World) (v:Value) (bs:List Int) (v':Value) (w':World):Prop:=
 OwnB w' v' bs∧Mod (fun k=>some k=v.ownBlock) w w'∧(v'.ownBlock=v.ownBlock∨∃ k,v'.ownBlock=some k∧w.heap.size≤k)
theorem wpList_appB {w:World} {ops:Array Oper} {rest:List Oper} {o:Oper} {a:Act} {Q:Exit→Act→World→Prop} (hgd:o.guard=none) (s x:Operand)
 (ho:o.op=.call { callee:=.builtin .append,args:=#[s,x],argTypes:=#[52,52] })
 {v:Value} {bs:List Int} (hs:a.eval s=v) (hown:OwnB w v bs) {xv:Value} {new:List Int} (hx:a.eval x=xv) (hrd:RdB w xv new)
 (hroom:bs.length+new.length≤Room)
 (h:∀ ao cap w',AppB w v (bs ++ new) (.slice ao (bs.length+new.length) cap) w'→wpList Tryz.prog ops Q rest (a.put o.dst (.slice ao (bs.length+new.length) cap)) w'):wpList Tryz.prog ops Q (o :: rest) a w:=by
 obtain ⟨i0,hi,hz0,hz1,hz2⟩:=info_parts info_u8
 refine wpList_append hgd s x 52 ho 5 i0 (.int .u8 0) 1 1 D2 hi hz0 hz1 hz2 rfl aM IsB_zero v _ _ hs hown xv new.length (new.map bv) hx hrd.2 (isB_all hrd.1) (ints_oneCell .u8 new) ?_ ?_ ?_
 ·unfold Room at hroom;omega
 ·unfold Room at hroom;rw [Ax];omega
 ·intro ao cap w' ⟨h1,h2,h3⟩
  refine h ao cap w' ⟨?_,h2,h3⟩
  unfold OwnB
  rw [C3,List.map_append]
  exact h1
theorem step_appB {w:World} {ops:Array Oper} {o:Oper} {a:Act} {K:Act→World→Prop} {Q:Exit→Act→World→Prop} {X:Prop} (hgd:o.guard=none) (s x:Operand)
 (ho:o.op=.call { callee:=.builtin .append,args:=#[s,x],argTypes:=#[52,52] })
 {v:Value} {bs:List Int} (hs:a.eval s=v) (hown:OwnB w v bs) {xv:Value} {new:List Int} (hx:a.eval x=xv) (hrd:RdB w xv new)
 (hroom:bs.length+new.length≤Room)
 (h:∀ ao cap w',AppB w v (bs ++ new) (.slice ao (bs.length+new.length) cap) w'→K (a.put o.dst (.slice ao (bs.length+new.length) cap)) w') :
 if Region.wanted o (yielded ops a.tmps)=true then Oper.wp Tryz.prog o a w K Q else X:=by
 have hw:Region.wanted o (yielded ops a.tmps)=true:=by simp [Region.wanted,hgd]
 rw [if_pos hw]
 obtain ⟨i0,hi,hz0,hz1,hz2⟩:=info_parts info_u8
 obtain ⟨ao,cap,w',hr,h1,h2,h3⟩:=run_append (P:=Tryz.prog) w 52 o.type 5 i0 (.int .u8 0) 1 1 D2 hi hz0 hz1 hz2 rfl aM IsB_zero v _ _ hown xv new.length (new.map bv) hrd.2 (isB_all hrd.1) (ints_oneCell .u8 new)
  (by unfold Room at hroom;omega) (by unfold Room at hroom;rw [Ax];omega)
 unfold Oper.wp execOp
 simp only [ho,resolve,invoke,builtin,Sem.run_bind,Sem.run_pure,Result.andThen_ok,C8,C5,C6,hs,hx,hr]
 refine h ao cap w' ⟨?_,h2,h3⟩
 unfold OwnB
 rw [C3,List.map_append]
 exact h1
theorem mod_drewN {S:Nat→Prop} {a b:World} (h:Mod S a b) (n:Nat):Mod S a (b.drewN n):=⟨h.os,h.tape,h.output,h.size,h.block⟩
theorem mod_of_drewN {w w':World} (h:∃ n,w'=w.drewN n) (S:Nat→Prop):Mod S w w':=by
 obtain ⟨n,rfl⟩:=h;exact mod_drewN (Mod.refl _ _) n
theorem ownBlock_map (ao:Option Addr) (n a b c d:Nat):(Value.slice (ao.map fun x=>x.add n) a b).ownBlock=(Value.slice ao c d).ownBlock:=by
 cases ao with
 | none=>rfl
 | some x=>simp only [Option.map_some,Value.ownBlock,Option.some.injEq];unfold Addr.add;split<;>rfl
/-- a slice that is new -/
def Fresh (w:World) (v:Value):Prop:=∀ g,v.ownBlock=some g→w.heap.size≤g
end Go.Proofs.YtnaoeginonpicaaGreat
namespace Go.Gv
open Go Go.RowKit
section
variable {P:Program} {o:Oper} {a:Act} {w:World}
def baseOf (P:Program) (t:TypeId):Option (List Value × List (Nat × Nat)):=match P.info? t,P.underlying t with
 | some it,some (.struct fields)=>match it.zero,fields.toList.mapM (fun f=>(P.info? f.type).map fun i=>(f.offset,i.size)) with
  | some z,some places=>some (z.cells.toList,places)
  | _,_=>none
 | _,_=>none
/-- the parts laid into a struct's zero -/
def laid (places:List (Nat × Nat)):List Value→List (Nat × Value)→Option (List Value)
 | z,[]=>some z
 | z,(i,v) :: r=>match places[i]? with
  | none=>none
  | some (off,size)=>if v.cells.size≠size∨z.length < off+size then none else laid places (z.take off ++ v.cells.toList ++ z.drop (off+size)) r
theorem foldl_lay (off:Nat) (l:List Value) (z:List Value) (h:off+l.length≤z.length):(l.zipIdx.foldl (fun cs (x:Value × Nat)=>cs.setIfInBounds (off+x.2) x.1) z.toArray)=(z.take off ++ l ++ z.drop (off+l.length)).toArray:=by
 obtain ⟨h1,h2⟩:=Go.Great.foldl_set off l 0 z.toArray
 apply Array.ext_getElem?
 intro k
 rw [h2 k]
 simp only [List.getElem?_toArray,D3,Nat.add_zero]
 by_cases hk:off≤k∧k < off+l.length∧k < z.length
 ·rw [if_pos hk,C2,List.getElem?_append_right fD,List.length_take,Nat.min_eq_left aL,List.getElem?_append_left aL]
 ·rw [if_neg hk]
  by_cases hlt:k < off
  ·rw [C2,List.getElem?_append_left fD,List.getElem?_take_of_lt hlt]
  ·rw [List.getElem?_append_right fD,List.getElem?_drop]
   congr 1
   simp
   omega
theorem fill_laid {places:List (Nat × Nat)}:∀ (parts:List (Nat × Value)) (z:List Value) {r:List Value},laid places z parts=some r→Instr.fill (places.toArray[·]?) z.toArray parts=some r.toArray
 | [],z,r,h=>by unfold laid at h;cases h;rfl
 | (i,v) :: ps,z,r,h=>by
  unfold laid at h
  unfold Instr.fill
  rw [List.getElem?_toArray]
  cases hp:places[i]? with
  | none=>rw [hp] at h;cases h
  | some os=>
   obtain ⟨off,size⟩:=os
   rw [hp] at h
   simp only at h
   split at h
   ·cases h
   ·rename_i hc
    have hc1:v.cells.size=size:=by omega
    have hc2:off+size≤z.length:=by omega
    simp only
    rw [if_neg (by simp [hc1,hc2])]
    have e:=foldl_lay off v.cells.toList z (by simpa [hc1] using hc2)
    rw [← Array.toList_zipIdx] at e
    simp only [Array.foldl_toList] at e
    rw [e,show v.cells.toList.length=size by simpa using hc1]
    exact fill_laid ps _ h
theorem Bo {t:TypeId} {ps:Array (Nat × Operand)} (ho:o.op=.build t ps) {z:List Value} {places:List (Nat × Nat)} (hb:baseOf P t=some (z,places)) {parts:List (Nat × Value)} (hp:(ps.map fun (i,x)=>(i,a.eval x)).toList=parts) {r:List Value} (hr:laid places z parts=some r):(execOp a.eval o).run P w=.ok (.value (.agg r.toArray)) w:=by
 have h:P.built t parts=some r.toArray:=by
  unfold baseOf at hb
  unfold Program.built
  cases hit:P.info? t with
  | none=>rw [hit] at hb;cases hb
  | some it=>
   cases hu:P.underlying t with
   | none=>rw [hit,hu] at hb;cases hb
   | some d=>
    rw [hit,hu] at hb
    cases d<;>try (cases hb;done)
    case struct fields=>
     simp only at hb ⊢
     cases hz:it.zero with
     | none=>rw [hz] at hb;cases hb
     | some zv=>
      rw [hz] at hb
      try simp only at hb
      try simp only
      cases hpl:fields.toList.mapM (fun f=>(P.info? f.type).map fun i=>(f.offset,i.size)) with
      | none=>rw [hpl] at hb;cases hb
      | some pl=>
       rw [hpl] at hb
       simp only [Option.some.injEq,Prod.mk.injEq] at hb
       obtain ⟨rfl,rfl⟩:=hb
       try simp only
       have:=fill_laid _ _ hr
       simpa using this
 have hrun:=run_build (P:=P) w t (ps.map fun (i,x)=>(i,a.eval x)) r.toArray (by rw [hp];exact h)
 unfold execOp
 simp only [ho,Sem.run_bind,hrun,Result.andThen_ok,Sem.run_pure]
theorem ex_conv {src dst:TypeId} {x:Operand} {u v:Value} (ho:o.op=.convert src dst x) (hx:a.eval x=u) (hr:(convert src dst u).run P w=.ok v w):(execOp a.eval o).run P w=.ok (.value v) w:=by
 unfold execOp
 simp [ho,hx,hr]
theorem A2 {t e:TypeId} {m:Operand} {ao:Option Addr} {n cap:Nat} (ho:o.op=Op.call { callee:=Callee.builtin Builtin.len,args:=#[m],argTypes:=#[t] }) (hm:a.eval m=.slice ao n cap) (ht:P.underlying t=some (.slice e)):(execOp a.eval o).run P w=.ok (.value (.int .i64 n)) w:=by
 simp [execOp,ho,resolve,invoke,builtin,hm,Builtin.len_,run_underlying ht,goInt,Result.andThen]
theorem Bz {t:TypeId} {k:IntKind} (x y:Int) (h:P.underlying t=some (.int k)):(binOp .add t (.int k x) (.int k y)).run P w=.ok (.int k (k.wrap (x+y))) w:=by
 simp [binOp,Op.intArith]
theorem run_sub_i {t:TypeId} {k:IntKind} (x y:Int) (h:P.underlying t=some (.int k)):(binOp .sub t (.int k x) (.int k y)).run P w=.ok (.int k (k.wrap (x - y))) w:=by
 simp [binOp,Op.intArith]
end
end Go.Gv
namespace Go.Proofs.YtnaoeginonpicaaGreat
open Go Go.RowKit Go.Gv
theorem bytes_string {w:World} {v:Value} {bs:List Int} (h:RdB w v bs):(convert 52 9 v).run Tryz.prog w=.ok (.string (strOfNums bs)) w:=by
 rcases h.form with ⟨rfl,ao,cap,rfl,hc⟩|⟨g,o,cap,h0,rfl,h1,h2,h3⟩
 ·rw [run_convert_bytes_string w _ _ _ _ 0 cap D2 Tryz.underlying5 Tryz.underlying9]
  cases ao<;>simp [Conv.bytesToString,loadCells]
  all_goals rfl
 ·exact run_convert_bytes_arg w 52 5 D2 Tryz.underlying5 g o bs.length cap bs rfl (fun i hi=>by rw [h3 i hi];simp [List.getD,List.getElem?_eq_getElem hi]) 9 Tryz.underlying9
end Go.Proofs.YtnaoeginonpicaaGreat
namespace Go.Gv
open Go Go.RowKit
/-- a new variable of the region: the operation that makes it, the one that writes it, its type, its zero, what is written -/
structure AlRow where
 a:Nat
 s:Nat
 T:TypeId
 z:List Value
 c:List Value
section
variable {P:Program} {ops:Array Oper} {Q:Exit→Act→World→Prop}
/-- the new variables: made ones stand in blocks of their own -/
structure AlInv (w0:World) (al:List AlRow) (L:Nat→Bool) (vs:List Value) (w:World):Prop where
 at_:∀ r ∈ al,L r.a=true→∃ q,vs[r.a]? = some (.pointer (some ⟨q,0,none⟩))∧w0.heap.size≤q∧Cs w q (if L r.s then r.c.toArray else r.z.toArray) r.T
 ne:∀ r ∈ al,∀ r' ∈ al,r.a≠r'.a→L r.a=true→L r'.a=true→vs[r.a]?≠vs[r'.a]?
theorem AlInv.start (w0:World) (al:List AlRow) (vs:List Value) (w:World):AlInv w0 al (fun _=>false) vs w:=⟨(fun _ _ h=>by cases h),(fun _ _ _ _ _ h=>by cases h)⟩
theorem AlInv.other {w0:World} {al:List AlRow} {L:Nat→Bool} {vs:List Value} {w w':World} (h:AlInv w0 al L vs w) {i:Nat} {v:Value} (hi:∀ r ∈ al,r.a≠i∧r.s≠i) (hc:∀ r ∈ al,∀ q c,w0.heap.size≤q→Cs w q c r.T→Cs w' q c r.T):AlInv w0 al (upd L i) (vs.set i v) w':=by
 have hu:∀ r ∈ al,upd L i r.a=L r.a∧upd L i r.s=L r.s:=fun r hr=>by unfold upd;rw [if_neg (hi r hr).1,if_neg (hi r hr).2];exact ⟨rfl,rfl⟩
 have hv:∀ r ∈ al,(vs.set i v)[r.a]? = vs[r.a]?:=fun r hr=>List.getElem?_set_ne (Ne.symm (hi r hr).1)
 refine ⟨fun r hr hL=>?_,fun r hr r' hr' hne h1 h2=>?_⟩
 ·rw [(hu r hr).1] at hL
  obtain ⟨q,e1,e2,e3⟩:=h.at_ r hr hL
  rw [hv r hr,(hu r hr).2]
  exact ⟨q,e1,e2,hc r hr _ _ e2 e3⟩
 ·rw [(hu r hr).1] at h1
  rw [(hu r' hr').1] at h2
  rw [hv r hr,hv r' hr']
  exact h.ne r hr r' hr' hne h1 h2
end
def EndS (w0:World) (n:Nat) (p:GPred):Prop:=∀ t v w w',t.length=n→p t v w→Mod (fun k=>w0.heap.size≤k) w w'→p t v w'
def AllEnd (w0:World) (n:Nat):List GPred→Prop
 | []=>True
 | p :: r=>EndS w0 n p∧AllEnd w0 n r
theorem AllEnd.get {w0:World} {n:Nat}:∀ (l:List GPred),AllEnd w0 n l→∀ p t v w w',t.length=n→(l.getD p ga) t v w→Mod (fun k=>w0.heap.size≤k) w w'→(l.getD p ga) t v w'
 | [],_,_,_,_,_,_,_,h,_=>h
 | q :: r,h,0,t,v,w,w',h1,h2,h3=>h.1 t v w w' h1 h2 h3
 | q :: r,h,i+1,t,v,w,w',h1,h2,h3=>by
  have:=AllEnd.get r h.2 i t v w w' h1 (by simpa using h2) h3
  simpa using this
section
variable {w0:World} {n:Nat}
theorem MapIs.marked {κ ν:Type} {enc:κ→Value} {val:ν→Value} {ok:κ→Prop} {l:List (κ × ν)} {b B:Nat} {T8:TypeId} {w w':World} (h:MapIs w b enc val ok l) (hm:Marked B T8 w w'):MapIs w' b enc val ok l:=by
 obtain ⟨⟨es,clock,hb,he⟩,h2,h3⟩:=h
 refine ⟨⟨es,clock,?_,he⟩,h2,h3⟩
 rcases hm.block b (Array.getElem?_eq_some_iff.1 hb).1 with h1|⟨-,C,m,h1,-⟩
 ·exact h1.trans hb
 ·rw [hb] at h1;cases h1
theorem ex_build0 {P:Program} {o:Oper} {a:Act} {w:World} {t:TypeId} {r:Array Value} (ho:o.op=.build t #[]) (h:P.built t []=some r):(execOp a.eval o).run P w=.ok (.value (.agg r)) w:=by
 have hr:=run_build (P:=P) w t #[] r h
 unfold execOp
 simp [ho,hr]
end
section
variable {P:Program} {ops:Array Oper} {Q:Exit→Act→World→Prop}
/-- what is said of an operation's answer: the new blocks that may still be turned; the chain's answers so far; the answer; the world -/
abbrev QPred:=(Nat→Prop)→List Value→Value→World→Prop
/-- what the operations beside the chain may do: new blocks; a new block that nobody turns may be marked -/
structure QE (B:Nat) (Z:Nat→Prop) (w w':World):Prop where
 os:w'.os=w.os
 tape:w'.tape=w.tape
 output:w'.output=w.output
 size:w.heap.size≤w'.heap.size
 block:∀ k,k < w.heap.size→w'.heap[k]? = w.heap[k]?∨(B≤k∧¬ Z k∧∃ C T m m',w.heap[k]? = some (.cells C T m)∧w'.heap[k]? = some (.cells C T m'))
structure QStable (B:Nat) (S0:Nat→Prop) (p:QPred):Prop where
 env:∀ Z t v w w',p Z t v w→QE B Z w w'→p Z t v w'
 on:∀ Z Z' t t' v w w',p Z t v w→Mod (fun j=>(j < B∧S0 j)∨(B≤j∧Z j)) w w'→(∀ j,Z' j→Z j∨w.heap.size≤j)→(t'=t∨∃ u,t'=t ++ [u])→p Z' t' v w'
variable {B:Nat} {S0:Nat→Prop} {Z Z' Y:Nat→Prop} {w w':World} {t t':List Value}
theorem QE.still (h:Mod (fun _=>False) w w'):QE B Z w w':=⟨h.os,h.tape,h.output,h.size,fun k hk=>Or.inl (h.block k hk (fun h=>h))⟩
theorem QE.refl:QE B Z w w:=QE.still (Mod.refl _ _)
theorem QE.mod (h:QE B Z w w') (hY:∀ j,Y j→Z j):Mod (fun j=>B≤j∧¬ Y j) w w':=
 ⟨h.os,h.tape,h.output,h.size,fun k hk hn=>(h.block k hk).elim (fun h=>h) (fun ⟨h1,h2,_⟩=>absurd ⟨h1,fun h=>h2 (hY k h)⟩ hn)⟩
theorem QE.cell (h:QE B Z w w') {p:Addr} {u:Value} (hc:w.cell? p=some u):w'.cell? p=some u:=by
 rcases h.block p.block (World.block_lt_of_cell? _ _ hc) with e|⟨-,-,C,T,m,m',e1,e2⟩
 ·exact (World.cell?_of_block e).trans hc
 ·unfold World.cell? at hc ⊢
  rw [e1] at hc
  rw [e2]
  exact hc
def qi (x:Value):QPred:=fun _ _ v _=>v=x
def qa:QPred:=fun _ _ _ _=>True
def qv (j:Nat):QPred:=fun _ t v _=>t[j]? = some v
/-- only where a test says so -/
def qc (b:Bool) (p:QPred):QPred:=fun Z t v w=>(b=true→p Z t v w)∧(b=false→v=undef)
/-- a literal's row -/
def ql (B:Nat) (T8:TypeId) (C:Array Value):QPred:=fun Z _ v w=>∃ g,v=.slice (some ⟨g,0,none⟩) C.size C.size∧B≤g∧¬ Z g∧∃ m,w.heap[g]? = some (.cells C T8 m)
/-- something that is read where nobody turns anything -/
def qr (B:Nat) (S0:Nat→Prop) (F:(Nat→Prop)→World→Value→Prop):QPred:=fun Z _ v w=>∃ R:Nat→Prop,(∀ j,R j→j < w.heap.size∧¬ (j < B∧S0 j)∧¬ (B≤j∧Z j))∧F R w v
theorem Ac {x:Value}:QStable B S0 (qi x):=⟨fun _ _ _ _ _ h _=>h,fun _ _ _ _ _ _ _ h _ _ _=>h⟩
theorem qa_stable:QStable B S0 qa:=⟨fun _ _ _ _ _ h _=>h,fun _ _ _ _ _ _ _ h _ _ _=>h⟩
theorem Ah {j:Nat}:QStable B S0 (qv j):=⟨fun _ _ _ _ _ h _=>h,fun Z Z' t t' v w w' h _ _ ht=>by
 rcases ht with rfl|⟨u,rfl⟩
 ·exact h
 ·exact gv_at h⟩
theorem qc_stable {b:Bool} {p:QPred} (h:QStable B S0 p):QStable B S0 (qc b p):=
 ⟨fun Z t v w w' hp he=>⟨fun hb=>h.env _ _ _ _ _ (hp.1 hb) he,hp.2⟩,fun Z Z' t t' v w w' hp hm hz ht=>⟨fun hb=>h.on _ _ _ _ _ _ _ (hp.1 hb) hm hz ht,hp.2⟩⟩
theorem qr_stable {F:(Nat→Prop)→World→Value→Prop} (hF:∀ R w w' v,F R w v→(∀ p u,R p.block→w.cell? p=some u→w'.cell? p=some u)→F R w' v):QStable B S0 (qr B S0 F) where
 env Z t v w w' h he:=by
  obtain ⟨R,h1,h2⟩:=h
  exact ⟨R,fun j hj=>⟨Nat.lt_of_lt_of_le (h1 j hj).1 he.size,(h1 j hj).2⟩,hF _ _ _ _ h2 fun p u _ hc=>he.cell hc⟩
 on Z Z' t t' v w w' h hm hz ht:=by
  obtain ⟨R,h1,h2⟩:=h
  refine ⟨R,fun j hj=>⟨Nat.lt_of_lt_of_le (h1 j hj).1 hm.size,(h1 j hj).2.1,fun hn=>?_⟩,hF _ _ _ _ h2 fun p u hp hc=>hm.cell hc (fun hn=>?_)⟩
  ·rcases hz j hn.2 with h|h
   ·exact (h1 j hj).2.2 ⟨hn.1,h⟩
   ·have:=(h1 j hj).1;omega
  ·rcases hn with hn|hn
   ·exact (h1 _ hp).2.1 hn
   ·exact (h1 _ hp).2.2 hn
def AllQ (B:Nat) (S0:Nat→Prop):List QPred→Prop
 | []=>True
 | p :: r=>QStable B S0 p∧AllQ B S0 r
theorem AllQ.get:∀ (l:List QPred),AllQ B S0 l→∀ i,QStable B S0 (l.getD i qa)
 | [],_,_=>by simpa using qa_stable
 | p :: r,h,0=>h.1
 | p :: r,h,i+1=>by simpa using AllQ.get r h.2 i
/-- a new variable that is written whole: the operation that makes it, the one that writes it, its type, its zero; what is written hangs on the chain's first k answers -/
structure QRow where
 a:Nat
 s:Nat
 T:TypeId
 z:List Value
 k:Nat
 c:List Value→List Value
def qDist (al:List QRow):Bool:=decide ((al.map (·.a) ++ al.map (·.s)).Nodup)
theorem q_uniq {al:List QRow} (h:qDist al=true):(∀ r ∈ al,∀ r' ∈ al,r.a=r'.a→r=r')∧(∀ r ∈ al,∀ r' ∈ al,r.s=r'.s→r=r')∧(∀ r ∈ al,∀ r' ∈ al,r.a≠r'.s):=by
 unfold qDist at h
 have h:=of_decide_eq_true h
 obtain ⟨h1,h2,h3⟩:=List.nodup_append.1 h
 refine ⟨fun r hr r' hr' e=>?_,fun r hr r' hr' e=>?_,fun r hr r' hr'=>h3 _ (List.mem_map.2 ⟨r,hr,rfl⟩) _ (List.mem_map.2 ⟨r',hr',rfl⟩)⟩
 ·obtain ⟨j,hj⟩:=List.getElem?_of_mem hr
  obtain ⟨j',hj'⟩:=List.getElem?_of_mem hr'
  have e1:(al.map (·.a))[j]? = some r.a:=by rw [List.getElem?_map,hj];rfl
  have e2:(al.map (·.a))[j']? = some r.a:=by rw [List.getElem?_map,hj',e];rfl
  have:=(List.getElem?_inj (List.getElem?_eq_some_iff.1 e1).1 h1).1 (e1.trans e2.symm)
  subst this
  exact Option.some.inj (hj.symm.trans hj')
 ·obtain ⟨j,hj⟩:=List.getElem?_of_mem hr
  obtain ⟨j',hj'⟩:=List.getElem?_of_mem hr'
  have e1:(al.map (·.s))[j]? = some r.s:=by rw [List.getElem?_map,hj];rfl
  have e2:(al.map (·.s))[j']? = some r.s:=by rw [List.getElem?_map,hj',e];rfl
  have:=(List.getElem?_inj (List.getElem?_eq_some_iff.1 e1).1 h2).1 (e1.trans e2.symm)
  subst this
  exact Option.some.inj (hj.symm.trans hj')
/-- what the chain has still to do: told step by step -/
def QChain (P:Program) (ops:Array Oper) (Q:Exit→Act→World→Prop) (a0:Act) (n:Nat) (ss:List Nat) (B:Nat) (S0:Nat→Prop) (SS:Nat→Nat→Prop) (l:List QPred) (al:List QRow):List Nat→Nat→(Nat→Prop)→List Value→World→Prop
 | [],_,Y,t,w=>∀ vs,vs.length=ss.length→(∃ Z:Nat→Prop,(∀ j,Y j→Z j)∧(∀ j,Z j→B≤j∧j < w.heap.size)∧∀ p v,vs[p]? = some v→(l.getD p qa) Z t v w)→
  (∀ r ∈ al,∃ q,vs[r.a]? = some (.pointer (some ⟨q,0,none⟩))∧B≤q∧¬ Y q∧Cs w q (r.c (t.take r.k)).toArray r.T)→(∀ r ∈ al,∀ r' ∈ al,r.a≠r'.a→vs[r.a]?≠vs[r'.a]?)→Q .normal (Au a0 ss vs) w
 | i :: c,k,Y,t,w=>∀ Z a,(∀ j,Y j→Z j)→(∀ j,Z j→B≤j∧j < w.heap.size)→(∀ t,t ∉ ss→a.eval (.tmp t)=a0.eval (.tmp t))→(∀ s,s < n→s < a.tmps.size)→
  (∀ o,ops[i]? = some o→∀ e ∈ o.after,Region.binds .any e=true→∀ s,(ops[e.on]?).bind (·.dst)=some s→(l.getD e.on qa) Z t (a.eval (.tmp s)) w)→
  (∀ j s,(ops[j]?).bind (·.dst)=some s→(clo ops ops.size (B4 ops j)).contains i=true→a.eval (.tmp s)=a0.eval (.tmp s))→
  wpOp P ops Q i (fun a' w'=>∃ o v,∃ Y':Nat→Prop,ops[i]? = some o∧a'=a.put o.dst v∧Mod (fun j=>(j < B∧SS k j)∨Y j) w w'∧(∀ j,Y j→Y' j)∧(∀ j,Y' j→Y j∨(w.heap.size≤j∧j < w'.heap.size))∧(∀ Z,(∀ j,Z j→Y' j∨j < w.heap.size)→(l.getD i qa) Z (t ++ [v]) v w')∧
   ∀ w'',Mod (fun j=>B≤j∧¬ Y' j) w' w''→QChain P ops Q a0 n ss B S0 SS l al c (k+1) Y' (t ++ [v]) w'') a w
/-- what is to be shown of an operation that makes a new variable -/
def MakesQ (P:Program) (r:QRow) (o:Oper):Prop:=o.guard=none∧o.op=.alloc r.T∧(P.info? r.T).bind (·.zero)=some (.agg r.z.toArray)∧(P.info? r.T).map (·.size)=some r.z.length
/-- of one that writes it -/
def WritesQ (ops:Array Oper) (a0:Act) (w0:World) (n:Nat) (ss:List Nat) (S0:Nat→Prop) (l:List QPred) (r:QRow) (i:Nat) (o:Oper):Prop:=
 o.guard=none∧∃ sa y,(ops[r.a]?).bind (·.dst)=some sa∧sa < n∧o.op=.store r.T (.tmp sa) y∧(clo ops ops.size (B4 ops i)).contains r.a=true∧
  ∀ (Z:Nat→Prop) (t:List Value) (a:Act) (w:World),Mod (fun j=>(j < w0.heap.size∧S0 j)∨w0.heap.size≤j) w0 w→(∀ t,t ∉ ss→a.eval (.tmp t)=a0.eval (.tmp t))→(∀ s,s < n→s < a.tmps.size)→
   (∀ e ∈ o.after,Region.binds .any e=true→∀ s,(ops[e.on]?).bind (·.dst)=some s→(l.getD e.on qa) Z t (a.eval (.tmp s)) w)→(∀ j s,(ops[j]?).bind (·.dst)=some s→(clo ops ops.size (B4 ops j)).contains i=true→a.eval (.tmp s)=a0.eval (.tmp s))→r.k≤t.length∧(a.eval y).cells=(r.c (t.take r.k)).toArray∧(r.c (t.take r.k)).length=r.z.length∧∀ u ∈ r.c (t.take r.k),u.oneCell'=true
/-- how an operation beside the chain leaves things -/
def QJ (B:Nat) (l:List QPred) (Z:Nat→Prop) (i:Nat) (o:Oper) (t:List Value) (a:Act) (w:World):Act→World→Prop:=fun a' w'=>∃ v,a'=a.put o.dst v∧QE B Z w w'∧(l.getD i qa) Z t v w'
def StepQ (P:Program) (ops:Array Oper) (Q:Exit→Act→World→Prop) (a0:Act) (w0:World) (n:Nat) (ss:List Nat) (S0:Nat→Prop) (SS:Nat→Nat→Prop) (l:List QPred) (c:List Nat) (al:List QRow) (i:Nat) (o:Oper):Prop:=
 if c.contains i then True else
 match al.find? (fun r=>r.a == i) with
 | some r=>MakesQ P r o
 | none=>match al.find? (fun r=>r.s == i) with
  | some r=>WritesQ ops a0 w0 n ss S0 l r i o
  | none=>∀ (Z:Nat→Prop) t a w,(∀ j,Z j→w0.heap.size≤j∧j < w.heap.size)→Mod (fun j=>(j < w0.heap.size∧S0 j)∨w0.heap.size≤j) w0 w→Mod (fun j=>(j < w0.heap.size∧∃ k,k < t.length∧SS k j)∨w0.heap.size≤j) w0 w→(∀ t,t ∉ ss→a.eval (.tmp t)=a0.eval (.tmp t))→(∀ s,s < n→s < a.tmps.size)→
   (∀ e ∈ o.after,Region.binds .any e=true→∀ s,(ops[e.on]?).bind (·.dst)=some s→(l.getD e.on qa) Z t (a.eval (.tmp s)) w)→(∀ k q,c[k]? = some q→(clo ops ops.size (B4 ops q)).contains i=true→t.length≤k)→(∀ j s,(ops[j]?).bind (·.dst)=some s→(clo ops ops.size (B4 ops j)).contains i=true→a.eval (.tmp s)=a0.eval (.tmp s))→
   wpOp P ops Q i (QJ w0.heap.size l Z i o t a w) a w
/-- the new variables: made ones stand in blocks of their own -/
structure QInv (Ao:Nat→Prop) (al:List QRow) (L:Nat→Bool) (t:List Value) (vs:List Value) (w:World):Prop where
 at_:∀ r ∈ al,L r.a=true→∃ q,vs[r.a]? = some (.pointer (some ⟨q,0,none⟩))∧Ao q∧Cs w q (if L r.s then (r.c (t.take r.k)).toArray else r.z.toArray) r.T∧(L r.s=true→r.k≤t.length)
 ne:∀ r ∈ al,∀ r' ∈ al,r.a≠r'.a→L r.a=true→L r'.a=true→vs[r.a]?≠vs[r'.a]?
theorem QInv.other {Ao Ao':Nat→Prop} {al:List QRow} {L:Nat→Bool} {t t':List Value} {vs:List Value} {w w':World} (h:QInv Ao al L t vs w) {i:Nat} {v:Value} (hi:∀ r ∈ al,r.a≠i∧r.s≠i) (hA:∀ q,Ao q→Ao' q) (ht:t'=t∨∃ u,t'=t ++ [u]) (hc:∀ q c T,Ao q→Cs w q c T→Cs w' q c T):QInv Ao' al (upd L i) t' (vs.set i v) w':=by
 have hu:∀ r ∈ al,upd L i r.a=L r.a∧upd L i r.s=L r.s:=fun r hr=>by unfold upd;rw [if_neg (hi r hr).1,if_neg (hi r hr).2];exact ⟨rfl,rfl⟩
 have hv:∀ r ∈ al,(vs.set i v)[r.a]? = vs[r.a]?:=fun r hr=>List.getElem?_set_ne (Ne.symm (hi r hr).1)
 refine ⟨fun r hr hL=>?_,fun r hr r' hr' hne h1 h2=>?_⟩
 ·rw [(hu r hr).1] at hL
  obtain ⟨q,e1,e2,e3,e4⟩:=h.at_ r hr hL
  rw [hv r hr,(hu r hr).2]
  refine ⟨q,e1,hA q e2,?_,fun hs=>?_⟩
  ·have e5:=hc q _ _ e2 e3
   rcases ht with rfl|⟨u,rfl⟩
   ·exact e5
   ·cases hs:L r.s with
    | false=>rw [hs] at e5;exact e5
    | true=>
     rw [hs] at e5
     rw [List.take_append_of_le_length (e4 hs)]
     exact e5
  ·have:=e4 hs
   rcases ht with rfl|⟨u,rfl⟩
   ·exact this
   ·rw [C3];omega
 ·rw [(hu r hr).1] at h1
  rw [(hu r' hr').1] at h2
  rw [hv r hr,hv r' hr']
  exact h.ne r hr r' hr' hne h1 h2
theorem wp_region_Q {d:Bool} {id:Nat} {a0:Act} {w0:World} (n:Nat) (hn:a0.tmps.size=n) (hm:P.follows .mixedOrders=true) (hac:backward ops=true) (ss:List Nat) (hss:okSlots ops n ss=true) (hnd:ss.Nodup)
 (S0:Nat→Prop) (SS:Nat→Nat→Prop) (hSS:∀ k j,SS k j→S0 j) (l:List QPred) (stable:AllQ w0.heap.size S0 l) (c:List Nat) (hlk:linked ops c=true) (hcn:c.Nodup) (hcs:(c.all fun i=>decide (i < ops.size))=true)
 (al:List QRow) (hal:qDist al=true) (hac2:∀ r ∈ al,c.contains r.a=false∧c.contains r.s=false) (hals:∀ r ∈ al,r.a < ops.size∧r.s < ops.size) (hga:∀ r ∈ al,∀ Z t v w,(l.getD r.a qa) Z t v w∧(l.getD r.s qa) Z t v w)
 (step:Each (StepQ P ops Q a0 w0 n ss S0 SS l c al) 0 ops.toList)
 (start:∀ w1,Mod (fun j=>w0.heap.size≤j) w0 w1→QChain P ops Q a0 n ss w0.heap.size S0 SS l al c 0 (fun _=>False) [] w1):(Code.region id ops d).wp P Q a0 w0:=by
 have hinj:∀ (j k i:Nat),c[j]? = some i→c[k]? = some i→j=k:=by
  intro j k i h1 h2
  exact (List.getElem?_inj (List.getElem?_eq_some_iff.1 h1).1 hcn).1 (h1.trans h2.symm)
 obtain ⟨hu1,hu2,hu3⟩:=q_uniq hal
 have fa:∀ r ∈ al,al.find? (fun x=>x.a == r.a)=some r:=by
  intro r hr
  cases hq:al.find? (fun x=>x.a == r.a) with
  | none=>have:=List.find?_eq_none.1 hq r hr;simp at this
  | some r'=>
   have e:=List.find?_some hq
   rw [hu1 r' (List.mem_of_find?_eq_some hq) r hr (by simpa using e)]
 have fs:∀ r ∈ al,al.find? (fun x=>x.s == r.s)=some r:=by
  intro r hr
  cases hq:al.find? (fun x=>x.s == r.s) with
  | none=>have:=List.find?_eq_none.1 hq r hr;simp at this
  | some r'=>
   have e:=List.find?_some hq
   rw [hu2 r' (List.mem_of_find?_eq_some hq) r hr (by simpa using e)]
 have fas:∀ r ∈ al,al.find? (fun x=>x.a == r.s)=none:=by
  intro r hr
  rw [List.find?_eq_none]
  intro x hx
  simpa using hu3 x hx r hr
 refine wp_region_both hm (backward_spec hac) ss (fun L vs w=>∃ (Y A:Nat→Prop) (t:List Value),Mod (fun j=>(j < w0.heap.size∧S0 j)∨w0.heap.size≤j) w0 w∧Mod (fun j=>(j < w0.heap.size∧∃ k,k < t.length∧SS k j)∨w0.heap.size≤j) w0 w∧(∀ x,ops.size≤x→L x=false)∧Down ops L∧
  t.length≤c.length∧(∀ j p,j < t.length→c[j]? = some p→L p=true)∧(∀ j p,t.length≤j→c[j]? = some p→L p=false)∧(∀ j,Y j→w0.heap.size≤j∧j < w.heap.size)∧(∀ j,A j→w0.heap.size≤j∧j < w.heap.size∧¬ Y j)∧
  (∀ w'',Mod (fun j=>w0.heap.size≤j∧¬ Y j) w w''→QChain P ops Q a0 n ss w0.heap.size S0 SS l al (c.drop t.length) t.length Y t w'')∧(∀ p v,L p=true→vs[p]? = some v→(l.getD p qa) (fun j=>Y j∨A j) t v w)∧QInv A al L t vs w∧∀ p,L p=false→vs[p]? = (ss.map fun s=>a0.tmps.getD s undef)[p]?)
  ⟨fun _=>False,fun _=>False,[],Mod.refl _ _,Mod.refl _ _,(fun _ _=>rfl),(fun i h=>by cases h),Nat.zero_le _,(fun j p h=>by simp at h),(fun _ _ _ _=>rfl),iC,iC,(fun w'' h=>start w'' (h.mono fun _ _ h=>h.1)),(fun p v h=>by cases h),⟨(fun _ _ h=>by cases h),(fun _ _ _ _ _ h=>by cases h)⟩,fun _ _=>rfl⟩
  ⟨fun _=>False,fun _=>False,[],(Mod.refl _ _).drew,(Mod.refl _ _).drew,(fun _ _=>rfl),(fun i h=>by cases h),Nat.zero_le _,(fun j p h=>by simp at h),(fun _ _ _ _=>rfl),iC,iC,(fun w'' h=>start w'' (((Mod.refl _ w0).drew).trans h fun _ _ h=>h.1)),(fun p v h=>by cases h),⟨(fun _ _ h=>by cases h),(fun _ _ _ _ _ h=>by cases h)⟩,fun _ _=>rfl⟩ ?_ ?_
 ·rintro i o ho L vs w hL hd hl ⟨Y,A,t,hmod,hmod0,hLout,hD,hkl,hk1,hk2,hY,hAb,hC,hV,hA,hU⟩
  have hst:=Each.get _ 0 step i o (by simpa using ho)
  rw [Nat.zero_add] at hst
  obtain ⟨s,hs,hds⟩:=okSlots_at hss ho
  have haf:∀ x ∈ B4 ops i,L x=true:=by
   intro x hx
   obtain ⟨o',ho',e,he,hb,rfl⟩:=mem_afterOf.1 hx
   rw [ho] at ho'
   cases ho'
   exact hd e he hb
  have hDn:Down ops (upd L i):=by
   intro j hj x hx
   unfold upd at hj ⊢
   by_cases e:x=i
   ·rw [if_pos e]
   ·rw [if_neg e]
    by_cases e2:j=i
    ·subst e2;exact haf x hx
    ·rw [if_neg e2] at hj;exact hD j hj x hx
  have hLn:∀ x,ops.size≤x→upd L i x=false:=fun x hx=>by
   have hi:=(Array.getElem?_eq_some_iff.1 ho).1
   unfold upd
   rw [if_neg aL]
   exact hLout x hx
  have hGk:∀ k':Nat,c[k']? = some i→k'=t.length:=by
   intro k' hk'
   have hall:=linked_all hD hlk k' i hk' haf
   rcases Nat.lt_trichotomy k' t.length with h|h|h
   ·have:=hk1 k' i h hk';rw [hL] at this;cases this
   ·exact h
   ·have hlt:t.length < c.length:=by have:=(List.getElem?_eq_some_iff.1 hk').1;omega
    have:=hall t.length c[t.length] h (List.getElem?_eq_getElem hlt)
    rw [hk2 t.length c[t.length] (C0 _) (List.getElem?_eq_getElem hlt)] at this
    cases this
  have hub:∀ k q,c[k]? = some q→(clo ops ops.size (B4 ops q)).contains i=true→t.length≤k:=by
   intro k q hq hc
   rcases Nat.lt_or_ge k t.length with h|h
   ·have h1:=hk1 k q h hq
    have h2:=clo_done hD _ _ (fun x hx=>hD q h1 x hx) i (by simpa using hc)
    rw [hL] at h2
    cases h2
   ·exact h
  have hlt:i < vs.length:=by rw [hl];exact (List.getElem?_eq_some_iff.1 hs).1
  have hput:∀ v,(Au a0 ss vs).put o.dst v=Au a0 ss (vs.set i v):=by
   intro v
   have e1:=putAll_put _ _ a0 i s v hnd hl hs
   rcases hds with ⟨h1,h2⟩|⟨h1,h2⟩
   ·rw [h1];exact e1
   ·rw [h1,← e1,put_far _ (by rw [putAll_size,hn];exact h2)];rfl
  have hpred:∀ e ∈ o.after,Region.binds .any e=true→∀ s',(ops[e.on]?).bind (·.dst)=some s'→(l.getD e.on qa) (fun j=>Y j∨A j) t ((Au a0 ss vs).eval (.tmp s')) w:=by
   intro e he hb s' hs'
   have hLe:=hd e he hb
   cases hoe:ops[e.on]? with
   | none=>rw [hoe] at hs';cases hs'
   | some o2=>
    rw [hoe] at hs'
    obtain ⟨s2,hs2,hds2⟩:=okSlots_at hss hoe
    rcases hds2 with ⟨h1,h2⟩|⟨h1,h2⟩
    ·have e3:s2=s':=Option.some.inj (h1.symm.trans hs')
     subst e3
     have hvl:e.on < vs.length:=by rw [hl];exact (List.getElem?_eq_some_iff.1 hs2).1
     rw [eval_in a0 ss vs e.on s2 vs[e.on] hnd hl hs2 (by rw [hn];exact h2) (List.getElem?_eq_getElem hvl)]
     exact hV _ _ hLe (List.getElem?_eq_getElem hvl)
    ·have:(none:Option Nat)=some s':=h1.symm.trans hs'
     cases this
  have hUn:∀ v,∀ p,upd L i p=false→(vs.set i v)[p]? = (ss.map fun s=>a0.tmps.getD s undef)[p]?:=by
   intro v p hp
   unfold upd at hp
   by_cases e:p=i
   ·rw [if_pos e] at hp;cases hp
   ·rw [if_neg e] at hp
    rw [List.getElem?_set_ne (Ne.symm e)]
    exact hU p hp
  have hpre:∀ j s,(ops[j]?).bind (·.dst)=some s→(clo ops ops.size (B4 ops j)).contains i=true→(Au a0 ss vs).eval (.tmp s)=a0.eval (.tmp s):=by
   intro j s hj hc
   have hLj:L j=false:=by
    cases hq:L j with
    | false=>rfl
    | true=>
     have:=clo_done hD _ _ (fun x hx=>hD j hq x hx) i (by simpa using hc)
     rw [hL] at this
     cases this
   cases hoj:ops[j]? with
   | none=>rw [hoj] at hj;cases hj
   | some o2=>
    rw [hoj] at hj
    obtain ⟨s2,hs2,hds2⟩:=okSlots_at hss hoj
    rcases hds2 with ⟨h1,h2⟩|⟨h1,h2⟩
    ·have e3:s2=s:=Option.some.inj (h1.symm.trans hj)
     subst e3
     have hju:=hU j hLj
     rw [List.getElem?_map,hs2] at hju
     exact eval_in a0 ss vs j s2 _ hnd hl hs2 (by rw [hn];exact h2) hju
    ·have:(none:Option Nat)=some s:=h1.symm.trans hj
     cases this
  have hwant:o.guard=none→Region.wanted o (yielded ops (Au a0 ss vs).tmps)=true:=fun h=>by simp [Region.wanted,h]
  have hZb:∀ j,(Y j∨A j)→w0.heap.size≤j∧j < w.heap.size:=fun j h=>h.elim (hY j) (fun h=>⟨(hAb j h).1,(hAb j h).2.1⟩)
  have hout:∀ t,t ∉ ss→(Au a0 ss vs).eval (.tmp t)=a0.eval (.tmp t):=fun t ht=>eval_out _ _ _ _ ht
  have hsz:∀ s,s < n→s < (Au a0 ss vs).tmps.size:=fun t ht=>by rw [putAll_size,hn];exact ht
  have hnc:∀ {p:Nat},c.contains i=false→∀ j,c[j]? = some p→¬ p=i:=fun hci j hp e=>by
   subst e
   have:_ ∈ c:=List.mem_of_getElem? hp
   simp [this] at hci
  unfold StepQ at hst
  by_cases hci:c.contains i=true
  ·-- one of the chain
   obtain ⟨k',hk'⟩:=List.getElem?_of_mem (show i ∈ c by simpa using hci)
   have hkt:=hGk k' hk'
   subst hkt
   have hdrop:c.drop t.length=i :: c.drop (t.length+1):=by
    have hl2:=(List.getElem?_eq_some_iff.1 hk').1
    rw [List.drop_eq_getElem_cons hl2,(List.getElem?_eq_some_iff.1 hk').2]
   have hch:=hC w (Mod.refl _ _)
   rw [hdrop] at hch
   refine wpOp_mono ?_ (hch (fun j=>Y j∨A j) (Au a0 ss vs) (fun j h=>Or.inl h) hZb hout hsz (fun o' ho' e he hb s' hs'=>by
    rw [ho] at ho'
    cases ho'
    exact hpred e he hb s' hs') hpre)
   rintro a' w' ⟨o',v,Y',ho',rfl,hm',hYa,hYb,hv,hnext⟩
   rw [ho] at ho'
   cases ho'
   have hna:∀ r ∈ al,r.a≠i∧r.s≠i:=fun r hr=>⟨fun e=>(by have:=(hac2 r hr).1;rw [e,hci] at this;cases this),fun e=>(by have:=(hac2 r hr).2;rw [e,hci] at this;cases this)⟩
   have hmz:Mod (fun j=>(j < w0.heap.size∧S0 j)∨(w0.heap.size≤j∧(Y j∨A j))) w w':=hm'.mono fun j _ h=>h.elim (fun h=>Or.inl ⟨h.1,hSS _ _ h.2⟩) (fun h=>Or.inr ⟨(hY j h).1,Or.inl h⟩)
   refine ⟨vs.set i v,hput v,by simpa using hl,Y',A,t ++ [v],hmod.trans hm' (fun j _ h=>h.elim (fun h=>Or.inl ⟨h.1,hSS _ _ h.2⟩) (fun h=>Or.inr (hY j h).1)),(Mod.trans (hmod0.mono (fun j _ h=>h.elim (fun ⟨h1,k,h2,h3⟩=>Or.inl ⟨h1,k,(by rw [C3];omega),h3⟩) Or.inr)) hm' (fun j _ h=>h.elim (fun h=>Or.inl ⟨h.1,t.length,bA,h.2⟩) (fun h=>Or.inr (hY j h).1))),hLn,hDn,?_,fun j p hj hp=>?_,fun j p hj hp=>?_,
    (fun j h=>(hYb j h).elim (fun h=>⟨(hY j h).1,Nat.lt_of_lt_of_le (hY j h).2 hm'.size⟩) (fun h=>⟨C4 hmod.size h.1,h.2⟩)),(fun j h=>⟨(hAb j h).1,Nat.lt_of_lt_of_le (hAb j h).2.1 hm'.size,fun hn=>(hYb j hn).elim (hAb j h).2.2 (fun hn=>by have:=(hAb j h).2.1;omega)⟩),
    ?_,fun p u hp hu=>?_,hA.other hna (fun _ h=>h) (Or.inr ⟨v,rfl⟩) (fun q cc T hq hcs=>hcs.mod hm' (fun h=>h.elim (fun h=>by have:=(hAb q hq).1;omega) (hAb q hq).2.2)),hUn v⟩
   ·rw [C3]
    have:=(List.getElem?_eq_some_iff.1 hk').1
    simp;omega
   ·unfold upd
    by_cases e:p=i
    ·rw [if_pos e]
    ·rw [if_neg e]
     refine hk1 j p ?_ hp
     rw [C3] at hj
     simp at hj
     by_cases e2:j=t.length
     ·subst e2
      rw [hk'] at hp
      exact absurd (Option.some.inj hp).symm e
     ·omega
   ·rw [C3] at hj
    simp at hj
    unfold upd
    have e:¬ p=i:=fun e=>by subst e;have:=hGk j hp;omega
    rw [if_neg e]
    exact hk2 j p aL hp
   ·intro w'' h''
    rw [C3]
    exact hnext w'' h''
   ·by_cases e:p=i
    ·subst e
     rw [List.getElem?_set_self',List.getElem?_eq_getElem hlt] at hu
     simp at hu
     subst hu
     exact hv _ (fun j h=>h.elim Or.inl (fun h=>Or.inr (hAb j h).2.1))
    ·rw [List.getElem?_set_ne (Ne.symm e)] at hu
     unfold upd at hp
     rw [if_neg e] at hp
     exact (AllQ.get l stable p).on _ _ _ _ _ _ _ (hV p u hp hu) hmz (fun j h=>h.elim (fun h=>(hYb j h).elim (fun h=>Or.inl (Or.inl h)) (fun h=>Or.inr h.1)) (fun h=>Or.inl (Or.inr h))) (Or.inr ⟨v,rfl⟩)
  rw [if_neg hci] at hst
  have hci':c.contains i=false:=by simpa using hci
  by_cases hma:∃ r ∈ al,r.a=i
  ·-- a new variable is made
   obtain ⟨r,hr,rfl⟩:=hma
   rw [fa r hr] at hst
   obtain ⟨m0,m1,m2,m5⟩:=hst
   obtain ⟨info,hi,hz⟩:=(show ∃ info,P.info? r.T=some info∧info.zero=some (.agg r.z.toArray) by
    cases hq:P.info? r.T with
    | none=>rw [hq] at m2;cases m2
    | some i=>rw [hq] at m2;exact ⟨i,rfl,m2⟩)
   have hrun:(execOp (Au a0 ss vs).eval o).run P w=.ok (.value (.pointer (some ⟨w.heap.size,0,none⟩))) (w.alloc (.cells r.z.toArray r.T)):=ex_alloc (P:=P) (a:=Au a0 ss vs) (w:=w) m1 hi hz
   have hmal:Mod (fun _=>False) w (w.alloc (.cells r.z.toArray r.T)):=(Mod.refl _ _).alloc _
   have hsza:(w.alloc (.cells r.z.toArray r.T)).heap.size=w.heap.size+1:=by simp
   refine wpOp_step ho fun K' hK'=>?_
   rw [if_pos (hwant m0)]
   unfold Oper.wp
   rw [hrun]
   refine hK' _ _ ⟨vs.set r.a _,hput _,by simpa using hl,Y,fun j=>A j∨j=w.heap.size,t,hmod.trans hmal iB,(hmod0.trans hmal iB),hLn,hDn,hkl,fun j p hj hp=>?_,fun j p hj hp=>?_,
    (fun j h=>⟨(hY j h).1,by have:=(hY j h).2;omega⟩),(fun j h=>?_),(fun w'' h=>hC w'' (((Mod.refl _ w).alloc _).trans h iA)),fun p u hp hu=>?_,⟨fun r' hr' hL'=>?_,fun r1 hr1 r2 hr2 hne h1 h2=>?_⟩,hUn _⟩
   ·unfold upd;rw [if_neg (hnc hci' j hp)];exact hk1 j p hj hp
   ·unfold upd;rw [if_neg (hnc hci' j hp)];exact hk2 j p hj hp
   ·rcases h with h|rfl
    ·have:=hAb j h
     exact ⟨this.1,by omega,this.2.2⟩
    ·exact ⟨hmod.size,by omega,fun h=>by have:=(hY _ h).2;omega⟩
   ·by_cases e:p=r.a
    ·subst e;exact (hga r hr _ _ _ _).1
    ·rw [List.getElem?_set_ne (Ne.symm e)] at hu
     unfold upd at hp
     rw [if_neg e] at hp
     exact (AllQ.get l stable p).on _ _ _ _ _ _ _ (hV p u hp hu) (hmal.mono fun _ _ h=>h.elim) (fun j h=>h.elim (fun h=>Or.inl (Or.inl h)) (fun h=>h.elim (fun h=>Or.inl (Or.inr h)) (fun h=>Or.inr aL))) (Or.inl rfl)
   ·have hs1:upd L r.a r'.s=L r'.s:=by unfold upd;rw [if_neg (fun e=>hu3 r hr r' hr' e.symm)]
    by_cases e:r'.a=r.a
    ·obtain rfl:=hu1 r' hr' r hr e
     refine ⟨w.heap.size,by simp [hlt],Or.inr rfl,?_,?_⟩<;>rw [hs1]
     all_goals
      have hls0:L r'.s=false:=by
       cases hls:L r'.s with
       | false=>rfl
       | true=>
        have hos:∃ o',ops[r'.s]? = some o':=by
         cases hq:ops[r'.s]? with
         | some o'=>exact ⟨o',rfl⟩
         | none=>exact absurd hls (by rw [hLout r'.s (by simpa using hq)];decide)
        obtain ⟨o',ho'⟩:=hos
        have h9:=Each.get _ 0 step r'.s o' (by simpa using ho')
        rw [Nat.zero_add] at h9
        unfold StepQ at h9
        rw [if_neg (by rw [(hac2 r' hr').2];decide),fas r' hr',fs r' hr'] at h9
        obtain ⟨-,sa,y,-,-,-,hcl,-⟩:=h9
        have:=clo_done hD _ _ (fun x hx=>hD r'.s hls x hx) r'.a (by simpa using hcl)
        rw [hL] at this
        cases this
      rw [hls0]
     ·exact Cs.new _ _ _
     ·intro h;cases h
    ·have hL2:L r'.a=true:=by unfold upd at hL';rwa [if_neg e] at hL'
     obtain ⟨q,e1,e2,e3,e4⟩:=hA.at_ r' hr' hL2
     refine ⟨q,by rw [List.getElem?_set_ne (Ne.symm e)];exact e1,Or.inl e2,?_,?_⟩<;>rw [hs1]
     ·exact e3.alloc _
     ·exact e4
   ·have key:∀ r' ∈ al,r'.a≠r.a→L r'.a=true→vs[r'.a]?≠some (.pointer (some ⟨w.heap.size,0,none⟩)):=by
     intro r' hr' hne' hL' he
     obtain ⟨q,e1,e2,e3,_⟩:=hA.at_ r' hr' hL'
     rw [e1] at he
     have:=e3.lt
     cases he
     omega
    by_cases e1:r1.a=r.a
    ·have e2:r2.a≠r.a:=fun e=>hne (e1.trans e.symm)
     rw [e1,List.getElem?_set_self hlt,List.getElem?_set_ne (Ne.symm e2)]
     unfold upd at h2
     rw [if_neg e2] at h2
     exact fun he=>key r2 hr2 e2 h2 he.symm
    ·by_cases e2:r2.a=r.a
     ·rw [e2,List.getElem?_set_self hlt,List.getElem?_set_ne (Ne.symm e1)]
      unfold upd at h1
      rw [if_neg e1] at h1
      exact key r1 hr1 e1 h1
     ·rw [List.getElem?_set_ne (Ne.symm e1),List.getElem?_set_ne (Ne.symm e2)]
      unfold upd at h1 h2
      rw [if_neg e1] at h1
      rw [if_neg e2] at h2
      exact hA.ne r1 hr1 r2 hr2 hne h1 h2
  by_cases hsa:∃ r ∈ al,r.s=i
  ·-- a new variable is written
   obtain ⟨r,hr,rfl⟩:=hsa
   rw [fas r hr,fs r hr] at hst
   obtain ⟨m0,sa,y,hsl,hsn,hop,hcl,hval⟩:=hst
   have hLa:L r.a=true:=clo_done hD _ _ (fun x hx=>haf x hx) r.a (by simpa using hcl)
   obtain ⟨q,e1,e2,e3,_⟩:=hA.at_ r hr hLa
   rw [if_neg (by rw [hL];decide)] at e3
   obtain ⟨hrk,hy,hlen,hone⟩:=hval (fun j=>Y j∨A j) t (Au a0 ss vs) w hmod hout hsz hpred hpre
   have hoa:∃ oa,ops[r.a]? = some oa:=by
    cases hq:ops[r.a]? with
    | some o'=>exact ⟨o',rfl⟩
    | none=>rw [hq] at hsl;cases hsl
   obtain ⟨oa,hoa⟩:=hoa
   have h9:=Each.get _ 0 step r.a oa (by simpa using hoa)
   rw [Nat.zero_add] at h9
   unfold StepQ at h9
   rw [if_neg (by rw [(hac2 r hr).1];decide),fa r hr] at h9
   obtain ⟨-,-,-,hisz⟩:=h9
   have hev:(Au a0 ss vs).eval (.tmp sa)=.pointer (some ⟨q,0,none⟩):=by
    rw [hoa] at hsl
    obtain ⟨s2,hs2,hds2⟩:=okSlots_at hss hoa
    rcases hds2 with ⟨h1,h2⟩|⟨h1,h2⟩
    ·have e3:s2=sa:=Option.some.inj (h1.symm.trans hsl)
     subst e3
     exact eval_in a0 ss vs r.a s2 _ hnd hl hs2 (by rw [hn];exact h2) e1
    ·have:(none:Option Nat)=some sa:=h1.symm.trans hsl
     cases this
   have hrun:=ex_storeA (P:=P) hop e3 (off:=0) (vs:=r.c (t.take r.k)) (by rw [hisz,hlen]) hone (by simp [hlen]) hev hy
   rw [Aw _ _ (by simp [hlen])] at hrun
   have hmst:Mod (fun k=>k=q) w (w.setRow q (r.c (t.take r.k)).toArray):=setRow_Mod
   have hqb:=hAb q e2
   have hmy:Mod (fun j=>w0.heap.size≤j∧¬ Y j) w (w.setRow q (r.c (t.take r.k)).toArray):=hmst.mono fun k _ h=>by subst h;exact ⟨hqb.1,hqb.2.2⟩
   refine wpOp_step ho fun K' hK'=>?_
   rw [if_pos (hwant m0)]
   unfold Oper.wp
   rw [hrun]
   refine hK' _ _ ⟨vs.set r.s _,hput _,by simpa using hl,Y,A,t,hmod.trans hmy (fun j _ h=>Or.inr h.1),(hmod0.trans hmy (fun j _ h=>Or.inr h.1)),hLn,hDn,hkl,fun j p hj hp=>?_,fun j p hj hp=>?_,
    (fun j h=>⟨(hY j h).1,Nat.lt_of_lt_of_le (hY j h).2 hmst.size⟩),(fun j h=>⟨(hAb j h).1,Nat.lt_of_lt_of_le (hAb j h).2.1 hmst.size,(hAb j h).2.2⟩),(fun w'' h=>hC w'' (hmy.trans h iA)),fun p u hp hu=>?_,⟨fun r' hr' hL'=>?_,fun r1 hr1 r2 hr2 hne h1 h2=>?_⟩,hUn _⟩
   ·unfold upd;rw [if_neg (hnc hci' j hp)];exact hk1 j p hj hp
   ·unfold upd;rw [if_neg (hnc hci' j hp)];exact hk2 j p hj hp
   ·by_cases e:p=r.s
    ·subst e;exact (hga r hr _ _ _ _).2
    ·rw [List.getElem?_set_ne (Ne.symm e)] at hu
     unfold upd at hp
     rw [if_neg e] at hp
     exact (AllQ.get l stable p).on _ _ _ _ _ _ _ (hV p u hp hu) (hmst.mono fun k _ h=>by subst h;exact Or.inr ⟨hqb.1,Or.inr e2⟩) (fun j h=>Or.inl h) (Or.inl rfl)
   ·have ha1:r'.a≠r.s:=hu3 r' hr' r hr
    have hL2:L r'.a=true:=by unfold upd at hL';rwa [if_neg ha1] at hL'
    obtain ⟨q',e1',e2',e3',e4'⟩:=hA.at_ r' hr' hL2
    refine ⟨q',by rw [List.getElem?_set_ne (Ne.symm ha1)];exact e1',e2',?_,?_⟩
    ·by_cases e:r'.s=r.s
     ·obtain rfl:=hu2 r' hr' r hr e
      rw [e1] at e1'
      cases e1'
      unfold upd
      rw [if_pos rfl,if_pos rfl]
      exact setRow_Cs e3
     ·have:upd L r.s r'.s=L r'.s:=by unfold upd;rw [if_neg e]
      rw [this]
      have hq:q'≠q:=by
       rintro rfl
       refine hA.ne r' hr' r hr (fun ea=>?_) hL2 hLa (by rw [e1',e1])
       obtain rfl:=hu1 r' hr' r hr ea
       exact e rfl
      exact e3'.mod hmst hq
    ·intro h
     by_cases e:r'.s=r.s
     ·obtain rfl:=hu2 r' hr' r hr e
      exact hrk
     ·unfold upd at h
      rw [if_neg e] at h
      exact e4' h
   ·have a1:r1.a≠r.s:=hu3 r1 hr1 r hr
    have a2:r2.a≠r.s:=hu3 r2 hr2 r hr
    rw [List.getElem?_set_ne (Ne.symm a1),List.getElem?_set_ne (Ne.symm a2)]
    unfold upd at h1 h2
    rw [if_neg a1] at h1
    rw [if_neg a2] at h2
    exact hA.ne r1 hr1 r2 hr2 hne h1 h2
  -- beside the chain
  have na:al.find? (fun r=>r.a == i)=none:=by
   rw [List.find?_eq_none]
   intro r hr h
   exact hma ⟨r,hr,by simpa using h⟩
  have ns:al.find? (fun r=>r.s == i)=none:=by
   rw [List.find?_eq_none]
   intro r hr h
   exact hsa ⟨r,hr,by simpa using h⟩
  rw [na,ns] at hst
  refine wpOp_mono ?_ (hst (fun j=>Y j∨A j) t (Au a0 ss vs) w hZb hmod hmod0 hout hsz hpred hub hpre)
  rintro a' w' ⟨v,rfl,he,hv⟩
  have hmy:Mod (fun j=>w0.heap.size≤j∧¬ Y j) w w':=he.mod (fun j h=>Or.inl h)
  refine ⟨vs.set i v,hput v,by simpa using hl,Y,A,t,hmod.trans hmy (fun j _ h=>Or.inr h.1),(hmod0.trans hmy (fun j _ h=>Or.inr h.1)),hLn,hDn,hkl,fun j p hj hp=>?_,fun j p hj hp=>?_,
   (fun j h=>⟨(hY j h).1,Nat.lt_of_lt_of_le (hY j h).2 he.size⟩),(fun j h=>⟨(hAb j h).1,Nat.lt_of_lt_of_le (hAb j h).2.1 he.size,(hAb j h).2.2⟩),(fun w'' h=>hC w'' (hmy.trans h iA)),fun p u hp hu=>?_,
   hA.other (fun r hr=>⟨fun e=>hma ⟨r,hr,e⟩,fun e=>hsa ⟨r,hr,e⟩⟩) (fun _ h=>h) (Or.inl rfl) (fun q cc T hq hcs=>?_),hUn v⟩
  ·unfold upd;rw [if_neg (hnc hci' j hp)];exact hk1 j p hj hp
  ·unfold upd;rw [if_neg (hnc hci' j hp)];exact hk2 j p hj hp
  ·by_cases e:p=i
   ·subst e
    rw [List.getElem?_set_self',List.getElem?_eq_getElem hlt] at hu
    simp at hu
    subst hu
    exact hv
   ·rw [List.getElem?_set_ne (Ne.symm e)] at hu
    unfold upd at hp
    rw [if_neg e] at hp
    exact (AllQ.get l stable p).env _ _ _ _ _ (hV p u hp hu) he
  ·rcases he.block q hcs.lt with h|⟨-,h,-⟩
   ·exact h.trans hcs
   ·exact absurd (Or.inr hq) h
 ·rintro L vs w hL hl ⟨Y,A,t,hmod,hmod0,hLout,hD,hkl,hk1,hk2,hY,hAb,hC,hV,hA,hU⟩
  have hk:t.length=c.length:=by
   rcases Nat.lt_or_ge t.length c.length with h|h
   ·have h1:=hk2 t.length c[t.length] (C0 _) (List.getElem?_eq_getElem h)
    rw [hL c[t.length] (by simpa using List.all_eq_true.1 hcs _ (List.getElem_mem h))] at h1
    cases h1
   ·omega
  have hsl:ss.length=ops.size:=by
   unfold okSlots at hss
   rw [Bool.and_eq_true] at hss
   simpa using hss.1
  have h0:=hC w (Mod.refl _ _)
  rw [List.drop_of_length_le aL] at h0
  refine h0 vs hl ⟨fun j=>Y j∨A j,(fun j h=>Or.inl h),(fun j h=>h.elim (hY j) (fun h=>⟨(hAb j h).1,(hAb j h).2.1⟩)),fun p v hv=>hV p v (hL p (by have:=(List.getElem?_eq_some_iff.1 hv).1;omega)) hv⟩ (fun r hr=>?_) (fun r hr r' hr' hne=>hA.ne r hr r' hr' hne (hL _ (hals r hr).1) (hL _ (hals r' hr').1))
  obtain ⟨q,e1,e2,e3,_⟩:=hA.at_ r hr (hL _ (hals r hr).1)
  rw [if_pos (hL _ (hals r hr).2)] at e3
  exact ⟨q,e1,(hAb q e2).1,(hAb q e2).2.2,e3⟩
theorem Mod.two {S S':Nat→Prop} {a b c:World} (h:Mod S a b) (k:Mod S' b c):Mod (fun j=>S j∨S' j) a c:=
 ⟨k.os.trans h.os,k.tape.trans h.tape,k.output.trans h.output,C4 h.size k.size,fun i hi hn=>(k.block i (Nat.lt_of_lt_of_le hi h.size) (fun hS=>hn (Or.inr hS))).trans (h.block i hi (fun hS=>hn (Or.inl hS)))⟩
theorem Mod.after {S:Nat→Prop} {a b c:World} (h:Mod (fun _=>False) a b) (k:Mod S b c):Mod S a c:=(h.mono iB).trans k iA
variable {SS:Nat→Nat→Prop} {k:Nat} {a0:Act} {w0:World} {n:Nat} {ss:List Nat} {l:List QPred} {al:List QRow} {i:Nat} {c:List Nat} {o:Oper} {a:Act} {v:Value}
theorem QChain.nil (h:∀ vs,vs.length=ss.length→(∃ Z:Nat→Prop,(∀ j,Y j→Z j)∧(∀ j,Z j→B≤j∧j < w.heap.size)∧∀ p v,vs[p]? = some v→(l.getD p qa) Z t v w)→
 (∀ r ∈ al,∃ q,vs[r.a]? = some (.pointer (some ⟨q,0,none⟩))∧B≤q∧¬ Y q∧Cs w q (r.c (t.take r.k)).toArray r.T)→(∀ r ∈ al,∀ r' ∈ al,r.a≠r'.a→vs[r.a]?≠vs[r'.a]?)→Q .normal (Au a0 ss vs) w):QChain P ops Q a0 n ss B S0 SS l al [] k Y t w:=h
/-- what one of the chain leaves -/
def QPost (P:Program) (ops:Array Oper) (Q:Exit→Act→World→Prop) (a0:Act) (n:Nat) (ss:List Nat) (B:Nat) (S0:Nat→Prop) (SS:Nat→Nat→Prop) (l:List QPred) (al:List QRow) (i:Nat) (c:List Nat) (k:Nat) (Y:Nat→Prop) (t:List Value) (w:World) (v:Value) (w':World):Prop:=
 Mod (fun j=>(j < B∧SS k j)∨Y j) w w'∧(∀ Z,(l.getD i qa) Z (t ++ [v]) v w')∧
  ∀ w'',Mod (fun j=>B≤j∧¬ (Y j∨(w.heap.size≤j∧j < w'.heap.size))) w' w''→QChain P ops Q a0 n ss B S0 SS l al c (k+1) (fun j=>Y j∨(w.heap.size≤j∧j < w'.heap.size)) (t ++ [v]) w''
theorem QChain.cons (ho:ops[i]? = some o) (h:∀ Z a,(∀ j,Y j→Z j)→(∀ j,Z j→B≤j∧j < w.heap.size)→(∀ t,t ∉ ss→a.eval (.tmp t)=a0.eval (.tmp t))→(∀ s,s < n→s < a.tmps.size)→
 (∀ e ∈ o.after,Region.binds .any e=true→∀ s,(ops[e.on]?).bind (·.dst)=some s→(l.getD e.on qa) Z t (a.eval (.tmp s)) w)→
 (∀ j s,(ops[j]?).bind (·.dst)=some s→(clo ops ops.size (B4 ops j)).contains i=true→a.eval (.tmp s)=a0.eval (.tmp s))→
 wpOp P ops Q i (fun a' w'=>∃ v,a'=a.put o.dst v∧QPost P ops Q a0 n ss B S0 SS l al i c k Y t w v w') a w):QChain P ops Q a0 n ss B S0 SS l al (i :: c) k Y t w:=by
 intro Z a h1 h2 h3 h4 h5 h6
 refine wpOp_mono ?_ (h Z a h1 h2 h3 h4 (fun e he hb s hs=>h5 o ho e he hb s hs) h6)
 rintro a' w' ⟨v,h7,h8,h9,h10⟩
 exact ⟨o,v,fun j=>Y j∨(w.heap.size≤j∧j < w'.heap.size),ho,h7,h8,fun _ h=>Or.inl h,fun _ h=>h,fun Z _=>h9 Z,h10⟩
/-- the same; the blocks that this one makes are turned by nobody -/
def QPostP (P:Program) (ops:Array Oper) (Q:Exit→Act→World→Prop) (a0:Act) (n:Nat) (ss:List Nat) (B:Nat) (S0:Nat→Prop) (SS:Nat→Nat→Prop) (l:List QPred) (al:List QRow) (i:Nat) (c:List Nat) (k:Nat) (Y:Nat→Prop) (t:List Value) (w:World) (v:Value) (w':World):Prop:=
 Mod (fun j=>(j < B∧SS k j)∨Y j) w w'∧(∀ Z,(∀ j,Z j→Y j∨j < w.heap.size)→(l.getD i qa) Z (t ++ [v]) v w')∧
  ∀ w'',Mod (fun j=>B≤j∧¬ Y j) w' w''→QChain P ops Q a0 n ss B S0 SS l al c (k+1) Y (t ++ [v]) w''
theorem QChain.consP (ho:ops[i]? = some o) (h:∀ Z a,(∀ j,Y j→Z j)→(∀ j,Z j→B≤j∧j < w.heap.size)→(∀ t,t ∉ ss→a.eval (.tmp t)=a0.eval (.tmp t))→(∀ s,s < n→s < a.tmps.size)→
 (∀ e ∈ o.after,Region.binds .any e=true→∀ s,(ops[e.on]?).bind (·.dst)=some s→(l.getD e.on qa) Z t (a.eval (.tmp s)) w)→
 (∀ j s,(ops[j]?).bind (·.dst)=some s→(clo ops ops.size (B4 ops j)).contains i=true→a.eval (.tmp s)=a0.eval (.tmp s))→
 wpOp P ops Q i (fun a' w'=>∃ v,a'=a.put o.dst v∧QPostP P ops Q a0 n ss B S0 SS l al i c k Y t w v w') a w):QChain P ops Q a0 n ss B S0 SS l al (i :: c) k Y t w:=by
 intro Z a h1 h2 h3 h4 h5 h6
 refine wpOp_mono ?_ (h Z a h1 h2 h3 h4 (fun e he hb s hs=>h5 o ho e he hb s hs) h6)
 rintro a' w' ⟨v,h7,h8,h9,h10⟩
 exact ⟨o,v,Y,ho,h7,h8,fun _ h=>h,fun _ h=>Or.inl h,h9,h10⟩
theorem Ad (h:c.contains i=true):StepQ P ops Q a0 w0 n ss S0 SS l c al i o:=by unfold StepQ;rw [if_pos h];trivial
theorem Ay (h:c.contains i=false) (h0:al.find? (fun r=>r.a == i)=none) (h1:al.find? (fun r=>r.s == i)=none)
 (hs:∀ (Z:Nat→Prop) t a w,(∀ j,Z j→w0.heap.size≤j∧j < w.heap.size)→Mod (fun j=>(j < w0.heap.size∧S0 j)∨w0.heap.size≤j) w0 w→Mod (fun j=>(j < w0.heap.size∧∃ k,k < t.length∧SS k j)∨w0.heap.size≤j) w0 w→(∀ t,t ∉ ss→a.eval (.tmp t)=a0.eval (.tmp t))→(∀ s,s < n→s < a.tmps.size)→
  (∀ e ∈ o.after,Region.binds .any e=true→∀ s,(ops[e.on]?).bind (·.dst)=some s→(l.getD e.on qa) Z t (a.eval (.tmp s)) w)→(∀ k q,c[k]? = some q→(clo ops ops.size (B4 ops q)).contains i=true→t.length≤k)→(∀ j s,(ops[j]?).bind (·.dst)=some s→(clo ops ops.size (B4 ops j)).contains i=true→a.eval (.tmp s)=a0.eval (.tmp s))→
  wpOp P ops Q i (QJ w0.heap.size l Z i o t a w) a w):StepQ P ops Q a0 w0 n ss S0 SS l c al i o:=by
 unfold StepQ;rw [if_neg (by rw [h];decide),h0,h1];exact hs
theorem Bl (ho:ops[i]? = some o) (hw:Region.wanted o (yielded ops a.tmps)=true) (hr:(execOp a.eval o).run P w=.ok (.value v) w') (hm:QE B Z w w') (hv:(l.getD i qa) Z t v w'):wpOp P ops Q i (QJ B l Z i o t a w) a w:=by
 refine wpOp_step ho fun K' hK'=>?_
 rw [if_pos hw]
 unfold Oper.wp
 rw [hr]
 exact hK' _ _ ⟨v,rfl,hm,hv⟩
theorem qe_skip (ho:ops[i]? = some o) (hw:Region.wanted o (yielded ops a.tmps)=false) (hv:(l.getD i qa) Z t undef w):wpOp P ops Q i (QJ B l Z i o t a w) a w:=by
 refine wpOp_step ho fun K' hK'=>?_
 rw [if_neg (by rw [hw];decide)]
 exact hK' _ _ ⟨undef,rfl,QE.refl,hv⟩
theorem qe_call (ho:ops[i]? = some o) (hw:Region.wanted o (yielded ops a.tmps)=true) {f:FuncId} {args:Array Value} {post:Ending→World→Prop} (hr:(execOp a.eval o).run P w=.ok (.enter f args) w) (hcl:Calls P f args w post)
 (hp:∀ e w',post e w'→∃ v,e=.returned v∧QE B Z w w'∧(l.getD i qa) Z t v w'):wpOp P ops Q i (QJ B l Z i o t a w) a w:=by
 refine wpOp_step ho fun K' hK'=>?_
 rw [if_pos hw]
 unfold Oper.wp
 rw [hr]
 exact hcl.mono fun e w' he=>by
  obtain ⟨v,rfl,h1,h2⟩:=hp e w' he
  exact hK' _ _ ⟨v,rfl,h1,h2⟩
/-- an operation that is done only where a test says so -/
theorem qe_guard {b:Bool} (ho:ops[i]? = some o) (hw:Region.wanted o (yielded ops a.tmps)=b) {p:QPred} (hp:l.getD i qa=qc b p)
 (h1:b=true→∀ l',l'.getD i qa=p→wpOp P ops Q i (QJ B l' Z i o t a w) a w):wpOp P ops Q i (QJ B l Z i o t a w) a w:=by
 cases b with
 | false=>exact qe_skip ho hw (by rw [hp];exact ⟨(fun h=>by cases h),fun _=>rfl⟩)
 | true=>
  have h2:=h1 rfl (List.replicate i qa ++ [p]) (by simp [List.getD])
  refine wpOp_mono ?_ h2
  rintro a' w' ⟨v,h3,h4,h5⟩
  refine ⟨v,h3,h4,?_⟩
  rw [hp]
  refine ⟨fun _=>?_,fun h=>by cases h⟩
  simpa [List.getD] using h5
theorem Bu {KQ:Value→World→Prop} (ho:ops[i]? = some o) (hw:Region.wanted o (yielded ops a.tmps)=true) (hr:(execOp a.eval o).run P w=.ok (.value v) w') (h:KQ v w'):wpOp P ops Q i (fun a' w'=>∃ v,a'=a.put o.dst v∧KQ v w') a w:=by
 refine wpOp_step ho fun K' hK'=>?_
 rw [if_pos hw]
 unfold Oper.wp
 rw [hr]
 exact hK' _ _ ⟨v,rfl,h⟩
theorem qc_turn {KQ:Value→World→Prop} (ho:ops[i]? = some o) (hw:Region.wanted o (yielded ops a.tmps)=true) (hr:(execOp a.eval o).run P w=.ok .skip w') (h:KQ undef w'):wpOp P ops Q i (fun a' w'=>∃ v,a'=a.put o.dst v∧KQ v w') a w:=by
 refine wpOp_step ho fun K' hK'=>?_
 rw [if_pos hw]
 unfold Oper.wp
 rw [hr]
 exact hK' _ _ ⟨undef,rfl,h⟩
theorem qc_call {KQ:Value→World→Prop} (ho:ops[i]? = some o) (hw:Region.wanted o (yielded ops a.tmps)=true) {f:FuncId} {args:Array Value} {post:Ending→World→Prop} (hr:(execOp a.eval o).run P w=.ok (.enter f args) w) (hcl:Calls P f args w post)
 (hp:∀ e w',post e w'→∃ v,e=.returned v∧KQ v w'):wpOp P ops Q i (fun a' w'=>∃ v,a'=a.put o.dst v∧KQ v w') a w:=by
 refine wpOp_step ho fun K' hK'=>?_
 rw [if_pos hw]
 unfold Oper.wp
 rw [hr]
 exact hcl.mono fun e w' he=>by
  obtain ⟨v,rfl,h1⟩:=hp e w' he
  exact hK' _ _ ⟨v,rfl,h1⟩
/-- one of the chain stores -/
theorem Am {KQ:Value→World→Prop} {ty:TypeId} {x y:Operand} (ho:ops[i]? = some o) (hw:Region.wanted o (yielded ops a.tmps)=true) (hop:o.op=.store ty x y) {g off:Nat} {cs:Array Value} {e:TypeId} (hc:Cs w g cs e) {vs:List Value} (hi:(P.info? ty).map (·.size)=some vs.length) (h1:∀ u ∈ vs,u.oneCell'=true)
 (hfit:off+vs.length≤cs.size) (hx:a.eval x=.pointer (some ⟨g,off,none⟩)) (hy:(a.eval y).cells=vs.toArray) (h:∀ w',Cs w' g (lay cs off vs) e→Mod (fun k=>k=g) w w'→KQ undef w'):wpOp P ops Q i (fun a' w'=>∃ v,a'=a.put o.dst v∧KQ v w') a w:=
 qc_turn ho hw (ex_storeA hop hc hi h1 hfit hx hy) (h _ (setRow_Cs hc) setRow_Mod)
/-- one of the chain makes a new variable -/
theorem qc_alloc {KQ:Value→World→Prop} {ty:TypeId} (ho:ops[i]? = some o) (hw:Region.wanted o (yielded ops a.tmps)=true) (hop:o.op=.alloc ty) {z:List Value} (hz:(P.info? ty).bind (·.zero)=some (.agg z.toArray))
 (h:∀ w',Cs w' w.heap.size z.toArray ty→Mod (fun _=>False) w w'→KQ (.pointer (some ⟨w.heap.size,0,none⟩)) w'):wpOp P ops Q i (fun a' w'=>∃ v,a'=a.put o.dst v∧KQ v w') a w:=by
 obtain ⟨info,hi,hz⟩:=(show ∃ info,P.info? ty=some info∧info.zero=some (.agg z.toArray) by
  cases hq:P.info? ty with
  | none=>rw [hq] at hz;cases hz
  | some i=>rw [hq] at hz;exact ⟨i,rfl,hz⟩)
 exact Bu ho hw (ex_alloc hop hi hz) (h _ (Cs.new _ _ _) ((Mod.refl _ _).alloc _))
theorem Cs_newN (w:World) {k:Nat} (c:Array Value) (T:TypeId) (hk:w.heap.size=k):Cs (w.alloc (.cells c T)) k c T:=by subst hk;exact Cs.new _ _ _
theorem Be {A B':Bool} {u:Value} (h:A=true→u=.bool B'):(if A=true then u else .bool false)=.bool (A && B'):=by
 cases A with
 | true=>simp [h rfl]
 | false=>rfl
theorem or_val {A B':Bool} {u:Value} (h:A=false→u=.bool B'):(if A=true then .bool true else u)=.bool (A || B'):=by
 cases A with
 | true=>rfl
 | false=>simp [h rfl]
end
section
variable {w:World} {g:Nat} {T:TypeId} {pre mid post cs M:List Value} {off k m:Nat} {u:Value}
theorem AK (h:Cs w g cs.toArray T) (hM:(cs.drop off).take M.length=M):∀ j u,M[j]? = some u→w.cell? ⟨g,off+j,none⟩=some u:=by
 intro j u hu
 rw [h.cell]
 simp only [List.getElem?_toArray]
 rw [← hM,List.getElem?_take] at hu
 split at hu
 ·rwa [List.getElem?_drop] at hu
 ·cases hu
theorem AC (h:Cs w g cs.toArray T) (hu:cs[off]? = some u):w.cell? ⟨g,off,none⟩=some u:=by
 rw [h.cell];simpa using hu
theorem AN (h:Cs w g (pre ++ (mid ++ post)).toArray T) (hu:pre[off]? = some u):w.cell? ⟨g,off,none⟩=some u:=by
 rw [h.cell]
 simp only [List.getElem?_toArray]
 rw [List.getElem?_append_left (List.getElem?_eq_some_iff.1 hu).1]
 exact hu
theorem Cs.preA (h:Cs w g (pre ++ (mid ++ post)).toArray T) (hM:(pre.drop off).take M.length=M):∀ j u,M[j]? = some u→w.cell? ⟨g,off+j,none⟩=some u:=by
 intro j u hu
 refine AN h ?_
 rw [← hM,List.getElem?_take] at hu
 split at hu
 ·rwa [List.getElem?_drop] at hu
 ·cases hu
theorem Cs.midA (h:Cs w g (pre ++ (mid ++ post)).toArray T) (ho:off=pre.length):∀ j u,mid[j]? = some u→w.cell? ⟨g,off+j,none⟩=some u:=by
 intro j u hu
 subst ho
 rw [h.cell]
 simp only [List.getElem?_toArray]
 rw [List.getElem?_append_right aL,Nat.add_sub_cancel_left,List.getElem?_append_left (List.getElem?_eq_some_iff.1 hu).1]
 exact hu
theorem AL (h:Cs w g (pre ++ (mid ++ post)).toArray T) (hl:mid.length=m) (ho:off=pre.length+m+k) (hu:post[k]? = some u):w.cell? ⟨g,off,none⟩=some u:=by
 subst ho
 rw [h.cell]
 simp only [List.getElem?_toArray]
 rw [List.getElem?_append_right aL,List.getElem?_append_right aL,show pre.length+m+k - pre.length - mid.length=k by omega]
 exact hu
theorem Cs.hd1 (h:Cs w g (pre ++ mid).toArray T) (hu:pre[off]? = some u):w.cell? ⟨g,off,none⟩=some u:=by
 rw [h.cell]
 simp only [List.getElem?_toArray]
 rw [List.getElem?_append_left (List.getElem?_eq_some_iff.1 hu).1]
 exact hu
theorem Cs.tlA (h:Cs w g (pre ++ mid).toArray T) (ho:off=pre.length):∀ j u,mid[j]? = some u→w.cell? ⟨g,off+j,none⟩=some u:=by
 intro j u hu
 subst ho
 rw [h.cell]
 simp only [List.getElem?_toArray]
 rw [List.getElem?_append_right aL,Nat.add_sub_cancel_left]
 exact hu
theorem Cs.postA (h:Cs w g (pre ++ (mid ++ post)).toArray T) (hl:mid.length=m) (ho:off=pre.length+m+k) (hM:(post.drop k).take M.length=M):∀ j u,M[j]? = some u→w.cell? ⟨g,off+j,none⟩=some u:=by
 intro j u hu
 refine AL h hl (k:=k+j) aL ?_
 rw [← hM,List.getElem?_take] at hu
 split at hu
 ·rwa [List.getElem?_drop] at hu
 ·cases hu
end
theorem Rd.keepc {s:Nat} {w w':World} {v:Value} {n:Nat} {cs:List Value} (h:Rd s w v n cs) (hk:0 < n→∀ g,v.ownBlock=some g→∀ p u,p.block=g→w.cell? p=some u→w'.cell? p=some u):Rd s w' v n cs:=by
 obtain ⟨hl,ao,cap,rfl,h1,h2,h3,h4⟩:=h
 refine ⟨hl,ao,cap,rfl,h1,h2,h3,fun x hx j u hu=>⟨(h4 x hx j u hu).1,?_⟩⟩
 have hc:=(h4 x hx j u hu).2
 have hn:0 < n:=by
  rcases Nat.eq_zero_or_pos n with rfl|h
  ·have:cs=[]:=List.eq_nil_of_length_eq_zero dF
   subst this;simp at hu
  ·exact h
 have hb:(x.add j).block=x.block:=by unfold Addr.add;split<;>rfl
 subst hx
 exact hk hn x.block rfl _ _ hb hc
theorem Rd.lt {s:Nat} {w:World} {v:Value} {n:Nat} {cs:List Value} (h:Rd s w v n cs) (hs:0 < s) (hn:0 < n) {g:Nat} (hg:v.ownBlock=some g):g < w.heap.size:=by
 rcases h.form hs with ⟨h0,_⟩|⟨g',o,cap,_,rfl,_,_,hl,hc⟩
 ·omega
 ·simp [Value.ownBlock] at hg
  subst hg
  have hpos:0 < cs.length:=by rw [hl];exact Nat.mul_pos hn hs
  exact World.block_lt_of_cell? _ _ (hc 0 _ (List.getElem?_eq_getElem hpos))
/-- a kind of things: how many cells one has; which cells are one, in a world; what it holds lies in blocks of R -/
structure Rep (α:Type) where
 sz:Nat
 pos:0 < sz
 rd:(Nat→Prop)→World→List Value→α→Prop
 len:∀ {R w cs a},rd R w cs a→cs.length=sz
 one:∀ {R w cs a},rd R w cs a→∀ u ∈ cs,u.oneCell'=true
 keep:∀ {R w w' cs a},rd R w cs a→(∀ p u,R p.block→w.cell? p=some u→w'.cell? p=some u)→rd R w' cs a
 wid:∀ {R R':Nat→Prop} {w cs a},rd R w cs a→(∀ k,R k→R' k)→rd R' w cs a
 tight:∀ {R w cs a},rd R w cs a→rd (fun k=>R k∧k < w.heap.size) w cs a
namespace Rep
variable {α:Type} {A:Rep α} {R R' S:Nat→Prop} {w w':World} {cs:List Value} {a:α}
theorem mod (h:A.rd R w cs a) (hm:Mod S w w') (hs:∀ k,R k→S k→False):A.rd R w' cs a:=A.keep h fun p u hp hc=>hm.cell hc (fun hS=>hs _ hp hS)
end Rep
theorem Rep.rd.mod {α:Type} {A:Rep α} {R S:Nat→Prop} {w w':World} {cs:List Value} {a:α} (h:A.rd R w cs a) (hm:Mod S w w') (hs:∀ k,R k→S k→False):A.rd R w' cs a:=Rep.mod h hm hs
theorem Rep.rd.widen {α:Type} {A:Rep α} {R R':Nat→Prop} {w:World} {cs:List Value} {a:α} (h:A.rd R w cs a) (hs:∀ k,R k→R' k):A.rd R' w cs a:=A.wid h hs
/-- cells in the middle of a block -/
def CellsAt (R:Nat→Prop) (w:World) (g off:Nat) (cs:List Value):Prop:=R g∧∀ j u,cs[j]? = some u→w.cell? ⟨g,off+j,none⟩=some u
theorem CellsAt.mod {R S:Nat→Prop} {w w':World} {g off:Nat} {cs:List Value} (h:CellsAt R w g off cs) (hm:Mod S w w') (hs:∀ k,R k→S k→False):CellsAt R w' g off cs:=⟨h.1,fun j u hu=>hm.cell (h.2 j u hu) (hs _ h.1)⟩
/-- a flat kind: its cells say it all -/
def Rep.flat {α:Type} (sz:Nat) (hp:0 < sz) (cells:α→List Value) (ok:α→Prop) (hl:∀ a,ok a→(cells a).length=sz) (h1:∀ a,ok a→∀ u ∈ cells a,u.oneCell'=true):Rep α where
 sz:=sz
 pos:=hp
 rd _ _ cs a:=cs=cells a∧ok a
 len h:=by rw [h.1];exact hl _ h.2
 one h:=by rw [h.1];exact h1 _ h.2
 keep h _:=h
 wid h _:=h
 tight h:=h
/-- a slice of things, read -/
def RdS {α:Type} (A:Rep α) (R:Nat→Prop) (w:World) (v:Value) (l:List α):Prop:=
 ∃ css:List (List Value),css.length=l.length∧(∀ (i:Nat) cs a,css[i]? = some cs→l[i]? = some a→A.rd R w cs a)∧Rd A.sz w v l.length css.flatten∧(0 < l.length→∀ g,v.ownBlock=some g→R g)
/-- a slice of things that may be appended to: its own block is one of R, what its things hold lies in others, of E -/
def OwS {α:Type} (A:Rep α) (e:TypeId) (R E:Nat→Prop) (w:World) (v:Value) (l:List α):Prop:=
 ∃ css:List (List Value),css.length=l.length∧(∀ (i:Nat) cs a,css[i]? = some cs→l[i]? = some a→A.rd (fun k=>E k∧v.ownBlock≠some k) w cs a)∧Own (fun u=>u.oneCell'=true) e A.sz w v l.length css.flatten∧∀ g,v.ownBlock=some g→R g
section
variable {α:Type} {A:Rep α} {e:TypeId} {R R' S:Nat→Prop} {w w':World} {v:Value} {l:List α}
theorem flat_get {css:List (List Value)} {s:Nat} (h:∀ cs ∈ css,cs.length=s):∀ (i:Nat) (cs:List Value),css[i]? = some cs→∀ j u,cs[j]? = some u→css.flatten[i * s+j]? = some u:=by
 induction css with
 | nil=>intro i cs hi;simp at hi
 | cons c r ih=>
  intro i cs hi j u hu
  have hc:c.length=s:=h c bA
  cases i with
  | zero=>
   simp at hi
   subst hi
   rw [List.flatten_cons,Nat.zero_mul,Nat.zero_add,List.getElem?_append_left (List.getElem?_eq_some_iff.1 hu).1]
   exact hu
  | succ i=>
   simp at hi
   rw [List.flatten_cons,List.getElem?_append_right (by rw [hc,Nat.succ_mul];omega),hc,show (i+1) * s+j - s=i * s+j by rw [Nat.succ_mul];omega]
   exact ih (fun x hx=>h x (by simp [hx])) i cs hi j u hu
theorem flat_len {css:List (List Value)} {s:Nat} (h:∀ cs ∈ css,cs.length=s):css.flatten.length=css.length * s:=by
 induction css with
 | nil=>simp
 | cons c r ih=>rw [List.flatten_cons,C3,ih (fun x hx=>h x (by simp [hx])),h c bA,D6,Nat.succ_mul];omega
theorem css_len {css:List (List Value)} {P:List Value→α→Prop} (hl:css.length=l.length) (hP:∀ (i:Nat) cs a,css[i]? = some cs→l[i]? = some a→P cs a) {s:Nat} (hs:∀ cs a,P cs a→cs.length=s):∀ cs ∈ css,cs.length=s:=by
 intro cs hcs
 obtain ⟨i,hi⟩:=List.getElem?_of_mem hcs
 have h1:=(List.getElem?_eq_some_iff.1 hi).1
 exact hs cs _ (hP i cs l[i] hi (List.getElem?_eq_getElem aL))
theorem RdS.shape (h:RdS A R w v l):∃ ao cap,v=.slice ao l.length cap:=by
 obtain ⟨css,_,_,⟨_,ao,cap,e,_⟩,_⟩:=h;exact ⟨ao,cap,e⟩
theorem RdS.keep (h:RdS A R w v l) (hk:∀ p u,R p.block→w.cell? p=some u→w'.cell? p=some u):RdS A R w' v l:=by
 obtain ⟨css,h1,h2,h3,h4⟩:=h
 exact ⟨css,h1,fun i cs a hi hl=>A.keep (h2 i cs a hi hl) hk,h3.keepc fun h0 g hg p u hp hc=>hk p u (hp▸h4 h0 g hg) hc,h4⟩
theorem RdS.mod (h:RdS A R w v l) (hm:Mod S w w') (hs:∀ k,R k→S k→False):RdS A R w' v l:=h.keep fun p u hp hc=>hm.cell hc (fun hS=>hs _ hp hS)
theorem RdS.widen (h:RdS A R w v l) (hs:∀ k,R k→R' k):RdS A R' w v l:=by
 obtain ⟨css,h1,h2,h3,h4⟩:=h
 exact ⟨css,h1,fun i cs a hi hl=>A.wid (h2 i cs a hi hl) hs,h3,fun h0 g hg=>hs g (h4 h0 g hg)⟩
theorem RdS.tight (h:RdS A R w v l):RdS A (fun k=>R k∧k < w.heap.size) w v l:=by
 obtain ⟨css,h1,h2,h3,h4⟩:=h
 exact ⟨css,h1,fun i cs a hi hl=>A.tight (h2 i cs a hi hl),h3,fun h0 g hg=>⟨h4 h0 g hg,h3.lt A.pos h0 hg⟩⟩
theorem RdS.nil (A:Rep α) (R:Nat→Prop) (w:World):RdS A R w (.slice none 0 0) []:=⟨[],rfl,(fun i cs a h=>by simp at h),Rd.nil _ _,fun h=>by simp at h⟩
theorem RdS.bd (h:RdS A R w v l):l.length≤maxLen:=by
 obtain ⟨css,_,_,⟨_,ao,cap,_,h1,h2,_⟩,_⟩:=h;omega
/-- its i-th thing's cells -/
theorem RdS.at {ao:Option Addr} {n cap:Nat} (h:RdS A R w (.slice ao n cap) l) {i:Nat} (hi:i < l.length):∃ g o cs,ao=some ⟨g,o,none⟩∧R g∧A.rd R w cs l[i]∧∀ j u,cs[j]? = some u→w.cell? ⟨g,o+i * A.sz+j,none⟩=some u:=by
 obtain ⟨css,h1,h2,h3,h4⟩:=h
 rcases h3.form A.pos with ⟨h0,_⟩|⟨g,o,cap',h0,e,_,_,hl,hc⟩
 ·omega
 ·simp only [Value.slice.injEq] at e
  obtain ⟨rfl,rfl,rfl⟩:=e
  have hi2:i < css.length:=by omega
  refine ⟨g,o,css[i],rfl,h4 h0 g rfl,h2 i _ _ (List.getElem?_eq_getElem hi2) (List.getElem?_eq_getElem hi),fun j u hu=>?_⟩
  have:=flat_get (css_len h1 h2 (fun cs a h=>A.len h)) i _ (List.getElem?_eq_getElem hi2) j u hu
  rw [Nat.add_assoc]
  exact hc _ _ this
/-- its first things -/
theorem RdS.upto {ao:Option Addr} {n cap:Nat} (h:RdS A R w (.slice ao n cap) l) (k:Nat) (hk:k≤l.length):RdS A R w (.slice ao k cap) (l.take k):=by
 obtain ⟨css,h1,h2,⟨hl,ao',cap',e,g1,g2,g3,g4⟩,h4⟩:=h
 simp only [Value.slice.injEq] at e
 obtain ⟨rfl,rfl,rfl⟩:=e
 have hcl:=css_len h1 h2 (fun cs a h=>A.len h)
 have el:(l.take k).length=k:=by simp;omega
 have ef:(css.take k).flatten=css.flatten.take (k * A.sz):=by
  have h5:css.flatten=(css.take k).flatten ++ (css.drop k).flatten:=by rw [← List.flatten_append,List.take_append_drop]
  have h6:(css.take k).flatten.length=k * A.sz:=by rw [flat_len (fun x hx=>hcl x (List.mem_of_mem_take hx))];congr 1;simp;omega
  rw [h5,← h6,List.take_left]
 refine ⟨css.take k,by simp;omega,fun i cs a hi ha=>?_,?_,fun h0 g hg=>h4 (by simp at h0;omega) g (by cases ao<;>exact hg)⟩
 ·rw [List.getElem?_take] at hi ha
  split at hi
  ·rename_i hik
   rw [if_pos hik] at ha
   exact h2 i cs a hi ha
  ·cases hi
 ·rw [el,ef]
  refine ⟨?_,ao,cap,rfl,by omega,g2,g3,fun x hx j u hu=>g4 x hx j u ?_⟩
  ·rw [List.length_take,flat_len hcl,h1]
   exact Nat.min_eq_left (Nat.mul_le_mul_right _ hk)
  ·rw [List.getElem?_take] at hu
   split at hu
   ·exact hu
   ·cases hu
theorem OwS.rd {E:Nat→Prop} (h:OwS A e R E w v l):RdS A (fun k=>R k∨E k) w v l:=by
 obtain ⟨css,h1,h2,h3,h4⟩:=h
 exact ⟨css,h1,fun i cs a hi hl=>A.wid (h2 i cs a hi hl) (fun k hk=>Or.inr hk.1),Own.rd h3,fun _ g hg=>Or.inl (h4 g hg)⟩
theorem OwS.shape {E:Nat→Prop} (h:OwS A e R E w v l):∃ ao cap,v=.slice ao l.length cap:=h.rd.shape
theorem OwS.mod {E:Nat→Prop} (h:OwS A e R E w v l) (hm:Mod S w w') (hs:∀ k,R k→S k→False) (hs2:∀ k,E k→S k→False):OwS A e R E w' v l:=by
 obtain ⟨css,h1,h2,h3,h4⟩:=h
 exact ⟨css,h1,fun i cs a hi hl=>Rep.mod (h2 i cs a hi hl) hm (fun k hk=>hs2 k hk.1),Own.mod h3 hm (fun g hg hS=>hs g (h4 g hg) hS),h4⟩
theorem OwS.widen {E E':Nat→Prop} (h:OwS A e R E w v l) (hs:∀ k,R k→R' k) (hs2:∀ k,E k→E' k):OwS A e R' E' w v l:=by
 obtain ⟨css,h1,h2,h3,h4⟩:=h
 exact ⟨css,h1,fun i cs a hi hl=>A.wid (h2 i cs a hi hl) (fun k hk=>⟨hs2 k hk.1,hk.2⟩),h3,fun g hg=>hs g (h4 g hg)⟩
theorem OwS.nil (A:Rep α) (e:TypeId) (R E:Nat→Prop) (w:World):OwS A e R E w (.slice none 0 0) []:=⟨[],rfl,(fun i cs a h=>by simp at h),Own.nil _ _ _ _,fun g hg=>by cases hg⟩
/-- one thing in a block of its own, as a slice -/
theorem AI {g:Nat} {T:TypeId} {cs:List Value} {a:α} (hc:Cs w g cs.toArray T) (ha:A.rd R w cs a) (hg:R g):RdS A R w (.slice (some ⟨g,0,none⟩) 1 1) [a]:=by
 refine ⟨[cs],rfl,fun i c b hi hb=>?_,?_,fun _ g' hg'=>by cases hg';exact hg⟩
 ·cases i with
  | zero=>simp at hi hb;subst hi hb;exact ha
  | succ i=>simp at hi
 ·have hl:=A.len ha
  refine Rd.mk (C0 _) dR (by simp [hl]) fun j u hu=>?_
  rw [Nat.zero_add,hc.cell]
  simpa using hu
theorem run_appS {P:Program} {E R2:Nat→Prop} (w:World) (t ty e:TypeId) (z:Value) (bytes:Nat) (ht:P.underlying t=some (.slice e)) (hinfo:(P.info? e).map (fun i=>(i.zero,i.size,i.bytes))=some (some z,A.sz,bytes)) (hzs:z.cells.size=A.sz) (hzE:∀ u ∈ z.cells.toList,u.oneCell'=true)
 {v xv:Value} {new:List α} (hown:OwS A e R E w v l) (hrd:RdS A R2 w xv new) (hd:∀ k,R2 k→v.ownBlock≠some k) (hbytes:(l.length+new.length) * bytes≤140737488355328) (h63:l.length+new.length≤maxLen) :
 ∃ ao cap w',(Builtin.append_ #[t,t] ty #[v,xv]).run P w=.ok (.slice ao (l.length+new.length) cap) w'∧OwS A e (fun k=>R k∨(w.heap.size≤k∧k < w'.heap.size)) (fun k=>E k∨R2 k) w' (.slice ao (l.length+new.length) cap) (l ++ new)∧Mod R w w':=by
 obtain ⟨i0,hi,hz0,hz1,hz2⟩:=info_parts hinfo
 obtain ⟨css,h1,h3,h4,h5⟩:=hown
 obtain ⟨css2,k1,k2,k3,k4⟩:=hrd
 have hone:∀ u ∈ css2.flatten,u.oneCell'=true:=by
  intro u hu
  obtain ⟨cs,hcs,hu⟩:=List.mem_flatten.1 hu
  obtain ⟨i,hi⟩:=List.getElem?_of_mem hcs
  have h9:=(List.getElem?_eq_some_iff.1 hi).1
  exact A.one (k2 i cs new[i] hi (List.getElem?_eq_getElem aL)) u hu
 obtain ⟨ao,cap,w',hr,hown,hm,hb⟩:=run_append (P:=P) w t ty e i0 z A.sz bytes ht hi hz0 hz1 hz2 hzs A.pos hzE v l.length css.flatten h4 xv new.length css2.flatten k3 hone hone hbytes h63
 have hnb:∀ k,k < w.heap.size→v.ownBlock≠some k→(Value.slice ao (l.length+new.length) cap).ownBlock≠some k:=by
  intro k hk hne he
  rcases hb with hb|⟨k',hb,hk'⟩
  ·exact hne (hb▸he)
  ·rw [hb] at he;cases he;omega
 refine ⟨ao,cap,w',hr,⟨css ++ css2,by simp [h1,k1],fun i cs a hi ha=>?_,?_,fun g hg=>?_⟩,hm.mono fun k _ hk=>h5 k hk.symm⟩
 ·by_cases hil:i < l.length
  ·rw [List.getElem?_append_left aL] at hi ha
   have:=Rep.mod (A.tight (h3 i cs a hi ha)) hm (fun k hk hS=>hk.1.2 hS.symm)
   exact A.wid this fun k hk=>⟨Or.inl hk.1.1,hnb k hk.2 hk.1.2⟩
  ·rw [List.getElem?_append_right aL] at hi ha
   rw [h1] at hi
   have:=Rep.mod (A.tight (k2 _ cs a hi ha)) hm (fun k hk hS=>hd k hk.1 hS.symm)
   exact A.wid this fun k hk=>⟨Or.inr hk.1,hnb k hk.2 (hd k hk.1)⟩
 ·rw [C3,List.flatten_append]
  exact hown
 ·rcases hb with hb|⟨k,hb,hk⟩
  ·exact Or.inl (h5 g (hb▸hg))
  ·rw [hb] at hg
   cases hg
   exact Or.inr ⟨hk,Own.lt hown hb⟩
end
end Go.Gv
namespace Go.Proofs.YtnaoeginonpicaaGreat
open Go Go.RowKit Go.Gv
def within (v n:Int):Int:=if n < 1 then 0 else v % n
theorem within_tmod (v n:Int) (hn:1≤n):within v n=if v.tmod n < 0 then v.tmod n+n else v.tmod n:=by
 unfold within
 rw [if_neg aL]
 have h1:=Int.emod_nonneg v (b:=n) aL
 have h2:=Int.emod_lt_of_pos v (b:=n) aL
 rw [Int.tmod_eq_emod]
 split<;>split<;>omega
theorem within_range (v n:Int) (hn:1≤n):0≤within v n∧within v n < n:=by
 unfold within
 rw [if_neg aL]
 exact ⟨Int.emod_nonneg v aL,Int.emod_lt_of_pos v aL⟩
theorem Within_any (v n:Int) (hn:1≤n) (hn2:n≤9223372036854775807) (_hv:-9223372036854775808≤v∧v≤9223372036854775807) (w:World) :
 Calls Tryz.prog 8 #[.int .i64 v,.int .i64 n] w fun e w'=>e=.returned (.int .i64 (within v n))∧w=w':=by
 have hh:=within_tmod v n hn
 have hl:-n < v.tmod n∧v.tmod n < n:=by
  have h1:=Int.emod_nonneg v (b:=n) aL
  have h2:=Int.emod_lt_of_pos v (b:=n) aL
  rw [Int.tmod_eq_emod]
  split<;>omega
 have HH:=B8 hh;clear hh
 go_enter Tryz.func8,Tryz.ntmps8
 go_wp2
 all_goals go_ret
 ·exact ⟨ret_int (by rw [HH.o,if_pos gU]),rfl⟩
 ·exact ⟨ret_int (by rw [HH.o,if_neg aL]),rfl⟩
theorem Copy_any (v:Value) (bs:List Int) (w:World) (hr:RdB w v bs) (hl:bs.length≤Room) :
 Calls Tryz.prog 20 #[v] w fun e w'=>∃ ao cap,e=.returned (.slice ao bs.length cap)∧OwnB w' (.slice ao bs.length cap) bs∧Fresh w (.slice ao bs.length cap)∧Mod (fun _=>False) w w':=by
 have Hl:=B8 (show ([]:List Int).length+bs.length≤Room by simpa using hl)
 clear hl
 go_enter Tryz.func20,Tryz.ntmps20
 go_wp2_with (at_builtin;refine wpList_appB rfl (.const (.slice none 0 0)) (.tmp 3) rfl rfl (OwnB.nil _) (new:=bs) rfl hr Hl.o ?_)
 intro ao cap w1 happ
 have HA:=B8 happ
 clear happ
 go_wp2
 go_ret
 obtain ⟨h1,h2,h3⟩:=HA.o
 simp only [D5,Nat.zero_add] at *
 refine ⟨ao,cap,rfl,h1,?_,h2.mono (fun k _ hk=>by simp [Value.ownBlock] at hk)⟩
 intro g hg
 rcases h3 with h3|⟨k,h3,hk⟩
 ·rw [h3] at hg;cases hg
 ·rw [h3] at hg;simp at hg;omega
theorem Cut_any (ao:Option Addr) (len cap:Nat) (bs:List Int) (n:Nat) (w:World) (hr:RdB w (.slice ao len cap) bs) (hn:n≤1000000) :
 Calls Tryz.prog 9 #[.slice ao len cap,.int .i64 n] w fun e w'=>∃ ao cap,e=.returned (.slice ao (bs.take n).length cap)∧OwnB w' (.slice ao (bs.take n).length cap) (bs.take n)∧Fresh w (.slice ao (bs.take n).length cap)∧Mod (fun _=>False) w w':=by
 obtain ⟨rfl,hlc,hcm⟩:=hr.len
 rw [Ax] at hcm
 by_cases h:bs.length≤n
 ·have key:=fun w=>fun hr=>Copy_any (.slice ao bs.length cap) (bs.take n) w hr (by simp;unfold Room;omega)
  have hr':RdB w (.slice ao bs.length cap) (bs.take n):=by rw [List.take_of_length_le h];exact hr
  have K:=B8 key
  clear key
  generalize bs.take n=ds at *
  go_enter Tryz.func9,Tryz.ntmps9
  go_wp2_with (go_at_call 20;go_must (refine (K.o _ hr').mono ?_);rintro e w1 ⟨ao1,cap1,rfl,h1,h2,h3⟩;have H1:=B8 h1;have H2:=B8 h2;have H3:=B8 h3;clear h1 h2 h3)
  go_ret
  exact ⟨ao1,cap1,rfl,H1.o,H2.o,H3.o⟩
 ·have key:=fun w=>fun hr=>Copy_any (.slice ao n cap) (bs.take n) w hr (by simp;unfold Room;omega)
  have hr':RdB w (.slice ao n cap) (bs.take n):=hr.upto n aL
  have K:=B8 key
  clear key
  generalize bs.take n=ds at *
  go_enter Tryz.func9,Tryz.ntmps9
  go_wp2_with (go_at_call 20;go_must (refine (K.o _ hr').mono ?_);rintro e w1 ⟨ao1,cap1,rfl,h1,h2,h3⟩;have H1:=B8 h1;have H2:=B8 h2;have H3:=B8 h3;clear h1 h2 h3)
  go_ret
  exact ⟨ao1,cap1,rfl,H1.o,H2.o,H3.o⟩
theorem Same_any (va vb:Value) (a b:List Int) (w:World) (ha:RdB w va a) (hb:RdB w vb b) :
 Calls Tryz.prog 17 #[va,vb] w fun e w'=>e=.returned (.bool (decide (a=b)))∧∃ n,w'=w.drewN n:=by
 by_cases hl:a.length=b.length
 ·rcases ha.form with ⟨rfl,ao,ca,rfl,_⟩|⟨ga,oa,ca,na,rfl,la,ma,hca⟩
  ·obtain rfl:b=[]:=List.eq_nil_of_length_eq_zero (by simpa using hl.symm)
   obtain ⟨bo,cb,rfl,_,_⟩:=hb.shape
   go_enter Tryz.func17,Tryz.ntmps17
   go_wp2
   refine wp_loop_rounds 1 ?_
   rw [rounds_succ]
   go_wp2
   go_ret
   exact ⟨Bw bA,0,rfl⟩
  rcases hb.form with ⟨rfl,bo,cb,rfl,_⟩|⟨gb,ob,cb,nb,rfl,lb,mb,hcb⟩
  ·rw [D5] at hl;omega
  ·rw [Ax] at ma mb
   have hle:((a.length:Int) != b.length)=false:=by simp [hl]
   have Hl:=B8 hl
   clear hl ha hb
   go_enter Tryz.func17,Tryz.ntmps17
   go_wp2
   go_loopw [5] (fun i wr=>∃ k:Nat,k≤a.length∧i=.int .i64 k∧a.take k=b.take k∧∃ n,wr=w.drewN n) (fun i _=>a.length - (intOf i).toNat)
   case atStart=>exact ⟨0,Nat.zero_le _,rfl,rfl,0,rfl⟩
   case round=>
    obtain ⟨k,hk,rfl,htk,n,rfl⟩:=hrel
    have Htk:=B8 htk
    clear htk
    by_cases hlt:k < a.length
    ·have hltb:k < b.length:=by rw [← Hl.o];exact hlt
     have c1:=hca k hlt
     have c2:=hcb k hltb
     clear hca hcb
     by_cases he:a[k]=b[k]
     ·have hne:(a[k] != b[k])=false:=by simp [he]
      have He:=B8 he
      clear he
      go_wp2
      go_quiet (fail)
      go_wp2
      go_roundw
      case rel=>exact ⟨k+1,by omega,by go_num,by rw [List.take_succ_eq_append_getElem hlt,List.take_succ_eq_append_getElem hltb,Htk.o,He.o],_,rfl⟩
      case measure=>simp [intOf];omega
     ·have hne:(a[k] != b[k])=true:=by simp [he]
      have He:=B8 he
      clear he
      go_wp2
      go_quiet (fail)
      go_wp2
      go_ret
      refine ⟨Bw ?_,_,World.drewN_drewN _ _ _⟩
      have:¬ a=b:=fun h=>He.o (by subst h;rfl)
      simp [this]
    ·go_wp2
     go_ret
     refine ⟨Bw ?_,_,rfl⟩
     have h1:=Htk.o
     rw [List.take_of_length_le aL,List.take_of_length_le (by have:=Hl.o;omega)] at h1
     simp [h1]
 ·have hle:((a.length:Int) != b.length)=true:=by simp;omega
  have hd:decide (a=b)=false:=by simp;intro h;subst h;exact hl rfl
  rw [hd]
  clear hd hl
  obtain ⟨ao,ca,rfl,_,_⟩:=ha.shape
  obtain ⟨bo,cb,rfl,_,_⟩:=hb.shape
  clear ha hb
  go_enter Tryz.func17,Tryz.ntmps17
  go_wp2
  go_ret
  exact ⟨rfl,0,rfl⟩
/-! ### what a reader answers: its state is 'none' once it has failed, else the bytes that are left -/
def B2:Nat→Nat→List Int→Option (Nat × List Int)
 | _,_,[]=>none
 | i,acc,c :: cs=>
  if i=9∧1 < c then none
  else if c < 128 then (if c=0∧0 < i then none else some (acc+c.toNat * 2 ^ (7 * i),cs))
  else B2 (i+1) (acc+(c.toNat - 128) * 2 ^ (7 * i)) cs
abbrev RSt:=Option (List Int)
def rNum:RSt→Nat × RSt
 | none=>(0,none)
 | some bs=>match B2 0 0 bs with
  | some (n,r)=>(n,some r)
  | none=>(0,none)
def Bm (n:Nat):RSt→List Int × RSt
 | none=>([],none)
 | some bs=>if bs.length < n then ([],none) else (bs.take n,some (bs.drop n))
def rInt (most:Int) (s:RSt):Nat × RSt:=
 if (rNum s).2.isNone∨most < 0∨most < (rNum s).1 then (0,none) else rNum s
def rRow (most:Int) (s:RSt):List Int × RSt:=Bm (rInt most s).1 (rInt most s).2
def A6 (s:RSt):List Int × RSt:=
 match Bm 32 s with
 | (_,none)=>(List.replicate 32 0,none)
 | (b,some r)=>(b,some r)
/-- a reader: its bytes, whether it has failed -/
def Rr (T:TypeId) (w:World) (r:Nat) (v:Value) (s:RSt):Prop:=Cs w r #[v,.bool s.isNone] T∧RdB w v (s.getD [])∧Apart v (s.getD []).length (fun k=>k=r)
/-- what has become of a reader: its slice lies where it lay -/
def RrTo (T:TypeId) (w:World) (r:Nat) (v:Value) (s:RSt) (w':World):Prop:=
 ∃ v',Rr T w' r v' s∧Mod (fun k=>k=r) w w'∧(0 < (s.getD []).length→v'.ownBlock=v.ownBlock)
theorem Rr.mod {T:TypeId} {S:Nat→Prop} {w w':World} {r:Nat} {v:Value} {s:RSt} (h:Rr T w r v s) (hm:Mod S w w') (hr:¬ S r) (hv:Apart v (s.getD []).length S):Rr T w' r v s:=
 ⟨h.1.mod hm hr,h.2.1.mod hm hv,h.2.2⟩
theorem RrTo.trans {T:TypeId} {w w1 w2:World} {r:Nat} {v v1:Value} {s1 s2:RSt} (hm:Mod (fun k=>k=r) w w1) (hb:0 < (s1.getD []).length→v1.ownBlock=v.ownBlock)
 (h:RrTo T w1 r v1 s2 w2) (hl:(s2.getD []).length≤(s1.getD []).length):RrTo T w r v s2 w2:=by
 obtain ⟨v2,h1,h2,h3⟩:=h
 exact ⟨v2,h1,hm.trans h2 iA,fun h=>(h3 h).trans (hb aL)⟩
theorem Rr_tail {T:TypeId} {w w1:World} {r:Nat} {v v2:Value} {s s2:RSt} (hc:Cs w r #[v,.bool s.isNone] T) (hap:Apart v (s.getD []).length (fun k=>k=r))
 (hr2:RdB w v2 (s2.getD [])) (hb:0 < (s2.getD []).length→v2.ownBlock=v.ownBlock) (hm:Mod (fun _=>False) w w1) (hl:(s2.getD []).length≤(s.getD []).length:=by simp) (hs:s.isNone=s2.isNone:=by rfl) :
 RrTo T w r v s2 (w1.setCell ⟨r,0,none⟩ v2):=by
 have hap2:Apart v2 (s2.getD []).length (fun k=>k=r):=fun h g hg=>hap aL g (by rw [← hb h];exact hg)
 rw [hs] at hc
 refine ⟨v2,⟨(hc.mod hm id).set 0 v2,?_,hap2⟩,Mod.setCell (S:=fun k=>k=r) (hm.mono iB) (fun _=>rfl) _,hb⟩
 have m2:Mod (fun k=>k=r) w (w1.setCell ⟨r,0,none⟩ v2):=Mod.setCell (S:=fun k=>k=r) (hm.mono iB) (fun _=>rfl) _
 exact hr2.mod m2 hap2
theorem NewReader_any (v:Value) (bs:List Int) (w:World) (hr:RdB w v bs) (hl:bs.length≤Room) :
 Calls Tryz.prog 40 #[v] w fun e w'=>∃ r v',e=.returned (.pointer (some ⟨r,0,none⟩))∧w.heap.size≤r∧Rr 132 w' r v' (some bs)∧(0 < bs.length→∀ g,v'.ownBlock=some g→w.heap.size≤g)∧Mod (fun _=>False) w w':=by
 have Hl:=B8 (show ([]:List Int).length+bs.length≤Room by simpa using hl)
 clear hl
 go_enter Tryz.func40,Tryz.ntmps40
 go_wp2_with (at_builtin;go_must (refine wpList_appB rfl (.const (.slice none 0 0)) (.tmp 3) rfl rfl (OwnB.nil _) (new:=bs) rfl hr Hl.o ?_))
 intro ao cap w1 happ
 have HA:=B8 happ
 clear happ
 go_wp2
 go_ret
 obtain ⟨h1,h2,h3⟩:=HA.o
 simp only [D5,Nat.zero_add] at *
 have hfr:∀ g,(Value.slice ao bs.length cap).ownBlock=some g→w.heap.size≤g:=by
  intro g hg
  rcases h3 with h3|⟨k,h3,hk⟩
  ·rw [h3] at hg;cases hg
  ·rw [h3] at hg;simp at hg;omega
 have hm:Mod (fun _=>False) w w1:=h2.mono (fun k _ hk=>by simp [Value.ownBlock] at hk)
 refine ⟨w1.heap.size,.slice ao bs.length cap,rfl,hm.size,⟨Cs.new w1 _ _,h1.rd.alloc _,?_⟩,fun _=>hfr,hm.alloc _⟩
 intro _ g hg e
 have:=Own.lt h1 hg
 omega
theorem fail_any (r:Nat) (v:Value) (s:RSt) (w:World) (hR:Rr 132 w r v s) :
 Calls Tryz.prog 90 #[.pointer (some ⟨r,0,none⟩)] w fun e w'=>e=.returned (.tuple #[])∧RrTo 132 w r v none w':=by
 obtain ⟨hc,hr,ha⟩:=hR
 have c0:w.cell? ⟨r,0,none⟩=some v:=(hc.cell 0).trans rfl
 have c1:w.cell? ⟨r,1,none⟩=some (.bool s.isNone):=(hc.cell 1).trans rfl
 have f0:=hc.frozen 0
 have f1:=hc.frozen 1
 have HC:=B8 hc
 clear hc hr ha
 go_enter Tryz.func90,Tryz.ntmps90
 go_wp2
 go_end0
 refine ⟨rfl,.slice none 0 0,⟨((HC.o.set 0 (.slice none 0 0)).set 1 (.bool true)),RdB.nil _,Apart.zero⟩,((Mod.refl (fun k=>k=r) w).setCell (fun _=>rfl) _).setCell (fun _=>rfl) _,fun h=>by simp at h⟩
theorem OK_any (r:Nat) (v:Value) (s:RSt) (w:World) (hR:Rr 132 w r v s) :
 Calls Tryz.prog 43 #[.pointer (some ⟨r,0,none⟩)] w fun e w'=>e=.returned (.bool s.isSome)∧w=w':=by
 have c1:w.cell? ⟨r,1,none⟩=some (.bool s.isNone):=(hR.1.cell 1).trans rfl
 cases s
 all_goals
  simp only [Option.isNone_none,Option.isNone_some] at c1
  go_enter Tryz.func43,Tryz.ntmps43
  go_wp2
  go_ret
  exact ⟨rfl,rfl⟩
theorem Left_any (r:Nat) (v:Value) (s:RSt) (w:World) (hR:Rr 132 w r v s) :
 Calls Tryz.prog 44 #[.pointer (some ⟨r,0,none⟩)] w fun e w'=>e=.returned (.int .i64 (s.getD []).length)∧w=w':=by
 have c0:w.cell? ⟨r,0,none⟩=some v:=(hR.1.cell 0).trans rfl
 obtain ⟨ao,cap,rfl,_,_⟩:=hR.2.1.shape
 clear hR
 generalize s.getD []=bs at *
 go_enter Tryz.func44,Tryz.ntmps44
 go_wp2
 go_ret
 exact ⟨rfl,rfl⟩
theorem take_fails (r:Nat) (n:Nat) (v:Value) (s:RSt) (w:World) (hR:Rr 132 w r v s) (_hn:n≤1000000000) (hlt:(s.getD []).length < n) :
 Calls Tryz.prog 123 #[.pointer (some ⟨r,0,none⟩),.int .i64 n] w fun e w'=>e=.returned (.slice none 0 0)∧RrTo 132 w r v none w':=by
 have c0:w.cell? ⟨r,0,none⟩=some v:=(hR.1.cell 0).trans rfl
 have HR:=B8 (fail_any r v s w hR)
 obtain ⟨ao,cap,rfl,hlc,hcm⟩:=hR.2.1.shape
 clear hR
 generalize (s.getD []).length=m at *
 go_enter Tryz.func123,Tryz.ntmps123
 go_wp2_with fail
 refine HR.o.mono ?_
 rintro e w1 ⟨rfl,hR1⟩
 have HR1:=B8 hR1
 clear hR1
 go_wp2
 go_ret
 exact ⟨rfl,HR1.o⟩
theorem take_works (r:Nat) (n:Nat) (v:Value) (s:RSt) (w:World) (hR:Rr 132 w r v s) (hn:n≤(s.getD []).length) (hn2:n≤1000000000) :
 Calls Tryz.prog 123 #[.pointer (some ⟨r,0,none⟩),.int .i64 n] w fun e w'=>∃ v',e=.returned v'∧OwnB w' v' ((s.getD []).take n)∧Fresh w v'∧RrTo 132 w r v (s.map (List.drop n)) w':=by
 have c0:w.cell? ⟨r,0,none⟩=some v:=(hR.1.cell 0).trans rfl
 have f0:=hR.1.frozen 0
 have hlt:=hR.1.lt
 obtain ⟨hc,hr,hap⟩:=hR
 have hgd:(s.map (List.drop n)).getD []=(s.getD []).drop n:=by cases s<;>simp
 have hns:s.isNone=(s.map (List.drop n)).isNone:=by cases s<;>rfl
 have HGD:=B8 hgd
 have HNS:=B8 hns
 clear hgd hns
 have HC:=B8 hc
 have HAP0:=B8 hap
 clear hc
 generalize hl:s.getD []=l at *
 have HL:=B8 hl
 clear hl
 obtain ⟨ao,cap,rfl,hlc,hcm⟩:=hr.shape
 rw [Ax] at hcm
 have hup:=hr.upto n hn
 have Hroom:=B8 (show ([]:List Int).length+(l.take n).length≤Room by simp;unfold Room;omega)
 have HUP:=B8 hup
 have HR:=B8 hr
 have el:(l.take n).length=n:=by simp;omega
 have EL:=B8 el
 clear hup hr hap el
 go_enter Tryz.func123,Tryz.ntmps123
 go_wp2_with (at_builtin;go_must (refine wpList_appB rfl (.const (.slice none 0 0)) (.tmp 20) rfl rfl (OwnB.nil _) (new:=l.take n) rfl HUP.o Hroom.o ?_))
 intro ao1 cap1 w1 happ
 have hm:Mod (fun _=>False) w w1:=happ.2.1.mono (fun k _ hk=>by simp [Value.ownBlock] at hk)
 have hc1:=HC.o.mod hm id
 have c1:w1.cell? ⟨r,0,none⟩=some (.slice ao l.length cap):=(hc1.cell 0).trans rfl
 have f1:=hc1.frozen 0
 have HA:=B8 happ
 have HM:=B8 hm
 have HC1:=B8 hc1
 clear happ hm hc1
 go_wp2
 all_goals go_ret
 ·obtain ⟨h1,_,h3⟩:=HA.o
  have hcap:cap=n:=by assumption
  subst hcap
  have HR2:=HR.o.tail_at cap hn rfl
  refine ⟨.slice ao1 cap cap1,rfl,?_,?_,?_⟩
  ·refine Own.other h1 ?_ _
   intro g hg e
   rcases h3 with h3|⟨k,h3,hk⟩
   ·rw [h3] at hg;cases hg
   ·rw [h3] at hg;simp at hg;simp only at e;omega
  ·intro g hg
   rcases h3 with h3|⟨k,h3,hk⟩
   ·rw [h3] at hg;cases hg
   ·rw [h3] at hg;simp at hg;omega
  ·exact Rr_tail HC.o (by rw [HL.o];exact HAP0.o) (by rw [HGD.o];exact HR2) (fun h=>by rw [HGD.o] at h;simp at h;omega) HM.o (by rw [HGD.o,HL.o];simp) HNS.o
 ·obtain ⟨h1,_,h3⟩:=HA.o
  have hcap:¬ cap=n:=by assumption
  have HR2:=HR.o.tail_in n hn hcap
  refine ⟨.slice ao1 n cap1,rfl,?_,?_,?_⟩
  ·refine Own.other h1 ?_ _
   intro g hg e
   rcases h3 with h3|⟨k,h3,hk⟩
   ·rw [h3] at hg;cases hg
   ·rw [h3] at hg;simp at hg;simp only at e;omega
  ·intro g hg
   rcases h3 with h3|⟨k,h3,hk⟩
   ·rw [h3] at hg;cases hg
   ·rw [h3] at hg;simp at hg;omega
  ·exact Rr_tail HC.o (by rw [HL.o];exact HAP0.o) (by rw [HGD.o];exact HR2) (fun _=>ownBlock_map _ _ _ _ _ _) HM.o (by rw [HGD.o,HL.o];simp) HNS.o
theorem take_any (r:Nat) (n:Nat) (v:Value) (s:RSt) (w:World) (hR:Rr 132 w r v s) (hn:n≤1000000000) :
 Calls Tryz.prog 123 #[.pointer (some ⟨r,0,none⟩),.int .i64 n] w fun e w'=>∃ v',e=.returned v'∧OwnB w' v' (Bm n s).1∧Fresh w v'∧RrTo 132 w r v (Bm n s).2 w':=by
 by_cases h:(s.getD []).length < n
 ·have hs:Bm n s=([],none):=by
   cases s with
   | none=>rfl
   | some l=>simp at h;simp [Bm,h]
  rw [hs]
  exact (take_fails r n v s w hR hn h).mono fun e w' ⟨he,hR'⟩=>⟨_,he,OwnB.nil _,fun g hg=>(by cases hg),hR'⟩
 ·have hs:Bm n s=((s.getD []).take n,s.map (List.drop n)):=by
   cases s with
   | none=>simp [Bm]
   | some l=>simp at h;simp [Bm,h]
  rw [hs]
  exact take_works r n v s w hR aL hn
theorem mask7 (x:Nat):x &&& 127=x % 128:=Nat.and_two_pow_sub_one_eq_mod x 7
theorem andNot128 {c:Int} (h0:0≤c) (h1:c < 256):bits .andNot .u8 c 128=((c.toNat % 128:Nat):Int):=by
 rw [u8_andNot c 128 h0 h1 aL aL]
 exact congrArg Int.ofNat (mask7 c.toNat)
theorem and128_lo {c:Int} (h0:0≤c) (h1:c < 128):(bits .and .u8 c 128 == 0)=true:=by
 rw [u8_and c 128 h0 aL aL aL]
 have d:∀ x,x < 128→x &&& 128=0:=by decide
 have:=d c.toNat aL
 simp [this]
theorem and128_hi {c:Int} (h0:128≤c) (h1:c < 256):(bits .and .u8 c 128 == 0)=false:=by
 rw [u8_and c 128 aL aL aL aL]
 have d:∀ x,x < 256→128≤x→x &&& 128=128:=by decide
 have:=d c.toNat aL aL
 simp [this]
theorem or_nat (acc k d:Nat) (hacc:acc < 2 ^ (7 * k)) (hk:k≤9) (hd:d < 128) (h9:k=9→d≤1) :
 bits .or .u64 (acc:Int) (IntKind.u64.wrap (IntKind.u64.wrap (d:Int) * 2 ^ (7 * k)))=((acc+d * 2 ^ (7 * k):Nat):Int):=by
 have hp:d * 2 ^ (7 * k) < 18446744073709551616:=by
  have:k=0∨k=1∨k=2∨k=3∨k=4∨k=5∨k=6∨k=7∨k=8∨k=9:=by omega
  rcases this with rfl|rfl|rfl|rfl|rfl|rfl|rfl|rfl|rfl|rfl
  all_goals (try have:=h9 rfl)
  all_goals (simp only [Nat.reduceMul,Nat.reducePow];omega)
 have ha:acc < 18446744073709551616:=by
  have:2 ^ (7 * k)≤2 ^ 63:=Nat.pow_le_pow_right aM aL
  omega
 have w1:IntKind.u64.wrap (d:Int)=d:=by simp only [IntKind.wrap,IntKind.bits,IntKind.signed];simp<;>omega
 have e2:(d:Int) * 2 ^ (7 * k)=((d * 2 ^ (7 * k):Nat):Int):=by rw [Int.natCast_mul,Int.natCast_pow];rfl
 have w2:∀ n:Nat,n < 18446744073709551616→IntKind.u64.wrap (n:Int)=n:=by
  intro n hn;simp only [IntKind.wrap,IntKind.bits,IntKind.signed];simp;omega
 rw [w1,e2,w2 _ hp,u64_or_nat acc _ ha hp]
 rw [Nat.or_comm,nat_join (7 * k) (d * 2 ^ (7 * k)) acc (Nat.mul_mod_left _ _) hacc,Nat.add_comm]
theorem or_step (acc k:Nat) (c:Int) (hacc:acc < 2 ^ (7 * k)) (hk:k≤9) (h0:0≤c) (h1:c < 256) (h9:k=9→c≤1) :
 bits .or .u64 (acc:Int) (IntKind.u64.wrap (IntKind.u64.wrap (bits .andNot .u8 c 128) * 2 ^ (7 * k)))=((acc+(c.toNat % 128) * 2 ^ (7 * k):Nat):Int):=by
 rw [andNot128 h0 h1]
 exact or_nat acc k _ hacc hk aL (fun h=>by have:=h9 h;omega)
theorem acc_lt (acc k d:Nat) (hacc:acc < 2 ^ (7 * k)) (hd:d < 128):acc+d * 2 ^ (7 * k) < 2 ^ (7 * (k+1)):=by
 have e:2 ^ (7 * (k+1))=128 * 2 ^ (7 * k):=by rw [Nat.mul_add,Nat.pow_add,Nat.mul_comm]
 have:(d+1) * 2 ^ (7 * k)≤128 * 2 ^ (7 * k):=Nat.mul_le_mul_right _ aL
 rw [Nat.add_mul,Nat.one_mul] at this
 omega
theorem drop_cons {l:List Int} {k:Nat} (h:k < l.length) {c:Int} (hc:l[k]=c):l.drop k=c :: l.drop (k+1):=by
 rw [List.drop_eq_getElem_cons h,hc]
theorem rNum_none {l:List Int} (h:B2 0 0 l=none):rNum (some l)=(0,none):=by simp [rNum,h]
theorem rNum_some {l:List Int} {n:Nat} {r:List Int} (h:B2 0 0 l=some (n,r)):rNum (some l)=(n,some r):=by simp [rNum,h]
set_option maxHeartbeats 1000000 in
theorem RNum_good (r:Nat) (v:Value) (l:List Int) (w:World) (hR:Rr 132 w r v (some l)) :
 Calls Tryz.prog 80 #[.pointer (some ⟨r,0,none⟩)] w fun e w'=>e=.returned (.int .u64 ((rNum (some l)).1:Nat))∧RrTo 132 w r v (rNum (some l)).2 w':=by
 have c0:w.cell? ⟨r,0,none⟩=some v:=(hR.1.cell 0).trans rfl
 have f0:=hR.1.frozen 0
 have hlt:=hR.1.lt
 have hr:=hR.2.1
 have hfail:=fail_any r v (some l) w hR
 simp only [Option.getD_some] at hr
 generalize hres:rNum (some l)=res at *
 have HRES:=B8 hres
 clear hres
 rcases hr.form with ⟨rfl,ao,cap,rfl,_⟩|⟨g,o,cap,hpos,rfl,hlc,hcm,hcell⟩
 ·have HF:=B8 hfail
  have HE:=B8 (show res=(0,none) from HRES.o.symm.trans (rNum_none (l:=[]) rfl))
  clear hfail hR hr
  go_enter Tryz.func80,Tryz.ntmps80
  go_wp2
  refine wp_loop_rounds 1 ?_
  rw [rounds_succ]
  go_wp2_with (go_at_call 90;go_must (refine HF.o.mono ?_);rintro e w1 ⟨rfl,hR1⟩;have HR1:=B8 hR1;clear hR1)
  go_ret
  exact ⟨by rw [HE.o];rfl,by rw [HE.o];exact HR1.o⟩
 ·rw [Ax] at hcm
  have HR:=B8 hR
  have HF:=B8 hfail
  clear hR hr hfail
  go_enter Tryz.func80,Tryz.ntmps80
  go_wp2
  go_loop [3,4,5,11] (fun n _ _ i=>∃ (k acc:Nat),k≤l.length∧k≤9∧acc < 2 ^ (7 * k)∧i=.int .i64 k∧n=.int .u64 acc∧B2 k acc (l.drop k)=B2 0 0 l) (fun _ _ _ i=>l.length - (intOf i).toNat)
  case atStart=>exact ⟨0,0,by omega,by omega,by simp,rfl,rfl,by simp⟩
  case round=>
   obtain ⟨k,acc,hk,hk9,hacc,rfl,rfl,hdec⟩:=hrel
   have HD:=B8 hdec
   have HACC:=B8 hacc
   clear hdec hacc
   by_cases hltk:k < l.length
   ·have hc:=hcell k hltk
    have hb:0≤l[k]∧l[k] < 256:=HR.o.2.1.1.get hltk
    obtain ⟨hb0,hb1⟩:=hb
    generalize hck:l[k]=c at *
    have HCK:=B8 hck
    clear hck hcell
    by_cases hk8:k=9∧1 < c
    ·obtain ⟨rfl,hc1⟩:=hk8
     have hd:B2 0 0 l=none:=by rw [← HD.o,drop_cons hltk HCK.o];simp [B2,hc1]
     have HE:=B8 (show res=(0,none) from HRES.o.symm.trans (rNum_none hd))
     clear hd
     go_wp2_with (go_at_call 90;go_must (refine HF.o.mono ?_);rintro e w1 ⟨rfl,hR1⟩;have HR1:=B8 hR1;clear hR1)
     go_ret
     exact ⟨by rw [HE.o];rfl,by rw [HE.o];exact HR1.o⟩
    ·have hn9:k=9→c≤1:=fun h=>by omega
     have HN9:=B8 hn9
     have hdec1:B2 k acc (l.drop k)=if c < 128 then (if c=0∧0 < k then none else some (acc+c.toNat * 2 ^ (7 * k),l.drop (k+1))) else B2 (k+1) (acc+(c.toNat - 128) * 2 ^ (7 * k)) (l.drop (k+1)):=by
      rw [drop_cons hltk HCK.o,B2,if_neg hk8]
     have HD1:=B8 hdec1
     clear hdec1 hn9
     have hcase:(((k:Int) == 9)=false)∨(((k:Int) == 9)=true∧c≤1):=by
      by_cases h:k=9
      ·right;exact ⟨by simp [h],by omega⟩
      ·left;simp;omega
     clear hk8
     by_cases hc128:c < 128
     ·have ht:=and128_lo hb0 hc128
      by_cases hz:c=0∧0 < k
      ·obtain ⟨rfl,hk0⟩:=hz
       have hd:B2 0 0 l=none:=by rw [← HD.o,HD1.o];simp [hk0]
       have HE:=B8 (show res=(0,none) from HRES.o.symm.trans (rNum_none hd))
       clear hd
       rcases hcase with hcase|⟨hcase,hcase2⟩
       all_goals
        go_wp2_with (go_at_call 90;go_must (refine HF.o.mono ?_);rintro e w1 ⟨rfl,hR1⟩;have HR1:=B8 hR1;clear hR1)
        go_ret
        exact ⟨by rw [HE.o];rfl,by rw [HE.o];exact HR1.o⟩
      ·have hd:B2 0 0 l=some (acc+c.toNat * 2 ^ (7 * k),l.drop (k+1)):=by rw [← HD.o,HD1.o,if_pos hc128,if_neg hz]
       have HE:=B8 (show res=(acc+c.toNat * 2 ^ (7 * k),some (l.drop (k+1))) from HRES.o.symm.trans (rNum_some hd))
       have hval:=or_step acc k c HACC.o hk9 hb0 hb1 HN9.o
       rw [show c.toNat % 128=c.toNat by omega] at hval
       have HV:=B8 hval
       clear hd hval
       have hz2:(c == 0)=false∨((c == 0)=true∧k≤0∧((k:Int) == 9)=false):=by
        by_cases h:c=0
        ·right;exact ⟨by simp [h],by omega,by simp;omega⟩
        ·left;simp [h]
       clear hz
       rcases hz2 with hz2|⟨hz2,hk0,hk09⟩
       ·rcases hcase with hcase|⟨hcase,hcase2⟩
        all_goals
         go_wp2
         all_goals go_ret
         all_goals
          refine ⟨?_,?_⟩
          ·rw [HE.o];exact ret_int HV.o
          ·rw [HE.o]
           by_cases hcap:cap=k+1
           ·first|(exfalso;exact absurd hcap gU)|(subst hcap;exact Rr_tail HR.o.1 HR.o.2.2 (s2:=some (l.drop (k+1))) (RdB.tail_at HR.o.2.1 (k+1) fD rfl) (fun h=>by simp at h;omega) (Mod.refl _ _))
           ·first|(exfalso;exact absurd gU hcap)|(exact Rr_tail HR.o.1 HR.o.2.2 (s2:=some (l.drop (k+1))) (RdB.tail_in HR.o.2.1 (k+1) fD hcap) (fun _=>rfl) (Mod.refl _ _))
       ·clear hcase
        go_wp2
        all_goals go_ret
        all_goals
         refine ⟨?_,?_⟩
         ·rw [HE.o];exact ret_int HV.o
         ·rw [HE.o]
          by_cases hcap:cap=k+1
          ·first|(exfalso;exact absurd hcap gU)|(subst hcap;exact Rr_tail HR.o.1 HR.o.2.2 (s2:=some (l.drop (k+1))) (RdB.tail_at HR.o.2.1 (k+1) fD rfl) (fun h=>by simp at h;omega) (Mod.refl _ _))
          ·first|(exfalso;exact absurd gU hcap)|(exact Rr_tail HR.o.1 HR.o.2.2 (s2:=some (l.drop (k+1))) (RdB.tail_in HR.o.2.1 (k+1) fD hcap) (fun _=>rfl) (Mod.refl _ _))
     ·have ht:=and128_hi aL hb1
      have hk9':((k:Int) == 9)=false:=by rcases hcase with h|⟨h,h2⟩;exact h;omega
      have hval:=or_step acc k c HACC.o hk9 hb0 hb1 HN9.o
      have hk8:k < 9:=by simp at hk9';omega
      have HV:=B8 hval
      clear hval hcase
      go_wp2
      go_round
      case rel=>
       refine ⟨k+1,acc+(c.toNat - 128) * 2 ^ (7 * k),by omega,by omega,acc_lt _ _ _ HACC.o aL,by go_num,?_,?_⟩
       ·rw [HV.o,show c.toNat % 128=c.toNat - 128 by omega]
       ·rw [← HD.o,HD1.o,if_neg hc128]
      case measure=>simp [intOf];omega
   ·have hd:B2 0 0 l=none:=by rw [← HD.o,List.drop_of_length_le aL];rfl
    have HE:=B8 (show res=(0,none) from HRES.o.symm.trans (rNum_none hd))
    clear hd
    go_wp2_with (go_at_call 90;go_must (refine HF.o.mono ?_);rintro e w1 ⟨rfl,hR1⟩;have HR1:=B8 hR1;clear hR1)
    go_ret
    exact ⟨by rw [HE.o];rfl,by rw [HE.o];exact HR1.o⟩
theorem RNum_bad (r:Nat) (v:Value) (w:World) (hR:Rr 132 w r v none) :
 Calls Tryz.prog 80 #[.pointer (some ⟨r,0,none⟩)] w fun e w'=>e=.returned (.int .u64 0)∧RrTo 132 w r v none w':=by
 have c0:w.cell? ⟨r,0,none⟩=some v:=(hR.1.cell 0).trans rfl
 have hfail:=fail_any r v none w hR
 obtain ⟨ao,cap,rfl,_,_⟩:=hR.2.1.shape
 have HF:=B8 hfail
 clear hfail hR
 simp only [Option.getD_none,D5] at c0 HF
 simp only [Option.getD_none,D5]
 go_enter Tryz.func80,Tryz.ntmps80
 go_wp2
 refine wp_loop_rounds 1 ?_
 rw [rounds_succ]
 go_wp2_with (go_at_call 90;go_must (refine HF.o.mono ?_);rintro e w1 ⟨rfl,hR1⟩;have HR1:=B8 hR1;clear hR1)
 go_ret
 exact ⟨rfl,HR1.o⟩
theorem RNum_any (r:Nat) (v:Value) (s:RSt) (w:World) (hR:Rr 132 w r v s) :
 Calls Tryz.prog 80 #[.pointer (some ⟨r,0,none⟩)] w fun e w'=>e=.returned (.int .u64 ((rNum s).1:Nat))∧RrTo 132 w r v (rNum s).2 w':=by
 cases s with
 | none=>exact RNum_bad r v w hR
 | some l=>exact RNum_good r v l w hR
theorem decGo_lt:∀ (l:List Int) (i acc n:Nat) (rest:List Int),i≤9→acc < 2 ^ (7 * i)→(∀ c ∈ l,0≤c∧c < 256)→B2 i acc l=some (n,rest)→n < U64:=by
 intro l
 induction l with
 | nil=>intro i acc n rest _ _ _ h;cases h
 | cons c cs ih=>
  intro i acc n rest hi ha hb h
  have hc:=hb c (List.mem_cons_self ..)
  rw [B2] at h
  by_cases h1:i=9∧1 < c
  ·rw [if_pos h1] at h;cases h
  ·rw [if_neg h1] at h
   by_cases h2:c < 128
   ·rw [if_pos h2] at h
    by_cases h3:c=0∧0 < i
    ·rw [if_pos h3] at h;cases h
    ·rw [if_neg h3] at h
     simp only [Option.some.injEq,Prod.mk.injEq] at h
     obtain ⟨rfl,_⟩:=h
     by_cases h9:i=9
     ·subst h9
      have hle:c.toNat≤1:=by omega
      have:c.toNat * 2 ^ (7 * 9)≤1 * 2 ^ (7 * 9):=Nat.mul_le_mul_right _ hle
      unfold U64
      simp only [Nat.reduceMul,Nat.reducePow] at *
      omega
     ·have:=acc_lt acc i c.toNat ha aL
      have h2:2 ^ (7 * (i+1))≤2 ^ 63:=Nat.pow_le_pow_right aM aL
      unfold U64
      simp only [Nat.reducePow] at h2
      omega
   ·rw [if_neg h2] at h
    exact ih (i+1) _ n rest aL (acc_lt acc i _ ha aL) (fun x hx=>hb x (List.mem_cons_of_mem _ hx)) h
theorem decGo_rest:∀ (l:List Int) (i acc n:Nat) (rest:List Int),B2 i acc l=some (n,rest)→∃ k,1≤k∧k≤l.length∧rest=l.drop k:=by
 intro l
 induction l with
 | nil=>intro i acc n rest h;cases h
 | cons c cs ih=>
  intro i acc n rest h
  rw [B2] at h
  split at h
  ·cases h
  ·split at h
   ·split at h
    ·cases h
    ·simp only [Option.some.injEq,Prod.mk.injEq] at h
     exact ⟨1,by omega,by simp,by simp [h.2]⟩
   ·obtain ⟨k,h1,h2,h3⟩:=ih _ _ _ _ h
    exact ⟨k+1,by omega,by simpa using h2,by simpa using h3⟩
theorem rNum_lt {s:RSt} (hb:Bytes (s.getD [])):(rNum s).1 < U64:=by
 cases s with
 | none=>simp [rNum,U64]
 | some l=>
  simp only [rNum]
  split
  ·rename_i n r h;exact decGo_lt l 0 0 n r aL bA hb h
  ·simp [U64]
theorem RInt_any (r:Nat) (most:Int) (v:Value) (s:RSt) (w:World) (hR:Rr 132 w r v s) (hm:-9223372036854775808≤most∧most≤9223372036854775807) :
 Calls Tryz.prog 42 #[.pointer (some ⟨r,0,none⟩),.int .i64 most] w fun e w'=>e=.returned (.int .i64 ((rInt most s).1:Nat))∧RrTo 132 w r v (rInt most s).2 w':=by
 have hlt:=rNum_lt hR.2.1.1
 have key:=RNum_any r v s w hR
 generalize hres:rNum s=res at *
 obtain ⟨n,s1⟩:=res
 have hI:rInt most s=if s1.isNone∨most < 0∨most < n then (0,none) else (n,s1):=by simp [rInt,hres]
 rw [hI]
 clear hI hres
 simp only at key hlt
 have K:=B8 key
 clear key
 obtain ⟨hm0,hm1⟩:=hm
 unfold U64 at hlt
 cases s1 with
 | none=>
  simp only [Option.isNone_none,true_or,↓reduceIte]
  go_enter Tryz.func42,Tryz.ntmps42
  go_wp2_with fail
  refine K.o.mono ?_
  rintro e w1 ⟨rfl,v1,hR1,hm1,hb1⟩
  have c1:w1.cell? ⟨r,1,none⟩=some (.bool true):=(hR1.1.cell 1).trans rfl
  have HF:=B8 (fail_any r v1 none w1 hR1)
  have HM1:=B8 hm1
  have HB1:=B8 hb1
  clear hR1 hm1 hb1
  go_wp2_with fail
  refine HF.o.mono ?_
  rintro e w2 ⟨rfl,hR2⟩
  have HR2:=B8 hR2
  clear hR2
  go_wp2
  go_ret
  exact ⟨rfl,RrTo.trans HM1.o HB1.o HR2.o bA⟩
 | some l1=>
  rcases Int.lt_or_le most 0 with h2|h2
  ·rw [if_pos (Or.inr (Or.inl h2))]
   go_enter Tryz.func42,Tryz.ntmps42
   go_wp2_with fail
   refine K.o.mono ?_
   rintro e w1 ⟨rfl,v1,hR1,hm1,hb1⟩
   have c1:w1.cell? ⟨r,1,none⟩=some (.bool false):=(hR1.1.cell 1).trans rfl
   have HF:=B8 (fail_any r v1 (some l1) w1 hR1)
   have HM1:=B8 hm1
   have HB1:=B8 hb1
   clear hR1 hm1 hb1
   go_wp2_with fail
   refine HF.o.mono ?_
   rintro e w2 ⟨rfl,hR2⟩
   have HR2:=B8 hR2
   clear hR2
   go_wp2
   go_ret
   exact ⟨rfl,RrTo.trans HM1.o HB1.o HR2.o bA⟩
  rcases Int.lt_or_le most n with h3|h3
  ·rw [if_pos (Or.inr (Or.inr h3))]
   have hd:decide (most < 0)=false:=by simp;omega
   go_enter Tryz.func42,Tryz.ntmps42
   go_wp2_with fail
   refine K.o.mono ?_
   rintro e w1 ⟨rfl,v1,hR1,hm1,hb1⟩
   have c1:w1.cell? ⟨r,1,none⟩=some (.bool false):=(hR1.1.cell 1).trans rfl
   have HF:=B8 (fail_any r v1 (some l1) w1 hR1)
   have HM1:=B8 hm1
   have HB1:=B8 hb1
   clear hR1 hm1 hb1
   go_wp2_with fail
   refine HF.o.mono ?_
   rintro e w2 ⟨rfl,hR2⟩
   have HR2:=B8 hR2
   clear hR2
   go_wp2
   go_ret
   exact ⟨rfl,RrTo.trans HM1.o HB1.o HR2.o bA⟩
  ·rw [if_neg fD]
   have hd:decide (most < 0)=false:=by simp;omega
   have hd2:decide (most < (n:Int))=false:=by simp;omega
   go_enter Tryz.func42,Tryz.ntmps42
   go_wp2_with fail
   refine K.o.mono ?_
   rintro e w1 ⟨rfl,v1,hR1,hm1,hb1⟩
   have c1:w1.cell? ⟨r,1,none⟩=some (.bool false):=(hR1.1.cell 1).trans rfl
   have HM1:=B8 (⟨v1,hR1,hm1,hb1⟩:RrTo 132 w r v (some l1) w1)
   clear hR1 hm1 hb1
   go_wp2
   go_ret
   exact ⟨rfl,HM1.o⟩
theorem rInt_le (most:Int) (s:RSt):((rInt most s).1:Int)≤max most 0:=by
 unfold rInt
 split
 ·simp;omega
 ·rename_i h;simp at h;omega
theorem rNum_len (s:RSt):((rNum s).2.getD []).length≤(s.getD []).length:=by
 cases s with
 | none=>simp [rNum]
 | some l=>
  simp only [rNum]
  split
  ·rename_i n rr h
   obtain ⟨k,_,_,rfl⟩:=decGo_rest _ _ _ _ _ h
   simp
  ·simp
theorem rInt_len (most:Int) (s:RSt):((rInt most s).2.getD []).length≤(s.getD []).length:=by
 unfold rInt;split
 ·simp
 ·exact rNum_len s
theorem rTake_len (n:Nat) (s:RSt):((Bm n s).2.getD []).length≤(s.getD []).length:=by
 cases s with
 | none=>simp [Bm]
 | some l=>simp only [Bm];split<;>simp
theorem RRow_any (r:Nat) (most:Int) (v:Value) (s:RSt) (w:World) (hR:Rr 132 w r v s) (hm:-9223372036854775808≤most∧most≤1000000000) :
 Calls Tryz.prog 87 #[.pointer (some ⟨r,0,none⟩),.int .i64 most] w fun e w'=>∃ v',e=.returned v'∧OwnB w' v' (rRow most s).1∧Fresh w v'∧RrTo 132 w r v (rRow most s).2 w':=by
 have key:=RInt_any r most v s w hR ⟨hm.1,by omega⟩
 have hn:(rInt most s).1≤1000000000:=by have:=rInt_le most s;omega
 have hrow:rRow most s=Bm (rInt most s).1 (rInt most s).2:=rfl
 rw [hrow]
 clear hrow
 generalize rInt most s=res at *
 obtain ⟨n,s1⟩:=res
 dsimp only at *
 have K:=B8 key
 have HL:=B8 (rTake_len n s1)
 clear key hm
 go_enter Tryz.func87,Tryz.ntmps87
 go_wp2_with fail
 refine K.o.mono ?_
 rintro e w1 ⟨rfl,v1,hR1,hm1,hb1⟩
 have HM1:=B8 hm1
 have HB1:=B8 hb1
 have HT:=B8 (take_any r n v1 s1 w1 hR1 hn)
 clear hR1 hm1 hb1
 go_wp2_with fail
 refine HT.o.mono ?_
 rintro e w2 ⟨v2,rfl,ho2,hf2,hR2⟩
 have HO2:=B8 ho2
 have HF2:=B8 hf2
 have HR2:=B8 hR2
 clear ho2 hf2 hR2
 go_wp2
 go_ret
 exact ⟨v2,rfl,HO2.o,fun g hg=>C4 HM1.o.size (HF2.o g hg),RrTo.trans HM1.o HB1.o HR2.o HL.o⟩
/-- an array of 32 bytes, as a value -/
def hv (h:List Int):Value:=.agg (h.map bv).toArray
theorem size_hash:(Tryz.prog.info? 25).map (·.size)=some 32:=by kernel_rfl
theorem RHash_any (r:Nat) (v:Value) (s:RSt) (w:World) (hR:Rr 132 w r v s) :
 Calls Tryz.prog 119 #[.pointer (some ⟨r,0,none⟩)] w fun e w'=>e=.returned (hv (A6 s).1)∧RrTo 132 w r v (A6 s).2 w':=by
 have hlt:=hR.1.lt
 obtain ⟨w1,e1,hR1,hc1,hm1⟩:∃ w1,w.alloc (.cells ((List.replicate 32 0).map bv).toArray 25)=w1∧Rr 132 w1 r v s∧Cs w1 w.heap.size ((List.replicate 32 0).map bv).toArray 25∧Mod (fun _=>False) w w1:=
  ⟨_,rfl,hR.mod ((Mod.refl _ _).alloc _) id Apart.none,Cs.new _ _ _,(Mod.refl _ _).alloc _⟩
 have key:=take_any r 32 v s w1 hR1 aL
 have hh:A6 s=(if (Bm 32 s).2.isNone then List.replicate 32 0 else (Bm 32 s).1,(Bm 32 s).2):=by
  unfold A6;rcases Bm 32 s with ⟨b,_|x⟩<;>rfl
 have hl32:(Bm 32 s).2.isNone=false→(Bm 32 s).1.length=32:=by
  cases s with
  | none=>simp [Bm]
  | some l=>simp only [Bm];split<;>simp;omega
 have hvb:0 < ((Bm 32 s).2.getD []).length→∀ g,v.ownBlock=some g→g < w.heap.size:=fun h=>hR.2.1.block_lt (by have:=rTake_len 32 s;omega)
 rw [hh]
 clear hh
 generalize Bm 32 s=res at *
 obtain ⟨b,s2⟩:=res
 dsimp only at *
 have K:=B8 key
 have HC1:=B8 hc1
 have HM1:=B8 hm1
 have E1:=B8 (show w.alloc (.cells #[bv 0,bv 0,bv 0,bv 0,bv 0,bv 0,bv 0,bv 0,bv 0,bv 0,bv 0,bv 0,bv 0,bv 0,bv 0,bv 0,bv 0,bv 0,bv 0,bv 0,bv 0,bv 0,bv 0,bv 0,bv 0,bv 0,bv 0,bv 0,bv 0,bv 0,bv 0,bv 0] 25)=w1 from e1)
 have HL:=B8 hl32
 have HVB:=B8 hvb
 clear hvb
 clear key hc1 hm1 e1 hl32 hR hR1
 go_enter Tryz.func119,Tryz.ntmps119
 go_wp2_with fail
 rw [E1.o]
 refine K.o.mono ?_
 rintro e w2 ⟨v2,rfl,ho2,hf2,v3,hR2,hm2,hb2⟩
 have c1:w2.cell? ⟨r,1,none⟩=some (.bool s2.isNone):=(hR2.1.cell 1).trans rfl
 have hc2:=HC1.o.mod hm2 aL
 have HC2:=B8 hc2
 have HO2:=B8 ho2
 have hm:Mod (fun k=>k=r) w w2:=(HM1.o.mono iB).trans hm2 iA
 have HM:=B8 hm
 have HR2:=B8 hR2
 have HB2:=B8 hb2
 clear hc2 ho2 hf2 hR2 hm2 hb2 hm
 have hsz:(lay ((List.replicate 32 0).map bv).toArray 0 ((List.replicate 32 0).map bv))=((List.replicate 32 0).map bv).toArray:=by rw [Aw];simp
 have HSZ:=B8 hsz
 clear hsz
 cases s2 with
 | none=>
  simp only [Option.isNone_none] at c1
  go_wp2_with ((with_reducible show wpList _ _ _ (Oper.mk none (Op.store 25 (.tmp 2) (.tmp 10)) _ _ _ _ :: _) _ _);go_must (refine wpList_storeA rfl 25 (.tmp 2) (.tmp 10) rfl HC2.o (vs:=(List.replicate 32 0).map bv) size_hash (ints_oneCell .u8 _) bA rfl rfl ?_);intro w3 hc3 hm3;have HC3:=B8 hc3;have HM3:=B8 hm3;clear hc3 hm3)
  have hc3:=HC3.o
  rw [HSZ.o] at hc3
  refine bodyPost_ret (A0 rfl _ _ w.heap.size ((List.replicate 32 0).map bv) rfl (fun j u hu=>by rw [hc3.cell];simpa using hu) D8 rfl size_hash) rfl ⟨rfl,?_⟩
  obtain ⟨q1,q2,q3⟩:=HR2.o
  exact ⟨v3,⟨q1.mod HM3.o aL,q2.mod HM3.o (by simp [Apart]),q3⟩,HM.o.trans (HM3.o.mono (S':=fun k=>w.heap.size≤k) (fun k _ h=>by omega)) (fun i hi h=>by omega),by simp⟩
 | some l2=>
  have hb32:=HL.o rfl
  simp only [Option.isNone_some] at c1
  rcases HO2.o.rd.form with ⟨h0,_⟩|⟨g,o,cap,_,e2,_,_,hcell⟩
  ·rw [h0] at hb32;simp at hb32
  rw [hb32] at e2
  subst e2
  have hcl:∀ j u,(b.map bv)[j]? = some u→w2.cell? ⟨g,o+j,none⟩=some u:=by
   intro j u hu
   simp only [List.getElem?_map,Option.map_eq_some_iff] at hu
   obtain ⟨x,hx,rfl⟩:=hu
   obtain ⟨hj,rfl⟩:=List.getElem?_eq_some_iff.1 hx
   exact hcell j hj
  have HCL:=B8 hcl
  have HSB:=B8 (show (Tryz.prog.info? 25).map (·.size)=some (b.map bv).length by rw [List.length_map,hb32];exact size_hash)
  have HFIT:=B8 (show 0+(b.map bv).length≤((List.replicate 32 0).map bv).toArray.size by simp [hb32])
  have harr:=fun (w:World)=>run_arrayAt (P:=Tryz.prog) (w:=w) 25 5 32 (some ⟨g,o,none⟩) 32 cap D8 (C0 _)
  clear hcell hcl hb32
  go_wp2_with (first
   | ((with_reducible show wpList _ _ _ (Oper.mk (some 13) _ _ _ _ _ :: _) _ _);go_must (refine wpList_loadA rfl 25 (.tmp 12) rfl D8 rfl (g:=g) (off:=o) (cs:=b.map bv) HSB.o rfl HCL.o ?_))
   | ((with_reducible show wpList _ _ _ (Oper.mk none (Op.store 25 (.tmp 2) (.tmp 13)) _ _ _ _ :: _) _ _);go_must (refine wpList_storeA rfl 25 (.tmp 2) (.tmp 13) rfl HC2.o (vs:=b.map bv) HSB.o (ints_oneCell .u8 _) HFIT.o rfl rfl ?_);intro w3 hc3 hm3;have HC3:=B8 hc3;have HM3:=B8 hm3;clear hc3 hm3))
  have hc3:=HC3.o
  have hb32:=HL.o rfl
  rw [Aw _ _ (by simp [hb32])] at hc3
  refine bodyPost_ret (A0 rfl _ _ w.heap.size (b.map bv) rfl (fun j u hu=>by rw [hc3.cell];simpa using hu) D8 rfl HSB.o) rfl ⟨rfl,?_⟩
  obtain ⟨q1,q2,q3⟩:=HR2.o
  refine ⟨v3,⟨q1.mod HM3.o aL,q2.mod HM3.o ?_,q3⟩,HM.o.trans (HM3.o.mono (S':=fun k=>w.heap.size≤k) (fun k _ h=>by omega)) (fun i hi h=>by omega),HB2.o⟩
  intro h0 g hg e
  have:=HVB.o h0 g (by rw [← HB2.o h0];exact hg)
  omega
/-- seven binary digits a byte, the lowest first -/
def encN (n:Nat):List Int:=if n < 128 then [(n:Int)] else ((n:Int) % 128+128) :: encN (n / 128)
termination_by n
decreasing_by omega
theorem encN_lt {n:Nat} (h:n < 128):encN n=[(n:Int)]:=by rw [encN,if_pos h]
theorem encN_ge {n:Nat} (h:128≤n):encN n=((n:Int) % 128+128) :: encN (n / 128):=by rw [encN,if_neg aL]
theorem encN_len (k:Nat):∀ n,n < 128 ^ (k+1)→1≤(encN n).length∧(encN n).length≤k+1:=by
 induction k with
 | zero=>intro n hn;rw [encN_lt aL];simp
 | succ k ih=>
  intro n hn
  by_cases h:n < 128
  ·rw [encN_lt h];simp
  ·rw [encN_ge aL]
   have:=ih (n / 128) (by rw [Nat.pow_succ] at hn;omega)
   simp only [D6];omega
theorem encN_pos (n:Nat):1≤(encN n).length:=by
 by_cases h:n < 128
 ·rw [encN_lt h];simp
 ·rw [encN_ge aL];simp
theorem B7 {n:Nat} (h:n < U64):1≤(encN n).length∧(encN n).length≤10:=
 encN_len 9 n (Nat.lt_of_lt_of_le h (by unfold U64;decide))
theorem or128 (m:Nat):bits .or .u8 ((m:Int) % 256) 128=(m:Int) % 128+128:=by
 have e:((m:Int) % 256)=((m % 256:Nat):Int):=by omega
 have h:=u8_or_nat (m % 256) 128 aL aL
 rw [e]
 refine h.trans ?_
 have d:∀ x,x < 256→x ||| 128=x % 128+128:=by decide
 rw [d _ aL,Nat.mod_mod_of_dvd _ aM];omega
def Wr (w:World) (b:Nat) (v:Value) (bs:List Int):Prop:=Cs w b #[v] 151∧OwnB w v bs
def WrTo (w:World) (b:Nat) (v:Value) (bs:List Int) (w':World):Prop:=
 ∃ v',Wr w' b v' bs∧Mod (fun k=>k=b∨some k=v.ownBlock) w w'∧(v'.ownBlock=v.ownBlock∨∃ k,v'.ownBlock=some k∧w.heap.size≤k)
theorem Wr.mod {S:Nat→Prop} {w w':World} {b:Nat} {v:Value} {bs:List Int} (h:Wr w b v bs) (hm:Mod S w w') (hb:¬ S b) (hv:∀ g,v.ownBlock=some g→¬ S g):Wr w' b v bs:=
 ⟨h.1.mod hm hb,OwnB.mod h.2 hm hv⟩
theorem WrTo.refl {w:World} {b:Nat} {v:Value} {bs:List Int} (h:Wr w b v bs):WrTo w b v bs w:=⟨v,h,Mod.refl _ _,.inl rfl⟩
theorem WrTo.trans {w w1 w2:World} {b:Nat} {v v1:Value} {bs2:List Int} (hm:Mod (fun k=>k=b∨some k=v.ownBlock) w w1)
 (hf:v1.ownBlock=v.ownBlock∨∃ k,v1.ownBlock=some k∧w.heap.size≤k) (h:WrTo w1 b v1 bs2 w2):WrTo w b v bs2 w2:=by
 obtain ⟨v',h1,h2,h3⟩:=h
 refine ⟨v',h1,hm.trans h2 ?_,?_⟩
 ·intro i hi hS
  rcases hS with hS|hS
  ·exact .inl hS
  ·rcases hf with hf|⟨k,hf,hk⟩
   ·exact .inr (hS.trans hf)
   ·rw [hf] at hS;simp at hS;omega
 ·rcases h3 with h3|⟨k,h3,hk⟩
  ·rw [h3];exact hf
  ·exact .inr ⟨k,h3,C4 hm.size hk⟩
/-- the store of what an append gave into the writer -/
theorem Wr_step {w w1:World} {b:Nat} {v:Value} {bs:List Int} {v1:Value} (hW:Wr w b v bs) (wx:World) (hx:Mod (fun _=>False) w wx) (new:List Int)
 (h:AppB wx v (bs ++ new) v1 w1) (hv:v.ownBlock≠some b) :
 w1.cell? ⟨b,0,none⟩=some v∧w1.frozen? ⟨b,0,none⟩=false∧WrTo w b v (bs ++ new) (w1.setCell ⟨b,0,none⟩ v1):=by
 obtain ⟨hc,ho⟩:=hW
 obtain ⟨h1,h2,h3⟩:=h
 have hb:¬ (some b=v.ownBlock):=fun e=>hv e.symm
 have hc1:Cs w1 b #[v] 151:=(hc.mod hx id).mod h2 hb
 refine ⟨by rw [hc1.cell];rfl,hc1.frozen 0,v1,⟨hc1.set 0 v1,?_⟩,?_,?_⟩
 ·refine Own.other h1 ?_ _
  intro g hg e
  subst e
  rcases h3 with h3|⟨k,h3,hk⟩
  ·rw [h3] at hg;exact hv hg
  ·rw [h3] at hg;simp at hg;subst hg;have:=hc.lt;have:=hx.size;omega
 ·exact ((hx.mono iB).trans h2 (fun i _ h=>.inr h)).setCell (fun _=>.inl rfl) _
 ·rcases h3 with h3|⟨k,h3,hk⟩
  ·exact .inl h3
  ·exact .inr ⟨k,h3,C4 hx.size hk⟩
theorem Wr_ne {w:World} {b:Nat} {v:Value} {bs:List Int} (hW:Wr w b v bs):v.ownBlock≠some b:=by
 obtain ⟨hc,_,_,⟨rfl,_⟩|⟨g,cap,cur,rfl,hg,_⟩⟩:=hW
 ·simp [Value.ownBlock]
 ·simp only [Value.ownBlock,ne_eq,Option.some.injEq]
  intro e
  subst e
  unfold Cs at hc hg
  rw [hc] at hg
  simp at hg
theorem Num_any (b n:Nat) (v:Value) (bs:List Int) (w:World) (hW:Wr w b v bs) (hn:n < U64) (hl:bs.length+10≤Room) :
 Calls Tryz.prog 96 #[.pointer (some ⟨b,0,none⟩),.int .u64 n] w fun e w'=>e=.returned (.pointer (some ⟨b,0,none⟩))∧WrTo w b v (bs ++ encN n) w':=by
 have hen:=B7 hn
 clear hn
 go_enter Tryz.func96,Tryz.ntmps96
 go_wp2
 go_loopw [1] (fun t wr=>∃ (m:Nat) (bs':List Int),t=.int .u64 m∧m≤n∧bs' ++ encN m=bs ++ encN n∧WrTo w b v bs' wr) (fun t _=>(intOf t).toNat)
 case atStart=>exact ⟨n,bs,rfl,C0 _,rfl,.refl hW⟩
 case round=>
  obtain ⟨m,bs',rfl,hm,hbs,v',hW',hmod,hfr⟩:=hrel
  have hlen:bs'.length+(encN m).length=bs.length+(encN n).length:=by have:=congrArg List.length hbs;simpa using this
  have hcell:wr.cell? ⟨b,0,none⟩=some v':=(hW'.1.cell 0).trans rfl
  have hlt:=hW'.1.lt
  have hpos:=encN_pos m
  have hroom:bs'.length+1≤Room:=by omega
  have Hne:=B8 (Wr_ne hW')
  have Hbs:=B8 hbs
  have Hfr:=B8 hfr
  have Hm:=B8 hmod
  have Hr:=B8 hroom
  clear hbs hfr hmod hlen hl hen hroom hpos
  by_cases h128:(128:Int)≤m
  ·have hor:=or128 m
   go_wp2_with (at_builtin;refine wpList_appB rfl (.tmp 11) (.tmp 15) rfl rfl (hW'.2.alloc _) (new:=[(m:Int) % 128+128]) rfl (RdB_one _ aL aL _) Hr.o ?_)
   intro ao cap w1 happ
   obtain ⟨hc1,hf1,hWT⟩:=Wr_step hW' _ ((Mod.refl _ _).alloc _) [(m:Int) % 128+128] happ Hne.o
   have HWT:=B8 hWT
   clear hWT happ hor
   go_wp2
   go_roundw
   case rel=>exact ⟨m / 128,_,by go_num,by omega,by have:=Hbs.o;rw [encN_ge aL] at this;simpa using this,WrTo.trans Hm.o Hfr.o HWT.o⟩
   case measure=>simp [intOf];omega
  ·go_wp2_with (at_builtin;refine wpList_appB rfl (.tmp 25) (.tmp 28) rfl rfl (hW'.2.alloc _) (new:=[(m:Int)]) rfl (RdB_one _ aL aL _) Hr.o ?_)
   intro ao cap w1 happ
   obtain ⟨hc1,hf1,hWT⟩:=Wr_step hW' _ ((Mod.refl _ _).alloc _) [(m:Int)] happ Hne.o
   have HWT:=B8 hWT
   clear hWT happ
   go_wp2
   go_ret
   refine ⟨rfl,?_⟩
   have hb:=Hbs.o
   rw [encN_lt aL] at hb
   rw [← hb]
   exact WrTo.trans Hm.o Hfr.o HWT.o
/-- a number from 0 on -/
def encI (n:Int):List Int:=encN (max 0 n).toNat
theorem WInt_any (b:Nat) (n:Int) (v:Value) (bs:List Int) (w:World) (hW:Wr w b v bs) (hn:-9223372036854775808≤n∧n≤9223372036854775807) (hl:bs.length+10≤Room) :
 Calls Tryz.prog 67 #[.pointer (some ⟨b,0,none⟩),.int .i64 n] w fun e w'=>e=.returned (.pointer (some ⟨b,0,none⟩))∧WrTo w b v (bs ++ encI n) w':=by
 have hU:(max 0 n).toNat < U64:=by unfold U64;omega
 have key:=Num_any b (max 0 n).toNat v bs w hW hU hl
 have Hl:=B8 hl
 clear hU hl key
 by_cases h0:0 < n
 ·obtain ⟨k,rfl⟩:=Int.eq_ofNat_of_zero_le (Int.le_of_lt h0)
  have ek:(max 0 (k:Int)).toNat=k:=by omega
  unfold encI
  rw [ek]
  clear ek
  go_enter E6,Tryz.ntmps67
  go_wp2_with (go_at_call 96;go_must (refine (Num_any b k v bs _ hW fW Hl.o).mono ?_);rintro e w' ⟨rfl,hWT⟩;have HW:=B8 hWT;clear hWT)
  go_ret
  exact ⟨rfl,HW.o⟩
 ·have ek:(max 0 n).toNat=0:=by omega
  unfold encI
  rw [ek]
  clear ek
  go_enter E6,Tryz.ntmps67
  go_wp2_with (go_at_call 96;go_must (refine (Num_any b 0 v bs _ hW fW Hl.o).mono ?_);rintro e w' ⟨rfl,hWT⟩;have HW:=B8 hWT;clear hWT)
  go_ret
  exact ⟨rfl,HW.o⟩
theorem encI_len (n:Int) (hn:n≤9223372036854775807):1≤(encI n).length∧(encI n).length≤10:=B7 fW
theorem encI_nat (n:Nat):encI n=encN n:=by unfold encI;congr 1
theorem NewWriter_any (w:World) :
 Calls Tryz.prog 66 #[] w fun e w'=>e=.returned (.pointer (some ⟨w.heap.size,0,none⟩))∧Wr w' w.heap.size (.slice none 0 0) []∧Mod (fun _=>False) w w':=by
 go_enter Tryz.func66,Tryz.ntmps66
 go_wp2
 go_ret
 exact ⟨rfl,⟨Cs.new _ _ _,OwnB.nil _⟩,(Mod.refl _ _).alloc _⟩
/-- the bytes written, in new memory -/
theorem WBytes_any (b:Nat) (v:Value) (bs:List Int) (w:World) (hW:Wr w b v bs) (hl:bs.length≤Room) :
 Calls Tryz.prog 69 #[.pointer (some ⟨b,0,none⟩)] w fun e w'=>∃ ao cap,e=.returned (.slice ao bs.length cap)∧OwnB w' (.slice ao bs.length cap) bs∧Fresh w (.slice ao bs.length cap)∧Mod (fun _=>False) w w':=by
 have hcell:w.cell? ⟨b,0,none⟩=some v:=(hW.1.cell 0).trans rfl
 have Hl:=B8 (show ([]:List Int).length+bs.length≤Room by simpa using hl)
 clear hl
 go_enter Tryz.func69,Tryz.ntmps69
 go_wp2_with (at_builtin;refine wpList_appB rfl (.const (.slice none 0 0)) (.tmp 6) rfl rfl (OwnB.nil _) (new:=bs) rfl hW.2.rd Hl.o ?_)
 intro ao cap w1 happ
 have HA:=B8 happ
 clear happ
 go_wp2
 go_ret
 obtain ⟨h1,h2,h3⟩:=HA.o
 simp only [D5,Nat.zero_add] at *
 refine ⟨ao,cap,rfl,h1,?_,h2.mono (fun k _ hk=>by simp [Value.ownBlock] at hk)⟩
 intro g hg
 rcases h3 with h3|⟨k,h3,hk⟩
 ·rw [h3] at hg;cases hg
 ·rw [h3] at hg;simp at hg;omega
theorem WRow_any (b:Nat) (v:Value) (bs:List Int) (ao:Option Addr) (cap:Nat) (cs:List Int) (w:World) (hW:Wr w b v bs) (hr:RdB w (.slice ao cs.length cap) cs)
 (hs:Apart (.slice ao cs.length cap) cs.length (fun k=>k=b∨some k=v.ownBlock)) (hl:bs.length+cs.length+10≤Room) :
 Calls Tryz.prog 107 #[.pointer (some ⟨b,0,none⟩),.slice ao cs.length cap] w fun e w'=>e=.returned (.pointer (some ⟨b,0,none⟩))∧WrTo w b v (bs ++ (encN cs.length ++ cs)) w':=by
 have hR:cs.length < 9223372036854775807:=by unfold Room at hl;omega
 have HR:=B8 hR
 have h10:=B7 (n:=cs.length) fW
 have Hl:=B8 (show (bs ++ encN cs.length).length+cs.length≤Room by simp;omega)
 have Hl2:=B8 (show bs.length+10≤Room by omega)
 have Hs:=B8 hs
 clear hs hl hR h10
 go_enter Tryz.func107,Tryz.ntmps107
 go_wp2_with (first
  | (go_at_call 67;go_must (refine (WInt_any b cs.length v bs _ hW (by have:=HR.o;omega) Hl2.o).mono ?_);rintro e w1 ⟨rfl,v1,hW1,hm1,hf1⟩;have hcell:w1.cell? ⟨b,0,none⟩=some v1:=(hW1.1.cell 0).trans rfl;rw [encI_nat] at hW1;have hr1:RdB w1 (.slice ao cs.length cap) cs:=hr.mod hm1 Hs.o;have HM1:=B8 hm1;have HF1:=B8 hf1;clear hm1 hf1)
  | (at_builtin;go_must (refine wpList_appB rfl (.tmp 13) (.tmp 14) rfl rfl hW1.2 (new:=cs) rfl hr1 Hl.o ?_)))
 intro ao1 cap1 w2 happ
 rw [← C2] at happ
 obtain ⟨hc1,hf1,hWT⟩:=Wr_step hW1 w1 (Mod.refl _ _) cs happ (Wr_ne hW1)
 have HWT:=B8 hWT
 clear hWT happ hr1 hr hW1 hW
 go_wp2
 go_ret
 refine ⟨rfl,?_⟩
 rw [← C2]
 exact WrTo.trans HM1.o HF1.o HWT.o
theorem WHash_any (b:Nat) (v:Value) (bs h:List Int) (w:World) (hW:Wr w b v bs) (hh:h.length=32) (hB:Bytes h) (hl:bs.length+32≤Room) :
 Calls Tryz.prog 130 #[.pointer (some ⟨b,0,none⟩),hv h] w fun e w'=>e=.returned (.pointer (some ⟨b,0,none⟩))∧WrTo w b v (bs ++ h) w':=by
 have hlt:=hW.1.lt
 obtain ⟨w1,e1,hW1,hc1,hm1⟩:∃ w1,w.alloc (.cells (h.map bv).toArray 25)=w1∧Wr w1 b v bs∧Cs w1 w.heap.size (h.map bv).toArray 25∧Mod (fun _=>False) w w1:=
  ⟨_,rfl,hW.mod ((Mod.refl _ _).alloc _) id (fun _ _=>id),Cs.new _ _ _,(Mod.refl _ _).alloc _⟩
 have hcell:w1.cell? ⟨b,0,none⟩=some v:=(hW1.1.cell 0).trans rfl
 have hrd:RdB w1 (.slice (some ⟨w.heap.size,0,none⟩) 32 32) h:=⟨hB,by
  rw [hh]
  exact Rd.mk (C0 _) dR (by simp [hh]) (fun j u hu=>by rw [Nat.zero_add,hc1.cell];simpa using hu)⟩
 have Hroom:=B8 (show bs.length+h.length≤Room by omega)
 have HW1:=B8 hW1
 have HRD:=B8 hrd
 have HM1:=B8 hm1
 have E1:=B8 e1
 have HH:=B8 hh
 clear hW hc1 hrd hm1 hh hB hl e1 hW1
 unfold hv
 go_enter Tryz.func130,Tryz.ntmps130
 go_wp2_with fail
 rw [E1.o]
 go_region_law (refine step_appB rfl (.tmp 9) (.tmp 10) rfl rfl (OwnB.drew HW1.o.2) (new:=h) rfl HRD.o.drew Hroom.o ?_;intro ao cap w2 happ;obtain ⟨hc2,hf2,hWT⟩:=Wr_step HW1.o _ ((Mod.refl _ _).drew) h happ (Wr_ne HW1.o);have HWT:=B8 hWT;clear hWT happ)
 go_wp2
 go_ret
 refine ⟨rfl,?_⟩
 exact WrTo.trans (HM1.o.mono iB) (.inl rfl) HWT.o
theorem wpList_makeB {w:World} {ops:Array Oper} {rest:List Oper} {o:Oper} {a:Act} {Q:Exit→Act→World→Prop} (hgd:o.guard=none) (l c:Operand)
 (ho:o.op=Op.makeSlice 52 l c) {kl kc:IntKind} {L C:Int} (n m:Nat) (hl:a.eval l=.int kl L) (hc:a.eval c=.int kc C) (hL:L=(n:Int)) (hC:C=(m:Int)) (hnm:n≤m) (hm:m≤Room)
 (h:wpList Tryz.prog ops Q rest (a.put o.dst (.slice (some ⟨w.heap.size,0,none⟩) n m)) (w.alloc (.cells ((List.replicate m 0).map bv).toArray 5))):wpList Tryz.prog ops Q (o :: rest) a w:=by
 obtain ⟨i0,hi,hz0,hz1,hz2⟩:=info_parts info_u8
 subst hL
 subst hC
 refine wpList_plain hgd fun K hK=>?_
 have hr:=run_make (P:=Tryz.prog) w 52 5 i0 (.int .u8 0) D2 hi hz0 kl kc n m aL aL (by rw [hz2];unfold Room at hm;omega) (by unfold Room at hm;omega)
 have e:madeCells (Value.int .u8 0).cells (((m:Int)).toNat * i0.size)=((List.replicate m 0).map bv).toArray:=by
  apply Array.toList_inj.1
  rw [hz1,Nat.mul_one,Int.toNat_natCast]
  show (madeCells #[Value.int .u8 0] m).toList=_
  rw [toList_madeCells_one]
  simp
 rw [e,Int.toNat_natCast,Int.toNat_natCast] at hr
 unfold Oper.wp
 simp only [execOp,ho,hl,hc]
 simp only [Sem.run_bind,hr,Result.andThen_ok,Sem.run_pure]
 exact hK _ _ h
theorem wpList_copyB {w:World} {ops:Array Oper} {rest:List Oper} {o:Oper} {a:Act} {Q:Exit→Act→World→Prop} (hgd:o.guard=none) (d s:Operand)
 (ho:o.op=.call { callee:=.builtin .copy,args:=#[d,s],argTypes:=#[52,52] }) {g n cap:Nat} {cur:List Int} (hc:Cs w g (cur.map bv).toArray 5)
 {sv:Value} {bs:List Int} (hr:RdB w sv bs) (hd:a.eval d=.slice (some ⟨g,0,none⟩) n cap) (hs:a.eval s=sv) (hn:bs.length≤n) (hm:bs.length≤cur.length)
 (h:∀ w',Cs w' g ((bs ++ cur.drop bs.length).map bv).toArray 5→Mod (fun k=>k=g) w w'→wpList Tryz.prog ops Q rest (a.put o.dst (goInt bs.length)) w'):wpList Tryz.prog ops Q (o :: rest) a w:=by
 have hsz:(Tryz.prog.info? 5).map (·.size)=some 1:=by kernel_rfl
 rcases hr.form with ⟨rfl,ao,c2,rfl,_⟩|⟨g2,o2,c2,h0,rfl,_,_,hcell⟩
 ·refine wpList_copy_nothing hgd d s 52 52 ho 5 D2 hsz _ _ _ _ _ _ hd hs bA ?_
  exact h w (by simpa using hc) (Mod.refl _ _)
 ·refine wpList_copy_own hgd d s 52 52 ho 5 D2 hsz g 0 n cap ⟨g2,o2,none⟩ bs.length c2 hd hs (cur.map bv).toArray 5 hc (bs.map bv) (by rw [List.length_map];exact (Nat.min_eq_left hn).symm) ?_ (by simpa using hm) (ints_oneCell .u8 bs) ?_
  ·intro j u hu
   simp only [List.getElem?_map,Option.map_eq_some_iff] at hu
   obtain ⟨x,hx,rfl⟩:=hu
   obtain ⟨hj,rfl⟩:=List.getElem?_eq_some_iff.1 hx
   rw [add_mk]
   exact hcell j hj
  ·rw [List.length_map]
   refine h _ ?_ ⟨rfl,rfl,rfl,by simp [World.setRow],fun k _ hk=>setRow_other w g k _ hk⟩
   have:=setRow_heap w g _ ((bs ++ cur.drop bs.length).map bv).toArray 5 _ hc
   simpa [Cs,List.map_drop] using this
def lendc (bs:List Int) (k:Nat):List Int:=bs ++ (List.replicate k 85 ++ List.replicate (3 - k) 0)
theorem lendc_len (bs:List Int) (k:Nat) (h:k≤3):(lendc bs k).length=bs.length+3:=by simp [lendc];omega
theorem lendc_set (bs:List Int) (k:Nat) (h:k < 3):(lendc bs k).set (bs.length+k) 85=lendc bs (k+1):=by
 unfold lendc
 rw [List.set_append_right _ _ aL]
 congr 1
 rw [show bs.length+k - bs.length=k by omega]
 match k,h with
 | 0,_=>rfl
 | 1,_=>rfl
 | 2,_=>rfl
/-- bytes that are lent: three more lie behind them -/
def Lent (w:World) (v:Value) (bs:List Int):Prop:=∃ g,v=.slice (some ⟨g,0,none⟩) bs.length (bs.length+3)∧Cs w g ((lendc bs 3).map bv).toArray 5
theorem Lend_any (ao:Option Addr) (len cap:Nat) (bs:List Int) (w:World) (hr:RdB w (.slice ao len cap) bs) (hl:bs.length≤1000000) :
 Calls Tryz.prog 10 #[.slice ao len cap] w fun e w'=>e=.returned (.slice (some ⟨w.heap.size,0,none⟩) bs.length (bs.length+3))∧Lent w' (.slice (some ⟨w.heap.size,0,none⟩) bs.length (bs.length+3)) bs∧Mod (fun _=>False) w w':=by
 obtain ⟨rfl,hlc,hcm⟩:=hr.len
 rw [Ax] at hcm
 have HR:=B8 hr
 clear hr
 have Hroom:Hid (bs.length+3≤Room):=B8 gQ
 go_enter Tryz.func10,Tryz.ntmps10
 have hc1:=Cs.new w ((List.replicate (bs.length+3) 0).map bv).toArray 5
 have hr1:=HR.o.alloc (.cells ((List.replicate (bs.length+3) 0).map bv).toArray 5)
 have hm1:Mod (fun _=>False) w (w.alloc (.cells ((List.replicate (bs.length+3) 0).map bv).toArray 5)):=(Mod.refl _ _).alloc _
 have HW1:=B8 (⟨_,rfl,hc1,hr1,hm1⟩:∃ w1,w.alloc (.cells ((List.replicate (bs.length+3) 0).map bv).toArray 5)=w1∧Cs w1 w.heap.size ((List.replicate (bs.length+3) 0).map bv).toArray 5∧RdB w1 (.slice ao bs.length cap) bs∧Mod (fun _=>False) w w1)
 clear hc1 hr1 hm1 HR
 go_wp2_with (first
  | (at_make;go_must (refine wpList_makeB rfl (.tmp 7) (.tmp 10) rfl bs.length (bs.length+3) rfl rfl rfl aL aL Hroom.o ?_);obtain ⟨w1,e1,hc1,hr1,hm1⟩:=HW1.o;rw [e1];have HC:=B8 hc1;have HR1:=B8 hr1;have HM1:=B8 hm1;clear hc1 hr1 hm1 e1)
  | ((with_reducible show wpList _ _ _ (Oper.mk (some 14) _ _ _ _ _ :: _) _ _);go_must (refine wpList_copyB rfl (.tmp 12) (.tmp 13) rfl HC.o HR1.o rfl rfl (C0 _) bA ?_);intro w2 hc2 hb2;have hcs:Cs w2 w.heap.size ((lendc bs 0).map bv).toArray 5:=(by simpa [lendc,List.drop_replicate] using hc2);have HC2:=B8 hcs;have HM2:=B8 (HM1.o.trans hb2 (fun i hi h=>by omega));clear hc2 hb2 hcs))
 go_loopw [5] (fun i wr=>∃ k:Nat,k≤3∧i=.int .i64 ((bs.length+k:Nat):Int)∧Cs wr w.heap.size ((lendc bs k).map bv).toArray 5∧Mod (fun _=>False) w wr) (fun i _=>bs.length+3 - (intOf i).toNat)
 case atStart=>exact ⟨0,by omega,rfl,HC2.o,HM2.o⟩
 case round=>
  obtain ⟨k,hk,rfl,hcs,hm⟩:=hrel
  have HCS:=B8 hcs
  have HM:=B8 hm
  clear hcs hm
  by_cases hlt:k < 3
  ·have hc:wr.cell? ⟨w.heap.size,bs.length+k,none⟩=some (bv ((lendc bs k)[bs.length+k]'(by rw [lendc_len _ _ hk];omega))):=by
    rw [HCS.o.cell];simp
   have hf:=HCS.o.frozen (bs.length+k)
   go_wp2
   go_roundw
   case rel=>
    refine ⟨k+1,by omega,by go_num,?_,HM.o.setCell (fun h=>by simp at h) _⟩
    have:=HCS.o.set (bs.length+k) (bv 85)
    rw [← lendc_set bs k hlt]
    simpa [List.map_set] using this
   case measure=>simp [intOf];omega
  ·obtain rfl:k=3:=by omega
   go_wp2
   go_ret
   exact ⟨rfl,⟨_,rfl,HCS.o⟩,HM.o⟩
theorem lendc3_get (bs:List Int) (i:Nat) (h:i < bs.length+3):(lendc bs 3)[i]'(by rw [lendc_len _ _ (C0 _)];exact h)=if h:i < bs.length then bs[i] else 85:=by
 unfold lendc
 split
 ·rename_i hi;rw [List.getElem_append_left hi]
 ·rename_i hi
  rw [List.getElem_append_right aL]
  obtain ⟨k,rfl⟩:∃ k,i=bs.length+k:=⟨i - bs.length,by omega⟩
  have:k=0∨k=1∨k=2:=by omega
  rcases this with rfl|rfl|rfl<;>simp
set_option maxHeartbeats 1000000 in
theorem Intact_any (vo:Value) (ao:Option Addr) (len cap:Nat) (bs:List Int) (w:World) (ho:Lent w vo bs) (hr:RdB w (.slice ao len cap) bs) (hl:bs.length≤1000000) :
 Calls Tryz.prog 14 #[vo,.slice ao len cap] w fun e w'=>e=.returned (.bool true)∧∃ n,w'=w.drewN n:=by
 obtain ⟨rfl,hlc,hcm⟩:=hr.len
 obtain ⟨g,rfl,hc⟩:=ho
 rw [Ax] at hcm
 have hcell:∀ i (hi:i < bs.length+3),w.cell? ⟨g,i,none⟩=some (bv (if h:i < bs.length then bs[i] else 85)):=by
  intro i hi
  rw [hc.cell,← lendc3_get bs i hi]
  simp
 have h1:(((bs.length:Int)) != bs.length)=false:=by simp
 have h2:(((bs.length:Int)+3) != (bs.length:Int)+3)=false:=by simp
 have HC:=B8 hcell
 have HR:=B8 hr
 clear hcell hr hc
 go_enter Tryz.func14,Tryz.ntmps14
 go_wp2
 go_loopw [27,6] (fun i _ wr=>∃ k:Nat,k≤bs.length+3∧i=.int .i64 k∧∃ n,wr=w.drewN n) (fun i _ _=>bs.length+3 - (intOf i).toNat)
 case atStart=>exact ⟨0,by omega,rfl,0,rfl⟩
 case round=>
  obtain ⟨k,hk,rfl,n,rfl⟩:=hrel
  by_cases hlt:k < bs.length
  ·have c1:w.cell? ⟨g,k,none⟩=some (bv bs[k]):=by have:=HC.o k aL;rw [dif_pos hlt] at this;exact this
   rcases HR.o.form with ⟨h0,_⟩|⟨g2,o2,c2,h0,e,_,_,hc2⟩
   ·rw [h0] at hlt;simp at hlt
   ·simp only [Value.slice.injEq] at e
    obtain ⟨rfl,_,rfl⟩:=e
    have c2:w.cell? ⟨g2,o2+k,none⟩=some (bv bs[k]):=hc2 k hlt
    have hd:decide (bs.length≤k)=false:=by simp;omega
    have hi:(k:Int) < (bs.length:Int):=by omega
    have hi3:(k:Int) < (bs.length:Int)+3:=by omega
    have hne:(bs[k] != bs[k])=false:=by simp
    clear hc2
    go_wp2
    go_quiet (fail)
    go_wp2
    go_roundw
    case rel=>exact ⟨k+1,by omega,by go_num,_,rfl⟩
    case measure=>simp [intOf];omega
  ·by_cases hlt3:k < bs.length+3
   ·have hi:(bs.length:Int)≤(k:Int):=by omega
    have hi3:(k:Int) < (bs.length:Int)+3:=by omega
    have c1:w.cell? ⟨g,k,none⟩=some (bv 85):=by have:=HC.o k aL;rw [dif_neg hlt] at this;exact this
    have hd:decide (k < bs.length)=false:=by simp;omega
    go_wp2
    go_quiet (fail)
    go_wp2
    go_roundw
    case rel=>exact ⟨k+1,by omega,by go_num,_,rfl⟩
    case measure=>simp [intOf];omega
   ·go_wp2
    go_ret
    exact ⟨rfl,n,rfl⟩
theorem pow128 (i:Nat):2 ^ (7 * (i+1))=128 * 2 ^ (7 * i):=by rw [Nat.mul_add,Nat.pow_add,Nat.mul_comm]
theorem dec_enc (rest:List Int):∀ (m i acc:Nat),(i=0∨1≤m)→m * 2 ^ (7 * i) < U64→i≤9→B2 i acc (encN m ++ rest)=some (acc+m * 2 ^ (7 * i),rest):=by
 intro m
 induction m using Nat.strongRecOn with
 | _ m ih=>
  intro i acc h1 h2 h3
  by_cases hm:m < 128
  ·rw [encN_lt hm]
   simp only [List.cons_append,List.nil_append,B2]
   have n1:¬ (i=9∧(1:Int) < m):=by
    rintro ⟨rfl,h⟩
    unfold U64 at h2
    simp only [Nat.reduceMul,Nat.reducePow] at h2
    omega
   rw [if_neg n1,if_pos aL,if_neg aL]
   simp
  ·rw [encN_ge aL]
   simp only [List.cons_append,B2]
   have hp:=pow128 i
   have hle:128 * 2 ^ (7 * i)≤m * 2 ^ (7 * i):=Nat.mul_le_mul_right _ aL
   have hi:i≤8:=by
    rcases Nat.lt_or_ge i 9 with h|h
    ·omega
    ·obtain rfl:i=9:=by omega
     unfold U64 at h2
     simp only [Nat.reduceMul,Nat.reducePow] at h2 hle
     omega
   have hdm:(m / 128) * 2 ^ (7 * (i+1))+(m % 128) * 2 ^ (7 * i)=m * 2 ^ (7 * i):=by
    rw [hp,← Nat.mul_assoc,← Nat.add_mul]
    congr 1
    omega
   rw [if_neg aL,if_neg aL]
   have e:((m:Int) % 128+128).toNat - 128=m % 128:=by omega
   rw [e,ih (m / 128) aL (i+1) _ (.inr aL) aL aL]
   congr 2
   omega
theorem rNum_enc {m:Nat} (hm:m < U64) (rest:List Int):rNum (some (encN m ++ rest))=(m,some rest):=by
 have:=dec_enc rest m 0 0 (.inl rfl) (by simpa using hm) aL
 simp [rNum,this]
theorem rTake_app {n:Nat} {a:List Int} (h:a.length=n) (rest:List Int):Bm n (some (a ++ rest))=(a,some rest):=by
 subst h
 simp [Bm]
@[simp] theorem rNum_none':rNum none=(0,none):=rfl
@[simp] theorem rInt_none (most:Int):rInt most none=(0,none):=by simp [rInt]
@[simp] theorem rTake_none (n:Nat):Bm n none=([],none):=rfl
@[simp] theorem rRow_none (most:Int):rRow most none=([],none):=by simp [rRow]
@[simp] theorem rHash_none:A6 none=(List.replicate 32 0,none):=rfl
/-- a list of bytes (at most N) that is only read; its block, where it has one that matters, is in R -/
def RdR (R:Nat→Prop) (N:Nat) (w:World) (v:Value) (bs:List Int):Prop:=RdB w v bs∧(0 < bs.length→∀ g,v.ownBlock=some g→R g)∧bs.length≤N
/-- a list of bytes that may be appended to, spoilt -/
def OwR (R:Nat→Prop) (N:Nat) (w:World) (v:Value) (bs:List Int):Prop:=OwnB w v bs∧(∀ g,v.ownBlock=some g→R g)∧bs.length≤N
def WrR (R:Nat→Prop) (N:Nat) (w:World) (b:Nat) (bs:List Int):Prop:=∃ v,Wr w b v bs∧R b∧(∀ g,v.ownBlock=some g→R g)∧bs.length≤N
def RrR (T:TypeId) (R:Nat→Prop) (w:World) (r:Nat) (s:RSt):Prop:=∃ v,Rr T w r v s∧R r∧(0 < (s.getD []).length→∀ g,v.ownBlock=some g→R g)
section
variable {R R' S:Nat→Prop} {N M:Nat} {w w':World} {v:Value} {bs:List Int} {b r:Nat} {s:RSt} {T:TypeId}
theorem RdR.mod (h:RdR R N w v bs) (hm:Mod S w w') (hs:∀ k,R k→S k→False):RdR R N w' v bs:=⟨h.1.mod hm (fun h0 g hg hS=>hs g (h.2.1 h0 g hg) hS),h.2⟩
theorem RdR.widen (h:RdR R N w v bs) (hs:∀ k,R k→R' k) (hM:N≤M):RdR R' M w v bs:=⟨h.1,fun h0 g hg=>hs g (h.2.1 h0 g hg),C4 h.2.2 hM⟩
theorem OwR.mod (h:OwR R N w v bs) (hm:Mod S w w') (hs:∀ k,R k→S k→False):OwR R N w' v bs:=⟨OwnB.mod h.1 hm (fun g hg hS=>hs g (h.2.1 g hg) hS),h.2⟩
theorem OwR.widen (h:OwR R N w v bs) (hs:∀ k,R k→R' k) (hM:N≤M):OwR R' M w v bs:=⟨h.1,fun g hg=>hs g (h.2.1 g hg),C4 h.2.2 hM⟩
theorem OwR.rd (h:OwR R N w v bs):RdR R N w v bs:=⟨h.1.rd,fun _=>h.2.1,h.2.2⟩
theorem WrR.mod (h:WrR R N w b bs) (hm:Mod S w w') (hs:∀ k,R k→S k→False):WrR R N w' b bs:=by
 obtain ⟨v,h1,h2,h3,h4⟩:=h
 exact ⟨v,h1.mod hm (hs b h2) (fun g hg=>hs g (h3 g hg)),h2,h3,h4⟩
theorem WrR.widen (h:WrR R N w b bs) (hs:∀ k,R k→R' k) (hM:N≤M):WrR R' M w b bs:=by
 obtain ⟨v,h1,h2,h3,h4⟩:=h
 exact ⟨v,h1,hs b h2,fun g hg=>hs g (h3 g hg),C4 h4 hM⟩
theorem RrR.mod (h:RrR T R w r s) (hm:Mod S w w') (hs:∀ k,R k→S k→False):RrR T R w' r s:=by
 obtain ⟨v,h1,h2,h3⟩:=h
 exact ⟨v,h1.mod hm (hs r h2) (fun h0 g hg=>hs g (h3 h0 g hg)),h2,h3⟩
theorem RrR.widen (h:RrR T R w r s) (hs:∀ k,R k→R' k):RrR T R' w r s:=by
 obtain ⟨v,h1,h2,h3⟩:=h
 exact ⟨v,h1,hs r h2,fun h0 g hg=>hs g (h3 h0 g hg)⟩
theorem RdR.len {ao:Option Addr} {n cap:Nat} (h:RdR R N w (.slice ao n cap) bs):n=bs.length:=h.1.len.1
theorem RdR.shape (h:RdR R N w v bs):∃ ao cap,v=.slice ao bs.length cap:=by obtain ⟨ao,cap,e,_⟩:=h.1.shape;exact ⟨ao,cap,e⟩
theorem OwR.shape (h:OwR R N w v bs):∃ ao cap,v=.slice ao bs.length cap:=h.rd.shape
end
/-- what is new in w' -/
abbrev New (w w':World) (k:Nat):Prop:=w.heap.size≤k∧k < w'.heap.size
theorem OwR_of {w w':World} {v:Value} {bs:List Int} (N:Nat) (h:OwnB w' v bs) (hf:Fresh w v) (hN:bs.length≤N):OwR (New w w') N w' v bs:=⟨h,fun g hg=>⟨hf g hg,Own.lt h hg⟩,hN⟩
theorem Cut_R {R:Nat→Prop} {N:Nat} {v:Value} {bs:List Int} (n:Nat) {w:World} (hr:RdR R N w v bs) (hn:n≤1000000) :
 Calls Tryz.prog 9 #[v,.int .i64 n] w fun e w'=>∃ v',e=.returned v'∧OwR (New w w') n w' v' (bs.take n)∧Mod (fun _=>False) w w':=by
 obtain ⟨ao,cap,rfl⟩:=hr.shape
 exact (Cut_any ao _ cap bs n w hr.1 hn).mono fun e w' ⟨ao',cap',he,ho,hf,hm⟩=>⟨_,he,OwR_of n ho hf fD,hm⟩
theorem Same_R {R R':Nat→Prop} {N N':Nat} {va vb:Value} {a b:List Int} {w:World} (ha:RdR R N w va a) (hb:RdR R' N' w vb b) :
 Calls Tryz.prog 17 #[va,vb] w fun e w'=>e=.returned (.bool (decide (a=b)))∧Mod (fun _=>False) w w':=
 (Same_any va vb a b w ha.1 hb.1).mono fun _ _ ⟨he,hd⟩=>⟨he,mod_of_drewN hd _⟩
theorem NewWriter_R (w:World) :
 Calls Tryz.prog 66 #[] w fun e w'=>∃ b,e=.returned (.pointer (some ⟨b,0,none⟩))∧WrR (New w w') 0 w' b []∧Mod (fun _=>False) w w':=
 (NewWriter_any w).mono fun _ _ ⟨he,hW,hm⟩=>⟨_,he,⟨_,hW,⟨C0 _,hW.1.lt⟩,(fun g hg=>by cases hg),C0 _⟩,hm⟩
theorem WrTo_R {R:Nat→Prop} {w w':World} {b:Nat} {v:Value} {bs:List Int} (N:Nat) (hb:R b) (hv:∀ g,v.ownBlock=some g→R g) (h:WrTo w b v bs w') (hN:bs.length≤N) :
 WrR (fun k=>R k∨New w w' k) N w' b bs∧Mod R w w':=by
 obtain ⟨v',h1,h2,h3⟩:=h
 refine ⟨⟨v',h1,.inl hb,fun g hg=>?_,hN⟩,h2.mono (fun k _ hk=>?_)⟩
 ·rcases h3 with h3|⟨k,h3,hk⟩
  ·exact .inl (hv g (h3▸hg))
  ·rw [h3] at hg
   obtain rfl:k=g:=by simpa using hg
   exact .inr ⟨hk,Own.lt h1.2 h3⟩
 ·rcases hk with rfl|hk
  ·exact hb
  ·exact hv k hk.symm
theorem WBytes_R {R:Nat→Prop} {N b:Nat} {bs:List Int} {w:World} (hW:WrR R N w b bs) (hl:N≤1000000) :
 Calls Tryz.prog 69 #[.pointer (some ⟨b,0,none⟩)] w fun e w'=>∃ v',e=.returned v'∧OwR (New w w') N w' v' bs∧Mod (fun _=>False) w w':=by
 obtain ⟨v,h1,h2,h3,h4⟩:=hW
 exact (WBytes_any b v bs w h1 gQ).mono fun e w' ⟨ao',cap',he,ho,hf,hm⟩=>⟨_,he,OwR_of N ho hf h4,hm⟩
theorem NewReader_R {R:Nat→Prop} {N:Nat} {v:Value} {bs:List Int} {w:World} (hr:RdR R N w v bs) (hl:N≤1000000) :
 Calls Tryz.prog 40 #[v] w fun e w'=>∃ r,e=.returned (.pointer (some ⟨r,0,none⟩))∧RrR 132 (New w w') w' r (some bs)∧Mod (fun _=>False) w w':=
 (NewReader_any v bs w hr.1 (by have:=hr.2.2;unfold Room;omega)).mono fun _ w' ⟨r,v',he,h1,h2,h3,hm⟩=>⟨r,he,⟨v',h2,⟨h1,h2.1.lt⟩,fun h0 g hg=>⟨h3 h0 g hg,h2.2.1.block_lt h0 g hg⟩⟩,hm⟩
theorem RrTo_R {T:TypeId} {R:Nat→Prop} {w w':World} {r:Nat} {v:Value} {s s':RSt} (hr:R r) (hv:0 < (s.getD []).length→∀ g,v.ownBlock=some g→R g) (hl:(s'.getD []).length≤(s.getD []).length) (h:RrTo T w r v s' w') :
 RrR T R w' r s'∧Mod R w w':=by
 obtain ⟨v',h1,h2,h3⟩:=h
 exact ⟨⟨v',h1,hr,fun h0 g hg=>hv aL g (by rw [← h3 h0];exact hg)⟩,h2.mono (fun k _ hk=>by subst hk;exact hr)⟩
theorem RNum_R {R:Nat→Prop} {r:Nat} {s:RSt} {w:World} (hR:RrR 132 R w r s) :
 Calls Tryz.prog 80 #[.pointer (some ⟨r,0,none⟩)] w fun e w'=>e=.returned (.int .u64 ((rNum s).1:Nat))∧RrR 132 R w' r (rNum s).2∧Mod R w w':=by
 obtain ⟨v,h1,h2,h3⟩:=hR
 exact (RNum_any r v s w h1).mono fun _ _ ⟨he,h⟩=>⟨he,RrTo_R h2 h3 (rNum_len s) h⟩
theorem RInt_R {R:Nat→Prop} {r:Nat} {most:Int} {s:RSt} {w:World} (hR:RrR 132 R w r s) (hm:-9223372036854775808≤most∧most≤9223372036854775807) :
 Calls Tryz.prog 42 #[.pointer (some ⟨r,0,none⟩),.int .i64 most] w fun e w'=>e=.returned (.int .i64 ((rInt most s).1:Nat))∧RrR 132 R w' r (rInt most s).2∧Mod R w w':=by
 obtain ⟨v,h1,h2,h3⟩:=hR
 exact (RInt_any r most v s w h1 hm).mono fun _ _ ⟨he,h⟩=>⟨he,RrTo_R h2 h3 (rInt_len most s) h⟩
theorem rRow_len (most:Int) (s:RSt):((rRow most s).2.getD []).length≤(s.getD []).length:=C4 (rTake_len _ _) (rInt_len most s)
theorem rHash_len (s:RSt):((A6 s).2.getD []).length≤(s.getD []).length:=by
 have h:=rTake_len 32 s
 unfold A6
 generalize Bm 32 s=q at *
 rcases q with ⟨b,_|x⟩
 ·simp
 ·simpa using h
theorem rTake_bd (n:Nat) (s:RSt):(Bm n s).1.length≤n:=by
 cases s with
 | none=>simp
 | some l=>simp only [Bm];split<;>simp;omega
theorem RRow_R {R:Nat→Prop} {r:Nat} {most:Int} {s:RSt} {w:World} (hR:RrR 132 R w r s) (hm:-9223372036854775808≤most∧most≤1000000000) :
 Calls Tryz.prog 87 #[.pointer (some ⟨r,0,none⟩),.int .i64 most] w fun e w'=>∃ v',e=.returned v'∧OwR (New w w') most.toNat w' v' (rRow most s).1∧RrR 132 R w' r (rRow most s).2∧Mod R w w':=by
 obtain ⟨v,h1,h2,h3⟩:=hR
 refine (RRow_any r most v s w h1 hm).mono fun _ _ ⟨v',he,ho,hf,h⟩=>⟨v',he,OwR_of _ ho hf ?_,RrTo_R h2 h3 (rRow_len most s) h⟩
 have:=rTake_bd (rInt most s).1 (rInt most s).2
 have:=rInt_le most s
 show (Bm _ _).1.length≤_
 omega
theorem RHash_R {R:Nat→Prop} {r:Nat} {s:RSt} {w:World} (hR:RrR 132 R w r s) :
 Calls Tryz.prog 119 #[.pointer (some ⟨r,0,none⟩)] w fun e w'=>e=.returned (hv (A6 s).1)∧RrR 132 R w' r (A6 s).2∧Mod R w w':=by
 obtain ⟨v,h1,h2,h3⟩:=hR
 exact (RHash_any r v s w h1).mono fun _ _ ⟨he,h⟩=>⟨he,RrTo_R h2 h3 (rHash_len s) h⟩
theorem OK_R {R:Nat→Prop} {r:Nat} {s:RSt} {w:World} (hR:RrR 132 R w r s) :
 Calls Tryz.prog 43 #[.pointer (some ⟨r,0,none⟩)] w fun e w'=>e=.returned (.bool s.isSome)∧w=w':=by
 obtain ⟨v,h1,h2,h3⟩:=hR
 exact OK_any r v s w h1
theorem Left_R {R:Nat→Prop} {r:Nat} {s:RSt} {w:World} (hR:RrR 132 R w r s) :
 Calls Tryz.prog 44 #[.pointer (some ⟨r,0,none⟩)] w fun e w'=>e=.returned (.int .i64 (s.getD []).length)∧w=w':=by
 obtain ⟨v,h1,h2,h3⟩:=hR
 exact Left_any r v s w h1
theorem hv_guard2 (op:BinOp) (x y:Operand) (a b:List Int) (w:World):(eqGuard op 25 x y (hv a) (hv b)).run Tryz.prog w=.ok () w:=
 run_eqGuard_agg (P:=Tryz.prog) w op 25 x y _ _ aE
theorem hv_eql {a b:List Int} (ha:a.length=32) (hb:b.length=32) (w:World):(binOp .eql 25 (hv a) (hv b)).run Tryz.prog w=.ok (.bool (decide (a=b))) w:=
 run_eql_ints w 25 5 32 D8 Tryz.underlying5 aE a b ha hb
/-- append of bytes, with the blocks -/
theorem wpList_appR {w:World} {ops:Array Oper} {rest:List Oper} {o:Oper} {a:Act} {Q:Exit→Act→World→Prop} (hgd:o.guard=none) (s x:Operand)
 (ho:o.op=.call { callee:=.builtin .append,args:=#[s,x],argTypes:=#[52,52] })
 {R R':Nat→Prop} {N M:Nat} {v:Value} {bs:List Int} (hs:a.eval s=v) (hown:OwR R N w v bs) {xv:Value} {new:List Int} (hx:a.eval x=xv) (hrd:RdR R' M w xv new)
 (hroom:N+M≤1000000)
 (h:∀ ao cap w',OwR (fun k=>R k∨New w w' k) (N+M) w' (.slice ao (bs.length+new.length) cap) (bs ++ new)→Mod R w w'→wpList Tryz.prog ops Q rest (a.put o.dst (.slice ao (bs.length+new.length) cap)) w'):wpList Tryz.prog ops Q (o :: rest) a w:=
 wpList_appB hgd s x ho hs hown.1 hx hrd.1 (by have:=hown.2.2;have:=hrd.2.2;unfold Room;omega) fun ao cap w' ⟨h1,h2,h3⟩=>h ao cap w' ⟨h1,(fun g hg=>by
  rcases h3 with h3|⟨k,h3,hk⟩
  ·exact .inl (hown.2.1 g (h3▸hg))
  ·rw [h3] at hg
   obtain rfl:k=g:=by simpa using hg
   exact .inr ⟨hk,Own.lt h1 h3⟩),by have:=hown.2.2;have:=hrd.2.2;simp;omega⟩ (h2.mono (fun k _ hk=>hown.2.1 k hk.symm))
open Go Go.RowKit Go.Gv Go.ChangeShapes Go.WideShapes Go.ChangeAt
theorem u64_nat {a:Int} (h:(Lit.int .u64 a).wf=true):∃ n:Nat,a=n∧n < U64:=by
 have:=bounds_u64 h
 exact ⟨a.toNat,by omega,by unfold U64;omega⟩
theorem i64_bd {a:Int} (h:(Lit.int .i64 a).wf=true):-9223372036854775808≤a∧a≤9223372036854775807:=bounds_i64 h
theorem bytes_of_trod {H:Type} {enc:TypeId × Value→H} {W:World} {base:Nat} {v:Value} {d:DataW H} {p:List MemPlace} (hv:Value.okWide Tryz.prog W .any base 52 v)
 (h:DataW.Trod enc Tryz.prog W 0 (fun _=>true) true 52 v d p):∃ bs,RdB W v bs∧Apart v bs.length (fun k=>W.heap.size≤k):=by
 obtain ⟨a0,len0,cap0,rfl⟩:=okWide_slice D2 hv
 obtain ⟨fuel,hf⟩:=h
 rcases open_ints D2 Tryz.underlying5 aE hf with ⟨hcs,_⟩|⟨x,l,c,zs,hcs,_,hl,hm,hz,hx,hcell,hwz⟩
 ·simp [Value.cells] at hcs
  obtain ⟨rfl,rfl,rfl⟩:=hcs
  exact ⟨[],RdB.nil _,Apart.zero⟩
 ·simp [Value.cells] at hcs
  obtain ⟨rfl,rfl,rfl⟩:=hcs
  simp only [if_true] at hz
  have hbl:(zs.take len0).length=len0:=by simp;omega
  refine ⟨zs.take len0,⟨?_,?_⟩,?_⟩
  ·intro y hy
   have:=bounds_u8 (hwz y (List.mem_of_mem_take hy))
   omega
  ·rw [hbl]
   refine ⟨by simp;omega,some x,cap0,rfl,hl,hm,(fun h=>by cases h),?_⟩
   intro y hy j u hu
   cases hy
   simp only [List.getElem?_map,Option.map_eq_some_iff] at hu
   obtain ⟨q,hq,rfl⟩:=hu
   have hj:j < len0:=by have:=(List.getElem?_eq_some_iff.1 hq).1;omega
   rw [List.getElem?_take,if_pos hj] at hq
   have h0:=hcell 0 aL
   refine ⟨by simpa [Addr.add] using World.cell?_spot h0,?_⟩
   rw [hcell j aL]
   simp [List.getD,hq]
  ·intro h0 g hg
   rw [hbl] at h0
   simp [Value.ownBlock] at hg
   subst hg
   have h0:=World.block_lt_of_cell? _ _ (hcell 0 aL)
   simp [Addr.add] at h0
   omega
open Go Go.RowKit Go.Gv Go.ChangeShapes Go.WideShapes Go.ChangeAt Go.Deep
/-- the slice v is the list l, each element s cells -/
def RdE {α:Type} (s:Nat) (cells:α→List Value) (R:Nat→Prop) (w:World) (v:Value) (l:List α):Prop:=
 (l=[]∧∃ ao cap,v=.slice ao 0 cap)∨
 ∃ g o cap,R g∧v=.slice (some ⟨g,o,none⟩) l.length cap∧0 < l.length∧l.length≤cap∧cap≤maxLen∧∀ i (h:i < l.length),∀ j u,(cells l[i])[j]? = some u→w.cell? ⟨g,o+i * s+j,none⟩=some u
theorem RdE.mod {α:Type} {s:Nat} {cells:α→List Value} {R S:Nat→Prop} {w w':World} {v:Value} {l:List α} (h:RdE s cells R w v l) (hm:Mod S w w') (hs:∀ k,R k→S k→False):RdE s cells R w' v l:=by
 rcases h with h|⟨g,o,cap,h1,h2,h3,h4,h5,h6⟩
 ·exact .inl h
 ·exact .inr ⟨g,o,cap,h1,h2,h3,h4,h5,fun i hi j u hu=>hm.cell (h6 i hi j u hu) (hs g h1)⟩
section
variable {H:Type} {enc:TypeId × Value→H} {W:World}
theorem trod_arr {t e:TypeId} {n fuel:Nat} {cs:List Value} {x:DataW H × List MemPlace} (ht:Tryz.prog.underlying t=some (.array n e)) (he:Tryz.prog.underlying e=some (.int .u8)) (hce:Tryz.prog.cellsOf e=1) (hcs:Tryz.prog.cellsOf t=n)
 (h:DataW.trod enc Tryz.prog W 0 (fun _=>true) true fuel t cs=some x):∃ hs:List Int,cs=hs.map bv∧Bytes hs∧hs.length=n:=by
 obtain ⟨xs,m,_,rfl,hl,hn,hx⟩:=DataW.trod_array ht h
 rw [hcs] at hl
 have key:∀ i (hi:i < n),∃ q:Int,cs[i]'aL=bv q∧0≤q∧q < 256:=by
  intro i hi
  have:=hx i hi
  rw [hce,Nat.mul_one,List.getElem?_eq_getElem aL] at this
  have e1:(cs.drop i).take 1=[cs[i]'aL]:=by
   rw [List.drop_eq_getElem_cons (by omega:i < cs.length)];rfl
  rw [e1] at this
  obtain ⟨q,e2,_,hw⟩:=DataW.trod_int he this
  simp at e2
  have hb:=bounds_u8 hw
  exact ⟨q,e2,by omega,by omega⟩
 refine ⟨cs.map (intOf ·),?_,?_,by simp [hl]⟩
 ·apply List.ext_getElem
  ·simp
  ·intro i h1 h2
   obtain ⟨q,hq,_⟩:=key i aL
   simp [hq,intOf]
 ·intro y hy
  obtain ⟨u,hu,rfl⟩:=List.mem_map.1 hy
  obtain ⟨i,hi,rfl⟩:=List.getElem_of_mem hu
  obtain ⟨q,hq,h0,h1⟩:=key i aL
  rw [hq]
  exact ⟨h0,h1⟩
theorem trod_bytes {fuel:Nat} {v:Value} {x:DataW H × List MemPlace} (h:DataW.trod enc Tryz.prog W 0 (fun _=>true) true fuel 52 [v]=some x):∃ bs,RdR (fun k=>k < W.heap.size) bs.length W v bs:=by
 rcases open_ints D2 Tryz.underlying5 aE h with ⟨hcs,_⟩|⟨x,len0,cap0,zs,hcs,_,hl,hm,hz,hx,hcell,hwz⟩
 ·simp at hcs;subst hcs
  exact ⟨[],RdB.nil _,fun h=>by simp at h,C0 _⟩
 ·simp at hcs;subst hcs
  simp only [if_true] at hz
  have hbl:(zs.take len0).length=len0:=by simp;omega
  refine ⟨zs.take len0,⟨?_,?_⟩,?_,C0 _⟩
  ·intro y hy
   have:=bounds_u8 (hwz y (List.mem_of_mem_take hy))
   omega
  ·rw [hbl]
   refine ⟨by simp;omega,some x,cap0,rfl,hl,hm,(fun h=>by cases h),?_⟩
   intro y hy j u hu
   cases hy
   simp only [List.getElem?_map,Option.map_eq_some_iff] at hu
   obtain ⟨q,hq,rfl⟩:=hu
   have hj:j < len0:=by have:=(List.getElem?_eq_some_iff.1 hq).1;omega
   rw [List.getElem?_take,if_pos hj] at hq
   have h0:=hcell 0 aL
   refine ⟨by simpa [Addr.add] using World.cell?_spot h0,?_⟩
   rw [hcell j aL]
   simp [List.getD,hq]
  ·intro h0 g hg
   rw [hbl] at h0
   simp [Value.ownBlock] at hg
   subst hg
   have h0:=World.block_lt_of_cell? _ _ (hcell 0 aL)
   simpa [Addr.add] using h0
/-- a slice whose elements are read one by one -/
theorem trod_list {α:Type} [Inhabited α] {t e:TypeId} {s fuel:Nat} (cells:α→List Value) (Ok:α→Prop) {v:Value} {x:DataW H × List MemPlace} (ht:Tryz.prog.underlying t=some (.slice e)) (hce:Tryz.prog.cellsOf e=s) (hs:0 < s) (hlen:∀ a,(cells a).length=s)
 (he:∀ fuel cs x,DataW.trod enc Tryz.prog W 0 (fun _=>true) true fuel e cs=some x→∃ a,cs=cells a∧Ok a)
 (h:DataW.trod enc Tryz.prog W 0 (fun _=>true) true fuel t [v]=some x):∃ l:List α,RdE s cells (fun k=>k < W.heap.size) W v l∧∀ a ∈ l,Ok a:=by
 rcases open_slice ht h with ⟨hcs,_⟩|⟨a,len,cap,m,n,D,Pl,hcs,_,hl,hm,hmm,_,hel⟩
 ·simp at hcs;subst hcs
  exact ⟨[],.inl ⟨rfl,_,_,rfl⟩,fun a ha=>by cases ha⟩
 ·simp at hcs;subst hcs
  simp only [if_true] at hmm
  subst hmm
  rcases Nat.eq_zero_or_pos len with rfl|hpos
  ·exact ⟨[],.inl ⟨rfl,_,_,rfl⟩,fun a ha=>by cases ha⟩
  have key:∀ i,i < len→∃ b:α,W.cells? 0 (a.add (i * s)) s=some (cells b)∧Ok b:=by
   intro i hi
   obtain ⟨cs',h1,h2⟩:=hel i aL
   rw [hce] at h1
   obtain ⟨b,rfl,hb⟩:=he _ _ _ h2
   exact ⟨b,h1,hb⟩
  obtain ⟨f,hf⟩:=choose_lt key
  have cell:∀ i,i < len→∀ j u,(cells (f i))[j]? = some u→W.cell? ((a.add (i * s)).add j)=some u:=by
   intro i hi j u hu
   obtain ⟨_,hl2,hc2⟩:=World.cells?_some (hf i hi).1
   have hj:=(List.getElem?_eq_some_iff.1 hu).1
   rw [hc2 j aL,hu]
  have h00:0 < (cells (f 0)).length:=by rw [hlen];exact hs
  have c00:=cell 0 hpos 0 _ (List.getElem?_eq_getElem h00)
  have ea:(a.add (0 * s)).add 0=a:=by simp [Addr.add]
  rw [ea] at c00
  have hspot:=World.cell?_spot c00
  have hblk:=World.block_lt_of_cell? _ _ c00
  obtain ⟨g,o,sp⟩:=a
  simp only at hspot hblk
  subst hspot
  refine ⟨(List.range len).map f,.inr ⟨g,o,m,hblk,by simp,by simpa using hpos,by simpa using hl,hm,?_⟩,?_⟩
  ·intro i hi j u hu
   simp only [List.length_map,List.length_range] at hi
   have:=cell i hi j u (by simpa using hu)
   rw [add_mk,add_mk] at this
   exact this
  ·intro b hb
   obtain ⟨i,hi,rfl⟩:=List.mem_map.1 hb
   exact (hf i (by simpa using hi)).2
end
end Go.Proofs.YtnaoeginonpicaaGreat
namespace Go.Gv
open Go Go.RowKit
section
variable {P:Program} {o:Oper} {a:Act} {w w':World}
theorem Bq {T e:TypeId} {x y:Operand} {g off n cap i s:Nat} {k:IntKind} (ho:o.op=.indexAddr T x y) (hu:P.underlying T=some (.slice e)) (hs:(P.info? e).map (·.size)=some s) (hx:a.eval x=.slice (some ⟨g,off,none⟩) n cap) (hy:a.eval y=.int k (i:Int)) (hi:i < n) :
 (execOp a.eval o).run P w=.ok (.value (.pointer (some ⟨g,off+i * s,none⟩))) w:=by
 have hsz:(sizeOf e).run P w=.ok s w:=by
  cases hq:P.info? e with
  | none=>rw [hq] at hs;cases hs
  | some i=>rw [hq] at hs;simp [sizeOf,typeInfo,hq];exact Option.some.inj hs
 unfold execOp
 simp [ho,hx,hy,Instr.indexAt,asIntOf,run_underlying hu,hsz,hi,add_mk]
theorem ex_buildS1 {T e:TypeId} {y:Operand} {cs:List Value} {s:Nat} {zc:List Value} (ho:o.op=.buildSlice T 1 #[(0,y)]) (hu:P.underlying T=some (.slice e)) (hie:(P.info? e).map (fun i=>(i.size,i.zero))=some (s,some (.agg zc.toArray))) (hz:zc.length=s) (h0:0 < s) (hb:s≤1000) (hy:a.eval y=.agg cs.toArray) (hl:cs.length=s) :
 (execOp a.eval o).run P w=.ok (.value (.slice (some ⟨w.heap.size,0,none⟩) 1 1)) (w.alloc (.cells cs.toArray e)):=by
 cases hq:P.info? e with
 | none=>rw [hq] at hie;cases hie
 | some ie=>
  rw [hq] at hie
  have e0:=Option.some.inj hie
  have e1:ie.size=s:=congrArg Prod.fst e0
  have e2:ie.zero=some (.agg zc.toArray):=congrArg Prod.snd e0
  have hf:Instr.fill (fun i=>some (i * ie.size,ie.size)) ((Array.range (1 * ie.size)).map ((Value.agg zc.toArray).cells[· % (Value.agg zc.toArray).cells.size]!)) (#[((0:Nat),a.eval y)]:Array (Nat × Value)).toList=some cs.toArray:=by
   rw [hy,e1]
   unfold Instr.fill
   simp only
   have hsz:((Array.range (1 * s)).map ((Value.agg zc.toArray).cells[· % (Value.agg zc.toArray).cells.size]!)).size=s:=by simp
   rw [if_neg (by simp [Value.cells,hl])]
   unfold Instr.fill
   congr 1
   have:=foldl_lay (0 * s) cs ((Array.range (1 * s)).map ((Value.agg zc.toArray).cells[· % (Value.agg zc.toArray).cells.size]!)).toList (by simp [hl])
   simp only [Value.cells] at this ⊢
   simp only [Array.toArray_toList] at this
   rw [← Array.toList_zipIdx] at this
   simp only [Array.foldl_toList] at this
   rw [this]
   simp [hl]
  have hr:=run_buildSlice (P:=P) w T e 1 (#[((0:Nat),a.eval y)]:Array (Nat × Value)) cs.toArray ie (.agg zc.toArray) hu hq e2 (by rw [e1];omega) (by rw [e1];omega) hf
  unfold execOp
  simp only [ho,Sem.run_bind,C8,C5,C6,hr,Result.andThen_ok,Sem.run_pure]
theorem ex_append {t:TypeId} {x y:Operand} {vx vy v:Value} (ho:o.op=.call { callee:=.builtin .append,args:=#[x,y],argTypes:=#[t,t] }) (hx:a.eval x=vx) (hy:a.eval y=vy) (hr:(Builtin.append_ #[t,t] o.type #[vx,vy]).run P w=.ok v w'):(execOp a.eval o).run P w=.ok (.value v) w':=by
 unfold execOp
 simp only [ho,resolve,invoke,builtin,Sem.run_bind,Sem.run_pure,Result.andThen_ok,C8,C5,C6,hx,hy,hr]
end
section
variable {P:Program} {o:Oper} {a:Act} {w w':World} {t:TypeId} {k:IntKind}
theorem run_xor_i (x y:Int):(binOp .xor t (.int k x) (.int k y)).run P w=.ok (.int k (bits .xor k x y)) w:=by simp [binOp,Op.intBits,bits]
end
section
variable {P:Program} {ops:Array Oper} {Q:Exit→Act→World→Prop} {i:Nat} {o:Oper} {a:Act} {w:World} {KQ:Value→World→Prop}
theorem ex_callV {x:Operand} {F:FuncId} {xs:Array Operand} {ts:Array TypeId} (ho:o.op=.call { callee:=.value x,args:=xs,argTypes:=ts }) (hx:a.eval x=.func (.func F) #[] #[]) {fn:Func} (hf:P.funcs[F]? = some fn) (hn:(fn.name == "runtime.NumGoroutine")=false) (hb:fn.body.isNone=false) :
 (execOp a.eval o).run P w=.ok (.enter F (xs.map a.eval)) w:=by
 have hn':¬ fn.name = "runtime.NumGoroutine" := by simpa using hn
 have hb':¬ fn.body=none:=by intro e;rw [e] at hb;cases hb
 unfold execOp
 simp [ho,resolve,invoke,hx,Deferred.ofValue,callFunc,hf,hn',hb']
theorem B6 {x:Operand} {k:Nat} {vs:Array Value} {v:Value} (ho:o.op=.extract x k) (hx:a.eval x=.tuple vs) (hv:vs[k]? = some v):(execOp a.eval o).run P w=.ok (.value v) w:=by
 unfold execOp
 simp [ho,hx,Instr.extract,hv]
theorem Aq {op:BinOp} {t u:TypeId} {x y:Operand} {vx vy v v':Value} (ho:o.op=.binOp op t x y u) (hx:a.eval x=vx) (hy:a.eval y=vy) (hg:(eqGuard op t x y vx vy).run P w=.ok () w) (hr:(binOp op t vx vy).run P w=.ok v w) (he:v=v'):(execOp a.eval o).run P w=.ok (.value v') w:=by
 subst he;exact ex_bin ho hx hy hg hr
theorem A5 {c x y:Operand} {b:Bool} {vx vy v:Value} (ho:o.op=.pick c x y) (hc:a.eval c=.bool b) (hx:a.eval x=vx) (hy:a.eval y=vy) (he:(if b then vx else vy)=v):(execOp a.eval o).run P w=.ok (.value v) w:=by
 subst he;exact Bp ho hc hx hy
theorem ex_min {x y:Operand} {ts:Array TypeId} {k k':IntKind} {m n r:Int} (ho:o.op=.call { callee:=.builtin .min,args:=#[x,y],argTypes:=ts }) (hx:a.eval x=.int k m) (hy:a.eval y=.int k' n) (he:(if n < m then n else m)=r):(execOp a.eval o).run P w=.ok (.value (.int k r)) w:=by
 subst he
 unfold execOp
 simp [ho,resolve,invoke,builtin,hx,hy,run_min_int2,Result.andThen]
theorem add_zero (a:Addr):a.add 0=a:=by
 unfold Addr.add
 split<;>simp_all
theorem ex_sliceTo {T e:TypeId} {x y:Operand} {ao:Option Addr} {n cap i:Nat} {s:Nat} {k:IntKind} (ho:o.op=.slice T x none (some y) none) (hu:P.underlying T=some (.slice e)) (hs:(P.info? e).map (·.size)=some s) (hx:a.eval x=.slice ao n cap) (hy:a.eval y=.int k (i:Int)) (hi:i≤cap) :
 (execOp a.eval o).run P w=.ok (.value (.slice ao i cap)) w:=by
 have hsz:(sizeOf e).run P w=.ok s w:=by
  cases hq:P.info? e with
  | none=>rw [hq] at hs;cases hs
  | some i=>rw [hq] at hs;simp [sizeOf,typeInfo,hq];exact Option.some.inj hs
 have hm:(if cap=0 then ao else ao.map (·.add (0 * s)))=ao:=by
  split
  ·rfl
  ·cases ao with
   | none=>rfl
   | some x=>simp [add_zero]
 have hm2:ao.map (fun x=>x.add 0)=ao:=by cases ao with|none=>rfl|some x=>simp [add_zero]
 unfold execOp
 simp [ho,hx,hy,Instr.sliceAt,Instr.slice,Instr.sliceBounds,Instr.sliceBound,asIntOf,run_underlying hu,hsz,hi]
 intro h0
 exact hm2
/-- one of the chain appends things -/
theorem qc_appS {α:Type} {A:Rep α} {e t:TypeId} {R E R2:Nat→Prop} {v xv:Value} {l new:List α} {s x:Operand} (ho:ops[i]? = some o) (hw:Region.wanted o (yielded ops a.tmps)=true) (hop:o.op=.call { callee:=.builtin .append,args:=#[s,x],argTypes:=#[t,t] }) (z:Value) (bytes:Nat)
 (ht:P.underlying t=some (.slice e)) (hinfo:(P.info? e).map (fun i=>(i.zero,i.size,i.bytes))=some (some z,A.sz,bytes)) (hzs:z.cells.size=A.sz) (hzE:∀ u ∈ z.cells.toList,u.oneCell'=true)
 (hs:a.eval s=v) (hx:a.eval x=xv) (hown:OwS A e R E w v l) (hrd:RdS A R2 w xv new) (hd:∀ k,R2 k→R k→False) (hbytes:(l.length+new.length) * bytes≤140737488355328) (h63:l.length+new.length≤maxLen)
 (h:∀ ao cap w',OwS A e (fun k=>R k∨(w.heap.size≤k∧k < w'.heap.size)) (fun k=>E k∨R2 k) w' (.slice ao (l.length+new.length) cap) (l ++ new)→Mod R w w'→KQ (.slice ao (l.length+new.length) cap) w'):wpOp P ops Q i (fun a' w'=>∃ v,a'=a.put o.dst v∧KQ v w') a w:=by
 obtain ⟨ao,cap,w',hr,h1,h2⟩:=run_appS (P:=P) w t o.type e z bytes ht hinfo hzs hzE hown hrd (fun k hk he=>by obtain ⟨_,_,_,_,h5⟩:=hown;exact hd k hk (h5 k he)) hbytes h63
 exact Bu ho hw (ex_append hop hs hx hr) (h ao cap w' h1 h2)
/-- one of the chain makes a row of one thing -/
theorem qc_buildS {e t:TypeId} {y:Operand} {cs zc:List Value} {sz:Nat} (ho:ops[i]? = some o) (hw:Region.wanted o (yielded ops a.tmps)=true) (hop:o.op=.buildSlice t 1 #[(0,y)]) (hu:P.underlying t=some (.slice e)) (hie:(P.info? e).map (fun i=>(i.size,i.zero))=some (sz,some (.agg zc.toArray))) (hz:zc.length=sz) (h0:0 < sz) (hb:sz≤1000) (hy:a.eval y=.agg cs.toArray) (hl:cs.length=sz)
 (h:∀ w',Cs w' w.heap.size cs.toArray e→Mod (fun _=>False) w w'→KQ (.slice (some ⟨w.heap.size,0,none⟩) 1 1) w'):wpOp P ops Q i (fun a' w'=>∃ v,a'=a.put o.dst v∧KQ v w') a w:=
 Bu ho hw (ex_buildS1 hop hu hie hz h0 hb hy hl) (h _ (Cs.new _ _ _) ((Mod.refl _ _).alloc _))
end
end Go.Gv
