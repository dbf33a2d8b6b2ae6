/- Texts that are built one behind the other: XQ4, XQ5, XS, XPp, XRef1, XJoin, XQ3, XSha1, XSha2, XSha3, XSha4, XActs, XLoc, XPlain2, XOwV, XNums, XSha5, XWc, XCm1, XCm2, XSet0, XTy, XCut1, XCut2, XCut3, XPt1, XPt2, XWt1. No condition. -/
import Derived.Test.YtnaoeginonpicaaGreatMvF2
import Derived.Lib.ConvBytes
import Derived.IntWalk
import Derived.Deep.Cut
import Derived.Deep.RegionHeld3
set_option maxRecDepth 100000
set_option linter.unusedVariables false
open Go renaming Lib.hid→B8
open Go.Proofs renaming Tryz.underlying3→B9,Tryz.underlying61→C1,Tryz.underlying45→C7,Tryz.underlying43→D0,Tryz.underlying52→D2,Tryz.underlying47→D4,Tryz.underlying124→D7,Tryz.underlying25→D8,Tryz.underlying59→D9,Tryz.underlying30→E0,Tryz.func22→E3,Tryz.underlying127→E4,Tryz.underlying100→E5,Tryz.func67→E6,Tryz.underlying29→E7,Tryz.underlying4→E8,Tryz.func21→E9
open Nat renaming le_refl→C0,le_trans→C4
open List renaming append_assoc→C2,length_append→C3,map_cons→C5,map_nil→C6,map_toArray→C8,not_mem_nil→C9,mem_cons→D1,size_toArray→D3,length_nil→D5,length_cons→D6
open List renaming setIfInBounds_toArray → sIB, set_cons_zero → sCZ, set_cons_succ → sCS
namespace Go.Gv
open Go Go.RowKit
theorem hid {p:Prop} (h:p):Hid p:=h
/-- a chain's steps, told at once: S: what of old they may turn -/
theorem Mod.new {S:Nat→Prop} {w a:World} (h:Mod (fun j=>w.heap.size≤j) w a):Mod S w a:=h.mono fun k hk h=>absurd hk (Nat.not_lt.2 h)
theorem Mod.goR {S R:Nat→Prop} {w a c:World} (h:Mod S w a) (hr:Mod (fun j=>w.heap.size≤j∧R j) a c):Mod S w c:=
 h.trans hr fun k hk h=>absurd hk (Nat.not_lt.2 h.1)
theorem Mod.goM {S T R:Nat→Prop} {w a b c:World} (h:Mod S w a) (hm:Mod T a b) (hr:Mod (fun j=>w.heap.size≤j∧R j) b c) (hs:∀ k,k < w.heap.size→T k→S k):Mod S w c:=
 (h.trans hm hs).goR hr
theorem Mod.go {S R:Nat→Prop} {w a b c:World} (h:Mod S w a) (hm:Mod (fun _=>False) a b) (hr:Mod (fun j=>w.heap.size≤j∧R j) b c):Mod S w c:=
 h.goM hm hr fun _ _ h=>h.elim
theorem Mod.old {w a:World} (h:Mod (fun j=>(j < w.heap.size∧False)∨w.heap.size≤j) w a):Mod (fun j=>w.heap.size≤j) w a:=h.mono fun _ _ h=>h.elim (fun h=>h.2.elim) (fun h=>h)
theorem chv {v x:Value} (h:some v=some x):x=v:=(Option.some.inj h).symm
theorem list_eta {vs:List Value} {n:Nat} (hl:vs.length=n):vs=(List.range n).map fun i=>vs.getD i undef:=by
 subst hl
 refine List.ext_getElem? fun i=>?_
 rcases Nat.lt_or_ge i vs.length with h|h
 ·simp [List.getD_eq_getElem?_getD,h]
 ·simp [h]
theorem getq {vs:List Value} {n p:Nat} (hl:vs.length=n) (h:p < n):vs[p]? = some (vs.getD p undef):=by
 subst hl
 simp [List.getD_eq_getElem?_getD,h]
section
variable {β:Type} {f:Operand→β}
theorem args0:(#[]:Array Operand).map f=#[]:=by simp
theorem Ap {x1:Operand} {a1:β} (h1:f x1=a1):#[x1].map f=#[a1]:=by rw [← h1];simp
theorem Ar {x1 x2:Operand} {a1 a2:β} (h1:f x1=a1) (h2:f x2=a2):#[x1,x2].map f=#[a1,a2]:=by rw [← h1,← h2];simp
theorem args3 {x1 x2 x3:Operand} {a1 a2 a3:β} (h1:f x1=a1) (h2:f x2=a2) (h3:f x3=a3):#[x1,x2,x3].map f=#[a1,a2,a3]:=by rw [← h1,← h2,← h3];simp
end
section
variable {P:Program} {ops:Array Oper} {Q:Exit→Act→World→Prop} {a0:Act} {w0:World} {n:Nat} {ss:List Nat} {S0:Nat→Prop} {SS:Nat→Nat→Prop} {l:List QPred} {c:List Nat} {al:List QRow} {i:Nat} {o:Oper}
/-- what is known where an operation beside the chain stands -/
structure StE (ops:Array Oper) (a0:Act) (w0:World) (n:Nat) (ss:List Nat) (S0:Nat→Prop) (SS:Nat→Nat→Prop) (l:List QPred) (c:List Nat) (i:Nat) (o:Oper) (Z:Nat→Prop) (t:List Value) (a:Act) (w:World):Prop where
 inZ:∀ j,Z j→w0.heap.size≤j∧j < w.heap.size
 m:Mod (fun j=>(j < w0.heap.size∧S0 j)∨w0.heap.size≤j) w0 w
 m0:Mod (fun j=>(j < w0.heap.size∧∃ k,k < t.length∧SS k j)∨w0.heap.size≤j) w0 w
 out:∀ t,t ∉ ss→a.eval (.tmp t)=a0.eval (.tmp t)
 sz:∀ s,s < n→s < a.tmps.size
 on:∀ e ∈ o.after,Region.binds .any e=true→∀ s,(ops[e.on]?).bind (·.dst)=some s→(l.getD e.on qa) Z t (a.eval (.tmp s)) w
 ub:∀ k q,c[k]? = some q→(clo ops ops.size (B4 ops q)).contains i=true→t.length≤k
 pre:∀ j s,(ops[j]?).bind (·.dst)=some s→(clo ops ops.size (B4 ops j)).contains i=true→a.eval (.tmp s)=a0.eval (.tmp s)
theorem StE.v {Z:Nat→Prop} {t:List Value} {a:Act} {w:World} (E:StE ops a0 w0 n ss S0 SS l c i o Z t a w) {k:Nat} {v:Value} (h:a0.eval (.tmp k)=v) (hk:k ∉ ss:=by decide):a.eval (.tmp k)=v:=(E.out k hk).trans h
theorem StE.e {Z:Nat→Prop} {t:List Value} {a:Act} {w:World} (E:StE ops a0 w0 n ss S0 SS l c i o Z t a w) (k:Nat) (g:Ground) {s:Nat} (h:(⟨k,g⟩:Edge) ∈ o.after:=by simp) (hb:Region.binds .any ⟨k,g⟩=true:=by rfl) (hs:(ops[k]?).bind (·.dst)=some s:=by rfl):(l.getD k qa) Z t (a.eval (.tmp s)) w:=E.on ⟨k,g⟩ h hb s hs
theorem StE.d {Z:Nat→Prop} {t:List Value} {a:Act} {w:World} (E:StE ops a0 w0 n ss S0 SS l c i o Z t a w) (k:Nat) {s:Nat} (h:(⟨k,.data⟩:Edge) ∈ o.after:=by simp) (hs:(ops[k]?).bind (·.dst)=some s:=by rfl):(l.getD k qa) Z t (a.eval (.tmp s)) w:=E.on ⟨k,.data⟩ h rfl s hs
/-- where one of the chain stands -/
structure ChE (ops:Array Oper) (a0:Act) (n:Nat) (ss:List Nat) (B:Nat) (l:List QPred) (i:Nat) (o:Oper) (Y:Nat→Prop) (Z:Nat→Prop) (t:List Value) (a:Act) (w:World):Prop where
 YZ:∀ j,Y j→Z j
 inZ:∀ j,Z j→B≤j∧j < w.heap.size
 out:∀ t,t ∉ ss→a.eval (.tmp t)=a0.eval (.tmp t)
 sz:∀ s,s < n→s < a.tmps.size
 on:∀ e ∈ o.after,Region.binds .any e=true→∀ s,(ops[e.on]?).bind (·.dst)=some s→(l.getD e.on qa) Z t (a.eval (.tmp s)) w
 pre:∀ j s,(ops[j]?).bind (·.dst)=some s→(clo ops ops.size (B4 ops j)).contains i=true→a.eval (.tmp s)=a0.eval (.tmp s)
theorem ChE.v {B:Nat} {Y Z:Nat→Prop} {t:List Value} {a:Act} {w:World} (E:ChE ops a0 n ss B l i o Y Z t a w) {k:Nat} {v:Value} (h:a0.eval (.tmp k)=v) (hk:k ∉ ss:=by decide):a.eval (.tmp k)=v:=(E.out k hk).trans h
theorem ChE.e {B:Nat} {Y Z:Nat→Prop} {t:List Value} {a:Act} {w:World} (E:ChE ops a0 n ss B l i o Y Z t a w) (k:Nat) (g:Ground) {s:Nat} (h:(⟨k,g⟩:Edge) ∈ o.after:=by simp) (hb:Region.binds .any ⟨k,g⟩=true:=by rfl) (hs:(ops[k]?).bind (·.dst)=some s:=by rfl):(l.getD k qa) Z t (a.eval (.tmp s)) w:=E.on ⟨k,g⟩ h hb s hs
theorem ChE.d {B:Nat} {Y Z:Nat→Prop} {t:List Value} {a:Act} {w:World} (E:ChE ops a0 n ss B l i o Y Z t a w) (k:Nat) {s:Nat} (h:(⟨k,.data⟩:Edge) ∈ o.after:=by simp) (hs:(ops[k]?).bind (·.dst)=some s:=by rfl):(l.getD k qa) Z t (a.eval (.tmp s)) w:=E.on ⟨k,.data⟩ h rfl s hs
theorem QChain.go {B:Nat} {Y:Nat→Prop} {k:Nat} {t:List Value} {w:World} (h:∀ Z a,ChE ops a0 n ss B l i o Y Z t a w→wpOp P ops Q i (fun a' w'=>∃ v,a'=a.put o.dst v∧QPost P ops Q a0 n ss B S0 SS l al i c k Y t w v w') a w) (ho:ops[i]? = some o:=by rfl):QChain P ops Q a0 n ss B S0 SS l al (i :: c) k Y t w:=
 QChain.cons ho fun Z a h1 h2 h3 h4 h5 h6=>h Z a ⟨h1,h2,h3,h4,h5,h6⟩
theorem QChain.goP {B:Nat} {Y:Nat→Prop} {k:Nat} {t:List Value} {w:World} (h:∀ Z a,ChE ops a0 n ss B l i o Y Z t a w→wpOp P ops Q i (fun a' w'=>∃ v,a'=a.put o.dst v∧QPostP P ops Q a0 n ss B S0 SS l al i c k Y t w v w') a w) (ho:ops[i]? = some o:=by rfl):QChain P ops Q a0 n ss B S0 SS l al (i :: c) k Y t w:=
 QChain.consP ho fun Z a h1 h2 h3 h4 h5 h6=>h Z a ⟨h1,h2,h3,h4,h5,h6⟩
/-- an answer of the chain's, with what it reads in blocks of its own -/
def qx (j B:Nat) (S0:Nat→Prop) (F:(Nat→Prop)→World→Value→Prop):QPred:=fun Z t v w=>t[j]? = some v∧qr B S0 F Z t v w
theorem qx_stable {j B:Nat} {S0:Nat→Prop} {F:(Nat→Prop)→World→Value→Prop} (h:QStable B S0 (qr B S0 F)):QStable B S0 (qx j B S0 F):=⟨fun Z t v w w' h1 h2=>⟨h1.1,h.env _ _ _ _ _ h1.2 h2⟩,fun Z Z' t t' v w w' h1 h2 h3 h4=>⟨(Ah (S0:=S0) (B:=B)).on Z Z' t t' v w w' h1.1 h2 h3 h4,h.on _ _ _ _ _ _ _ h1.2 h2 h3 h4⟩⟩
theorem stq {v:Value} (hs:∀ {Z:Nat→Prop} {t:List Value} {a:Act} {w:World},StE ops a0 w0 n ss S0 SS l c i o Z t a w→(execOp a.eval o).run P w=.ok (.value v) w) (ho:ops[i]? = some o:=by rfl) (hg:o.guard=none:=by rfl) (hv:l.getD i qa=qi v:=by rfl)
 (h:c.contains i=false:=by rfl) (h0:al.find? (fun r=>r.a == i)=none:=by rfl) (h1:al.find? (fun r=>r.s == i)=none:=by rfl):StepQ P ops Q a0 w0 n ss S0 SS l c al i o:=
 Ay h h0 h1 fun Z t a w k1 k2 k3 k4 k5 k6 k7 k8=>Bl ho (Aa hg) (hs ⟨k1,k2,k3,k4,k5,k6,k7,k8⟩) QE.refl (by rw [hv];rfl)
def gw (vs:List Value) (i:Nat):Value:=vs.getD i undef
theorem Bi {vs:List Value} {n:Nat} (hl:vs.length=n):vs=(List.range n).map fun i=>gw vs i:=list_eta hl
theorem fvi {Z:Nat→Prop} {t:List Value} {w:World} {vs:List Value} {m:Nat} {x:Value} (hV:∀ p v,vs[p]? = some v→(l.getD p qa) Z t v w) (hl:vs.length=m) (p:Nat) (hp:p < m:=by decide) (he:l.getD p qa=qi x:=by rfl):gw vs p=x:=by
 have h:=hV p _ (getq hl hp)
 rw [he] at h
 exact h
theorem fvc {Z:Nat→Prop} {t:List Value} {w:World} {vs:List Value} {m k:Nat} {x:Value} (hV:∀ p v,vs[p]? = some v→(l.getD p qa) Z t v w) (hl:vs.length=m) (p:Nat) (hp:p < m:=by decide) (he:l.getD p qa=qv k:=by rfl) (hx:t[k]? = some x:=by rfl):gw vs p=x:=by
 have h:=hV p _ (getq hl hp)
 rw [he] at h
 exact (Option.some.inj (hx.symm.trans h)).symm
/-- a region without new variables -/
theorem Bc {d:Bool} {id:Nat} (n:Nat) (hn:a0.tmps.size=n) (ss:List Nat)
 (S0:Nat→Prop) (SS:Nat→Nat→Prop) (hSS:∀ k j,SS k j→S0 j) (l:List QPred) (stable:AllQ w0.heap.size S0 l) (c:List Nat)
 (step:Each (StepQ P ops Q a0 w0 n ss S0 SS l c []) 0 ops.toList)
 (start:∀ w1,Mod (fun j=>w0.heap.size≤j) w0 w1→QChain P ops Q a0 n ss w0.heap.size S0 SS l [] c 0 (fun _=>False) [] w1)
 (hm:P.follows .mixedOrders=true:=by kernel_rfl) (hac:backward ops=true:=by kernel_rfl) (hss:okSlots ops n ss=true:=by kernel_rfl) (hnd:ss.Nodup:=by decide) (hlk:linked ops c=true:=by kernel_rfl) (hcn:c.Nodup:=by decide) (hcs:(c.all fun i=>decide (i < ops.size))=true:=by kernel_rfl):(Code.region id ops d).wp P Q a0 w0:=
 wp_region_Q n hn hm hac ss hss hnd S0 SS hSS l stable c hlk hcn hcs [] rfl (fun r hr=>by cases hr) (fun r hr=>by cases hr) (fun r hr=>by cases hr) step start
/-- one that turns nothing of old -/
theorem A7 {d:Bool} {id:Nat} (n:Nat) (hn:a0.tmps.size=n) (ss:List Nat) (l:List QPred) (stable:AllQ w0.heap.size (fun _=>False) l) (c:List Nat)
 (step:Each (StepQ P ops Q a0 w0 n ss (fun _=>False) (fun _ _=>False) l c []) 0 ops.toList)
 (start:∀ w1,Mod (fun j=>w0.heap.size≤j) w0 w1→QChain P ops Q a0 n ss w0.heap.size (fun _=>False) (fun _ _=>False) l [] c 0 (fun _=>False) [] w1)
 (hm:P.follows .mixedOrders=true:=by kernel_rfl) (hac:backward ops=true:=by kernel_rfl) (hss:okSlots ops n ss=true:=by kernel_rfl) (hnd:ss.Nodup:=by decide) (hlk:linked ops c=true:=by kernel_rfl) (hcn:c.Nodup:=by decide) (hcs:(c.all fun i=>decide (i < ops.size))=true:=by kernel_rfl):(Code.region id ops d).wp P Q a0 w0:=
 Bc n hn ss _ _ iA l stable c step start hm hac hss hnd hlk hcn hcs
theorem Aj {KQ:Value→World→Prop} {a:Act} {w:World} {F:FuncId} {xs:Array Operand} {ts:Array TypeId} {args:Array Value} {post:Ending→World→Prop} {fn:Func} (ho:ops[i]? = some o) (hw:Region.wanted o (yielded ops a.tmps)=true) (hop:o.op=.call { callee:=.value (.func F),args:=xs,argTypes:=ts })
 (hf:P.funcs[F]? = some fn) (ha:xs.map a.eval=args) (hcl:Calls P F args w post) (hp:∀ e w',post e w'→∃ v,e=.returned v∧KQ v w') (hn:(fn.name == "runtime.NumGoroutine")=false:=by kernel_rfl) (hb:fn.body.isNone=false:=by kernel_rfl):wpOp P ops Q i (fun a' w'=>∃ v,a'=a.put o.dst v∧KQ v w') a w:=
 qc_call ho hw (by rw [ex_callF hop hf hn hb,ha]) hcl hp
theorem qe_callF {B:Nat} {Z:Nat→Prop} {t:List Value} {a:Act} {w:World} {F:FuncId} {xs:Array Operand} {ts:Array TypeId} {args:Array Value} {post:Ending→World→Prop} {fn:Func} (ho:ops[i]? = some o) (hw:Region.wanted o (yielded ops a.tmps)=true) (hop:o.op=.call { callee:=.value (.func F),args:=xs,argTypes:=ts })
 (hf:P.funcs[F]? = some fn) (ha:xs.map a.eval=args) (hcl:Calls P F args w post) (hp:∀ e w',post e w'→∃ v,e=.returned v∧QE B Z w w'∧(l.getD i qa) Z t v w') (hn:(fn.name == "runtime.NumGoroutine")=false:=by kernel_rfl) (hb:fn.body.isNone=false:=by kernel_rfl):wpOp P ops Q i (QJ B l Z i o t a w) a w:=
 qe_call ho hw (by rw [ex_callF hop hf hn hb,ha]) hcl hp
end
theorem putAll_snoc:∀ (ss:List Nat) (t:List Value) (a:Act) (s:Nat) (v:Value),ss[t.length]? = some s→(Au a ss t).put (some s) v=Au a ss (t ++ [v])
 | [],t,a,s,v,h=>by simp at h
 | s :: ss,[],a,s',v,h=>by
  simp only [D5,List.getElem?_cons_zero,Option.some.injEq] at h
  subst h
  cases ss<;>rfl
 | s :: ss,u :: t,a,s',v,h=>by
  simp only [D6,List.getElem?_cons_succ] at h
  simp only [List.cons_append,Au]
  exact putAll_snoc ss t _ s' v h
theorem putAll_take:∀ (ss:List Nat) (t:List Value) (a:Act),Au a ss t=Au a (ss.take t.length) t
 | [],t,a=>by simp
 | s :: ss,[],a=>rfl
 | s :: ss,u :: t,a=>by
  simp only [D6,List.take_succ_cons,Au]
  exact putAll_take ss t _
theorem putAll_at:∀ (ss:List Nat) (t:List Value) (a:Act) (p s:Nat) (v:Value),ss.Nodup→ss[p]? = some s→t[p]? = some v→s < a.tmps.size→(Au a ss t).tmps[s]? = some v
 | [],t,a,p,s,v,hn,h,hv,hs=>by simp at h
 | s :: ss,[],a,p,s',v,hn,h,hv,hs=>by simp at hv
 | s :: ss,u :: t,a,0,s',v,hn,h,hv,hs=>by
  simp only [List.getElem?_cons_zero,Option.some.injEq] at h hv
  subst h hv
  simp only [Au]
  rw [putAll_out ss t _ s (List.nodup_cons.1 hn).1,put_tmps]
  simp [hs]
 | s :: ss,u :: t,a,p+1,s',v,hn,h,hv,hs=>by
  simp only [List.getElem?_cons_succ] at h hv
  simp only [Au]
  exact putAll_at ss t _ p s' v (List.nodup_cons.1 hn).2 h hv (by simpa [put_tmps] using hs)
/-- what is known of the frame where an operation stands: t: the answers of those ahead of it, the last one first -/
structure SqE (a0:Act) (n:Nat) (ss:List Nat) (t:List Value) (a:Act):Prop where
 out:∀ s:Nat,s ∉ ss→a.eval (.tmp s)=a0.eval (.tmp s)
 sz:∀ s:Nat,s < n→s < a.tmps.size
 on:∀ (k p s:Nat) (v:Value),ss[k]? = some s→t[p]? = some v→p+k+1=t.length→s < n→a.eval (.tmp s)=v
 yet:∀ (k s:Nat),t.length≤k→ss[k]? = some s→a.eval (.tmp s)=a0.eval (.tmp s)
section
variable {P:Program} {ops:Array Oper} {Q:Exit→Act→World→Prop} {a0:Act} {n:Nat} {ss:List Nat} {c:List Nat} {i:Nat} {o:Oper} {t:List Value} {w w':World} {a:Act}
theorem SqE.v (E:SqE a0 n ss t a) {k:Nat} {v:Value} (h:a0.eval (.tmp k)=v) (hk:k ∉ ss:=by decide):a.eval (.tmp k)=v:=(E.out k hk).trans h
theorem SqE.y (E:SqE a0 n ss t a) (k:Nat) {s:Nat} {v:Value} (h:a0.eval (.tmp s)=v) (hs:ss[k]? = some s:=by rfl) (hk:Nat.ble t.length k=true:=by rfl):a.eval (.tmp s)=v:=(E.yet k s (Nat.le_of_ble_eq_true hk) hs).trans h
theorem SqE.d (E:SqE a0 n ss t a) (k p:Nat) {s:Nat} {v:Value} (hs:ss[k]? = some s:=by rfl) (hv:t[p]? = some v:=by rfl) (hp:p+k+1=t.length:=by rfl) (hn:s < n:=by decide):a.eval (.tmp s)=v:=E.on k p s v hs hv hp hn
theorem SqE.q (E:SqE a0 n ss t a) (k p:Nat) {s:Nat} {v x:Value} {b:Bool} (h:(b=true→v=x)∧(b=false→v=undef)) (hs:ss[k]? = some s:=by rfl) (hv:t[p]? = some v:=by rfl) (hp:p+k+1=t.length:=by rfl) (hn:s < n:=by decide):(b=true→a.eval (.tmp s)=x)∧(b=false→a.eval (.tmp s)=undef):=by
 rw [E.on k p s v hs hv hp hn]
 exact h
def QSeq (P:Program) (ops:Array Oper) (Q:Exit→Act→World→Prop) (a0:Act) (n:Nat) (ss:List Nat):List Nat→List Value→World→Prop
 | [],t,w=>Q .normal (Au a0 ss t.reverse) w
 | i :: c,t,w=>∀ a,SqE a0 n ss t a→wpOp P ops Q i (fun a' w'=>∃ o v,ops[i]? = some o∧a'=a.put o.dst v∧QSeq P ops Q a0 n ss c (v :: t) w') a w
theorem QSeq.go (h:∀ a,SqE a0 n ss t a→wpOp P ops Q i (fun a' w'=>∃ v,a'=a.put o.dst v∧QSeq P ops Q a0 n ss c (v :: t) w') a w) (ho:ops[i]? = some o:=by rfl):QSeq P ops Q a0 n ss (i :: c) t w:=
 fun a E=>wpOp_mono (fun a' w' ⟨v,e,hq⟩=>⟨o,v,ho,e,hq⟩) (h a E)
theorem QSeq.nil {t':List Value} (e:t.reverse=t') (h:Q .normal (Au a0 ss t') w):QSeq P ops Q a0 n ss [] t w:=by subst e;exact h
theorem QSeq.pure {v':Value} (ho:ops[i]? = some o) (v:Value) (hs:∀ {a},SqE a0 n ss t a→(execOp a.eval o).run P w=.ok (.value v') w) (h:QSeq P ops Q a0 n ss c (v :: t) w) (hg:o.guard=none:=by rfl) (hv:v'=v:=by rfl):QSeq P ops Q a0 n ss (i :: c) t w:=
 QSeq.go (fun a E=>Bu ho (Aa hg) (hv▸hs E) h) ho
theorem AB {v':Value} (ho:ops[i]? = some o) (v:Value) (hw:∀ {a},SqE a0 n ss t a→Region.wanted o (yielded ops a.tmps)=true) (hs:∀ {a},SqE a0 n ss t a→(execOp a.eval o).run P w=.ok (.value v') w) (h:QSeq P ops Q a0 n ss c (v :: t) w) (hv:v'=v:=by rfl):QSeq P ops Q a0 n ss (i :: c) t w:=
 QSeq.go (fun a E=>Bu ho (hw E) (hv▸hs E) h) ho
theorem AE (ho:ops[i]? = some o) (hw:∀ {a},SqE a0 n ss t a→Region.wanted o (yielded ops a.tmps)=false) (h:QSeq P ops Q a0 n ss c (undef :: t) w):QSeq P ops Q a0 n ss (i :: c) t w:=by
 refine QSeq.go (fun a E=>?_) ho
 unfold wpOp
 rw [ho]
 simp only [hw E]
 exact ⟨undef,rfl,h⟩
/-- one that a test may leave out -/
theorem AG {b:Bool} {x':Value} (ho:ops[i]? = some o) (x:Value) (hw:∀ {a},SqE a0 n ss t a→Region.wanted o (yielded ops a.tmps)=b) (hs:∀ {a},SqE a0 n ss t a→b=true→(execOp a.eval o).run P w=.ok (.value x') w)
 (h:∀ v,((b=true→v=x)∧(b=false→v=undef))→QSeq P ops Q a0 n ss c (v :: t) w) (hv:x'=x:=by rfl):QSeq P ops Q a0 n ss (i :: c) t w:=by
 cases b with
 | false=>exact AE ho hw (h undef ⟨(fun e=>by cases e),fun _=>rfl⟩)
 | true=>exact AB ho x hw (fun E=>hs E rfl) (h x ⟨fun _=>rfl,fun e=>by cases e⟩) hv
/-- a call that turns nothing, which a test may leave out -/
theorem AH {b:Bool} (ho:ops[i]? = some o) (x:Value) {F:FuncId} {xs:Array Operand} {ts:Array TypeId} {args:Array Value} {fn:Func} (hw:∀ {a},SqE a0 n ss t a→Region.wanted o (yielded ops a.tmps)=b) (hop:o.op=.call { callee:=.value (.func F),args:=xs,argTypes:=ts }) (hf:P.funcs[F]? = some fn)
 (ha:∀ {a},SqE a0 n ss t a→b=true→xs.map a.eval=args) (hcl:b=true→Calls P F args w (fun e w'=>e=.returned x∧Mod (fun _=>False) w w'))
 (h:∀ v w',((b=true→v=x)∧(b=false→v=undef))→Mod (fun _=>False) w w'→QSeq P ops Q a0 n ss c (v :: t) w') (hn:(fn.name == "runtime.NumGoroutine")=false:=by kernel_rfl) (hb:fn.body.isNone=false:=by kernel_rfl):QSeq P ops Q a0 n ss (i :: c) t w:=by
 cases b with
 | false=>exact AE ho hw (h undef w ⟨(fun e=>by cases e),fun _=>rfl⟩ (Mod.refl _ _))
 | true=>
  refine QSeq.go (fun a E=>?_) ho
  refine Aj ho (hw E) hop hf (ha E rfl) (hcl rfl) (fun e w' ⟨he,hm⟩=>⟨x,he,h x w' ⟨fun _=>rfl,fun e=>by cases e⟩ hm⟩) hn hb
theorem wp_region_S {id:Nat} (n:Nat) (hn:a0.tmps.size=n) (ss:List Nat) (c:List Nat) (h:QSeq P ops Q a0 n ss c [] w) (hc:c=List.range ops.size:=by kernel_rfl) (hss:okSlots ops n ss=true:=by kernel_rfl) (hnd:ss.Nodup:=by decide):(Code.region id ops false).wp P Q a0 w:=by
 subst hc
 refine wp_region ?_
 have key:∀ (m i:Nat) (t:List Value) (w:World),i+m=ops.size→t.length=i→QSeq P ops Q a0 n ss (List.range' i m) t w→wpOps P ops Q (List.range' i m) (Au a0 ss t.reverse) w:=by
  intro m
  induction m with
  | zero=>intro i t w _ _ h;exact h
  | succ m ih=>
   intro i t w him hti h
   rw [List.range'_succ] at h ⊢
   rw [wpOps_cons]
   refine wpOp_mono ?_ (h (Au a0 ss t.reverse) ⟨fun s hs=>eval_out _ _ _ _ hs,fun s hs=>by rw [putAll_size,hn];exact hs,fun k p s v hk hv hp hsn=>?_,fun k s hk hks=>?_⟩)
   ·rintro a' w' ⟨o,v,ho,rfl,hq⟩
    obtain ⟨s,hs,hds⟩:=okSlots_at hss ho
    have e:(Au a0 ss t.reverse).put o.dst v=Au a0 ss (v :: t).reverse:=by
     have e1:=putAll_snoc ss t.reverse a0 s v (by rw [List.length_reverse,hti];exact hs)
     rw [List.reverse_cons]
     rcases hds with ⟨h1,h2⟩|⟨h1,h2⟩
     ·rw [h1];exact e1
     ·rw [h1,← e1,put_far _ (by rw [putAll_size,hn];exact h2)];rfl
    rw [e]
    exact ih (i+1) (v :: t) w' aL (by simp [hti]) hq
   ·have hv':t.reverse[k]? = some v:=by
     rw [List.getElem?_reverse aL,show t.length - 1 - k=p by omega]
     exact hv
    have:=putAll_at ss t.reverse a0 k s v hnd hk hv' (by rw [hn];exact hsn)
    simp only [Act.eval,Array.getD_eq_getD_getElem?]
    rw [this]
    rfl
   ·rw [putAll_take]
    refine eval_out _ _ _ _ fun hm=>?_
    obtain ⟨j,hj,e⟩:=List.getElem_of_mem hm
    rw [List.getElem_take] at e
    have hj2:j < t.length:=by rw [List.length_take,List.length_reverse] at hj;omega
    have hj3:ss[j]? = some s:=by rw [← e];exact List.getElem?_eq_getElem _
    have:=(List.getElem?_inj (List.getElem?_eq_some_iff.1 hj3).1 hnd).1 (hj3.trans hks.symm)
    omega
 rw [List.range_eq_range'] at h ⊢
 have hk:=key ops.size 0 [] w aL rfl h
 rw [show Au a0 ss ([]:List Value).reverse=a0 by cases ss<;>rfl] at hk
 exact hk
/-- a new variable, with what is in it -/
theorem qc_box {KQ:Value→World→Prop} {ty:TypeId} {x:Operand} (ho:ops[i]? = some o) (hw:Region.wanted o (yielded ops a.tmps)=true) (hop:o.op=.box ty x) {vs:List Value} (hx:(a.eval x).cells=vs.toArray)
 (h:∀ w',Cs w' w.heap.size vs.toArray ty→Mod (fun _=>False) w w'→KQ (.pointer (some ⟨w.heap.size,0,none⟩)) w'):wpOp P ops Q i (fun a' w'=>∃ v,a'=a.put o.dst v∧KQ v w') a w:=by
 have hr:(execOp a.eval o).run P w=.ok (.value (.pointer (some ⟨w.heap.size,0,none⟩))) (w.alloc (.cells vs.toArray ty)):=by
  unfold execOp
  simp [hop,Instr.box,newVar,newRow,hx]
 exact Bu ho hw hr (h _ (Cs.new _ _ _) ((Mod.refl _ _).alloc _))
theorem beq_t (b:Bool):(b == true)=b:=by cases b<;>rfl
theorem beq_f (b:Bool):(b == false)=!b:=by cases b<;>rfl
theorem AA {S S' T:Nat→Prop} {w a b:World} (h:Mod S w a) (hm:Mod T a b) (hS:∀ k,S k→S' k) (hT:∀ k,k < w.heap.size→T k→S' k):Mod S' w b:=(h.mono (fun k _ h=>hS k h)).trans hm hT
theorem Mod.goE {S:Nat→Prop} {w a b:World} (h:Mod S w a) (hm:Mod (fun _=>False) a b):Mod S w b:=h.trans hm iB
theorem ev {a1 a0:Act} (h:Hid (a1=a0)) (k:Nat) {v:Value} (e:a1.tmps.toList[k]? = some v):a0.eval (.tmp k)=v:=by
 have h:=h.out
 subst h
 simp only [Act.eval,Array.getD_eq_getD_getElem?]
 rw [← Array.getElem?_toList,e]
 rfl
theorem Ab {id:Nat} {a1:Act} (n:Nat) (ss:List Nat) (c:List Nat) (h:∀ a0,Hid (a1=a0)→QSeq P ops Q a0 n ss c [] w) (hn:a1.tmps.size=n:=by rfl) (hc:c=List.range ops.size:=by kernel_rfl) (hss:okSlots ops n ss=true:=by kernel_rfl) (hnd:ss.Nodup:=by decide):(Code.region id ops false).wp P Q a1 w:=
 wp_region_S n hn ss c (h a1 rfl) hc hss hnd
theorem Cs.eqv {g:Nat} {a b:Array Value} {T:TypeId} (h:Cs w g a T) (e:a=b):Cs w g b T:=e▸h
theorem one1 {v:Value} (h:v.oneCell'=true:=by rfl):∀ u ∈ [v],u.oneCell'=true:=by
 intro u hu
 rw [List.mem_singleton] at hu
 rw [hu]
 exact h
theorem ec {x:Operand} {v:Value} {vs:List Value} (h:a.eval x=v) (e:v.cells=vs.toArray:=by rfl):(a.eval x).cells=vs.toArray:=by rw [h];exact e
theorem sB {R:Nat→Prop} {m b:Nat} (hb:Hid (∀ k,R k→k < m)) (h:m≤b:=by omega):∀ k,R k→k=b→False:=fun k h1 h2=>by have:=hb.out k h1;omega
theorem sN {R:Nat→Prop} {m:Nat} {x y:World} (hb:Hid (∀ k,R k→k < m)) (h:m≤x.heap.size:=by omega):∀ k,R k→x.heap.size≤k∧k < y.heap.size→False:=fun k h1 h2=>by have:=hb.out k h1;omega
theorem pz:(∀ a ss,Au a ss []=a)∧(∀ a s ss v vs,Au a (s :: ss) (v :: vs)=Au (a.put (some s) v) ss vs):=⟨fun a ss=>by cases ss<;>rfl,fun _ _ _ _ _=>rfl⟩
theorem QSeq.call {F:FuncId} {xs:Array Operand} {ts:Array TypeId} {args:Array Value} {post:Ending→World→Prop} {fn:Func} (ho:ops[i]? = some o) (hop:o.op=.call { callee:=.value (.func F),args:=xs,argTypes:=ts }) (hf:P.funcs[F]? = some fn)
 (hcl:Calls P F args w post) (ha:∀ {a},SqE a0 n ss t a→xs.map a.eval=args) (hp:∀ e w',post e w'→∃ v,e=.returned v∧QSeq P ops Q a0 n ss c (v :: t) w') (hg:o.guard=none:=by rfl) (hn:(fn.name == "runtime.NumGoroutine")=false:=by kernel_rfl) (hb:fn.body.isNone=false:=by kernel_rfl):QSeq P ops Q a0 n ss (i :: c) t w:=
 QSeq.go (fun a E=>Aj ho (Aa hg) hop hf (ha E) hcl hp hn hb) ho
end
section
variable {P:Program} {ops:Array Oper} {Q:Exit→Act→World→Prop} {a0:Act} {n:Nat} {ss:List Nat} {c:List Nat} {i:Nat} {o:Oper} {t:List Value} {w w':World} {a:Act}
/-- a value of the chain is moved on -/
theorem qmv {x:Operand} {s:Nat} {v:Value} (ho:ops[i]? = some o) (k p:Nat) (h:QSeq P ops Q a0 n ss c (v :: t) w) (hx:o.op=.move x:=by rfl) (hxs:x=.tmp s:=by rfl) (hg:o.guard=none:=by rfl) (hs:ss[k]? = some s:=by rfl) (hv:t[p]? = some v:=by rfl) (hp:p+k+1=t.length:=by rfl) (hn:s < n:=by decide):QSeq P ops Q a0 n ss (i :: c) t w:=
 QSeq.pure ho v (fun E=>Al hx (by rw [hxs];exact E.d k p hs hv hp hn)) h hg
theorem qas {x:Operand} {s:Nat} {v:Value} (ho:ops[i]? = some o) (k p:Nat) (h:QSeq P ops Q a0 n ss c (v :: t) w) (hx:o.op=.assign x:=by rfl) (hxs:x=.tmp s:=by rfl) (hg:o.guard=none:=by rfl) (hs:ss[k]? = some s:=by rfl) (hv:t[p]? = some v:=by rfl) (hp:p+k+1=t.length:=by rfl) (hn:s < n:=by decide):QSeq P ops Q a0 n ss (i :: c) t w:=
 QSeq.pure ho v (fun E=>An hx (by rw [hxs];exact E.d k p hs hv hp hn)) h hg
/-- an old value is moved -/
theorem qmo {x:Operand} {s:Nat} {v:Value} (ho:ops[i]? = some o) (e:a0.eval (.tmp s)=v) (h:QSeq P ops Q a0 n ss c (v :: t) w) (hx:o.op=.move x:=by rfl) (hxs:x=.tmp s:=by rfl) (hg:o.guard=none:=by rfl) (hk:s ∉ ss:=by decide):QSeq P ops Q a0 n ss (i :: c) t w:=
 QSeq.pure ho v (fun E=>Al hx (by rw [hxs];exact E.v e hk)) h hg
/-- a field of what a pointer of old points to -/
theorem qfd {x:Operand} {T j k:Nat} {fs:Array Field} {fd:Field} {g off:Nat} (ho:ops[i]? = some o) (m:Nat) (hu:P.underlying T=some (.struct fs)) (e:a0.eval (.tmp k)=.pointer (some ⟨g,off,none⟩)) (h:QSeq P ops Q a0 n ss c (.pointer (some ⟨g,m,none⟩) :: t) w)
 (hop:o.op=.fieldAddr T x j:=by rfl) (hxs:x=.tmp k:=by rfl) (hf:fs[j]? = some fd:=by rfl) (hz:(P.info? fd.type).map (fun i=>decide (i.size=0))=some false:=by kernel_rfl) (hm:off+fd.offset=m:=by rfl) (hg:o.guard=none:=by rfl) (hk:k ∉ ss:=by decide):QSeq P ops Q a0 n ss (i :: c) t w:=
 by subst hm;exact QSeq.pure ho _ (fun E=>Ae hop hu hf hz (by rw [hxs];exact E.v e hk)) h hg
/-- one that a test may leave out -/
theorem qmy {b:Bool} {j s:Nat} {x':Value} (ho:ops[i]? = some o) (k p:Nat) (x:Value) (hs:∀ {a},SqE a0 n ss t a→b=true→(execOp a.eval o).run P w=.ok (.value x') w) (h:∀ v,((b=true→v=x)∧(b=false→v=undef))→QSeq P ops Q a0 n ss c (v :: t) w)
 (hv:t[p]? = some (.bool b):=by rfl) (hgd:o.guard=some (j,true):=by rfl) (hj:(ops[j]?).bind (·.dst)=some s:=by rfl) (hs1:ss[k]? = some s:=by rfl) (hp:p+k+1=t.length:=by rfl) (hn:s < n:=by decide) (hx:x'=x:=by rfl):QSeq P ops Q a0 n ss (i :: c) t w:=
 AG (b:=b) ho x (fun E=>(Ag hgd hj (E.sz s hn) (E.d k p hs1 hv hp hn)).trans (beq_t _)) hs h hx
/-- a test of a number against a constant one, kept -/
theorem tst {id d1 d2 k:Nat} {T T1 ty1 ty2:TypeId} {p1 p2:String} {f1 f2:Array Edge} {b x:Int} {r:Bool} (m:Nat) (hu:P.underlying T=some (.int .i64)) (hb:(x == b)=r) (hk:a.tmps.toList[k]? = some (.int .i64 x)) (hQ:Q .normal ((a.put (some d1) (.bool r)).put (some d2) (.bool r)) w)
 (hm:a.tmps.size=m:=by rfl) (hs:okSlots #[⟨some d1,.binOp .eql T (.tmp k) (.const (.int .i64 b)) T1,ty1,p1,f1,none⟩,⟨some d2,.assign (.tmp d1),ty2,p2,f2,none⟩] m [d1,d2]=true:=by kernel_rfl) (hd:d1≠d2:=by decide) (hk2:k ∉ [d1,d2]:=by decide) (hd1:d1 < m:=by decide) :
 (Code.region id #[⟨some d1,.binOp .eql T (.tmp k) (.const (.int .i64 b)) T1,ty1,p1,f1,none⟩,⟨some d2,.assign (.tmp d1),ty2,p2,f2,none⟩] false).wp P Q a w:=by
 refine Ab m [d1,d2] [0,1] (fun a0 HA0=>?_) hm rfl hs (by simp [hd])
 have oe:=ev HA0 k hk
 refine QSeq.pure rfl (.bool r) (fun E=>Aq rfl (E.v oe hk2) rfl (Ai _ _ _ _ _ _) (Bs _ _ _ hu) (congrArg Value.bool hb)) ?_
 refine QSeq.pure rfl (.bool r) (fun E=>An rfl (E.d 0 0 rfl rfl rfl hd1)) ?_
 refine QSeq.nil (t':=[_,_]) rfl ?_
 obtain rfl:=HA0.o
 exact hQ
end
/-- the end of a region told in order: its answers are laid into the frame -/
theorem qe {P Q:Prop} (k:Q) (h:Q→P:=by
 intro k
 refine QSeq.nil rfl ?_
 obtain rfl:=HA0.o
 simp only [List.reverse,List.reverseAux,pz,Act.put,sIB,sCZ,sCS,List.set_nil]
 exact k):P:=h k
theorem qs {P Q:Prop} (k:Q) (h:Q→P:=by
 intro k
 simp only [Act.put,sIB,sCZ,sCS,List.set_nil]
 exact k):P:=h k
end Go.Gv
namespace Go.Proofs.YtnaoeginonpicaaGreat
open Go Go.RowKit Go.Gv
/-- the blocks of what an append gave: those before, or new ones since w -/
theorem AppB.trans {w0 w w':World} {v v':Value} {bs:List Int} (h:AppB w v bs v' w') (hm:Mod (fun _=>False) w0 w) (hf:Fresh w0 v):Mod (fun _=>False) w0 w'∧Fresh w0 v':=by
 obtain ⟨h1,h2,h3⟩:=h
 refine ⟨hm.trans h2 (fun i hi hk=>by have:=hf i hk.symm;omega),fun g hg=>?_⟩
 rcases h3 with h3|⟨k,h3,hk⟩
 ·exact hf g (h3▸hg)
 ·rw [h3] at hg
  obtain rfl:k=g:=by simpa using hg
  exact C4 hm.size hk
theorem RefNum_any (n:Nat) (hn:n < U64) (w:World) :
 Calls Tryz.prog 28 #[.int .u64 n] w fun e w'=>∃ v',e=.returned v'∧OwnB w' v' (encN n)∧Fresh w v'∧Mod (fun _=>False) w w':=by
 have hen:=B7 hn
 have HN:=B8 hn
 clear hn
 go_enter Tryz.func28,Tryz.ntmps28
 go_wp2
 go_loopw [0,3] (fun t o wr=>∃ (m:Nat) (bs':List Int) (ao:Option Addr) (cap:Nat),t=.int .u64 m∧m≤n∧bs' ++ encN m=encN n∧o=.slice ao bs'.length cap∧OwnB wr (.slice ao bs'.length cap) bs'∧Fresh w (.slice ao bs'.length cap)∧Mod (fun _=>False) w wr) (fun t _ _=>(intOf t).toNat)
 case atStart=>exact ⟨n,[],none,0,rfl,C0 _,rfl,rfl,OwnB.nil _,(fun g hg=>by cases hg),Mod.refl _ _⟩
 case round=>
  obtain ⟨m,bs',ao,cap,rfl,hm,hbs,rfl,ho,hfr,hmod⟩:=hrel
  have hlen:bs'.length+(encN m).length=(encN n).length:=by have:=congrArg List.length hbs;simpa using this
  have hpos:=encN_pos m
  have hroom:bs'.length+1≤Room:=by unfold Room;omega
  have Hbs:=B8 hbs
  have Hfr:=B8 hfr
  have Hm:=B8 hmod
  have Hr:=B8 hroom
  have HO:=B8 ho
  clear hbs hfr hmod hlen hroom hpos hen ho
  have hdv:IntKind.u64.wrap ((m:Int) / 128)=(m:Int) / 128:=by
   have:=HN.o
   unfold U64 at this
   simp only [IntKind.wrap,IntKind.bits,IntKind.signed];simp;omega
  by_cases h128:(128:Int)≤m
  ·go_wp2_with (at_builtin;go_must (refine wpList_appB rfl (.tmp 6) (.tmp 11) rfl rfl (HO.o.alloc _) (new:=[(m:Int) % 128+128]) rfl (RdB_one _ aL aL _) Hr.o ?_))
   intro ao1 cap1 w1 happ
   have hT:=AppB.trans happ (Hm.o.alloc _) Hfr.o
   have HT:=B8 hT
   have HO1:=B8 happ.1
   clear hT happ
   go_wp2
   go_roundw
   case rel=>exact ⟨m / 128,bs' ++ [(m:Int) % 128+128],ao1,cap1,by go_num,by omega,by have:=Hbs.o;rw [encN_ge aL] at this;simpa using this,by simp,by simpa using HO1.o,by simpa using HT.o.2,HT.o.1⟩
   case measure=>simp [intOf];omega
  ·go_wp2_with (at_builtin;go_must (refine wpList_appB rfl (.tmp 15) (.tmp 18) rfl rfl (HO.o.alloc _) (new:=[(m:Int)]) rfl (RdB_one _ aL aL _) Hr.o ?_))
   intro ao1 cap1 w1 happ
   have hT:=AppB.trans happ (Hm.o.alloc _) Hfr.o
   have HT:=B8 hT
   have HO1:=B8 happ.1
   clear hT happ
   go_wp2
   go_ret
   have hb:=Hbs.o
   rw [encN_lt aL] at hb
   rw [← hb]
   exact ⟨_,rfl,HO1.o,HT.o.2,HT.o.1⟩
theorem RefNum_R (n:Nat) (hn:n < U64) (w:World) :
 Calls Tryz.prog 28 #[.int .u64 n] w fun e w'=>∃ v',e=.returned v'∧OwR (New w w') 10 w' v' (encN n)∧Mod (fun _=>False) w w':=
 (RefNum_any n hn w).mono fun _ _ ⟨v',he,ho,hf,hm⟩=>⟨v',he,OwR_of 10 ho hf (B7 hn).2,hm⟩
theorem RefInt_R (n:Int) (hn:-9223372036854775808≤n∧n≤9223372036854775807) (w:World) :
 Calls Tryz.prog 22 #[.int .i64 n] w fun e w'=>∃ v',e=.returned v'∧OwR (New w w') 10 w' v' (encI n)∧Mod (fun _=>False) w w':=by
 by_cases h0:0≤n
 ·obtain ⟨k,rfl⟩:=Int.eq_ofNat_of_zero_le h0
  rw [encI_nat]
  have K:=B8 (RefNum_R k fW)
  go_enter E3,Tryz.ntmps22
  go_wp2_with (go_at_call 28;go_must (refine (K.o _).mono ?_);rintro e w' ⟨v',rfl,h1,h2⟩;have H1:=B8 h1;have H2:=B8 h2;clear h1 h2)
  go_ret
  exact ⟨v',rfl,H1.o,H2.o⟩
 ·have e:encI n=encN 0:=by unfold encI;congr 1;omega
  rw [e]
  have K:=B8 (RefNum_R 0 fW)
  clear e
  go_enter E3,Tryz.ntmps22
  go_wp2_with (go_at_call 28;go_must (refine (K.o _).mono ?_);rintro e w' ⟨v',rfl,h1,h2⟩;have H1:=B8 h1;have H2:=B8 h2;clear h1 h2)
  go_ret
  exact ⟨v',rfl,H1.o,H2.o⟩
theorem RefRow_R {R:Nat→Prop} {N:Nat} {v:Value} {bs:List Int} {w:World} (hr:RdR R N w v bs) (hN:N≤900000) :
 Calls Tryz.prog 35 #[v] w fun e w'=>∃ v',e=.returned v'∧OwR (New w w') (N+10) w' v' (encN bs.length ++ bs)∧Mod (fun _=>False) w w':=by
 obtain ⟨ao,cap,rfl⟩:=hr.shape
 have K:=B8 (RefInt_R bs.length (by have:=hr.2.2;omega))
 have HR:=B8 hr
 have HL:=B8 (show bs.length < U64 by have:=hr.2.2;unfold U64;omega)
 clear hr
 go_enter Tryz.func35,Tryz.ntmps35
 go_wp2_with (first
  | (go_at_call 22;go_must (refine (K.o _).mono ?_);rintro e w1 ⟨v1,rfl,h1,h2⟩;rw [encI_nat] at h1;have z1:=h2.size;have H1:=B8 h1;have H2:=B8 h2;have HR1:=B8 (HR.o.mod h2 iA);clear h1 h2)
  | (at_builtin;go_must (refine wpList_appR rfl (.tmp 5) (.tmp 6) rfl rfl H1.o rfl HR1.o aL ?_)))
 intro ao2 cap2 w2 ho hm
 have z2:=hm.size
 have HO:=B8 ho
 have HM:=B8 hm
 clear ho hm
 go_wp2
 go_ret
 exact ⟨_,rfl,HO.o.widen (fun k h=>by unfold New at *; omega) aL,H2.o.trans HM.o (fun i hi h=>by unfold New at h;omega)⟩
end Go.Proofs.YtnaoeginonpicaaGreat
namespace Go.Gv
open Go Go.RowKit
section
variable {P:Program} {o:Oper} {a:Act} {w w':World}
/-- a row of slices is made -/
theorem ex_buildSl {ts T:TypeId} {n:Nat} {parts:Array (Nat × Operand)} (ho:o.op=.buildSlice ts n parts) (hu:P.underlying ts=some (.slice T)) (hie:(P.info? T).map (fun i=>(i.size,i.zero))=some (1,some (.slice none 0 0))) (hn:n≠0∧n≤1000) {C:Array Value}
 (hf:Instr.fill (fun i=>some (i * 1,1)) ((Array.range (n * 1)).map (#[Value.slice none 0 0][· % 1]!)) (parts.map fun (i,x)=>(i,a.eval x)).toList=some C) :
 (execOp a.eval o).run P w=.ok (.value (.slice (some ⟨w.heap.size,0,none⟩) n n)) (w.alloc (.cells C T)):=by
 cases hq:P.info? T with
 | none=>rw [hq] at hie;cases hie
 | some ie=>
  rw [hq] at hie
  have e:=Option.some.inj hie
  have e1:ie.size=1:=congrArg Prod.fst e
  have e2:ie.zero=some (.slice none 0 0):=congrArg Prod.snd e
  have hr:=run_buildSlice (P:=P) w ts T n (parts.map fun (i,x)=>(i,a.eval x)) C ie (.slice none 0 0) hu hq e2 (by rw [e1];omega) (by rw [e1];omega) (by rw [e1];exact hf)
  unfold execOp
  simp only [ho,Sem.run_bind,hr,Result.andThen_ok,Sem.run_pure]
end
/-- marks turn no cell -/
theorem Marked.cell {B:Nat} {T8:TypeId} {w w':World} (hm:Marked B T8 w w') {p:Addr} {u:Value} (h:w.cell? p=some u):w'.cell? p=some u:=by
 have hlt:=World.block_lt_of_cell? _ _ h
 rcases hm.block p.block hlt with h1|⟨-,C,m,h1,h2⟩
 ·exact (World.cell?_of_block h1).trans h
 ·unfold World.cell? at h ⊢
  rw [h1] at h
  rw [h2]
  exact h
theorem Rd.cells {s n:Nat} {w w':World} {v:Value} {cs:List Value} (h:Rd s w v n cs) (hc:∀ p u,w.cell? p=some u→w'.cell? p=some u):Rd s w' v n cs:=by
 obtain ⟨hl,ao,cap,rfl,h1,h2,h3,h4⟩:=h
 exact ⟨hl,ao,cap,rfl,h1,h2,h3,fun x hx j u hu=>⟨(h4 x hx j u hu).1,hc _ _ (h4 x hx j u hu).2⟩⟩
theorem Rd.old {s n:Nat} {w:World} {v:Value} {cs:List Value} (hs:0 < s) (h:Rd s w v n cs) (h0:0 < n):∀ g,v.ownBlock=some g→g < w.heap.size:=by
 rcases h.form hs with ⟨rfl,_⟩|⟨g,o,cap,_,rfl,_,_,hl,hc⟩
 ·omega
 ·intro g' hg
  have e:g=g':=by simpa [Value.ownBlock] using hg
  subst e
  have hlt:0 < cs.length:=by rw [hl];exact Nat.mul_pos h0 hs
  exact World.block_lt_of_cell? _ _ (hc 0 _ (List.getElem?_eq_getElem hlt))
end Go.Gv
namespace Go.Proofs.YtnaoeginonpicaaGreat
open Go Go.RowKit Go.Gv
theorem RdB.cells {w w':World} {v:Value} {bs:List Int} (h:RdB w v bs) (hc:∀ p u,w.cell? p=some u→w'.cell? p=some u):RdB w' v bs:=⟨h.1,h.2.cells hc⟩
/-- rows of bytes: the outer list, and each row where it lies -/
structure RdJ (w:World) (v:Value) (rs:List (Value × List Int)):Prop where
 o:Rd 1 w v rs.length (rs.map (·.1))
 f:∀ p ∈ rs,RdB w p.1 p.2
theorem RdJ.cells {w w':World} {v:Value} {rs:List (Value × List Int)} (h:RdJ w v rs) (hc:∀ p u,w.cell? p=some u→w'.cell? p=some u):RdJ w' v rs:=⟨h.o.cells hc,fun p hp=>(h.f p hp).cells hc⟩
theorem RdJ.shape {w:World} {v:Value} {rs:List (Value × List Int)} (h:RdJ w v rs):∃ ao cap,v=.slice ao rs.length cap:=by
 obtain ⟨_,ao,cap,e,_⟩:=h.o
 exact ⟨ao,cap,e⟩
theorem RdJ.at {w:World} {ao:Option Addr} {n cap:Nat} {rs:List (Value × List Int)} (h:RdJ w (.slice ao n cap) rs) {i:Nat} (hi:i < rs.length) :
 ∃ g o,ao=some ⟨g,o,none⟩∧g < w.heap.size∧w.cell? ⟨g,o+i,none⟩=some rs[i].1:=by
 rcases h.o.form aM with ⟨h0,_⟩|⟨g,o,cap',h0,hv,h1,h2,hl,hc⟩
 ·omega
 ·simp only [Value.slice.injEq] at hv
  obtain ⟨rfl,rfl,rfl⟩:=hv
  exact ⟨g,o,rfl,h.o.old aM h0 g rfl,hc i _ (by simp [List.getElem?_eq_getElem hi])⟩
/-- a new outer list -/
theorem RdJ.new {w:World} {e:TypeId} {rs:List (Value × List Int)} (h:∀ p ∈ rs,RdB w p.1 p.2) (hl:rs.length≤1000) {C:Array Value} (hC:C=(rs.map (·.1)).toArray) {n:Nat} (hn:n=rs.length):RdJ (w.alloc (.cells C e)) (.slice (some ⟨w.heap.size,0,none⟩) n n) rs:=by
 subst hC
 subst hn
 refine ⟨Rd.mk (C0 _) dR bA fun j y hy=>?_,fun p hp=>(h p hp).alloc _⟩
 rw [Nat.zero_add,(Cs.new w _ e).cell]
 simpa using hy
def flat (rs:List (Value × List Int)):List Int:=(rs.map (·.2)).flatten
theorem flat_take (rs:List (Value × List Int)) (i:Nat) (h:i < rs.length):flat (rs.take (i+1))=flat (rs.take i) ++ rs[i].2:=by
 unfold flat
 rw [List.take_succ_eq_append_getElem h,List.map_append,List.flatten_append]
 simp
theorem flat_le (rs:List (Value × List Int)) (i:Nat):(flat (rs.take i)).length≤(flat rs).length:=by
 conv=>rhs;rw [← List.take_append_drop i rs]
 unfold flat
 rw [List.map_append,List.flatten_append,C3]
 omega
set_option maxHeartbeats 4000000 in
theorem Join_any (v:Value) (rs:List (Value × List Int)) (w:World) (h:RdJ w v rs) (hn:rs.length≤1000) (hl:(flat rs).length≤900000) :
 Calls Tryz.prog 21 #[v] w fun e w'=>∃ v',e=.returned v'∧OwR (New w w') (flat rs).length w' v' (flat rs)∧Mod (fun _=>False) w w':=by
 have HR1:=B8 h
 have HFL:=B8 hl
 obtain ⟨ao,cap,rfl⟩:=h.shape
 clear h hl
 go_enter E9,Tryz.ntmps21
 go_wp2
 go_loopw [3,7] (fun t3 t7 wr=>∃ (i:Nat),t7=.int .i64 i∧i≤rs.length∧OwR (fun k=>w.heap.size≤k) (flat (rs.take i)).length wr t3 (flat (rs.take i))∧Mod (fun k=>w.heap.size≤k) w wr) (fun _ t7 _=>rs.length - (intOf t7).toNat)
 case atStart=>exact ⟨0,rfl,by omega,⟨OwnB.nil _,(fun g hg=>by cases hg),C0 _⟩,Mod.refl _ _⟩
 case round=>
  obtain ⟨wi,rfl⟩:∃ x,x=wr:=⟨_,rfl⟩
  obtain ⟨i,rfl,hi,hB,hm⟩:=hrel
  have KB:=B8 hB
  have KM:=B8 hm
  have zi:=hm.size
  clear hB hm
  by_cases hlt:i < rs.length
  ·obtain ⟨g,o,rfl,hg,hcell0⟩:=HR1.o.at hlt
   have hcell:wi.cell? ⟨g,o+i,none⟩=some rs[i].1:=KM.o.cell hcell0 (by show ¬ w.heap.size≤g;omega)
   have hrb:RdB w rs[i].1 rs[i].2:=HR1.o.f rs[i] (List.getElem_mem hlt)
   have HRW:=B8 (show RdR (fun k=>k < w.heap.size) rs[i].2.length wi rs[i].1 rs[i].2 from RdR.mod ⟨hrb,hrb.block_lt,C0 _⟩ KM.o (fun k h1 h2=>by omega))
   have HT:=B8 (flat_take rs i hlt)
   have hle:=flat_le rs (i+1)
   have hle2:=HFL.o
   rw [HT.o,C3] at hle
   obtain ⟨q,hq⟩:∃ q,q=rs[i]:=⟨_,rfl⟩
   rw [← hq] at hcell HRW HT hle
   clear hcell0 hrb hq
   obtain ⟨vi,bi⟩:=q
   obtain ⟨ai,ci,rfl⟩:∃ ai ci,vi=.slice ai bi.length ci:=HRW.o.shape
   dsimp only at hcell HRW HT hle
   obtain ⟨ab,cb,rfl⟩:=KB.o.shape
   go_wp2_with (at_builtin;go_must (refine wpList_appR rfl (.tmp 10) (.tmp 14) rfl rfl KB.o rfl HRW.o aL ?_))
   intro ao5 cap5 w5 ho5 hm5
   have KB5:=B8 (show OwR (fun k=>w.heap.size≤k) (flat (rs.take (i+1))).length w5 _ (flat (rs.take (i+1))) from by
    rw [HT.o]
    exact ho5.widen (R':=fun k=>w.heap.size≤k) (fun k h=>by unfold New at h;omega) (by rw [C3];exact C0 _))
   have KM5:=B8 (KM.o.trans hm5 (fun k _ h=>h))
   clear ho5 hm5 KB KM HT HRW hcell hle hle2
   go_wp2
   go_roundw
   case rel=>exact ⟨i+1,by go_num,by omega,KB5.o,KM5.o⟩
   case measure=>first|(simp [intOf];done)|(simp [intOf];omega)
  ·obtain rfl:i=rs.length:=by omega
   have hb:=KB.o
   rw [List.take_length] at hb
   have HB:=B8 hb
   obtain ⟨ab,cb,rfl⟩:=KB.o.shape
   clear hb KB
   go_wp2
   go_ret
   exact ⟨_,rfl,⟨HB.o.1,(fun g hg=>⟨HB.o.2.1 g hg,Own.lt HB.o.1 hg⟩),C0 _⟩,KM.o.mono (fun k hk h=>by omega)⟩
theorem litG.rd {B K:Nat} {bs:List Int} {t:List Value} {v:Value} {w:World} (h:litG B 5 K (bs.map bv).toArray t v w) (hk:t.length≤K) (hb:Bytes bs) (hl:bs.length≤1000000):RdB w v bs:=by
 obtain ⟨g,rfl,-,m,-,h4⟩:=h hk
 have e:(bs.map bv).toArray.size=bs.length:=by simp
 rw [e]
 refine ⟨hb,Rd.mk (C0 _) dR bA fun j y hy=>?_⟩
 rw [Nat.zero_add]
 simp only [World.cell?,h4]
 simpa using hy
theorem StillM.obj {B K k:Nat} {w w':World} (h:StillM B 5 K k w w') {g:Nat} {c:Array Value} {e:TypeId} (hc:Cs w g c e) (he:e≠5):Cs w' g c e:=by
 rcases h with h|⟨-,h⟩
 ·exact hc.mod h (fun h=>h)
 ·rcases h.block g hc.lt with h1|⟨-,C,m,h1,-⟩
  ·exact h1.trans hc
  ·unfold Cs at hc
   rw [hc] at h1
   cases h1
   exact absurd rfl he
/-- an array's slice -/
theorem ex_sliceArr {P:Program} {o:Oper} {a:Act} {w:World} {T e:TypeId} {x:Operand} {g off n:Nat} (ho:o.op=.slice T x none none none) (hu:P.underlying T=some (.array n e)) (hs:(P.info? e).map (·.size)=some 1) (hx:a.eval x=.pointer (some ⟨g,off,none⟩)) (hn:0 < n) :
 (execOp a.eval o).run P w=.ok (.value (.slice (some ⟨g,off,none⟩) n n)) w:=by
 have hsz:(sizeOf e).run P w=.ok 1 w:=by
  cases hq:P.info? e with
  | none=>rw [hq] at hs;cases hs
  | some i=>rw [hq] at hs;simp [sizeOf,typeInfo,hq];exact Option.some.inj hs
 unfold execOp
 have h0:¬ n=0:=by omega
 simp [ho,hx,Instr.sliceAt,Instr.slice,Instr.sliceBounds,asIntOf,run_underlying hu,hsz,add_mk,Instr.sureAddr,h0]
section
variable {ops:Array Oper} {Q:Exit→Act→World→Prop} {i:Nat} {o:Oper} {a:Act} {w:World} {KQ:Value→World→Prop} {B:Nat} {S0 Z:Nat→Prop} {t:List Value} {l:List QPred}
/-- one of the chain appends bytes -/
theorem qc_appR {s x:Operand} {R R':Nat→Prop} {N M:Nat} {v xv:Value} {bs new:List Int} (ho:ops[i]? = some o) (hw:Region.wanted o (yielded ops a.tmps)=true) (hop:o.op=.call { callee:=.builtin .append,args:=#[s,x],argTypes:=#[52,52] })
 (hs:a.eval s=v) (hx:a.eval x=xv) (hown:OwR R N w v bs) (hrd:RdR R' M w xv new) (hroom:(bs ++ new).length≤900000)
 (h:∀ ao cap w',OwR (fun k=>R k∨New w w' k) 900000 w' (.slice ao (bs.length+new.length) cap) (bs ++ new)→Mod R w w'→KQ (.slice ao (bs.length+new.length) cap) w'):wpOp Tryz.prog ops Q i (fun a' w'=>∃ v,a'=a.put o.dst v∧KQ v w') a w:=by
 obtain ⟨i0,hi,hz0,hz1,hz2⟩:=info_parts info_u8
 have hlen:bs.length+new.length≤900000:=by simpa using hroom
 obtain ⟨ao,cap,w',hr,h1,h2,h3⟩:=run_append (P:=Tryz.prog) w 52 o.type 5 i0 (.int .u8 0) 1 1 D2 hi hz0 hz1 hz2 rfl aM IsB_zero v _ _ hown.1 xv new.length (new.map bv) hrd.1.2 (isB_all hrd.1.1) (ints_oneCell .u8 new) aL dR
 refine Bu ho hw (ex_append hop hs hx hr) (h ao cap w' ⟨?_,(fun g hg=>?_),hroom⟩ (h2.mono (fun k _ hk=>hown.2.1 k hk.symm)))
 ·unfold OwnB
  rw [C3,List.map_append]
  exact h1
 ·rcases h3 with h3|⟨k,h3,hk⟩
  ·exact .inl (hown.2.1 g (h3▸hg))
  ·rw [h3] at hg
   obtain rfl:k=g:=by simpa using hg
   exact .inr ⟨hk,Own.lt h1 h3⟩
/-- one of the chain makes a row of rows -/
theorem Bv {ts:TypeId} {n:Nat} {parts:Array (Nat × Operand)} (ho:ops[i]? = some o) (hw:Region.wanted o (yielded ops a.tmps)=true) (hop:o.op=.buildSlice ts n parts) (hu:Tryz.prog.underlying ts=some (.slice 52)) (hn:n≠0∧n≤1000) {C:Array Value}
 (hf:Instr.fill (fun i=>some (i * 1,1)) ((Array.range (n * 1)).map (#[Value.slice none 0 0][· % 1]!)) (parts.map fun (i,x)=>(i,a.eval x)).toList=some C)
 (h:∀ w',Cs w' w.heap.size C 52→Mod (fun _=>False) w w'→KQ (.slice (some ⟨w.heap.size,0,none⟩) n n) w'):wpOp Tryz.prog ops Q i (fun a' w'=>∃ v,a'=a.put o.dst v∧KQ v w') a w:=
 Bu ho hw (ex_buildSl hop hu aE hn hf) (h _ (Cs.new _ _ _) ((Mod.refl _ _).alloc _))
theorem Join_Q {g n:Nat} {C:Array Value} {e:TypeId} (hc:Cs w g C e) (rs:List (Value × List Int)) (hC:C=(rs.map (·.1)).toArray) (hn:n=rs.length) (h:∀ p ∈ rs,RdB w p.1 p.2) (hl2:rs.length≤1000) {bs:List Int} (hb:flat rs=bs) (hl:bs.length≤900000) :
 Calls Tryz.prog 21 #[.slice (some ⟨g,0,none⟩) n n] w fun e w'=>∃ v',e=.returned v'∧OwR (New w w') 900000 w' v' bs∧Mod (fun _=>False) w w':=by
 subst hb
 have hj:RdJ w (.slice (some ⟨g,0,none⟩) n n) rs:=by
  refine ⟨?_,h⟩
  subst hn
  refine Rd.mk (C0 _) dR bA fun j y hy=>?_
  rw [Nat.zero_add,hc.cell,hC]
  simpa using hy
 exact (Join_any _ rs w hj hl2 hl).mono fun e w' ⟨v',he,ho,hm⟩=>⟨v',he,ho.widen (fun _ h=>h) hl,hm⟩
theorem ql.rd {bs:List Int} {v:Value} (hb:Bytes bs) (h:ql B 5 (bs.map bv).toArray Z t v w) (hl:bs.length≤1000000):∃ R:Nat→Prop,(∀ j,R j→B≤j∧¬ Z j∧j < w.heap.size)∧RdR R bs.length w v bs:=by
 obtain ⟨g,rfl,hB,hZ,m,h4⟩:=h
 have e:(bs.map bv).toArray.size=bs.length:=by simp
 refine ⟨fun k=>k=g,fun j hj=>by subst hj;exact ⟨hB,hZ,(Array.getElem?_eq_some_iff.1 h4).1⟩,⟨hb,?_⟩,fun _ k hk=>by cases hk;rfl,C0 _⟩
 rw [e]
 refine Rd.mk (C0 _) dR bA fun j y hy=>?_
 rw [Nat.zero_add]
 simp only [World.cell?,h4]
 simpa using hy
/-- a string's bytes -/
def Bd (s:ByteArray):List Int:=s.data.toList.map fun b=>(b.toNat:Int)
theorem bytesOf_len (s:ByteArray):(Bd s).length=s.size:=by unfold Bd;rw [List.length_map];rfl
theorem bytesOf_ok (s:ByteArray):Bytes (Bd s):=by
 intro x hx
 obtain ⟨b,-,rfl⟩:=List.mem_map.1 hx
 have:=b.toNat_lt
 omega
theorem str_bytes (w:World) (s:ByteArray) (hs:s.size≤1000000):∃ cap w',(convert 9 52 (.string s)).run Tryz.prog w=.ok (.slice (some ⟨w.heap.size,0,none⟩) s.size cap) w'∧RdR (fun k=>k=w.heap.size) 1000000 w' (.slice (some ⟨w.heap.size,0,none⟩) s.size cap) (Bd s)∧Mod (fun _=>False) w w'∧w'.heap.size=w.heap.size+1:=by
 refine ⟨_,_,Lib.run_convert_string_bytes (P:=Tryz.prog) w _ _ 5 s Tryz.underlying9 D2 Tryz.underlying5,⟨⟨bytesOf_ok s,?_⟩,(fun _ g hg=>by cases hg;rfl),by rw [bytesOf_len];exact hs⟩,⟨rfl,rfl,rfl,by rw [Lib.bytesWorld_size];omega,fun k hk _=>Lib.bytesWorld_at_old w _ s k hk⟩,Lib.bytesWorld_size w _ s⟩
 rw [bytesOf_len]
 refine Rd.mk (grownCap_ge w s.size 0 _) (grownCap_le_maxLen w s.size 0 _ dR) (by rw [List.length_map,bytesOf_len,Nat.mul_one]) fun j u hu=>?_
 rw [Nat.zero_add]
 have hj:j < s.size:=by have:=(List.getElem?_eq_some_iff.1 hu).1;rwa [List.length_map,bytesOf_len] at this
 rw [Lib.bytesWorld_cell w _ s j hj,← hu]
 simp only [Bd,List.map_map,List.getElem?_map]
 have hj2:j < s.data.toList.length:=by rw [Array.length_toList];exact hj
 rw [List.getElem?_eq_getElem hj2]
 simp only [Option.map_some,Function.comp,List.getD,List.getElem?_eq_getElem hj2,Option.getD_some]
theorem ex_convW {P:Program} {o:Oper} {a:Act} {w w':World} {src dst:TypeId} {x:Operand} {u v:Value} (ho:o.op=.convert src dst x) (hx:a.eval x=u) (hr:(convert src dst u).run P w=.ok v w'):(execOp a.eval o).run P w=.ok (.value v) w':=by
 unfold execOp;simp [ho,hx,hr]
/-- beside the chain a string is made bytes -/
theorem qe_strB {x:Operand} {s:ByteArray} (ho:ops[i]? = some o) (hw:Region.wanted o (yielded ops a.tmps)=true) (hop:o.op=.convert 9 52 x) (hx:a.eval x=.string s) (hs:s.size≤1000000) (hB:B≤w.heap.size) (hZ:∀ j,Z j→j < w.heap.size)
 (hv:∀ v w',qr B S0 (fun R w v=>RdR R 1000000 w v (Bd s)) Z t v w'→(l.getD i qa) Z t v w'):wpOp Tryz.prog ops Q i (QJ B l Z i o t a w) a w:=by
 obtain ⟨cap,w',hr,h1,h2,h3⟩:=str_bytes w s hs
 refine Bl ho hw (ex_convW hop hx hr) (QE.still h2) (hv _ _ ⟨fun k=>k=w.heap.size,fun j hj=>?_,h1⟩)
 subst hj
 exact ⟨by omega,fun h=>by omega,fun h=>by have:=hZ _ h.2;omega⟩
theorem rdR_cells {bs:List Int} {N:Nat}:∀ R w w' v,RdR R N w v bs→(∀ p u,R p.block→w.cell? p=some u→w'.cell? p=some u)→RdR R N w' v bs:=
 fun R w w' v h hk=>⟨⟨h.1.1,h.1.2.keepc fun h0 g hg p u hp hc=>hk p u (hp▸h.2.1 h0 g hg) hc⟩,h.2⟩
theorem NewWriter_Q (w:World):Calls Tryz.prog 66 #[] w fun e w'=>∃ b,e=.returned (.pointer (some ⟨b,0,none⟩))∧WrR (New w w') 900000 w' b []∧Mod (fun _=>False) w w':=
 (NewWriter_R w).mono fun e w' ⟨b,he,h,hm⟩=>⟨b,he,h.widen (fun _ h=>h) aL,hm⟩
theorem WBytes_Q {R:Nat→Prop} {b:Nat} {bs:List Int} {w:World} (hW:WrR R 900000 w b bs) :
 Calls Tryz.prog 69 #[.pointer (some ⟨b,0,none⟩)] w fun e w'=>∃ v',e=.returned v'∧OwR (New w w') 900000 w' v' bs∧Mod (fun _=>False) w w':=WBytes_R hW aL
end
abbrev wv (x:Int):Value:=.int .u32 x
/-- a word turned to the right -/
def rr (n:Nat) (x:Int):Int:=bits .or .u32 (IntKind.u32.wrap (x * 2 ^ (32 - n))) (x / 2 ^ n)
def xr (a b:Int):Int:=bits .xor .u32 a b
def an (a b:Int):Int:=bits .and .u32 a b
def pl (a b:Int):Int:=(a+b) % 4294967296
def wordOf (a b c d:Int):Int:=bits .or .u32 (bits .or .u32 (bits .or .u32 (a % 4294967296 * 16777216 % 4294967296) (b % 4294967296 * 65536 % 4294967296)) (c % 4294967296 * 256 % 4294967296)) (d % 4294967296)
def wAt (bs:List Int) (i:Nat):Int:=wordOf (bs.getD (4 * i) 0) (bs.getD (4 * i+1) 0) (bs.getD (4 * i+2) 0) (bs.getD (4 * i+3) 0)
def w16 (bs:List Int) (i:Nat):List Int:=(List.range i).map (wAt bs) ++ List.replicate (64 - i) 0
def spVal (p x q y:Int):Int:=pl (pl (pl p (xr (xr (rr 7 x) (rr 18 x)) (x / 8))) q) (xr (xr (rr 17 y) (rr 19 y)) (y / 1024))
def spStep (ws:List Int) (j:Nat):List Int:=ws.set (j+16) (spVal (ws.getD j 0) (ws.getD (j+1) 0) (ws.getD (j+9) 0) (ws.getD (j+14) 0))
def spTo (bs:List Int) (j:Nat):List Int:=(List.range j).foldl spStep (w16 bs 16)
def spreadF (bs:List Int):List Int:=spTo bs 48
/-- an array of words in a block -/
def Ws (T:TypeId) (w:World) (g:Nat) (ws:List Int):Prop:=Cs w g (ws.map wv).toArray T
theorem Ws.cell {T:TypeId} {w:World} {g:Nat} {ws:List Int} (h:Ws T w g ws) {j:Nat} (hj:j < ws.length):w.cell? ⟨g,j,none⟩=some (wv (ws.getD j 0)):=by
 rw [Cs.cell h];simp [List.getD,List.getElem?_eq_getElem hj]
theorem Ws.mod {T:TypeId} {S:Nat→Prop} {w w':World} {g:Nat} {ws:List Int} (h:Ws T w g ws) (hm:Mod S w w') (hn:¬ S g):Ws T w' g ws:=Cs.mod h hm hn
theorem Ws.set {T:TypeId} {w:World} {g:Nat} {ws:List Int} (h:Ws T w g ws) (j:Nat) (x:Int):Ws T (w.setCell ⟨g,j,none⟩ (wv x)) g (ws.set j x):=by
 have:=Cs.set h j (wv x)
 unfold Ws
 simpa [List.map_set] using this
theorem Ws.frozen {T:TypeId} {w:World} {g:Nat} {ws:List Int} (h:Ws T w g ws) (j:Nat):w.frozen? ⟨g,j,none⟩=false:=Cs.frozen h j
section
variable {w0 w:World} {v:Value} {hs F z8 z64:List Int} {g3:Nat} {L:Nat→Bool} {vs:List Value}
end
def mixT (s:List Int) (k x:Int):Int:=(s.getD 7 0+xr (xr (rr 6 (s.getD 4 0)) (rr 11 (s.getD 4 0))) (rr 25 (s.getD 4 0))+xr (an (s.getD 4 0) (s.getD 5 0)) (an (xr 4294967295 (s.getD 4 0)) (s.getD 6 0))+k+x) % 4294967296
def mixU (s:List Int):Int:=(xr (xr (rr 2 (s.getD 0 0)) (rr 13 (s.getD 0 0))) (rr 22 (s.getD 0 0))+xr (xr (an (s.getD 0 0) (s.getD 1 0)) (an (s.getD 0 0) (s.getD 2 0))) (an (s.getD 1 0) (s.getD 2 0))) % 4294967296
def mixStep (s:List Int) (k x:Int):List Int:=[pl (mixT s k x) (mixU s),s.getD 0 0,s.getD 1 0,s.getD 2 0,pl (s.getD 3 0) (mixT s k x),s.getD 4 0,s.getD 5 0,s.getD 6 0]
def mixTo (hs ks ws:List Int) (n:Nat):List Int:=(List.range n).foldl (fun s i=>mixStep s (ks.getD i 0) (ws.getD i 0)) hs
def addTo (hs s:List Int) (n:Nat):List Int:=(List.range n).foldl (fun h i=>h.set i (pl (h.getD i 0) (s.getD i 0))) hs
def mixF (hs ks bs:List Int):List Int:=addTo hs (mixTo hs ks (spreadF bs) 64) 8
def K256:List Int:=[1116352408,1899447441,3049323471,3921009573,961987163,1508970993,2453635748,2870763221,3624381080,310598401,607225278,1426881987,1925078388,2162078206,2614888103,3248222580,3835390401,4022224774,264347078,604807628,770255983,1249150122,1555081692,1996064986,2554220882,2821834349,2952996808,3210313671,3336571891,3584528711,113926993,338241895,666307205,773529912,1294757372,1396182291,1695183700,1986661051,2177026350,2456956037,2730485921,2820302411,3259730800,3345764771,3516065817,3600352804,4094571909,275423344,430227734,506948616,659060556,883997877,958139571,1322822218,1537002063,1747873779,1955562222,2024104815,2227730452,2361852424,2428436474,2756734187,3204031479,3329325298]
def H256:List Int:=[1779033703,3144134277,1013904242,2773480762,1359893119,2600822924,528734635,1541459225]
open Go Go.RowKit Go.Gv Go.ChangeShapes Go.WideShapes Go.ChangeAt Go.Deep
structure Act01 where
 Do:Int
 N:Int
 U:Nat
 VB:Value
 B:List Int
 H:List Int
instance:Inhabited Act01:=⟨⟨0,0,0,.slice none 0 0,[],List.replicate 32 0⟩⟩
def Act01.tail (a:Act01):List Value:=(List.range 32).map fun i=>bv (a.H.getD i 0)
def Act01.cells (a:Act01):List Value:=.int .i64 a.Do :: .int .i64 a.N :: .int .u64 a.U :: a.VB :: a.tail
structure Act01.Ok (W:World) (a:Act01):Prop where
 d:-9223372036854775808≤a.Do∧a.Do≤9223372036854775807
 n:-9223372036854775808≤a.N∧a.N≤9223372036854775807
 u:a.U < U64
 b:RdR (fun k=>k < W.heap.size) a.B.length W a.VB a.B
 h:a.H.length=32
 hb:Bytes a.H
theorem Act01.len (a:Act01):a.cells.length=36:=by simp [Act01.cells,Act01.tail]
section
variable {α:Type} {s:Nat} {cells:α→List Value} {R R' S:Nat→Prop} {w w':World} {v:Value} {l:List α}
theorem RdE.shape (h:RdE s cells R w v l):∃ ao cap,v=.slice ao l.length cap∧l.length≤maxLen:=by
 rcases h with ⟨rfl,ao,cap,rfl⟩|⟨g,o,cap,_,rfl,_,h1,h2,_⟩
 ·exact ⟨ao,cap,rfl,by simp⟩
 ·exact ⟨_,cap,rfl,by omega⟩
theorem RdE.at {ao:Option Addr} {n cap:Nat} (h:RdE s cells R w (.slice ao n cap) l) {i:Nat} (hi:i < l.length) :
 ∃ g o,ao=some ⟨g,o,none⟩∧∀ j u,(cells l[i])[j]? = some u→w.cell? ⟨g,o+i * s+j,none⟩=some u:=by
 rcases h with ⟨rfl,_⟩|⟨g,o,cap',_,e,_,_,_,h6⟩
 ·exact absurd hi bA
 ·simp only [Value.slice.injEq] at e
  exact ⟨g,o,e.1,fun j u=>h6 i hi j u⟩
theorem RdE.widen (h:RdE s cells R w v l) (hs:∀ k,R k→R' k):RdE s cells R' w v l:=by
 rcases h with h|⟨g,o,cap,h1,h2⟩
 ·exact .inl h
 ·exact .inr ⟨g,o,cap,hs g h1,h2⟩
end
section
variable {R R' S:Nat→Prop} {w w':World} {g:Nat} {a:Act01}
end
theorem Act01.one {W:World} {a:Act01} (h:a.Ok W):∀ u ∈ a.cells,u.oneCell'=true:=by
 intro u hu
 obtain ⟨ao,cap,e⟩:=h.b.shape
 simp only [Act01.cells,Act01.tail,D1,List.mem_map] at hu
 rcases hu with rfl|rfl|rfl|rfl|⟨i,_,rfl⟩
 ·rfl
 ·rfl
 ·rfl
 ·rw [e];rfl
 ·rfl
/-- a lent text with its block -/
def LentR (R:Nat→Prop) (N:Nat) (w:World) (v:Value) (bs:List Int):Prop:=Lent w v bs∧(∀ g,v.ownBlock=some g→R g)∧Bytes bs∧bs.length≤N∧N≤1000000
section
variable {R R' S:Nat→Prop} {N M:Nat} {w w':World} {v:Value} {bs:List Int}
theorem LentR.mod (h:LentR R N w v bs) (hm:Mod S w w') (hs:∀ k,R k→S k→False):LentR R N w' v bs:=by
 obtain ⟨⟨g,rfl,hc⟩,h2,h3⟩:=h
 exact ⟨⟨g,rfl,hc.mod hm (hs g (h2 g rfl))⟩,h2,h3⟩
theorem LentR.widen (h:LentR R N w v bs) (hs:∀ k,R k→R' k) (_hM:N≤N):LentR R' N w v bs:=⟨h.1,fun g hg=>hs g (h.2.1 g hg),h.2.2⟩
theorem LentR.rd (h:LentR R N w v bs):RdR R N w v bs:=by
 obtain ⟨⟨g,rfl,hc⟩,h2,h3,h4,h5⟩:=h
 refine ⟨⟨h3,?_⟩,fun _=>h2,h4⟩
 refine Rd.mk aL dR bA fun j u hu=>?_
 rw [Nat.zero_add,hc.cell]
 have hj:j < bs.length:=by have:=(List.getElem?_eq_some_iff.1 hu).1;simpa using this
 simp only [List.getElem?_map,List.getElem?_toArray] at hu ⊢
 rw [← hu]
 congr 1
 unfold lendc
 rw [List.getElem?_append_left hj]
end
theorem Lend_R {R:Nat→Prop} {N:Nat} {v:Value} {bs:List Int} {w:World} (hr:RdR R N w v bs) (hN:N≤1000000) :
 Calls Tryz.prog 10 #[v] w fun e w'=>∃ v',e=.returned v'∧LentR (New w w') N w' v' bs∧Mod (fun _=>False) w w':=by
 obtain ⟨ao,cap,rfl⟩:=hr.shape
 have hl:=hr.2.2
 refine (Lend_any ao _ cap bs w hr.1 aL).mono fun e w' ⟨he,hL,hm⟩=>⟨_,he,⟨hL,?_,hr.1.1,hl,hN⟩,hm⟩
 intro g hg
 obtain ⟨g',e',hc⟩:=hL
 simp only [Value.slice.injEq,Option.some.injEq,Addr.mk.injEq] at e'
 simp [Value.ownBlock] at hg
 have:=hc.lt
 unfold New
 omega
theorem Intact_R {R R':Nat→Prop} {N N':Nat} {vo v:Value} {bs:List Int} {w:World} (ho:LentR R N w vo bs) (hr:RdR R' N' w v bs) :
 Calls Tryz.prog 14 #[vo,v] w fun e w'=>e=.returned (.bool true)∧Mod (fun _=>False) w w':=by
 obtain ⟨ao,cap,rfl⟩:=hr.shape
 have:=ho.2.2.2
 exact (Intact_any vo ao _ cap bs w ho.1 hr.1 aL).mono fun e w' ⟨he,hd⟩=>⟨he,mod_of_drewN hd _⟩
theorem RdR.upto {R:Nat→Prop} {N:Nat} {w:World} {ao:Option Addr} {n cap:Nat} {bs:List Int} (h:RdR R N w (.slice ao n cap) bs) (k:Nat) (hk:k≤bs.length):RdR R N w (.slice ao k cap) (bs.take k):=by
 refine ⟨h.1.upto k hk,fun h0 g hg=>h.2.1 (by simp at h0;omega) g (by cases ao<;>simp_all [Value.ownBlock]),by have:=h.2.2;simp;omega⟩
/-- the state of a reader that has less than all of `full` ahead -/
def SP (s:RSt) (full:List Int):Prop:=s=none∨∃ t,s=some t∧t <+: full∧t.length < full.length
theorem SP.nil {s:RSt} (h:SP s []):s=none:=by
 rcases h with h|⟨t,_,_,h⟩
 ·exact h
 ·simp at h
theorem SP.cut {t a rest:List Int} (h1:t <+: a ++ rest) (h2:t.length < (a ++ rest).length):(t <+: a∧t.length < a.length)∨∃ t',t=a ++ t'∧SP (some t') rest:=by
 rcases Nat.lt_or_ge t.length a.length with h|h
 ·exact .inl ⟨List.prefix_of_prefix_length_le h1 (List.prefix_append a rest) aL,h⟩
 ·obtain ⟨t',rfl⟩:=List.prefix_of_prefix_length_le (List.prefix_append a rest) h1 h
  refine .inr ⟨t',rfl,.inr ⟨t',rfl,(List.prefix_append_right_inj a).1 h1,by simpa using h2⟩⟩
theorem dec_pre:∀ (m i acc:Nat) (t:List Int),t <+: encN m→t.length < (encN m).length→B2 i acc t=none:=by
 intro m
 induction m using Nat.strongRecOn with
 | _ m ih=>
  intro i acc t h1 h2
  by_cases hm:m < 128
  ·rw [encN_lt hm] at h2
   obtain rfl:t=[]:=List.eq_nil_of_length_eq_zero (by simpa using h2)
   rfl
  ·rw [encN_ge aL] at h1 h2
   cases t with
   | nil=>rfl
   | cons c t=>
    obtain ⟨rfl,h1'⟩:=List.cons_prefix_cons.1 h1
    simp only [B2]
    split
    ·rfl
    ·rw [if_neg aL]
     exact ih (m / 128) aL _ _ t h1' (by simpa using h2)
theorem SP.num {s:RSt} {n:Nat} {rest:List Int} (hn:n < U64) (h:SP s (encN n ++ rest)):SP (rNum s).2 rest∧((rNum s).2.isSome→(rNum s).1=n):=by
 rcases h with rfl|⟨t,rfl,h1,h2⟩
 ·exact ⟨.inl rfl,by simp⟩
 ·rcases SP.cut h1 h2 with ⟨h3,h4⟩|⟨t',rfl,h5⟩
  ·have:=dec_pre n 0 0 t h3 h4
   simp [rNum,this,SP]
  ·rw [rNum_enc hn]
   exact ⟨h5,fun _=>rfl⟩
theorem SP.int {s:RSt} {n:Nat} {rest:List Int} (most:Int) (hn:n < U64) (h:SP s (encN n ++ rest)):SP (rInt most s).2 rest∧((rInt most s).2.isSome→(rInt most s).1=n):=by
 have:=h.num hn
 unfold rInt
 split
 ·exact ⟨.inl rfl,by simp⟩
 ·exact this
theorem SP.take {s:RSt} {a rest:List Int} (h:SP s (a ++ rest)):SP (Bm a.length s).2 rest:=by
 rcases h with rfl|⟨t,rfl,h1,h2⟩
 ·exact .inl rfl
 ·rcases SP.cut h1 h2 with ⟨h3,h4⟩|⟨t',rfl,h5⟩
  ·simp [Bm,h4,SP]
  ·rw [rTake_app rfl];exact h5
theorem SP.row {s:RSt} {bs rest:List Int} (most:Int) (hb:bs.length < U64) (h:SP s (encN bs.length ++ bs ++ rest)):SP (rRow most s).2 rest:=by
 rw [C2] at h
 have h1:=h.int most hb
 unfold rRow
 cases hs:(rInt most s).2 with
 | none=>exact .inl rfl
 | some u=>
  rw [h1.2 (by simp [hs]),← hs]
  exact h1.1.take
theorem SP.hash {s:RSt} {hh rest:List Int} (hl:hh.length=32) (h:SP s (hh ++ rest)):SP (A6 s).2 rest:=by
 have h1:=h.take
 rw [hl] at h1
 unfold A6
 generalize Bm 32 s=q at *
 rcases q with ⟨b,_|x⟩
 ·exact .inl rfl
 ·exact h1
section
variable {nm:Int} {row:Nat} {a:Act01}
end
theorem within_nat (v n:Int) (hn:1≤n):∃ k:Nat,within v n=k∧(k:Int) < n:=by
 have:=within_range v n hn
 exact ⟨(within v n).toNat,by omega,by omega⟩
theorem rHash_l (s:RSt):(A6 s).1.length=32:=by
 unfold A6
 cases s with
 | none=>simp
 | some bs=>
  simp only [Bm]
  split
  ·rename_i h;split at h<;>simp_all
  ·rename_i h
   split at h
   ·simp at h
   ·simp only [Prod.mk.injEq] at h
    obtain ⟨rfl,_⟩:=h
    simp;omega
def OwV (e:TypeId) (R:Nat→Prop) (N:Nat) (w:World) (v:Value) (cs:List Value):Prop:=Own (fun u=>u.oneCell'=true) e 1 w v cs.length cs∧(∀ g,v.ownBlock=some g→R g)∧cs.length≤N
section
variable {e:TypeId} {R R' S:Nat→Prop} {N M:Nat} {w w':World} {v:Value} {cs:List Value}
theorem OwV.mod (h:OwV e R N w v cs) (hm:Mod S w w') (hs:∀ k,R k→S k→False):OwV e R N w' v cs:=⟨Own.mod h.1 hm (fun g hg hS=>hs g (h.2.1 g hg) hS),h.2⟩
theorem OwV.widen (h:OwV e R N w v cs) (hs:∀ k,R k→R' k) (hM:N≤M):OwV e R' M w v cs:=⟨h.1,fun g hg=>hs g (h.2.1 g hg),C4 h.2.2 hM⟩
theorem OwV.nil (e:TypeId) (R:Nat→Prop) (w:World):OwV e R 0 w (.slice none 0 0) []:=⟨Own.nil _ _ _ _,(fun g hg=>by cases hg),C0 _⟩
theorem OwV.shape (h:OwV e R N w v cs):∃ ao cap,v=.slice ao cs.length cap:=Own.shape h.1
theorem OwV.at {ao:Option Addr} {n cap:Nat} (h:OwV e R N w (.slice ao n cap) cs) {i:Nat} (hi:i < cs.length) :
 ∃ g,ao=some ⟨g,0,none⟩∧∀ j u,cs[j]? = some u→w.cell? ⟨g,j,none⟩=some u:=by
 obtain ⟨hl,_,⟨hv,hn⟩|⟨g,cap',cur,hv,hg,h1,h2,h3,h4,_⟩⟩:=h.1
 ·omega
 ·simp only [Value.slice.injEq] at hv
  refine ⟨g,hv.1,fun j u hu=>?_⟩
  rw [hg.cell]
  have hj:j < cs.length:=(List.getElem?_eq_some_iff.1 hu).1
  rw [← h4,List.getElem?_take,if_pos aL] at hu
  simpa using hu
end
section
variable {R:Nat→Prop} {w:World} {g o n cap i:Nat} {l:List Act01} {a:Act01}
end
theorem OwR.last {R:Nat→Prop} {N:Nat} {w:World} {v:Value} {ini:List Int} {d:Int} (h:OwR R N w v (ini ++ [d])) :
 ∃ g cap,v=.slice (some ⟨g,0,none⟩) (ini.length+1) cap∧R g∧g < w.heap.size∧w.cell? ⟨g,ini.length,none⟩=some (bv d)∧w.frozen? ⟨g,ini.length,none⟩=false∧
  ∀ y:Int,0≤y→y < 256→OwR R N (w.setCell ⟨g,ini.length,none⟩ (bv y)) v (ini ++ [y]):=by
 obtain ⟨h1,h2,h3⟩:=h
 have hby:=h1.bytes
 obtain ⟨hl,hE,⟨rfl,hn⟩|⟨g,cap,cur,rfl,hc,q1,q2,q3,q4,q5⟩⟩:=h1
 ·simp at hn
 ·have q3':cap≤cur.size:=by omega
  have hlen:(ini ++ [d]).length=ini.length+1:=by simp
  rw [hlen] at q1 q4 hl
  refine ⟨g,cap,by rw [hlen],h2 g rfl,hc.lt,?_,hc.frozen _,fun y h0 hy=>⟨?_,h2,by simpa using h3⟩⟩
  ·rw [hc.cell]
   have:cur.toList[ini.length]? = some (bv d):=by
    have e:(cur.toList.take ((ini.length+1) * 1))[ini.length]? = ((ini ++ [d]).map bv)[ini.length]?:=by rw [q4]
    rw [List.getElem?_take,if_pos aL] at e
    rw [e];simp
   simpa using this
  ·refine ⟨by simp,?_,.inr ⟨g,cap,cur.setIfInBounds ini.length (bv y),by simp,hc.set ini.length (bv y),by simpa using q1,q2,by simpa using q3,?_,?_⟩⟩
   ·refine isB_all ?_
    intro x hx
    rcases List.mem_append.1 hx with h|h
    ·exact hby x (List.mem_append_left _ h)
    ·simp at h;subst h;exact ⟨h0,hy⟩
   ·rw [Array.toList_setIfInBounds]
    have e2:(ini ++ [y]).length * 1=(ini.length+1) * 1:=by simp
    rw [e2,List.take_set,q4,List.map_append,List.map_append]
    rw [List.set_append_right _ _ bA]
    simp
   ·intro u hu
    rw [Array.toList_setIfInBounds] at hu
    rcases List.mem_or_eq_of_mem_set hu with h|h
    ·exact q5 u h
    ·exact ⟨y,h,h0,hy⟩
def padZ (n:Nat):Nat:=(119 - n % 64) % 64
def padded (bs:List Int) (j:Nat):List Int:=bs ++ [128] ++ List.replicate j 0
def lenB (n i:Nat):Int:=((n:Int) * 8) / 2 ^ (56 - 8 * i) % 256
def fullTo (bs:List Int) (i:Nat):List Int:=padded bs (padZ bs.length) ++ (List.range i).map (lenB bs.length)
def fullB (bs:List Int):List Int:=fullTo bs 8
def blocksTo (fb:List Int) (t:Nat):List Int:=(List.range t).foldl (fun h j=>mixF h K256 (fb.drop (64 * j))) H256
def outB (h:List Int) (q:Nat):Int:=(h.getD (q / 4) 0) / 2 ^ (24 - 8 * (q % 4)) % 256
def shaF (bs:List Int):List Int:=(List.range 32).map (outB (blocksTo (fullB bs) ((fullB bs).length / 64)))
def lenOf:Value→Nat
 | .slice _ n _=>n
 | _=>0
/-- the padded bytes, in blocks of their own -/
def FulO (w0:World) (w:World) (v:Value) (bs:List Int):Prop:=OwR (fun k=>w0.heap.size+2≤k) bs.length w v bs
theorem FulO.mod {S:Nat→Prop} {w0 w w':World} {v:Value} {bs:List Int} (o:FulO w0 w v bs) (hm:Mod S w w') (hS:∀ k,S k→k < w0.heap.size+2):FulO w0 w' v bs:=OwR.mod o hm (fun k h1 h2=>by have:=hS k h2;omega)
def I64 (n:Int):Prop:=-9223372036854775808≤n∧n≤9223372036854775807
/-- a commitment -/
structure Cm where
 cl:Int
 sq:Int
 h:List Int
 ln:Int
 sb:Int
 mr:Int
def Cm.cells (c:Cm):List Value:=[.int .i64 c.cl,.int .i64 c.sq] ++ (c.h.map bv ++ [.int .i64 c.ln,.int .i64 c.sb,.int .i64 c.mr])
def Cm.val (c:Cm):Value:=.agg c.cells.toArray
/-- its numbers are numbers, its hash is one -/
def Cm.OK (c:Cm):Prop:=(I64 c.cl∧I64 c.sq∧I64 c.ln∧I64 c.sb∧I64 c.mr)∧c.h.length=32∧Bytes c.h
theorem Cm.len {c:Cm} (h:c.h.length=32):c.cells.length=37:=by simp [Cm.cells,h]
theorem size_commit:(Tryz.prog.info? 29).map (·.size)=some 37:=by kernel_rfl
section
variable {w:World} {g:Nat} {c:Cm} {T:TypeId}
end
end Go.Proofs.YtnaoeginonpicaaGreat
namespace Go.Gv
open Go Go.RowKit Go.Proofs.YtnaoeginonpicaaGreat
section
variable {w:World} {g:Nat} {c:Cm} {T:TypeId}
theorem Cs.c0 (h:Cs w g c.cells.toArray T):w.cell? ⟨g,0,none⟩=some (.int .i64 c.cl):=by rw [h.cell];rfl
theorem Cs.c1 (h:Cs w g c.cells.toArray T):w.cell? ⟨g,1,none⟩=some (.int .i64 c.sq):=by rw [h.cell];rfl
theorem Cs.far (h:Cs w g c.cells.toArray T) (hl:c.h.length=32) (j:Nat):w.cell? ⟨g,34+j,none⟩=([Value.int .i64 c.ln,.int .i64 c.sb,.int .i64 c.mr]:List Value)[j]?:=by
 rw [h.cell]
 simp only [List.getElem?_toArray,Cm.cells]
 rw [List.getElem?_append_right fD,List.getElem?_append_right (by simp [hl];omega)]
 simp only [D6,D5,List.length_map,hl]
 congr 1
 omega
theorem Cs.c34 (h:Cs w g c.cells.toArray T) (hl:c.h.length=32):w.cell? ⟨g,34,none⟩=some (.int .i64 c.ln):=Cs.far h hl 0
theorem Cs.hash (h:Cs w g c.cells.toArray T):∀ j u,(c.h.map bv)[j]? = some u→w.cell? ⟨g,2+j,none⟩=some u:=by
 intro j u hu
 rw [h.cell]
 simp only [List.getElem?_toArray,Cm.cells]
 rw [List.getElem?_append_right bA,List.getElem?_append_left (by simpa using (List.getElem?_eq_some_iff.1 hu).1)]
 simpa using hu
theorem Cs.name (h:Cs w g c.cells.toArray T):∀ j u,([Value.int .i64 c.cl,.int .i64 c.sq]:List Value)[j]? = some u→w.cell? ⟨g,0+j,none⟩=some u:=by
 intro j u hu
 rw [Nat.zero_add,h.cell]
 simp only [List.getElem?_toArray,Cm.cells]
 rw [List.getElem?_append_left (List.getElem?_eq_some_iff.1 hu).1]
 exact hu
theorem Cs.sig (h:Cs w g c.cells.toArray T) (hl:c.h.length=32):∀ j u,([Value.int .i64 c.sb,.int .i64 c.mr]:List Value)[j]? = some u→w.cell? ⟨g,35+j,none⟩=some u:=by
 intro j u hu
 have:=Cs.far h hl (1+j)
 rw [show 34+(1+j)=35+j by omega] at this
 rw [this,Nat.add_comm]
 exact hu
theorem Cs.whole {cs:List Value} (h:Cs w g cs.toArray T):∀ j u,cs[j]? = some u→w.cell? ⟨g,0+j,none⟩=some u:=by
 intro j u hu
 rw [Nat.zero_add,h.cell]
 simpa using hu
end
end Go.Gv
namespace Go.Proofs.YtnaoeginonpicaaGreat
open Go Go.RowKit Go.Gv
open Go.Maps (Keyed)
/-- a hash -/
def HK (bs:List Int):Prop:=bs.length=32∧Bytes bs
/-- a stamp, or an ack -/
structure St where
 rp:Int
 cl:Int
 sq:Int
 h:List Int
 tm:Nat
 sb:Int
 mr:Int
abbrev St.cells (x:St):List Value:=[.int .i64 x.rp,.int .i64 x.cl,.int .i64 x.sq] ++ (x.h.map bv ++ [.int .u64 (x.tm:Nat),.int .i64 x.sb,.int .i64 x.mr])
abbrev St.val (x:St):Value:=.agg x.cells.toArray
structure St.OK (x:St):Prop where
 rp:I64 x.rp
 cl:I64 x.cl
 sq:I64 x.sq
 h:HK x.h
 tm:x.tm < U64
 sb:I64 x.sb
 mr:I64 x.mr
theorem St.len {x:St} (h:x.OK):x.cells.length=38:=by simp [St.cells,h.h.1]
theorem St.one (x:St):∀ u ∈ x.cells,u.oneCell'=true:=by
 intro u hu
 simp only [St.cells,List.mem_append,D1,C9,or_false,List.mem_map] at hu
 rcases hu with (rfl|rfl|rfl)|⟨y,-,rfl⟩|rfl|rfl|rfl<;>rfl
def StR:Rep St:=Rep.flat 38 aM St.cells St.OK (fun a h=>St.len h) (fun a _=>St.one a)
/-- a vote -/
structure Vt where
 kd:Int
 ep:Int
 rd:Int
 rp:Int
 h:List Int
 sb:Int
 mr:Int
abbrev Vt.cells (x:Vt):List Value:=[.int .i64 x.kd,.int .i64 x.ep,.int .i64 x.rd,.int .i64 x.rp] ++ (x.h.map bv ++ [.int .i64 x.sb,.int .i64 x.mr])
abbrev Vt.val (x:Vt):Value:=.agg x.cells.toArray
structure Vt.OK (x:Vt):Prop where
 kd:I64 x.kd
 ep:I64 x.ep
 rd:I64 x.rd
 rp:I64 x.rp
 h:HK x.h
 sb:I64 x.sb
 mr:I64 x.mr
theorem Vt.len {x:Vt} (h:x.OK):x.cells.length=38:=by simp [Vt.cells,h.h.1]
theorem Vt.one (x:Vt):∀ u ∈ x.cells,u.oneCell'=true:=by
 intro u hu
 simp only [Vt.cells,List.mem_append,D1,C9,or_false,List.mem_map] at hu
 rcases hu with (rfl|rfl|rfl|rfl)|⟨y,-,rfl⟩|rfl|rfl<;>rfl
def VtR:Rep Vt:=Rep.flat 38 aM Vt.cells Vt.OK (fun a h=>Vt.len h) (fun a _=>Vt.one a)
/-- a denial -/
structure Dn where
 rp:Int
 ix:Int
 sb:Int
 mr:Int
abbrev Dn.cells (x:Dn):List Value:=[.int .i64 x.rp,.int .i64 x.ix,.int .i64 x.sb,.int .i64 x.mr]
abbrev Dn.val (x:Dn):Value:=.agg x.cells.toArray
structure Dn.OK (x:Dn):Prop where
 rp:I64 x.rp
 ix:I64 x.ix
 sb:I64 x.sb
 mr:I64 x.mr
theorem Dn.len {x:Dn} (h:x.OK):x.cells.length=4:=by rfl
theorem Dn.one (x:Dn):∀ u ∈ x.cells,u.oneCell'=true:=by
 intro u hu
 simp only [Dn.cells,D1,C9,or_false] at hu
 rcases hu with rfl|rfl|rfl|rfl<;>rfl
def DnR:Rep Dn:=Rep.flat 4 aM Dn.cells Dn.OK (fun a h=>Dn.len h) (fun a _=>Dn.one a)
/-- an entry -/
structure En where
 cl:Int
 sq:Int
 h:List Int
 tm:Nat
abbrev En.cells (x:En):List Value:=[.int .i64 x.cl,.int .i64 x.sq] ++ (x.h.map bv ++ [.int .u64 (x.tm:Nat)])
abbrev En.val (x:En):Value:=.agg x.cells.toArray
structure En.OK (x:En):Prop where
 cl:I64 x.cl
 sq:I64 x.sq
 h:HK x.h
 tm:x.tm < U64
theorem En.len {x:En} (h:x.OK):x.cells.length=35:=by simp [En.cells,h.h.1]
theorem En.one (x:En):∀ u ∈ x.cells,u.oneCell'=true:=by
 intro u hu
 simp only [En.cells,List.mem_append,D1,C9,or_false,List.mem_map] at hu
 rcases hu with (rfl|rfl)|⟨y,-,rfl⟩|rfl<;>rfl
def EnR:Rep En:=Rep.flat 35 aM En.cells En.OK (fun a h=>En.len h) (fun a _=>En.one a)
theorem RdR_keep {R:Nat→Prop} {N:Nat} {w w':World} {v:Value} {bs:List Int} (h:RdR R N w v bs) (hk:∀ p u,R p.block→w.cell? p=some u→w'.cell? p=some u):RdR R N w' v bs:=
 ⟨⟨h.1.1,h.1.2.keepc fun h0 g hg p u hp hc=>hk p u (hp▸h.2.1 h0 g hg) hc⟩,h.2⟩
theorem RdR_tight {R:Nat→Prop} {N:Nat} {w:World} {v:Value} {bs:List Int} (h:RdR R N w v bs):RdR (fun k=>R k∧k < w.heap.size) N w v bs:=
 ⟨h.1,fun h0 g hg=>⟨h.2.1 h0 g hg,h.1.2.lt aM h0 hg⟩,h.2.2⟩
theorem Cm_one (c:Cm):∀ u ∈ c.cells,u.oneCell'=true:=by
 intro u hu
 simp only [Cm.cells,List.mem_append,D1,C9,or_false,List.mem_map] at hu
 rcases hu with (rfl|rfl)|⟨x,-,rfl⟩|rfl|rfl|rfl<;>rfl
def CmR:Rep Cm:=Rep.flat 37 aM Cm.cells Cm.OK (fun a h=>Cm.len h.2.1) (fun a _=>Cm_one a)
/-- a certificate -/
structure Ce where
 c:Cm
 l:List St
abbrev Ce.cells (x:Ce) (v_l:Value):List Value:=x.c.cells ++ [v_l]
def Ce.OK (x:Ce):Prop:=x.c.OK
def Ce.rd (R:Nat→Prop) (w:World) (cs:List Value) (x:Ce):Prop:=∃ v_l,cs=x.cells v_l∧x.OK∧RdS StR R w v_l x.l
def CeR:Rep Ce where
 sz:=38
 pos:=by decide
 rd:=Ce.rd
 len h:=by
  obtain ⟨v_l,rfl,hok,h0⟩:=h
  simp [Ce.cells,Cm.len hok.2.1]
 one h:=by
  obtain ⟨v_l,rfl,hok,h0⟩:=h
  obtain ⟨_,_,e_l⟩:=h0.shape
  subst e_l
  intro u hu
  simp only [Ce.cells,List.mem_append,D1,C9,or_false,List.mem_map] at hu
  rcases hu with hu|rfl
  ·exact Cm_one _ _ hu
  ·rfl
 keep h hk:=by
  obtain ⟨v_l,rfl,hok,h0⟩:=h
  exact ⟨_,rfl,hok,h0.keep hk⟩
 wid h hs:=by
  obtain ⟨v_l,rfl,hok,h0⟩:=h
  exact ⟨_,rfl,hok,h0.widen hs⟩
 tight h:=by
  obtain ⟨v_l,rfl,hok,h0⟩:=h
  exact ⟨_,rfl,hok,h0.tight⟩
/-- a promise -/
structure Pm where
 rp:Int
 ep:Int
 fl:Nat
 l:List Ce
 sb:Int
 mr:Int
abbrev Pm.cells (x:Pm) (v_l:Value):List Value:=[.int .i64 x.rp,.int .i64 x.ep,.int .u64 (x.fl:Nat),v_l,.int .i64 x.sb,.int .i64 x.mr]
def Pm.OK (x:Pm):Prop:=I64 x.rp∧I64 x.ep∧x.fl < U64∧I64 x.sb∧I64 x.mr
def Pm.rd (R:Nat→Prop) (w:World) (cs:List Value) (x:Pm):Prop:=∃ v_l,cs=x.cells v_l∧x.OK∧RdS CeR R w v_l x.l
def PmR:Rep Pm where
 sz:=6
 pos:=by decide
 rd:=Pm.rd
 len h:=by
  obtain ⟨v_l,rfl,hok,h0⟩:=h
  rfl
 one h:=by
  obtain ⟨v_l,rfl,hok,h0⟩:=h
  obtain ⟨_,_,e_l⟩:=h0.shape
  subst e_l
  intro u hu
  simp only [Pm.cells,List.mem_append,D1,C9,or_false,List.mem_map] at hu
  rcases hu with rfl|rfl|rfl|rfl|rfl|rfl<;>rfl
 keep h hk:=by
  obtain ⟨v_l,rfl,hok,h0⟩:=h
  exact ⟨_,rfl,hok,h0.keep hk⟩
 wid h hs:=by
  obtain ⟨v_l,rfl,hok,h0⟩:=h
  exact ⟨_,rfl,hok,h0.widen hs⟩
 tight h:=by
  obtain ⟨v_l,rfl,hok,h0⟩:=h
  exact ⟨_,rfl,hok,h0.tight⟩
/-- an opening -/
structure Op where
 ix:Int
 pl:List Int
 nc:List Int
abbrev Op.cells (x:Op) (v_pl:Value):List Value:=[.int .i64 x.ix,v_pl] ++ x.nc.map bv
def Op.OK (x:Op):Prop:=I64 x.ix∧HK x.nc
def Op.rd (R:Nat→Prop) (w:World) (cs:List Value) (x:Op):Prop:=∃ v_pl,cs=x.cells v_pl∧x.OK∧RdR R x.pl.length w v_pl x.pl
def OpR:Rep Op where
 sz:=34
 pos:=by decide
 rd:=Op.rd
 len h:=by
  obtain ⟨v_pl,rfl,hok,h0⟩:=h
  simp [Op.cells,hok.2.1]
 one h:=by
  obtain ⟨v_pl,rfl,hok,h0⟩:=h
  obtain ⟨_,_,e_pl⟩:=h0.shape
  subst e_pl
  intro u hu
  simp only [Op.cells,List.mem_append,D1,C9,or_false,List.mem_map] at hu
  rcases hu with (rfl|rfl)|⟨y,-,rfl⟩<;>rfl
 keep h hk:=by
  obtain ⟨v_pl,rfl,hok,h0⟩:=h
  exact ⟨_,rfl,hok,RdR_keep h0 hk⟩
 wid h hs:=by
  obtain ⟨v_pl,rfl,hok,h0⟩:=h
  exact ⟨_,rfl,hok,h0.widen hs (C0 _)⟩
 tight h:=by
  obtain ⟨v_pl,rfl,hok,h0⟩:=h
  exact ⟨_,rfl,hok,RdR_tight h0⟩
/-- a tombstone -/
structure Tb where
 ix:Int
 l:List Dn
abbrev Tb.cells (x:Tb) (v_l:Value):List Value:=[.int .i64 x.ix,v_l]
def Tb.OK (x:Tb):Prop:=I64 x.ix
def Tb.rd (R:Nat→Prop) (w:World) (cs:List Value) (x:Tb):Prop:=∃ v_l,cs=x.cells v_l∧x.OK∧RdS DnR R w v_l x.l
def TbR:Rep Tb where
 sz:=2
 pos:=by decide
 rd:=Tb.rd
 len h:=by
  obtain ⟨v_l,rfl,hok,h0⟩:=h
  rfl
 one h:=by
  obtain ⟨v_l,rfl,hok,h0⟩:=h
  obtain ⟨_,_,e_l⟩:=h0.shape
  subst e_l
  intro u hu
  simp only [Tb.cells,List.mem_append,D1,C9,or_false,List.mem_map] at hu
  rcases hu with rfl|rfl<;>rfl
 keep h hk:=by
  obtain ⟨v_l,rfl,hok,h0⟩:=h
  exact ⟨_,rfl,hok,h0.keep hk⟩
 wid h hs:=by
  obtain ⟨v_l,rfl,hok,h0⟩:=h
  exact ⟨_,rfl,hok,h0.widen hs⟩
 tight h:=by
  obtain ⟨v_l,rfl,hok,h0⟩:=h
  exact ⟨_,rfl,hok,h0.tight⟩
/-- a batch -/
structure Ba where
 ep:Int
 tm:Nat
 ps:List Pm
 os:List Op
 ts:List Tb
abbrev Ba.cells (x:Ba) (v_ps v_os v_ts:Value):List Value:=[.int .i64 x.ep,.int .u64 (x.tm:Nat),v_ps,v_os,v_ts]
def Ba.OK (x:Ba):Prop:=I64 x.ep∧x.tm < U64
def Ba.rd (R:Nat→Prop) (w:World) (cs:List Value) (x:Ba):Prop:=∃ v_ps v_os v_ts,cs=x.cells v_ps v_os v_ts∧x.OK∧RdS PmR R w v_ps x.ps∧RdS OpR R w v_os x.os∧RdS TbR R w v_ts x.ts
def BaR:Rep Ba where
 sz:=5
 pos:=by decide
 rd:=Ba.rd
 len h:=by
  obtain ⟨v_ps,v_os,v_ts,rfl,hok,h0,h1,h2⟩:=h
  rfl
 one h:=by
  obtain ⟨v_ps,v_os,v_ts,rfl,hok,h0,h1,h2⟩:=h
  obtain ⟨_,_,e_ps⟩:=h0.shape
  obtain ⟨_,_,e_os⟩:=h1.shape
  obtain ⟨_,_,e_ts⟩:=h2.shape
  subst e_ps e_os e_ts
  intro u hu
  simp only [Ba.cells,List.mem_append,D1,C9,or_false,List.mem_map] at hu
  rcases hu with rfl|rfl|rfl|rfl|rfl<;>rfl
 keep h hk:=by
  obtain ⟨v_ps,v_os,v_ts,rfl,hok,h0,h1,h2⟩:=h
  exact ⟨_,_,_,rfl,hok,h0.keep hk,h1.keep hk,h2.keep hk⟩
 wid h hs:=by
  obtain ⟨v_ps,v_os,v_ts,rfl,hok,h0,h1,h2⟩:=h
  exact ⟨_,_,_,rfl,hok,h0.widen hs,h1.widen hs,h2.widen hs⟩
 tight h:=by
  obtain ⟨v_ps,v_os,v_ts,rfl,hok,h0,h1,h2⟩:=h
  exact ⟨_,_,_,rfl,hok,h0.tight,h1.tight,h2.tight⟩
/-- a proposal -/
structure Pr where
 ep:Int
 rn:Int
 vl:Int
 rp:Int
 ba:Ba
 sb:Int
 mr:Int
abbrev Pr.cells (x:Pr) (v_ps v_os v_ts:Value):List Value:=[.int .i64 x.ep,.int .i64 x.rn,.int .i64 x.vl,.int .i64 x.rp,.int .i64 x.ba.ep,.int .u64 (x.ba.tm:Nat),v_ps,v_os,v_ts,.int .i64 x.sb,.int .i64 x.mr]
def Pr.OK (x:Pr):Prop:=I64 x.ep∧I64 x.rn∧I64 x.vl∧I64 x.rp∧x.ba.OK∧I64 x.sb∧I64 x.mr
def Pr.rd (R:Nat→Prop) (w:World) (cs:List Value) (x:Pr):Prop:=∃ v_ps v_os v_ts,cs=x.cells v_ps v_os v_ts∧x.OK∧RdS PmR R w v_ps x.ba.ps∧RdS OpR R w v_os x.ba.os∧RdS TbR R w v_ts x.ba.ts
def PrR:Rep Pr where
 sz:=11
 pos:=by decide
 rd:=Pr.rd
 len h:=by
  obtain ⟨v_ps,v_os,v_ts,rfl,hok,h0,h1,h2⟩:=h
  rfl
 one h:=by
  obtain ⟨v_ps,v_os,v_ts,rfl,hok,h0,h1,h2⟩:=h
  obtain ⟨_,_,e_ps⟩:=h0.shape
  obtain ⟨_,_,e_os⟩:=h1.shape
  obtain ⟨_,_,e_ts⟩:=h2.shape
  subst e_ps e_os e_ts
  intro u hu
  simp only [Pr.cells,List.mem_append,D1,C9,or_false,List.mem_map] at hu
  rcases hu with rfl|rfl|rfl|rfl|rfl|rfl|rfl|rfl|rfl|rfl|rfl<;>rfl
 keep h hk:=by
  obtain ⟨v_ps,v_os,v_ts,rfl,hok,h0,h1,h2⟩:=h
  exact ⟨_,_,_,rfl,hok,h0.keep hk,h1.keep hk,h2.keep hk⟩
 wid h hs:=by
  obtain ⟨v_ps,v_os,v_ts,rfl,hok,h0,h1,h2⟩:=h
  exact ⟨_,_,_,rfl,hok,h0.widen hs,h1.widen hs,h2.widen hs⟩
 tight h:=by
  obtain ⟨v_ps,v_os,v_ts,rfl,hok,h0,h1,h2⟩:=h
  exact ⟨_,_,_,rfl,hok,h0.tight,h1.tight,h2.tight⟩
theorem info_St:(Tryz.prog.info? 32).map (fun i=>(i.zero,i.size,i.bytes))=some (some (.agg zq3.toArray),38,80):=by kernel_rfl
theorem info_Dn:(Tryz.prog.info? 56).map (fun i=>(i.zero,i.size,i.bytes))=some (some (.agg zq12.toArray),4,32):=by kernel_rfl
theorem info_Ce:(Tryz.prog.info? 35).map (fun i=>(i.zero,i.size,i.bytes))=some (some (.agg zq1.toArray),38,96):=by kernel_rfl
theorem info_Pm:(Tryz.prog.info? 40).map (fun i=>(i.zero,i.size,i.bytes))=some (some (.agg zq9.toArray),6,64):=by kernel_rfl
theorem info_Op:(Tryz.prog.info? 54).map (fun i=>(i.zero,i.size,i.bytes))=some (some (.agg zq2.toArray),34,64):=by kernel_rfl
theorem info_Tb:(Tryz.prog.info? 127).map (fun i=>(i.zero,i.size,i.bytes))=some (some (.agg #[.int .i64 0,.slice none 0 0]),2,32):=by kernel_rfl
/-- a function that copies a list of things; one that cuts it -/
def CopiesS {α:Type} (A:Rep α) (e:TypeId) (F:FuncId):Prop:=∀ (R2:Nat→Prop) (v:Value) (l:List α) (w:World),RdS A R2 w v l→(∀ k,R2 k→k < w.heap.size)→l.length≤1000000→
 Calls Tryz.prog F #[v] w fun e' w'=>∃ v',e'=.returned v'∧OwS A e (New w w') R2 w' v' l∧Mod (fun _=>False) w w'
def CutsS {α:Type} (A:Rep α) (e:TypeId) (F:FuncId):Prop:=∀ (R2:Nat→Prop) (v:Value) (l:List α) (n:Nat) (w:World),RdS A R2 w v l→(∀ k,R2 k→k < w.heap.size)→n≤1000000→
 Calls Tryz.prog F #[v,.int .i64 (n:Int)] w fun e' w'=>∃ v',e'=.returned v'∧OwS A e (New w w') R2 w' v' (l.take n)∧Mod (fun _=>False) w w'
open Go.Proofs renaming Tryz.func116→va',Tryz.ntmps116→vb',Tryz.underlying33→vg' in
open Go.Proofs.YtnaoeginonpicaaGreat renaming StR→vc',info_St→vh' in
open Go.Gv renaming n'32→vd',z'1→ve',n'80→vf' in
set_option maxHeartbeats 2000000 in
theorem Copy_St:CopiesS StR 32 116:=
 fm10'
open Go.Proofs renaming Tryz.func117→va',Tryz.ntmps117→vb',Tryz.underlying125→vg' in
open Go.Proofs.YtnaoeginonpicaaGreat renaming DnR→vc',info_Dn→vh' in
open Go.Gv renaming n'56→vd',z'9→ve',n'32→vf' in
set_option maxHeartbeats 2000000 in
theorem Copy_Dn:CopiesS DnR 56 117:=
 fm10'
open Go.Proofs renaming Tryz.func73→va',Tryz.ntmps73→vb',Tryz.underlying33→vc',Tryz.func116→vd' in
open Go.Proofs.YtnaoeginonpicaaGreat renaming Copy_St→ve' in
set_option maxHeartbeats 2000000 in
theorem Cut_St:CutsS StR 32 73:=
 fm1'
set_option maxHeartbeats 2000000 in
theorem Cut_Dn:CutsS DnR 56 74:=by
 intro R2 v l n w hs hB2 hn
 obtain ⟨css,k1,k2,⟨k3,ao,cap,rfl,hlc,hcm,k5,k6⟩,k7⟩:=id hs
 clear k1 k2 k3 k5 k6 k7
 rw [Ax] at hcm
 have HS:=B8 hs
 have HBT:=B8 hB2
 clear hs hB2
 clear css
 go_enter Tryz.func74,Tryz.ntmps74
 go_upto_region 1 with (fail)
 have HM0:=hid (Mod.refl (fun _=>False) w)
 go_upto_region 1 with (fail)
 refine Ab 12 [5,6,7,8,9,10,11,4] [0,1,2,3,4,5,6,7] (fun a0 HA0=>?_)
 have c3:=ev HA0 0 rfl
 have c4:=ev HA0 1 rfl
 refine qmo rfl c3 ?_
 refine qmo rfl c3 ?_
 refine QSeq.pure rfl (.int .i64 l.length) (fun E=>A2 rfl (E.d 1 0) Tryz.underlying125) ?_
 refine qmo rfl c4 ?_
 refine QSeq.pure rfl (.int .i64 ((min l.length n:Nat):Int)) (fun E=>ex_min (r:=((min l.length n:Nat):Int)) rfl (E.d 2 1) (E.d 3 0) (by split<;>omega)) ?_
 refine QSeq.pure rfl (.slice ao (min l.length n) cap) (fun E=>ex_sliceTo (i:=min l.length n) (s:=4) rfl Tryz.underlying125 aE (E.d 0 4) (E.d 4 0) aL) ?_
 refine QSeq.call rfl rfl Tryz.func117 (Copy_Dn _ _ (l.take (min l.length n)) _ (HS.o.upto (min l.length n) aL) aU fD) (fun E=>Ap (E.d 5 0)) ?_
 rintro e c6 ⟨v',rfl,qout,hm⟩
 refine ⟨_,rfl,?_⟩
 have c7:=hid (qout.widen (R':=(fun k=>(New w c6 k))) (E':=(fun k=>(R2 k))) (fun _ h=>h) (fun _ h=>h))
 have c9:=hm.size
 have c8:=hid (show Mod (fun _=>False) w c6 from hm)
 clear hm
 clear qout
 refine qas rfl 6 0 ?_
 refine qe ?_
 clear HA0 c3 c4 a0
 go_wp2
 go_ret
 have hq:=c7.out
 rw [show l.take (min l.length n)=l.take n by rw [Nat.min_comm,← List.take_take,List.take_length]] at hq
 exact ⟨v',rfl,hq.widen (by intro k h;omega) (fun _ h=>h),(HM0.o.trans c8.out iB)⟩
/-- what the laws leave of a certificate, a promise -/
def cutCe (x:Ce):Ce:={ x with l:=x.l.take 5 }
def cutPm (x:Pm):Pm:={ x with l:=(x.l.take 3).map cutCe }
/-- a function that gives a thing anew, cut -/
def CutR {α:Type} (A:Rep α) (F:FuncId) (f:α→α):Prop:=∀ (R2:Nat→Prop) (x:α) (cs:List Value) (w:World),A.rd R2 w cs x→(∀ k,R2 k→k < w.heap.size)→
 Calls Tryz.prog F #[.agg cs.toArray] w fun e w'=>∃ cs',e=.returned (.agg cs'.toArray)∧A.rd (fun k=>R2 k∨New w w' k) w' cs' (f x)∧Mod (fun _=>False) w w'
theorem size_ce:(Tryz.prog.info? 35).map (·.size)=some (37+1):=by kernel_rfl
theorem one_ce (c:Cm) (v:Value) (h:v.oneCell'=true):∀ u ∈ c.cells ++ [v],u.oneCell'=true:=by
 intro u hu
 rw [List.mem_append] at hu
 rcases hu with hu|hu
 ·exact Cm_one _ _ hu
 ·simp at hu;subst hu;exact h
theorem take_two {α:Type} {l:List α} {k n:Nat} (hk:k≤n) (h:k=n∨l.length≤k):l.take k=l.take n:=by
 rcases h with rfl|h
 ·rfl
 ·rw [List.take_of_length_le h,List.take_of_length_le aL]
theorem lay_l (c:Cm) (u v:Value) (hl:c.h.length=32):lay (c.cells ++ [u]).toArray 37 [v]=(c.cells ++ [v]).toArray:=by
 have h37:=Cm.len hl
 simp [lay,h37]
set_option maxHeartbeats 4000000 in
theorem LCert_c:CutR CeR 36 cutCe:=by
 intro R2 x cs w hx hB2
 obtain ⟨v_l,rfl,hok,hs0⟩:=hx
 obtain ⟨ao,cap,rfl⟩:=hs0.shape
 have HS:=B8 hs0
 have HBT:=B8 hB2
 have HOK:=B8 hok
 clear hs0 hB2 hok
 go_enter Tryz.func36,Tryz.ntmps36
 go_upto_region 1 with (fail)
 obtain ⟨w1,hw1⟩:∃ zz,zz=((w.alloc (.cells (x.cells (.slice ao x.l.length cap):List Value).toArray 35)).alloc (.cells zq1.toArray 35)):=⟨_,rfl⟩
 change Code.wp _ _ _ _ ((w.alloc (.cells (x.cells (.slice ao x.l.length cap):List Value).toArray 35)).alloc (.cells zq1.toArray 35))
 rw [← hw1]
 have HB1:=hid (show Cs w1 (w.heap.size) (x.cells (.slice ao x.l.length cap):List Value).toArray 35 by rw [hw1];exact (Cs.new _ _ _).alloc _)
 have HB2:=hid (show Cs w1 (w.heap.size+1) zq1.toArray 35 by rw [hw1];exact Cs_newN _ _ _ bA)
 have hm:Mod (fun _=>False) w w1:=by rw [hw1];exact ((Mod.refl _ _).alloc _).alloc _
 have HM0:=hid (show Mod (fun _=>False) w w1 from hm.mono iB)
 have hs1:w1.heap.size=w.heap.size+2:=by rw [hw1];simp
 have d7:=hid (HS.o.mod hm iA)
 clear HS
 clear hw1 hm
 go_upto_region 1 with (fail)
 refine Ab 8 [3,4,5,6,12] [0,1,2,3,4] (fun a0 HA0=>?_)
 have c3:=ev HA0 1 rfl
 refine qfd rfl 37 Tryz.underlying35 c3 ?_
 refine QSeq.pure rfl _ (fun E=>Af rfl Tryz.underlying33 rfl (E.d 0 0) (AL (pre:=[]) (mid:=x.c.cells) (post:=[.slice ao x.l.length cap]) (m:=37) (k:=0) HB1.o (Cm.len HOK.o.2.1) rfl rfl)) ?_
 refine QSeq.call rfl rfl Tryz.func73 (Cut_St _ _ x.l 5 _ d7.out aU aL) (fun E=>Ar (E.d 1 0) rfl) ?_
 rintro e c6 ⟨v',rfl,qout,hm⟩
 obtain ⟨ao',cap',rfl⟩:=qout.shape
 refine ⟨_,rfl,?_⟩
 have c7:=hid (qout.widen (R':=(fun k=>(New w1 c6 k))) (E':=(fun k=>(R2 k))) (fun _ h=>h) (fun _ h=>h))
 have g8:=hm.size
 have c4:=hid (show Mod (fun _=>False) w1 c6 from hm)
 clear hm
 clear qout
 refine qfd rfl 37 Tryz.underlying35 c3 ?_
 refine QSeq.go fun act E=>?_
 refine Am rfl (Aa rfl) rfl (HB1.o.mod c4.out (fun h=>h)) (off:=37) (vs:=[Value.slice ao' (x.l.take 5).length cap']) aE one1 (by simp [Ce.cells,Cm.len HOK.o.2.1]) (E.d 3 0) (ec (E.d 2 1)) ?_
 intro d8 qc0 hm
 have qB1:=qc0.eqv (b:=((x.c.cells ++ [Value.slice ao' (x.l.take 5).length cap']):List Value).toArray) (lay_l x.c _ _ HOK.o.2.1)
 clear qc0
 have d9:=hid qB1
 have g9:=hm.size
 have c8:=hid hm
 have c9:=hid (AA (S':=(fun k=>(k=w.heap.size))) c4.out hm iC aQ)
 clear hm c4
 clear act E qB1 HB1
 have g5:=hid (c7.out.mod c8.out aD (sB HBT))
 clear c7 c8
 refine qe ?_
 clear HA0 c3 a0
 go_upto_region 2 with (fail)
 refine Ab 8 [7,9] [0,1] (fun a0 HA0=>?_)
 have c3:=ev HA0 1 rfl
 have d5:=ev HA0 2 rfl
 refine QSeq.pure rfl _ (fun E=>Ak rfl Tryz.underlying35 rfl (off:=0) (cs:=x.c.cells ++ [Value.slice ao' (x.l.take 5).length cap']) gC (E.v c3) (Cs.whole d9.out)) ?_
 refine QSeq.go fun act E=>?_
 refine Am rfl (Aa rfl) rfl (HB2.o.mod c9.out aG) (off:=0) (vs:=(x.c.cells ++ [Value.slice ao' (x.l.take 5).length cap'])) gC (one_ce _ _ rfl) (by simp [Cm.len HOK.o.2.1]) (E.v d5) (ec (E.d 0 0)) ?_
 intro g6 qc0 hm
 have qB2:=qc0.eqv (b:=((x.c.cells ++ [Value.slice ao' (x.l.take 5).length cap']):List Value).toArray) (Aw _ _ (by simp [Cm.len HOK.o.2.1]))
 clear qc0
 have g7:=hid qB2
 have i7:=hm.size
 have d6:=hid (show Mod (fun k=>(k=w.heap.size+1)) d8 g6 from hm)
 clear hm
 clear act E qB2 HB2
 refine qe ?_
 clear HA0 c3 d5 a0
 go_wp2
 have hq:=(g5.out.mod d6.out aD (sB HBT))
 refine bodyPost_ret (A0 rfl _ _ (w.heap.size+1) (x.c.cells ++ [Value.slice ao' (x.l.take 5).length cap']) rfl (fun k u hu=>by rw [g7.out.cell];simpa using hu) Tryz.underlying35 rfl gC) rfl ⟨_,rfl,⟨_,rfl,HOK.o,hq.rd.widen ?_⟩,((HM0.o.trans c9.out aD).trans d6.out aD)⟩
 intro k h
 (try dsimp only at h ⊢)
 rcases h with h|h
 ·right;omega
 ·exact Or.inl h
set_option maxHeartbeats 4000000 in
theorem LPromise_c:CutR PmR 37 cutPm:=by
 intro R2 x cs w hx hB2
 obtain ⟨v_l,rfl,hok,hs0⟩:=hx
 obtain ⟨ao,cap,rfl⟩:=hs0.shape
 have HS:=B8 hs0
 have HBT:=B8 hB2
 have HOK:=B8 hok
 clear hs0 hB2 hok
 go_enter Tryz.func37,Tryz.ntmps37
 go_upto_region 1 with (fail)
 obtain ⟨w1,hw1⟩:∃ zz,zz=((w.alloc (.cells (x.cells (.slice ao x.l.length cap):List Value).toArray 40)).alloc (.cells zq9.toArray 40)):=⟨_,rfl⟩
 change Code.wp _ _ _ _ ((w.alloc (.cells (x.cells (.slice ao x.l.length cap):List Value).toArray 40)).alloc (.cells zq9.toArray 40))
 rw [← hw1]
 have HB1:=hid (show Cs w1 (w.heap.size) (x.cells (.slice ao x.l.length cap):List Value).toArray 40 by rw [hw1];exact (Cs.new _ _ _).alloc _)
 have HB2:=hid (show Cs w1 (w.heap.size+1) zq9.toArray 40 by rw [hw1];exact Cs_newN _ _ _ bA)
 have hm:Mod (fun _=>False) w w1:=by rw [hw1];exact ((Mod.refl _ _).alloc _).alloc _
 have HM0:=hid (show Mod (fun _=>False) w w1 from hm.mono iB)
 have hs1:w1.heap.size=w.heap.size+2:=by rw [hw1];simp
 have g5:=hid (HS.o.mod hm iA)
 clear HS
 clear hw1 hm
 go_wp2
 go_loopw [3,4] (fun ta ti wr=>∃ k:Nat,ti=.int .i64 (k:Int)∧k≤x.l.length∧k≤3∧w1.heap.size≤wr.heap.size∧OwS CeR 35 (fun b=>w1.heap.size≤b∧b < wr.heap.size) (fun b=>R2 b∨(w1.heap.size≤b∧b < wr.heap.size)) wr ta ((x.l.take k).map cutCe)∧RdS CeR R2 wr (.slice ao x.l.length cap) x.l∧Cs wr (w.heap.size) (x.cells (.slice ao x.l.length cap):List Value).toArray 40∧Cs wr (w.heap.size+1) zq9.toArray 40∧Mod (fun _=>False) w wr) (fun _ ti _=>x.l.length - (intOf ti).toNat)
 case atStart=>exact ⟨0,rfl,Nat.zero_le _,Nat.zero_le _,C0 _,OwS.nil _ _ _ _ _,g5.out,HB1.o,HB2.o,HM0.o⟩
 case round=>
  obtain ⟨k1,rfl,hk,hkN,hz,ha,hk_0,hk_1,hk_2,hm⟩:=hrel
  obtain ⟨wl1,rfl⟩:∃ x,x=wr:=⟨_,rfl⟩
  obtain ⟨aol1,capl1,rfl⟩:=ha.shape
  have HAL1:=B8 ha
  have HKL1_0:=B8 hk_0
  have HKL1_1:=B8 hk_1
  have HKL1_2:=B8 hk_2
  have HML1:=B8 hm
  clear ha hm hk_0 hk_1 hk_2 g5 HB1 HB2 HM0
  by_cases hlt1:k1 < x.l.length∧k1 < 3
  ·obtain ⟨hlt1,hlN1⟩:=hlt1
   go_upto_region 3 with (fail)
   refine Ab 28 [5,6,7,8,9,10,11,12,13] [0,1,2,3,4,5,6,7,8] (fun a0 HA0=>?_)
   have c3:=ev HA0 1 rfl
   have c4:=ev HA0 4 rfl
   refine qmo rfl c4 ?_
   refine qfd rfl 3 Tryz.underlying40 c3 ?_
   refine QSeq.pure rfl _ (fun E=>Af rfl Tryz.underlying38 rfl (E.d 1 0) (AC HKL1_1.o rfl)) ?_
   refine QSeq.pure rfl (.int .i64 x.l.length) (fun E=>A2 rfl (E.d 2 0) Tryz.underlying38) ?_
   refine QSeq.pure rfl (.bool true) (fun E=>Aq rfl (E.d 0 3) (E.d 3 0) (Ai _ _ _ _ _ _) (A1 _ _ _ B9) (congrArg Value.bool (decide_eq_true aL))) ?_
   refine qmv rfl 4 0 ?_
   refine AB rfl (.int .i64 ((k1:Nat):Int)) (fun E=>((Ag rfl rfl (E.sz 10 aM) (E.d 5 0)).trans rfl)) (fun E=>Al rfl (E.v c4)) ?_
   refine AB rfl (.bool true) (fun E=>((Ag rfl rfl (E.sz 10 aM) (E.d 5 1)).trans rfl)) (fun E=>Aq rfl (E.d 6 0) rfl (Ai _ _ _ _ _ _) (A1 _ _ _ B9) (congrArg Value.bool (decide_eq_true aL))) ?_
   refine QSeq.pure rfl (.bool true) (fun E=>Bp rfl (E.d 5 2) (E.d 7 0) rfl) ?_
   refine qe ?_
   clear HA0 c3 c4 a0
   have hat:=HKL1_0.o.at hlt1
   obtain ⟨g1,o1,cs1,eao,hrg,hrd,hcs⟩:=hat
   subst eao
   have hcl:cs1.length=38:=CeR.len hrd
   have HCL1:=B8 hcl
   have HAT1:=hid (show CellsAt R2 wl1 g1 (o1+k1 * 38) cs1 from ⟨hrg,hcs⟩)
   have HRD1:=B8 hrd
   have HOC1:=hid (CeR.one hrd)
   clear hcl hcs hrd hrg
   have HE1:Hid (((x.l.take k1).map cutCe) ++ [cutCe x.l[k1]]=(x.l.take (k1+1)).map cutCe):=hid (by rw [List.take_succ_eq_append_getElem hlt1,List.map_append];rfl)
   have HLN1:Hid (((x.l.take k1).map cutCe).length=k1):=hid fU
   go_upto_region 5 with (fail)
   refine Ab 28 [16,17,18,19,20,21,22,23,24,3] [0,1,2,3,4,5,6,7,8,9] (fun a0 HA0=>?_)
   have c3:=ev HA0 1 rfl
   have c7:=ev HA0 3 rfl
   have c4:=ev HA0 4 rfl
   refine QSeq.pure rfl _ (fun E=>Al rfl (E.y 9 c7)) ?_
   refine qfd rfl 3 Tryz.underlying40 c3 ?_
   refine QSeq.pure rfl _ (fun E=>Af rfl Tryz.underlying38 rfl (E.d 1 0) (AC HKL1_1.o rfl)) ?_
   refine qmo rfl c4 ?_
   refine QSeq.pure rfl (.pointer (some ⟨g1,o1+k1 * 38,none⟩)) (fun E=>Bq (i:=k1) (s:=38) rfl Tryz.underlying38 aE (E.d 2 1) (E.d 3 0) hlt1) ?_
   refine QSeq.pure rfl _ (fun E=>Ak rfl Tryz.underlying35 rfl (off:=o1+k1 * 38) (cs:=cs1) eE (E.d 4 0) (fun j u hu=>(HAT1.o).2 j u hu)) ?_
   refine QSeq.call rfl rfl Tryz.func36 (LCert_c _ _ _ _ HRD1.o aU) (fun E=>Ap (E.d 5 0)) ?_
   rintro e c6 ⟨cs',rfl,qel,hm⟩
   refine ⟨_,rfl,?_⟩
   have c8:=hid (qel.widen (R':=(fun k=>(R2 k)∨(New wl1 c6 k))) (fun _ h=>h))
   have j6:=hm.size
   have g6:=hid (show Mod (fun _=>False) wl1 c6 from hm)
   clear hm
   clear qel HRD1
   refine QSeq.go fun act E=>?_
   refine qc_buildS (e:=35) (cs:=cs') (zc:=zq1) (sz:=38) rfl (Aa rfl) rfl Tryz.underlying38 aE rfl aM aM (E.d 6 0) (CeR.len c8.out) ?_
   intro i9 qrow hm
   have j7:=qrow.lt
   have d5:=hid qrow
   have j8:=hm.size
   have d6:=hid hm
   have d7:=hid (g6.out.goE hm)
   clear hm g6
   clear act E qrow
   refine QSeq.go fun act E=>?_
   refine qc_appS (A:=CeR) (e:=35) rfl (Aa rfl) rfl (.agg zq1.toArray) 96 Tryz.underlying38 info_Ce (by rfl) (of_decide_eq_true aE) (E.d 0 7) (E.d 7 0) ((HAL1.o.mod d7.out iA iA)) (AI (R:=(fun k=>(R2 k)∨(New wl1 c6 k)∨(k=c6.heap.size))) d5.out ((c8.out.mod d6.out iA).widen dM) dN) eO (by rw [HLN1.o];simp only [D6,D5];omega) (by rw [HLN1.o,Ax];simp only [D6,D5];omega) ?_
   intro ao4 cap4 j0 qacc hm
   have j3:=hid (qacc.widen (R':=(fun k=>(New w1 wl1 k)∨(New i9 j0 k))) (E':=(fun k=>(R2 k)∨(New w1 wl1 k)∨(New wl1 c6 k)∨(k=c6.heap.size))) (fun _ h=>h) cJ)
   have j9:=hm.size
   have d8:=hid hm
   have c9:=hid (AA (S':=(fun k=>(New w1 wl1 k))) d7.out hm iC aQ)
   clear hm d7
   clear act E qacc HAL1
   refine qas rfl 8 0 ?_
   have Hx8:=hid ((c8.out.mod d6.out iA).mod d8.out aB)
   have Hx9:=hid (d5.out.mod d8.out aG)
   clear c8 d5 d6 d8
   refine qe ?_
   clear HA0 c3 c7 c4 a0
   have hq:=j3.out
   rw [HE1.o] at hq
   have HQ1:=B8 hq
   clear hq
   go_wp2
   go_roundw
   case rel=>exact ⟨k1+1,by go_num,by omega,by omega,by omega,(HQ1.o.widen cS cT),(HKL1_0.o.mod c9.out (sN HBT)),(HKL1_1.o.mod c9.out aG),(HKL1_2.o.mod c9.out aG),(HML1.o.trans c9.out aD)⟩
   case measure=>simp [intOf];omega
  ·skip
   obtain ⟨bA1,hbA1⟩:∃ b:Bool,b=decide (((k1:Nat):Int) < (x.l.length:Int)):=⟨_,rfl⟩
   obtain ⟨bB1,hbB1⟩:∃ b:Bool,b=decide (((k1:Nat):Int) < 3):=⟨_,rfl⟩
   go_upto_region 3 with (fail)
   refine Ab 28 [5,6,7,8,9,10,11,12,13] [0,1,2,3,4,5,6,7,8] (fun a0 HA0=>?_)
   have c3:=ev HA0 1 rfl
   have c4:=ev HA0 4 rfl
   refine qmo rfl c4 ?_
   refine qfd rfl 3 Tryz.underlying40 c3 ?_
   refine QSeq.pure rfl _ (fun E=>Af rfl Tryz.underlying38 rfl (E.d 1 0) (AC HKL1_1.o rfl)) ?_
   refine QSeq.pure rfl (.int .i64 x.l.length) (fun E=>A2 rfl (E.d 2 0) Tryz.underlying38) ?_
   refine QSeq.pure rfl (.bool bA1) (fun E=>Aq rfl (E.d 0 3) (E.d 3 0) (Ai _ _ _ _ _ _) (A1 _ _ _ B9) (congrArg Value.bool hbA1.symm)) ?_
   refine qmv rfl 4 0 ?_
   refine qmy rfl 5 0 (.int .i64 ((k1:Nat):Int)) (fun E hb=>Al rfl (E.v c4)) ?_
   intro l7 hw
   have g7:=hid hw
   clear hw
   refine qmy rfl 5 1 (.bool bB1) (fun E hb=>Aq rfl ((E.q 6 0 g7.out).1 hb) rfl (Ai _ _ _ _ _ _) (A1 _ _ _ B9) (congrArg Value.bool hbB1.symm)) ?_
   intro l8 hw
   have g8:=hid hw
   clear hw
   refine QSeq.pure rfl (.bool (bA1 && bB1)) (fun E=>A5 rfl (E.d 5 2) rfl rfl (Be fun hb=>(E.q 7 0 g8.out).1 hb)) ?_
   clear g7 g8
   refine qe ?_
   clear HA0 c3 c4 a0
   rw [show (bA1 && bB1)=false by rw [hbA1,hbB1,Bool.and_eq_false_iff,decide_eq_false_iff_not,decide_eq_false_iff_not];omega]
   have HTK1:=hid (show x.l.take k1=x.l.take 3 from take_two aL aL)
   go_upto_region 6 with (fail)
   refine Ab 28 [25,26,30] [0,1,2] (fun a0 HA0=>?_)
   have c3:=ev HA0 1 rfl
   have c7:=ev HA0 3 rfl
   refine qmo rfl c7 ?_
   refine qfd rfl 3 Tryz.underlying40 c3 ?_
   refine QSeq.go fun act E=>?_
   refine Am rfl (Aa rfl) rfl HKL1_1.o (off:=3) (vs:=[Value.slice aol1 ((x.l.take k1).map cutCe).length capl1]) aE one1 bA (E.d 1 0) (ec (E.d 0 1)) ?_
   intro g9 qc0 hm
   have qB1:=qc0.eqv (b:=#[.int .i64 x.rp,.int .i64 x.ep,.int .u64 (x.fl:Nat),Value.slice aol1 ((x.l.take k1).map cutCe).length capl1,.int .i64 x.sb,.int .i64 x.mr]) rfl
   clear qc0
   have Hx10:=hid qB1
   have m7:=hm.size
   have d9:=hid (show Mod (fun k=>(k=w.heap.size)) wl1 g9 from hm)
   clear hm
   clear act E qB1 HKL1_1
   refine qe ?_
   clear HA0 c3 c7 a0
   go_upto_region 7 with (fail)
   refine Ab 28 [27,29] [0,1] (fun a0 HA0=>?_)
   have c3:=ev HA0 1 rfl
   have i7:=ev HA0 2 rfl
   refine QSeq.pure rfl _ (fun E=>Ak rfl Tryz.underlying40 rfl (off:=0) (cs:=[.int .i64 x.rp,.int .i64 x.ep,.int .u64 (x.fl:Nat),Value.slice aol1 ((x.l.take k1).map cutCe).length capl1,.int .i64 x.sb,.int .i64 x.mr]) aE (E.v c3) (Cs.whole Hx10.o)) ?_
   refine QSeq.go fun act E=>?_
   refine Am rfl (Aa rfl) rfl (HKL1_2.o.mod d9.out aG) (off:=0) (vs:=[.int .i64 x.rp,.int .i64 x.ep,.int .u64 (x.fl:Nat),Value.slice aol1 ((x.l.take k1).map cutCe).length capl1,.int .i64 x.sb,.int .i64 x.mr]) aE (by intro u hu;simp at hu;rcases hu with rfl|rfl|rfl|rfl|rfl|rfl<;>rfl) bA (E.v i7) (ec (E.d 0 0)) ?_
   intro j4 qc0 hm
   have qB2:=qc0.eqv (b:=#[.int .i64 x.rp,.int .i64 x.ep,.int .u64 (x.fl:Nat),Value.slice aol1 ((x.l.take k1).map cutCe).length capl1,.int .i64 x.sb,.int .i64 x.mr]) rfl
   clear qc0
   have j5:=hid qB2
   have m8:=hm.size
   have i8:=hid (show Mod (fun k=>(k=w.heap.size+1)) g9 j4 from hm)
   clear hm
   clear act E qB2 HKL1_2
   refine qe ?_
   clear HA0 c3 i7 a0
   go_wp2
   have hq:=((HAL1.o.mod d9.out aD aB).mod i8.out aD aB)
   refine bodyPost_ret (A0 rfl _ _ (w.heap.size+1) ([.int .i64 x.rp,.int .i64 x.ep,.int .u64 (x.fl:Nat),Value.slice aol1 ((x.l.take k1).map cutCe).length capl1,.int .i64 x.sb,.int .i64 x.mr]) rfl (fun k u hu=>by rw [j5.out.cell];simpa using hu) Tryz.underlying40 rfl aE) rfl ⟨_,rfl,⟨_,rfl,HOK.o,?_⟩,((HML1.o.trans d9.out aD).trans i8.out aD)⟩
   rw [show (cutPm x).l=(x.l.take k1).map cutCe from congrArg (List.map cutCe) HTK1.o.symm]
   refine hq.rd.widen ?_
   intro k h
   (try dsimp only at h ⊢)
   rcases h with h|h|h
   ·right;omega
   ·exact Or.inl h
   ·right;omega
def cutOp (x:Op):Op:={ x with pl:=x.pl.take 260 }
def cutTb (x:Tb):Tb:={ x with l:=x.l.take 5 }
def cutBa (x:Ba):Ba:={ x with ps:=(x.ps.take 4).map cutPm,os:=(x.os.take 4).map cutOp,ts:=(x.ts.take 4).map cutTb }
theorem RdR_len {R:Nat→Prop} {N:Nat} {w:World} {v:Value} {bs:List Int} (h:RdR R N w v bs):RdR R bs.length w v bs:=⟨h.1,h.2.1,C0 _⟩
theorem op_len (x:Op) (v:Value) (h:x.nc.length=32):(x.cells v).length=34:=by simp [Op.cells,h]
theorem lay_pl (x y:Op) (u v:Value) (h:y.ix=x.ix∧y.nc=x.nc):lay (x.cells u).toArray 1 [v]=(y.cells v).toArray:=by
 obtain ⟨h1,h2⟩:=h
 simp [lay,Op.cells,h1,h2]
theorem lay_tl (x y:Tb) (u v:Value) (h:y.ix=x.ix):lay (x.cells u).toArray 1 [v]=(y.cells v).toArray:=by
 simp [lay,Tb.cells,h]
set_option maxHeartbeats 8000000 in
theorem LBatch_c:CutR BaR 38 cutBa:=by
 intro R2 x cs w hx hB2
 obtain ⟨v_ps,v_os,v_ts,rfl,hok,hs0,hs1,hs2⟩:=hx
 obtain ⟨ao_ps,cap_ps,rfl⟩:=hs0.shape
 obtain ⟨ao_os,cap_os,rfl⟩:=hs1.shape
 obtain ⟨ao_ts,cap_ts,rfl⟩:=hs2.shape
 have HS0:=B8 hs0
 have HS1:=B8 hs1
 have HS2:=B8 hs2
 have HBT:=B8 hB2
 have HOK:=B8 hok
 clear hs0 hs1 hs2 hB2 hok
 go_enter Tryz.func38,Tryz.ntmps38
 go_upto_region 1 with (fail)
 obtain ⟨w1,hw1⟩:∃ zz,zz=((w.alloc (.cells (x.cells (.slice ao_ps x.ps.length cap_ps) (.slice ao_os x.os.length cap_os) (.slice ao_ts x.ts.length cap_ts):List Value).toArray 45)).alloc (.cells zq8.toArray 45)):=⟨_,rfl⟩
 change Code.wp _ _ _ _ ((w.alloc (.cells (x.cells (.slice ao_ps x.ps.length cap_ps) (.slice ao_os x.os.length cap_os) (.slice ao_ts x.ts.length cap_ts):List Value).toArray 45)).alloc (.cells zq8.toArray 45))
 rw [← hw1]
 have HB1:=hid (show Cs w1 (w.heap.size) (x.cells (.slice ao_ps x.ps.length cap_ps) (.slice ao_os x.os.length cap_os) (.slice ao_ts x.ts.length cap_ts):List Value).toArray 45 by rw [hw1];exact (Cs.new _ _ _).alloc _)
 have HB2:=hid (show Cs w1 (w.heap.size+1) zq8.toArray 45 by rw [hw1];exact Cs_newN _ _ _ bA)
 have hm:Mod (fun _=>False) w w1:=by rw [hw1];exact ((Mod.refl _ _).alloc _).alloc _
 have HM0:=hid (show Mod (fun _=>False) w w1 from hm.mono iB)
 have hs1:w1.heap.size=w.heap.size+2:=by rw [hw1];simp
 have o7:=hid (HS0.o.mod hm iA)
 clear HS0
 have o8:=hid (HS1.o.mod hm iA)
 clear HS1
 have o9:=hid (HS2.o.mod hm iA)
 clear HS2
 clear hw1 hm
 go_wp2
 go_loopw [3,4] (fun ta ti wr=>∃ k:Nat,ti=.int .i64 (k:Int)∧k≤x.ps.length∧k≤4∧w1.heap.size≤wr.heap.size∧OwS PmR 40 (fun b=>w1.heap.size≤b∧b < wr.heap.size) (fun b=>R2 b∨(w1.heap.size≤b∧b < wr.heap.size)) wr ta ((x.ps.take k).map cutPm)∧RdS PmR R2 wr (.slice ao_ps x.ps.length cap_ps) x.ps∧RdS OpR R2 wr (.slice ao_os x.os.length cap_os) x.os∧RdS TbR R2 wr (.slice ao_ts x.ts.length cap_ts) x.ts∧Cs wr (w.heap.size) (x.cells (.slice ao_ps x.ps.length cap_ps) (.slice ao_os x.os.length cap_os) (.slice ao_ts x.ts.length cap_ts):List Value).toArray 45∧Cs wr (w.heap.size+1) zq8.toArray 45∧Mod (fun _=>False) w wr) (fun _ ti _=>x.ps.length - (intOf ti).toNat)
 case atStart=>exact ⟨0,rfl,Nat.zero_le _,Nat.zero_le _,C0 _,OwS.nil _ _ _ _ _,o7.out,o8.out,o9.out,HB1.o,HB2.o,HM0.o⟩
 case round=>
  obtain ⟨k1,rfl,hk,hkN,hz,ha,hk_0,hk_1,hk_2,hk_3,hk_4,hm⟩:=hrel
  obtain ⟨wl1,rfl⟩:∃ x,x=wr:=⟨_,rfl⟩
  obtain ⟨aol1,capl1,rfl⟩:=ha.shape
  have HAL1:=B8 ha
  have HKL1_0:=B8 hk_0
  have HKL1_1:=B8 hk_1
  have HKL1_2:=B8 hk_2
  have HKL1_3:=B8 hk_3
  have HKL1_4:=B8 hk_4
  have HML1:=B8 hm
  clear ha hm hk_0 hk_1 hk_2 hk_3 hk_4 o7 o8 o9 HB1 HB2 HM0
  by_cases hlt1:k1 < x.ps.length∧k1 < 4
  ·obtain ⟨hlt1,hlN1⟩:=hlt1
   go_upto_region 3 with (fail)
   refine Ab 86 [11,12,13,14,15,16,17,18,19] [0,1,2,3,4,5,6,7,8] (fun a0 HA0=>?_)
   have c3:=ev HA0 1 rfl
   have c4:=ev HA0 4 rfl
   refine qmo rfl c4 ?_
   refine qfd rfl 2 C7 c3 ?_
   refine QSeq.pure rfl _ (fun E=>Af rfl Tryz.underlying41 rfl (E.d 1 0) (AC HKL1_3.o rfl)) ?_
   refine QSeq.pure rfl (.int .i64 x.ps.length) (fun E=>A2 rfl (E.d 2 0) Tryz.underlying41) ?_
   refine QSeq.pure rfl (.bool true) (fun E=>Aq rfl (E.d 0 3) (E.d 3 0) (Ai _ _ _ _ _ _) (A1 _ _ _ B9) (congrArg Value.bool (decide_eq_true aL))) ?_
   refine qmv rfl 4 0 ?_
   refine AB rfl (.int .i64 ((k1:Nat):Int)) (fun E=>((Ag rfl rfl (E.sz 16 aM) (E.d 5 0)).trans rfl)) (fun E=>Al rfl (E.v c4)) ?_
   refine AB rfl (.bool true) (fun E=>((Ag rfl rfl (E.sz 16 aM) (E.d 5 1)).trans rfl)) (fun E=>Aq rfl (E.d 6 0) rfl (Ai _ _ _ _ _ _) (A1 _ _ _ B9) (congrArg Value.bool (decide_eq_true aL))) ?_
   refine QSeq.pure rfl (.bool true) (fun E=>Bp rfl (E.d 5 2) (E.d 7 0) rfl) ?_
   refine qe ?_
   clear HA0 c3 c4 a0
   have hat:=HKL1_0.o.at hlt1
   obtain ⟨g1,o1,cs1,eao,hrg,hrd,hcs⟩:=hat
   subst eao
   have hcl:cs1.length=6:=PmR.len hrd
   have HCL1:=B8 hcl
   have HAT1:=hid (show CellsAt R2 wl1 g1 (o1+k1 * 6) cs1 from ⟨hrg,hcs⟩)
   have HRD1:=B8 hrd
   have HOC1:=hid (PmR.one hrd)
   clear hcl hcs hrd hrg
   have HE1:Hid (((x.ps.take k1).map cutPm) ++ [cutPm x.ps[k1]]=(x.ps.take (k1+1)).map cutPm):=hid (by rw [List.take_succ_eq_append_getElem hlt1,List.map_append];rfl)
   have HLN1:Hid (((x.ps.take k1).map cutPm).length=k1):=hid fU
   go_upto_region 5 with (fail)
   refine Ab 86 [22,23,24,25,26,27,28,29,30,3] [0,1,2,3,4,5,6,7,8,9] (fun a0 HA0=>?_)
   have c3:=ev HA0 1 rfl
   have g8:=ev HA0 3 rfl
   have c4:=ev HA0 4 rfl
   refine QSeq.pure rfl _ (fun E=>Al rfl (E.y 9 g8)) ?_
   refine qfd rfl 2 C7 c3 ?_
   refine QSeq.pure rfl _ (fun E=>Af rfl Tryz.underlying41 rfl (E.d 1 0) (AC HKL1_3.o rfl)) ?_
   refine qmo rfl c4 ?_
   refine QSeq.pure rfl (.pointer (some ⟨g1,o1+k1 * 6,none⟩)) (fun E=>Bq (i:=k1) (s:=6) rfl Tryz.underlying41 aE (E.d 2 1) (E.d 3 0) hlt1) ?_
   refine QSeq.pure rfl _ (fun E=>Ak rfl Tryz.underlying40 rfl (off:=o1+k1 * 6) (cs:=cs1) eE (E.d 4 0) (fun j u hu=>(HAT1.o).2 j u hu)) ?_
   refine QSeq.call rfl rfl Tryz.func37 (LPromise_c _ _ _ _ HRD1.o aU) (fun E=>Ap (E.d 5 0)) ?_
   rintro e d9 ⟨cs',rfl,qel,hm⟩
   refine ⟨_,rfl,?_⟩
   have j3:=hid (qel.widen (R':=(fun k=>(R2 k)∨(New wl1 d9 k))) (fun _ h=>h))
   have y6:=hm.size
   have p5:=hid (show Mod (fun _=>False) wl1 d9 from hm)
   clear hm
   clear qel HRD1
   refine QSeq.go fun act E=>?_
   refine qc_buildS (e:=40) (cs:=cs') (zc:=zq9) (sz:=6) rfl (Aa rfl) rfl Tryz.underlying41 aE rfl aM aM (E.d 6 0) (PmR.len j3.out) ?_
   intro u0 qrow hm
   have y7:=qrow.lt
   have l8:=hid qrow
   have y8:=hm.size
   have m7:=hid hm
   have m8:=hid (p5.out.goE hm)
   clear hm p5
   clear act E qrow
   refine QSeq.go fun act E=>?_
   refine qc_appS (A:=PmR) (e:=40) rfl (Aa rfl) rfl (.agg zq9.toArray) 64 Tryz.underlying41 info_Pm (by rfl) (of_decide_eq_true aE) (E.d 0 7) (E.d 7 0) ((HAL1.o.mod m8.out iA iA)) (AI (R:=(fun k=>(R2 k)∨(New wl1 d9 k)∨(k=d9.heap.size))) l8.out ((j3.out.mod m7.out iA).widen dM) dN) eO (by rw [HLN1.o];simp only [D6,D5];omega) (by rw [HLN1.o,Ax];simp only [D6,D5];omega) ?_
   intro ao4 cap4 u1 qacc1 hm
   have Hx8:=hid (qacc1.widen (R':=(fun k=>(New w1 wl1 k)∨(New u0 u1 k))) (E':=(fun k=>(R2 k)∨(New w1 wl1 k)∨(New wl1 d9 k)∨(k=d9.heap.size))) (fun _ h=>h) cJ)
   have z0:=hm.size
   have m9:=hid hm
   have g5:=hid (AA (S':=(fun k=>(New w1 wl1 k))) m8.out hm iC aQ)
   clear hm m8
   clear act E qacc1 HAL1
   refine qas rfl 8 0 ?_
   have Hx10:=hid ((j3.out.mod m7.out iA).mod m9.out aB)
   have z3:=hid (l8.out.mod m9.out aG)
   clear j3 l8 m7 m9
   refine qe ?_
   clear HA0 c3 g8 c4 a0
   have hq:=Hx8.o
   rw [HE1.o] at hq
   have HQ1:=B8 hq
   clear hq
   go_wp2
   go_roundw
   case rel=>exact ⟨k1+1,by go_num,by omega,by omega,by omega,(HQ1.o.widen cS cT),(HKL1_0.o.mod g5.out (sN HBT)),(HKL1_1.o.mod g5.out (sN HBT)),(HKL1_2.o.mod g5.out (sN HBT)),(HKL1_3.o.mod g5.out aG),(HKL1_4.o.mod g5.out aG),(HML1.o.trans g5.out aD)⟩
   case measure=>simp [intOf];omega
  ·skip
   obtain ⟨bA1,hbA1⟩:∃ b:Bool,b=decide (((k1:Nat):Int) < (x.ps.length:Int)):=⟨_,rfl⟩
   obtain ⟨bB1,hbB1⟩:∃ b:Bool,b=decide (((k1:Nat):Int) < 4):=⟨_,rfl⟩
   go_upto_region 3 with (fail)
   refine Ab 86 [11,12,13,14,15,16,17,18,19] [0,1,2,3,4,5,6,7,8] (fun a0 HA0=>?_)
   have c3:=ev HA0 1 rfl
   have c4:=ev HA0 4 rfl
   refine qmo rfl c4 ?_
   refine qfd rfl 2 C7 c3 ?_
   refine QSeq.pure rfl _ (fun E=>Af rfl Tryz.underlying41 rfl (E.d 1 0) (AC HKL1_3.o rfl)) ?_
   refine QSeq.pure rfl (.int .i64 x.ps.length) (fun E=>A2 rfl (E.d 2 0) Tryz.underlying41) ?_
   refine QSeq.pure rfl (.bool bA1) (fun E=>Aq rfl (E.d 0 3) (E.d 3 0) (Ai _ _ _ _ _ _) (A1 _ _ _ B9) (congrArg Value.bool hbA1.symm)) ?_
   refine qmv rfl 4 0 ?_
   refine qmy rfl 5 0 (.int .i64 ((k1:Nat):Int)) (fun E hb=>Al rfl (E.v c4)) ?_
   intro z4 hw
   have p6:=hid hw
   clear hw
   refine qmy rfl 5 1 (.bool bB1) (fun E hb=>Aq rfl ((E.q 6 0 p6.out).1 hb) rfl (Ai _ _ _ _ _ _) (A1 _ _ _ B9) (congrArg Value.bool hbB1.symm)) ?_
   intro z5 hw
   have p7:=hid hw
   clear hw
   refine QSeq.pure rfl (.bool (bA1 && bB1)) (fun E=>A5 rfl (E.d 5 2) rfl rfl (Be fun hb=>(E.q 7 0 p7.out).1 hb)) ?_
   clear p6 p7
   refine qe ?_
   clear HA0 c3 c4 a0
   rw [show (bA1 && bB1)=false by rw [hbA1,hbB1,Bool.and_eq_false_iff,decide_eq_false_iff_not,decide_eq_false_iff_not];omega]
   have HTK1:=hid (show x.ps.take k1=x.ps.take 4 from take_two aL aL)
   go_wp2
   go_loopw [5,6] (fun ta ti wr=>∃ k:Nat,ti=.int .i64 (k:Int)∧k≤x.os.length∧k≤4∧wl1.heap.size≤wr.heap.size∧OwS OpR 54 (fun b=>wl1.heap.size≤b∧b < wr.heap.size) (fun b=>R2 b∨(wl1.heap.size≤b∧b < wr.heap.size)) wr ta ((x.os.take k).map cutOp)∧RdS PmR R2 wr (.slice ao_ps x.ps.length cap_ps) x.ps∧RdS OpR R2 wr (.slice ao_os x.os.length cap_os) x.os∧RdS TbR R2 wr (.slice ao_ts x.ts.length cap_ts) x.ts∧Cs wr (w.heap.size) (x.cells (.slice ao_ps x.ps.length cap_ps) (.slice ao_os x.os.length cap_os) (.slice ao_ts x.ts.length cap_ts):List Value).toArray 45∧Cs wr (w.heap.size+1) zq8.toArray 45∧OwS PmR 40 (fun b=>w1.heap.size≤b∧b < wl1.heap.size) (fun b=>R2 b∨(w1.heap.size≤b∧b < wl1.heap.size)) wr (.slice aol1 ((x.ps.take k1).map cutPm).length capl1) ((x.ps.take k1).map cutPm)∧Mod (fun _=>False) w wr) (fun _ ti _=>x.os.length - (intOf ti).toNat)
   case atStart=>exact ⟨0,rfl,Nat.zero_le _,Nat.zero_le _,C0 _,OwS.nil _ _ _ _ _,HKL1_0.o,HKL1_1.o,HKL1_2.o,HKL1_3.o,HKL1_4.o,HAL1.o,HML1.o⟩
   case round=>
    obtain ⟨k2,rfl,hk,hkN,hz,ha,hk_0,hk_1,hk_2,hk_3,hk_4,hk_5,hm⟩:=hrel
    obtain ⟨wl2,rfl⟩:∃ x,x=wr:=⟨_,rfl⟩
    obtain ⟨aol2,capl2,rfl⟩:=ha.shape
    have HAL2:=B8 ha
    have HKL2_0:=B8 hk_0
    have HKL2_1:=B8 hk_1
    have HKL2_2:=B8 hk_2
    have HKL2_3:=B8 hk_3
    have HKL2_4:=B8 hk_4
    have HKL2_5:=B8 hk_5
    have HML2:=B8 hm
    clear ha hm hk_0 hk_1 hk_2 hk_3 hk_4 hk_5 HKL1_0 HKL1_1 HKL1_2 HKL1_3 HKL1_4 HML1 HAL1
    by_cases hlt2:k2 < x.os.length∧k2 < 4
    ·obtain ⟨hlt2,hlN2⟩:=hlt2
     go_upto_region 8 with (fail)
     refine Ab 86 [31,32,33,34,35,36,37,38,39] [0,1,2,3,4,5,6,7,8] (fun a0 HA0=>?_)
     have c3:=ev HA0 1 rfl
     have c6:=ev HA0 6 rfl
     refine qmo rfl c6 ?_
     refine qfd rfl 3 C7 c3 ?_
     refine QSeq.pure rfl _ (fun E=>Af rfl Tryz.underlying42 rfl (E.d 1 0) (AC HKL2_3.o rfl)) ?_
     refine QSeq.pure rfl (.int .i64 x.os.length) (fun E=>A2 rfl (E.d 2 0) Tryz.underlying42) ?_
     refine QSeq.pure rfl (.bool true) (fun E=>Aq rfl (E.d 0 3) (E.d 3 0) (Ai _ _ _ _ _ _) (A1 _ _ _ B9) (congrArg Value.bool (decide_eq_true aL))) ?_
     refine qmv rfl 4 0 ?_
     refine AB rfl (.int .i64 ((k2:Nat):Int)) (fun E=>((Ag rfl rfl (E.sz 36 aM) (E.d 5 0)).trans rfl)) (fun E=>Al rfl (E.v c6)) ?_
     refine AB rfl (.bool true) (fun E=>((Ag rfl rfl (E.sz 36 aM) (E.d 5 1)).trans rfl)) (fun E=>Aq rfl (E.d 6 0) rfl (Ai _ _ _ _ _ _) (A1 _ _ _ B9) (congrArg Value.bool (decide_eq_true aL))) ?_
     refine QSeq.pure rfl (.bool true) (fun E=>Bp rfl (E.d 5 2) (E.d 7 0) rfl) ?_
     refine qe ?_
     clear HA0 c3 c6 a0
     have hat:=HKL2_1.o.at hlt2
     obtain ⟨g2,o2,cs2,eao,hrg,hrd,hcs⟩:=hat
     subst eao
     have hcl:cs2.length=34:=OpR.len hrd
     have HCL2:=B8 hcl
     have HAT2:=hid (show CellsAt R2 wl2 g2 (o2+k2 * 34) cs2 from ⟨hrg,hcs⟩)
     have HRD2:=B8 hrd
     have HOC2:=hid (OpR.one hrd)
     clear hcl hcs hrd hrg
     have HE2:Hid (((x.os.take k2).map cutOp) ++ [cutOp x.os[k2]]=(x.os.take (k2+1)).map cutOp):=hid (by rw [List.take_succ_eq_append_getElem hlt2,List.map_append];rfl)
     have HLN2:Hid (((x.os.take k2).map cutOp).length=k2):=hid fU
     obtain ⟨y2,hy2⟩:∃ y,y=x.os[k2]:=⟨_,rfl⟩
     rw [← hy2] at HRD2 HE2
     clear hy2
     obtain ⟨v_e,rfl,hoke,hse⟩:=HRD2.o
     obtain ⟨aoe2,cape2,rfl⟩:=hse.shape
     have HOK2:=B8 hoke
     have HSE2:=B8 hse
     clear hoke hse HRD2
     go_upto_region 10 with (fail)
     refine Ab 86 [42,43,44,45,46,7,92] [0,1,2,3,4,5,6] (fun a0 HA0=>?_)
     have c3:=ev HA0 1 rfl
     have c6:=ev HA0 6 rfl
     refine qfd rfl 3 C7 c3 ?_
     refine QSeq.pure rfl _ (fun E=>Af rfl Tryz.underlying42 rfl (E.d 0 0) (AC HKL2_3.o rfl)) ?_
     refine qmo rfl c6 ?_
     refine QSeq.pure rfl (.pointer (some ⟨g2,o2+k2 * 34,none⟩)) (fun E=>Bq (i:=k2) (s:=34) rfl Tryz.underlying42 aE (E.d 1 1) (E.d 2 0) hlt2) ?_
     refine QSeq.pure rfl _ (fun E=>Ak rfl Tryz.underlying54 rfl (off:=o2+k2 * 34) (cs:=(y2.cells (.slice aoe2 y2.pl.length cape2))) fY (E.d 3 0) (fun j u hu=>(HAT2.o).2 j u hu)) ?_
     refine QSeq.go fun act E=>?_
     refine qc_alloc rfl (Aa rfl) rfl (z:=zq2) aE ?_
     intro u2 qq2 hm
     have z6:=qq2.lt
     have p8:=hid qq2
     have z7:=hm.size
     have p9:=hid (show Mod (fun _=>False) wl2 u2 from hm)
     clear hm
     clear act E qq2
     refine QSeq.go fun act E=>?_
     have hlz:((y2.cells (.slice aoe2 y2.pl.length cape2))).length=List.length (zq2:List Value):=(by rw [HCL2.o];rfl)
     refine Am rfl (Aa rfl) rfl p8.out (off:=0) (vs:=(y2.cells (.slice aoe2 y2.pl.length cape2))) dI HOC2.o bS (E.d 5 0) (ec (E.d 4 1)) ?_
     intro j4 qc0 hm
     have qq2:=qc0.eqv (b:=((y2.cells (.slice aoe2 y2.pl.length cape2)):List Value).toArray) (Aw zq2.toArray _ eK)
     clear qc0 hlz
     have n5:=hid qq2
     have z9:=hm.size
     have u3:=hid hm
     have c9:=hid (AA (S':=(fun _=>False)) p9.out hm (fun _ h=>h) cQ)
     clear hm p9
     clear act E qq2 p8
     clear u3
     refine qe ?_
     clear HA0 c3 c6 a0
     go_upto_region 11 with (fail)
     refine Ab 86 [47,48,49,50,90] [0,1,2,3,4] (fun a0 HA0=>?_)
     have g6:=ev HA0 7 rfl
     refine qfd rfl 1 Tryz.underlying54 g6 ?_
     refine QSeq.pure rfl _ (fun E=>Af rfl D2 rfl (E.d 0 0) (Cs.hd1 n5.out rfl)) ?_
     refine QSeq.call rfl rfl Tryz.func9 (Cut_R 260 (HSE2.o.mod c9.out iA) aM) (fun E=>Ar (E.d 1 0) rfl) ?_
     rintro e j5 ⟨v',rfl,qpc,hm⟩
     obtain ⟨aop2,capp2,rfl⟩:=qpc.shape
     refine ⟨_,rfl,?_⟩
     have q6:=hid qpc
     have aa:=hm.size
     have n6:=hid (show Mod (fun _=>False) j4 j5 from hm)
     clear hm
     clear qpc
     refine qfd rfl 1 Tryz.underlying54 g6 ?_
     refine QSeq.go fun act E=>?_
     refine Am rfl (Aa rfl) rfl (n5.out.mod n6.out (fun h=>h)) (off:=1) (vs:=[Value.slice aop2 (y2.pl.take 260).length capp2]) aE one1 (by rw [D3,op_len _ _ HOK2.o.2.1];show 1+1≤34;decide) (E.d 3 0) (ec (E.d 2 1)) ?_
     intro j6 qc0 hm
     have qq2:=qc0.eqv (b:=(((cutOp y2).cells (Value.slice aop2 (y2.pl.take 260).length capp2)):List Value).toArray) (lay_pl y2 (cutOp y2) _ _ ⟨rfl,rfl⟩)
     clear qc0
     have u4:=hid qq2
     have ac:=hm.size
     have q7:=hid hm
     have d6:=hid (AA (S':=(fun k=>(k=wl2.heap.size))) n6.out hm iC aQ)
     clear hm n6
     clear act E qq2 n5
     have u5:=hid (q6.out.mod q7.out aD)
     clear q6 q7
     refine qe ?_
     clear HA0 g6 a0
     have HEL2:=hid (show OpR.rd (fun k=>(New j4 j5 k)) j6 ((cutOp y2).cells (Value.slice aop2 (y2.pl.take 260).length capp2)) (cutOp y2) from ⟨_,rfl,HOK2.o,RdR_len u5.out.rd⟩)
     go_upto_region 12 with (fail)
     refine Ab 86 [51,52,53,54,5] [0,1,2,3,4] (fun a0 HA0=>?_)
     have g9:=ev HA0 5 rfl
     have g6:=ev HA0 7 rfl
     refine QSeq.pure rfl _ (fun E=>Al rfl (E.y 4 g9)) ?_
     refine QSeq.pure rfl _ (fun E=>Ak rfl Tryz.underlying54 rfl (off:=0) (cs:=((cutOp y2).cells (Value.slice aop2 (y2.pl.take 260).length capp2))) (by rw [op_len (cutOp y2) _ HOK2.o.2.1];kernel_rfl) (E.v g6) (Cs.whole u4.out)) ?_
     refine QSeq.go fun act E=>?_
     refine qc_buildS (e:=54) (cs:=((cutOp y2).cells (Value.slice aop2 (y2.pl.take 260).length capp2))) (zc:=zq2) (sz:=34) rfl (Aa rfl) rfl Tryz.underlying42 aE rfl aM aM (E.d 1 0) (OpR.len HEL2.o) ?_
     intro q8 qrow hm
     have ae:=qrow.lt
     have n7:=hid qrow
     have af:=hm.size
     have j7:=hid (show Mod (fun _=>False) j6 q8 from hm)
     clear hm
     clear act E qrow
     refine QSeq.go fun act E=>?_
     refine qc_appS (A:=OpR) (e:=54) rfl (Aa rfl) rfl (.agg zq2.toArray) 64 Tryz.underlying42 info_Op (by rfl) (of_decide_eq_true aE) (E.d 0 2) (E.d 2 0) ((((HAL2.o.mod c9.out iA iA).mod d6.out aD aB).mod j7.out iA iA)) (AI (R:=(fun k=>(New j4 j5 k)∨(k=j6.heap.size))) n7.out ((HEL2.o.mod j7.out iA).widen bF) dN) aD (by rw [HLN2.o];simp only [D6,D5];omega) (by rw [HLN2.o,Ax];simp only [D6,D5];omega) ?_
     intro ao8 cap8 u6 qacc2 hm
     have u7:=hid (qacc2.widen (R':=(fun k=>(New wl1 wl2 k)∨(New q8 u6 k))) (E':=(fun k=>(R2 k)∨(New wl1 wl2 k)∨(New j4 j5 k)∨(k=j6.heap.size))) (fun _ h=>h) (by intro k h1;rcases h1 with (h1|h1)|(h1|h1)<;>first|omega|exact h1.elim|exact Or.inl h1|exact Or.inr (Or.inl h1)|exact Or.inr (Or.inr (Or.inl h1))|exact Or.inr (Or.inr (Or.inr (h1)))))
     have ag:=hm.size
     have q9:=hid hm
     have d8:=hid (AA (S':=(fun k=>(New wl1 wl2 k))) j7.out hm iC aQ)
     clear hm j7
     clear act E qacc2 HAL2
     refine qas rfl 3 0 ?_
     have ah:=hid (n7.out.mod q9.out aG)
     clear n7 q9
     refine qe ?_
     clear HA0 g9 g6 a0
     have hq:=u7.out
     rw [HE2.o] at hq
     have HQ2:=B8 hq
     clear hq
     go_wp2
     go_roundw
     case rel=>exact ⟨k2+1,by go_num,by omega,by omega,by omega,(HQ2.o.widen cS cT),(((HKL2_0.o.mod c9.out iA).mod d6.out (sB HBT)).mod d8.out (sN HBT)),(((HKL2_1.o.mod c9.out iA).mod d6.out (sB HBT)).mod d8.out (sN HBT)),(((HKL2_2.o.mod c9.out iA).mod d6.out (sB HBT)).mod d8.out (sN HBT)),(((HKL2_3.o.mod c9.out (fun h=>h)).mod d6.out aG).mod d8.out aG),(((HKL2_4.o.mod c9.out (fun h=>h)).mod d6.out aG).mod d8.out aG),(((HKL2_5.o.mod c9.out iA iA).mod d6.out aD aB).mod d8.out aD aB),(((HML2.o.trans c9.out iB).trans d6.out aD).trans d8.out aD)⟩
     case measure=>simp [intOf];omega
    ·skip
     obtain ⟨bA2,hbA2⟩:∃ b:Bool,b=decide (((k2:Nat):Int) < (x.os.length:Int)):=⟨_,rfl⟩
     obtain ⟨bB2,hbB2⟩:∃ b:Bool,b=decide (((k2:Nat):Int) < 4):=⟨_,rfl⟩
     go_upto_region 8 with (fail)
     refine Ab 86 [31,32,33,34,35,36,37,38,39] [0,1,2,3,4,5,6,7,8] (fun a0 HA0=>?_)
     have c3:=ev HA0 1 rfl
     have c6:=ev HA0 6 rfl
     refine qmo rfl c6 ?_
     refine qfd rfl 3 C7 c3 ?_
     refine QSeq.pure rfl _ (fun E=>Af rfl Tryz.underlying42 rfl (E.d 1 0) (AC HKL2_3.o rfl)) ?_
     refine QSeq.pure rfl (.int .i64 x.os.length) (fun E=>A2 rfl (E.d 2 0) Tryz.underlying42) ?_
     refine QSeq.pure rfl (.bool bA2) (fun E=>Aq rfl (E.d 0 3) (E.d 3 0) (Ai _ _ _ _ _ _) (A1 _ _ _ B9) (congrArg Value.bool hbA2.symm)) ?_
     refine qmv rfl 4 0 ?_
     refine qmy rfl 5 0 (.int .i64 ((k2:Nat):Int)) (fun E hb=>Al rfl (E.v c6)) ?_
     intro aj hw
     have r5:=hid hw
     clear hw
     refine qmy rfl 5 1 (.bool bB2) (fun E hb=>Aq rfl ((E.q 6 0 r5.out).1 hb) rfl (Ai _ _ _ _ _ _) (A1 _ _ _ B9) (congrArg Value.bool hbB2.symm)) ?_
     intro am hw
     have r6:=hid hw
     clear hw
     refine QSeq.pure rfl (.bool (bA2 && bB2)) (fun E=>A5 rfl (E.d 5 2) rfl rfl (Be fun hb=>(E.q 7 0 r6.out).1 hb)) ?_
     clear r5 r6
     refine qe ?_
     clear HA0 c3 c6 a0
     rw [show (bA2 && bB2)=false by rw [hbA2,hbB2,Bool.and_eq_false_iff,decide_eq_false_iff_not,decide_eq_false_iff_not];omega]
     have HTK2:=hid (show x.os.take k2=x.os.take 4 from take_two aL aL)
     go_wp2
     go_loopw [8,9] (fun ta ti wr=>∃ k:Nat,ti=.int .i64 (k:Int)∧k≤x.ts.length∧k≤4∧wl2.heap.size≤wr.heap.size∧OwS TbR 127 (fun b=>wl2.heap.size≤b∧b < wr.heap.size) (fun b=>R2 b∨(wl2.heap.size≤b∧b < wr.heap.size)) wr ta ((x.ts.take k).map cutTb)∧RdS PmR R2 wr (.slice ao_ps x.ps.length cap_ps) x.ps∧RdS OpR R2 wr (.slice ao_os x.os.length cap_os) x.os∧RdS TbR R2 wr (.slice ao_ts x.ts.length cap_ts) x.ts∧Cs wr (w.heap.size) (x.cells (.slice ao_ps x.ps.length cap_ps) (.slice ao_os x.os.length cap_os) (.slice ao_ts x.ts.length cap_ts):List Value).toArray 45∧Cs wr (w.heap.size+1) zq8.toArray 45∧OwS PmR 40 (fun b=>w1.heap.size≤b∧b < wl1.heap.size) (fun b=>R2 b∨(w1.heap.size≤b∧b < wl1.heap.size)) wr (.slice aol1 ((x.ps.take k1).map cutPm).length capl1) ((x.ps.take k1).map cutPm)∧OwS OpR 54 (fun b=>wl1.heap.size≤b∧b < wl2.heap.size) (fun b=>R2 b∨(wl1.heap.size≤b∧b < wl2.heap.size)) wr (.slice aol2 ((x.os.take k2).map cutOp).length capl2) ((x.os.take k2).map cutOp)∧Mod (fun _=>False) w wr) (fun _ ti _=>x.ts.length - (intOf ti).toNat)
     case atStart=>exact ⟨0,rfl,Nat.zero_le _,Nat.zero_le _,C0 _,OwS.nil _ _ _ _ _,HKL2_0.o,HKL2_1.o,HKL2_2.o,HKL2_3.o,HKL2_4.o,HKL2_5.o,HAL2.o,HML2.o⟩
     case round=>
      obtain ⟨k3,rfl,hk,hkN,hz,ha,hk_0,hk_1,hk_2,hk_3,hk_4,hk_5,hk_6,hm⟩:=hrel
      obtain ⟨wl3,rfl⟩:∃ x,x=wr:=⟨_,rfl⟩
      obtain ⟨aol3,capl3,rfl⟩:=ha.shape
      have HAL3:=B8 ha
      have HKL3_0:=B8 hk_0
      have HKL3_1:=B8 hk_1
      have HKL3_2:=B8 hk_2
      have HKL3_3:=B8 hk_3
      have HKL3_4:=B8 hk_4
      have HKL3_5:=B8 hk_5
      have HKL3_6:=B8 hk_6
      have HML3:=B8 hm
      clear ha hm hk_0 hk_1 hk_2 hk_3 hk_4 hk_5 hk_6 HKL2_0 HKL2_1 HKL2_2 HKL2_3 HKL2_4 HKL2_5 HML2 HAL2
      by_cases hlt3:k3 < x.ts.length∧k3 < 4
      ·obtain ⟨hlt3,hlN3⟩:=hlt3
       go_upto_region 15 with (fail)
       refine Ab 86 [55,56,57,58,59,60,61,62,63] [0,1,2,3,4,5,6,7,8] (fun a0 HA0=>?_)
       have c3:=ev HA0 1 rfl
       have c7:=ev HA0 9 rfl
       refine qmo rfl c7 ?_
       refine qfd rfl 4 C7 c3 ?_
       refine QSeq.pure rfl _ (fun E=>Af rfl D0 rfl (E.d 1 0) (AC HKL3_3.o rfl)) ?_
       refine QSeq.pure rfl (.int .i64 x.ts.length) (fun E=>A2 rfl (E.d 2 0) D0) ?_
       refine QSeq.pure rfl (.bool true) (fun E=>Aq rfl (E.d 0 3) (E.d 3 0) (Ai _ _ _ _ _ _) (A1 _ _ _ B9) (congrArg Value.bool (decide_eq_true aL))) ?_
       refine qmv rfl 4 0 ?_
       refine AB rfl (.int .i64 ((k3:Nat):Int)) (fun E=>((Ag rfl rfl (E.sz 60 aM) (E.d 5 0)).trans rfl)) (fun E=>Al rfl (E.v c7)) ?_
       refine AB rfl (.bool true) (fun E=>((Ag rfl rfl (E.sz 60 aM) (E.d 5 1)).trans rfl)) (fun E=>Aq rfl (E.d 6 0) rfl (Ai _ _ _ _ _ _) (A1 _ _ _ B9) (congrArg Value.bool (decide_eq_true aL))) ?_
       refine QSeq.pure rfl (.bool true) (fun E=>Bp rfl (E.d 5 2) (E.d 7 0) rfl) ?_
       refine qe ?_
       clear HA0 c3 c7 a0
       have hat:=HKL3_2.o.at hlt3
       obtain ⟨g3,o3,cs3,eao,hrg,hrd,hcs⟩:=hat
       subst eao
       have hcl:cs3.length=2:=TbR.len hrd
       have HCL3:=B8 hcl
       have HAT3:=hid (show CellsAt R2 wl3 g3 (o3+k3 * 2) cs3 from ⟨hrg,hcs⟩)
       have HRD3:=B8 hrd
       have HOC3:=hid (TbR.one hrd)
       clear hcl hcs hrd hrg
       have HE3:Hid (((x.ts.take k3).map cutTb) ++ [cutTb x.ts[k3]]=(x.ts.take (k3+1)).map cutTb):=hid (by rw [List.take_succ_eq_append_getElem hlt3,List.map_append];rfl)
       have HLN3:Hid (((x.ts.take k3).map cutTb).length=k3):=hid fU
       obtain ⟨y3,hy3⟩:∃ y,y=x.ts[k3]:=⟨_,rfl⟩
       rw [← hy3] at HRD3 HE3
       clear hy3
       obtain ⟨v_e,rfl,hoke,hse⟩:=HRD3.o
       obtain ⟨aoe3,cape3,rfl⟩:=hse.shape
       have HOK3:=B8 hoke
       have HSE3:=B8 hse
       clear hoke hse HRD3
       go_upto_region 17 with (fail)
       refine Ab 86 [66,67,68,69,70,10,92] [0,1,2,3,4,5,6] (fun a0 HA0=>?_)
       have c3:=ev HA0 1 rfl
       have c7:=ev HA0 9 rfl
       refine qfd rfl 4 C7 c3 ?_
       refine QSeq.pure rfl _ (fun E=>Af rfl D0 rfl (E.d 0 0) (AC HKL3_3.o rfl)) ?_
       refine qmo rfl c7 ?_
       refine QSeq.pure rfl (.pointer (some ⟨g3,o3+k3 * 2,none⟩)) (fun E=>Bq (i:=k3) (s:=2) rfl D0 aE (E.d 1 1) (E.d 2 0) hlt3) ?_
       refine QSeq.pure rfl _ (fun E=>Ak rfl E4 rfl (off:=o3+k3 * 2) (cs:=(y3.cells (.slice aoe3 y3.l.length cape3))) (by rw [HCL3.o];kernel_rfl) (E.d 3 0) (fun j u hu=>(HAT3.o).2 j u hu)) ?_
       refine QSeq.go fun act E=>?_
       refine qc_alloc rfl (Aa rfl) rfl (z:=[.int .i64 0,.slice none 0 0]) aE ?_
       intro u9 qq3 hm
       have ap:=qq3.lt
       have r7:=hid qq3
       have aq:=hm.size
       have r8:=hid (show Mod (fun _=>False) wl3 u9 from hm)
       clear hm
       clear act E qq3
       refine QSeq.go fun act E=>?_
       have hlz:((y3.cells (.slice aoe3 y3.l.length cape3))).length=List.length ([.int .i64 0,.slice none 0 0]:List Value):=(by rw [HCL3.o];rfl)
       refine Am rfl (Aa rfl) rfl r7.out (off:=0) (vs:=(y3.cells (.slice aoe3 y3.l.length cape3))) dI HOC3.o bS (E.d 5 0) (ec (E.d 4 1)) ?_
       intro i7 qc0 hm
       have qq3:=qc0.eqv (b:=((y3.cells (.slice aoe3 y3.l.length cape3)):List Value).toArray) (Aw #[.int .i64 0,.slice none 0 0] _ eK)
       clear qc0 hlz
       have n8:=hid qq3
       have ar:=hm.size
       have v5:=hid hm
       have c8:=hid (AA (S':=(fun _=>False)) r8.out hm (fun _ h=>h) cQ)
       clear hm r8
       clear act E qq3 r7
       clear v5
       refine qe ?_
       clear HA0 c3 c7 a0
       go_upto_region 18 with (fail)
       refine Ab 86 [71,72,73,74,90] [0,1,2,3,4] (fun a0 HA0=>?_)
       have g7:=ev HA0 10 rfl
       refine qfd rfl 1 E4 g7 ?_
       refine QSeq.pure rfl _ (fun E=>Af rfl Tryz.underlying125 rfl (E.d 0 0) (AC n8.out rfl)) ?_
       refine QSeq.call rfl rfl Tryz.func74 (Cut_Dn _ _ y3.l 5 _ (HSE3.o.mod c8.out iA) aU aL) (fun E=>Ar (E.d 1 0) rfl) ?_
       rintro e i8 ⟨v',rfl,qpc,hm⟩
       obtain ⟨aop3,capp3,rfl⟩:=qpc.shape
       refine ⟨_,rfl,?_⟩
       have r9:=hid (qpc.widen (R':=(fun k=>(New i7 i8 k))) (E':=(fun k=>(R2 k))) (fun _ h=>h) (fun _ h=>h))
       have au:=hm.size
       have o5:=hid (show Mod (fun _=>False) i7 i8 from hm)
       clear hm
       clear qpc
       refine qfd rfl 1 E4 g7 ?_
       refine QSeq.go fun act E=>?_
       refine Am rfl (Aa rfl) rfl (n8.out.mod o5.out (fun h=>h)) (off:=1) (vs:=[Value.slice aop3 (y3.l.take 5).length capp3]) aE one1 (by show 1+1≤2;decide) (E.d 3 0) (ec (E.d 2 1)) ?_
       intro j8 qc0 hm
       have qq3:=qc0.eqv (b:=(((cutTb y3).cells (Value.slice aop3 (y3.l.take 5).length capp3)):List Value).toArray) (lay_tl y3 (cutTb y3) _ _ rfl)
       clear qc0
       have v6:=hid qq3
       have av:=hm.size
       have s0:=hid hm
       have d5:=hid (AA (S':=(fun k=>(k=wl3.heap.size))) o5.out hm iC aQ)
       clear hm o5
       clear act E qq3 n8
       have v7:=hid (r9.out.mod s0.out aD (sB HBT))
       clear r9 s0
       refine qe ?_
       clear HA0 g7 a0
       have HEL3:=hid (show TbR.rd (fun k=>(New i7 i8 k)∨(R2 k)) j8 ((cutTb y3).cells (Value.slice aop3 (y3.l.take 5).length capp3)) (cutTb y3) from ⟨_,rfl,HOK3.o,v7.out.rd.widen gK⟩)
       go_upto_region 19 with (fail)
       refine Ab 86 [75,76,77,78,8] [0,1,2,3,4] (fun a0 HA0=>?_)
       have i9:=ev HA0 8 rfl
       have g7:=ev HA0 10 rfl
       refine QSeq.pure rfl _ (fun E=>Al rfl (E.y 4 i9)) ?_
       refine QSeq.pure rfl _ (fun E=>Ak rfl E4 rfl (off:=0) (cs:=((cutTb y3).cells (Value.slice aop3 (y3.l.take 5).length capp3))) aE (E.v g7) (Cs.whole v6.out)) ?_
       refine QSeq.go fun act E=>?_
       refine qc_buildS (e:=127) (cs:=((cutTb y3).cells (Value.slice aop3 (y3.l.take 5).length capp3))) (zc:=[.int .i64 0,.slice none 0 0]) (sz:=2) rfl (Aa rfl) rfl D0 aE rfl aM aM (E.d 1 0) (TbR.len HEL3.o) ?_
       intro s5 qrow hm
       have aw:=qrow.lt
       have o6:=hid qrow
       have ax:=hm.size
       have j9:=hid (show Mod (fun _=>False) j8 s5 from hm)
       clear hm
       clear act E qrow
       refine QSeq.go fun act E=>?_
       refine qc_appS (A:=TbR) (e:=127) rfl (Aa rfl) rfl (.agg #[.int .i64 0,.slice none 0 0]) 32 D0 info_Tb (by rfl) (of_decide_eq_true aE) (E.d 0 2) (E.d 2 0) ((((HAL3.o.mod c8.out iA iA).mod d5.out aD aB).mod j9.out iA iA)) (AI (R:=(fun k=>(New i7 i8 k)∨(R2 k)∨(k=j8.heap.size))) o6.out ((HEL3.o.mod j9.out iA).widen dM) dN) eO (by rw [HLN3.o];simp only [D6,D5];omega) (by rw [HLN3.o,Ax];simp only [D6,D5];omega) ?_
       intro ao9 cap9 v8 qacc3 hm
       have x4:=hid (qacc3.widen (R':=(fun k=>(New wl2 wl3 k)∨(New s5 v8 k))) (E':=(fun k=>(R2 k)∨(New wl2 wl3 k)∨(New i7 i8 k)∨(k=j8.heap.size))) (fun _ h=>h) cJ)
       have ay:=hm.size
       have s6:=hid hm
       have d7:=hid (AA (S':=(fun k=>(New wl2 wl3 k))) j9.out hm iC aQ)
       clear hm j9
       clear act E qacc3 HAL3
       refine qas rfl 3 0 ?_
       have az:=hid (o6.out.mod s6.out aG)
       clear o6 s6
       refine qe ?_
       clear HA0 i9 g7 a0
       have hq:=x4.out
       rw [HE3.o] at hq
       have HQ3:=B8 hq
       clear hq
       go_wp2
       go_roundw
       case rel=>exact ⟨k3+1,by go_num,by omega,by omega,by omega,(HQ3.o.widen cS cT),(((HKL3_0.o.mod c8.out iA).mod d5.out (sB HBT)).mod d7.out (sN HBT)),(((HKL3_1.o.mod c8.out iA).mod d5.out (sB HBT)).mod d7.out (sN HBT)),(((HKL3_2.o.mod c8.out iA).mod d5.out (sB HBT)).mod d7.out (sN HBT)),(((HKL3_3.o.mod c8.out (fun h=>h)).mod d5.out aG).mod d7.out aG),(((HKL3_4.o.mod c8.out (fun h=>h)).mod d5.out aG).mod d7.out aG),(((HKL3_5.o.mod c8.out iA iA).mod d5.out aD aB).mod d7.out aD aB),(((HKL3_6.o.mod c8.out iA iA).mod d5.out aD aB).mod d7.out aD aB),(((HML3.o.trans c8.out iB).trans d5.out aD).trans d7.out aD)⟩
       case measure=>simp [intOf];omega
      ·skip
       obtain ⟨bA3,hbA3⟩:∃ b:Bool,b=decide (((k3:Nat):Int) < (x.ts.length:Int)):=⟨_,rfl⟩
       obtain ⟨bB3,hbB3⟩:∃ b:Bool,b=decide (((k3:Nat):Int) < 4):=⟨_,rfl⟩
       go_upto_region 15 with (fail)
       refine Ab 86 [55,56,57,58,59,60,61,62,63] [0,1,2,3,4,5,6,7,8] (fun a0 HA0=>?_)
       have c3:=ev HA0 1 rfl
       have c7:=ev HA0 9 rfl
       refine qmo rfl c7 ?_
       refine qfd rfl 4 C7 c3 ?_
       refine QSeq.pure rfl _ (fun E=>Af rfl D0 rfl (E.d 1 0) (AC HKL3_3.o rfl)) ?_
       refine QSeq.pure rfl (.int .i64 x.ts.length) (fun E=>A2 rfl (E.d 2 0) D0) ?_
       refine QSeq.pure rfl (.bool bA3) (fun E=>Aq rfl (E.d 0 3) (E.d 3 0) (Ai _ _ _ _ _ _) (A1 _ _ _ B9) (congrArg Value.bool hbA3.symm)) ?_
       refine qmv rfl 4 0 ?_
       refine qmy rfl 5 0 (.int .i64 ((k3:Nat):Int)) (fun E hb=>Al rfl (E.v c7)) ?_
       intro bb hw
       have s7:=hid hw
       clear hw
       refine qmy rfl 5 1 (.bool bB3) (fun E hb=>Aq rfl ((E.q 6 0 s7.out).1 hb) rfl (Ai _ _ _ _ _ _) (A1 _ _ _ B9) (congrArg Value.bool hbB3.symm)) ?_
       intro bc hw
       have s8:=hid hw
       clear hw
       refine QSeq.pure rfl (.bool (bA3 && bB3)) (fun E=>A5 rfl (E.d 5 2) rfl rfl (Be fun hb=>(E.q 7 0 s8.out).1 hb)) ?_
       clear s7 s8
       refine qe ?_
       clear HA0 c3 c7 a0
       rw [show (bA3 && bB3)=false by rw [hbA3,hbB3,Bool.and_eq_false_iff,decide_eq_false_iff_not,decide_eq_false_iff_not];omega]
       have HTK3:=hid (show x.ts.take k3=x.ts.take 4 from take_two aL aL)
       go_upto_region 20 with (fail)
       refine Ab 86 [79,80,81,82,90,83,92,84,94] [0,1,2,3,4,5,6,7,8] (fun a0 HA0=>?_)
       have c3:=ev HA0 1 rfl
       have g8:=ev HA0 3 rfl
       have g9:=ev HA0 5 rfl
       have i9:=ev HA0 8 rfl
       refine qmo rfl g8 ?_
       refine qmo rfl g9 ?_
       refine qmo rfl i9 ?_
       refine qfd rfl 2 C7 c3 ?_
       refine QSeq.go fun act E=>?_
       refine Am rfl (Aa rfl) rfl HKL3_3.o (off:=2) (vs:=[Value.slice aol1 ((x.ps.take k1).map cutPm).length capl1]) aE one1 bA (E.d 3 0) (ec (E.d 0 3)) ?_
       intro x5 qc0 hm
       have qB1:=qc0.eqv (b:=#[.int .i64 x.ep,.int .u64 (x.tm:Nat),Value.slice aol1 ((x.ps.take k1).map cutPm).length capl1,Value.slice ao_os x.os.length cap_os,Value.slice ao_ts x.ts.length cap_ts]) rfl
       clear qc0
       have t0:=hid qB1
       have bf:=hm.size
       have t1:=hid (show Mod (fun k=>(k=w.heap.size)) wl3 x5 from hm)
       clear hm
       clear act E qB1 HKL3_3
       refine qfd rfl 3 C7 c3 ?_
       refine QSeq.go fun act E=>?_
       refine Am rfl (Aa rfl) rfl t0.out (off:=3) (vs:=[Value.slice aol2 ((x.os.take k2).map cutOp).length capl2]) aE one1 bA (E.d 5 0) (ec (E.d 1 4)) ?_
       intro bg qc0 hm
       have qB1:=qc0.eqv (b:=#[.int .i64 x.ep,.int .u64 (x.tm:Nat),Value.slice aol1 ((x.ps.take k1).map cutPm).length capl1,Value.slice aol2 ((x.os.take k2).map cutOp).length capl2,Value.slice ao_ts x.ts.length cap_ts]) rfl
       clear qc0
       have t2:=hid qB1
       have bh:=hm.size
       have x6:=hid hm
       have t8:=hid (AA (S':=(fun k=>(k=w.heap.size))) t1.out hm (fun _ h=>h) aQ)
       clear hm t1
       clear act E qB1 t0
       refine qfd rfl 4 C7 c3 ?_
       refine QSeq.go fun act E=>?_
       refine Am rfl (Aa rfl) rfl t2.out (off:=4) (vs:=[Value.slice aol3 ((x.ts.take k3).map cutTb).length capl3]) aE one1 bA (E.d 7 0) (ec (E.d 2 5)) ?_
       intro x7 qc0 hm
       have qB1:=qc0.eqv (b:=#[.int .i64 x.ep,.int .u64 (x.tm:Nat),Value.slice aol1 ((x.ps.take k1).map cutPm).length capl1,Value.slice aol2 ((x.os.take k2).map cutOp).length capl2,Value.slice aol3 ((x.ts.take k3).map cutTb).length capl3]) rfl
       clear qc0
       have x8:=hid qB1
       have bj:=hm.size
       have x9:=hid hm
       have j0:=hid (AA (S':=(fun k=>(k=w.heap.size))) t8.out hm (fun _ h=>h) aQ)
       clear hm t8
       clear act E qB1 t2
       clear x6 x9
       refine qe ?_
       clear HA0 c3 g8 g9 i9 a0
       go_upto_region 21 with (fail)
       refine Ab 86 [85,87] [0,1] (fun a0 HA0=>?_)
       have c3:=ev HA0 1 rfl
       have t9:=ev HA0 2 rfl
       refine QSeq.pure rfl _ (fun E=>Ak rfl C7 rfl (off:=0) (cs:=[.int .i64 x.ep,.int .u64 (x.tm:Nat),Value.slice aol1 ((x.ps.take k1).map cutPm).length capl1,Value.slice aol2 ((x.os.take k2).map cutOp).length capl2,Value.slice aol3 ((x.ts.take k3).map cutTb).length capl3]) aE (E.v c3) (Cs.whole x8.out)) ?_
       refine QSeq.go fun act E=>?_
       refine Am rfl (Aa rfl) rfl (HKL3_4.o.mod j0.out aG) (off:=0) (vs:=[.int .i64 x.ep,.int .u64 (x.tm:Nat),Value.slice aol1 ((x.ps.take k1).map cutPm).length capl1,Value.slice aol2 ((x.os.take k2).map cutOp).length capl2,Value.slice aol3 ((x.ts.take k3).map cutTb).length capl3]) aE (by intro u hu;simp at hu;rcases hu with rfl|rfl|rfl|rfl|rfl<;>rfl) bA (E.v t9) (ec (E.d 0 0)) ?_
       intro y0 qc0 hm
       have qB2:=qc0.eqv (b:=#[.int .i64 x.ep,.int .u64 (x.tm:Nat),Value.slice aol1 ((x.ps.take k1).map cutPm).length capl1,Value.slice aol2 ((x.os.take k2).map cutOp).length capl2,Value.slice aol3 ((x.ts.take k3).map cutTb).length capl3]) rfl
       clear qc0
       have y5:=hid qB2
       have bk:=hm.size
       have l7:=hid (show Mod (fun k=>(k=w.heap.size+1)) x7 y0 from hm)
       clear hm
       clear act E qB2 HKL3_4
       refine qe ?_
       clear HA0 c3 t9 a0
       go_wp2
       refine bodyPost_ret (A0 rfl _ _ (w.heap.size+1) ([.int .i64 x.ep,.int .u64 (x.tm:Nat),Value.slice aol1 ((x.ps.take k1).map cutPm).length capl1,Value.slice aol2 ((x.os.take k2).map cutOp).length capl2,Value.slice aol3 ((x.ts.take k3).map cutTb).length capl3]) rfl (fun k u hu=>by rw [y5.out.cell];simpa using hu) C7 rfl aE) rfl ⟨_,rfl,⟨_,_,_,rfl,HOK.o,?_,?_,?_⟩,((HML3.o.trans j0.out aD).trans l7.out aD)⟩
       ·rw [show (cutBa x).ps=(x.ps.take k1).map cutPm from congrArg (List.map cutPm) HTK1.o.symm]
        refine (((HKL3_5.o.mod j0.out aD aB).mod l7.out aD aB).rd).widen ?_
        intro k h
        (try dsimp only at h ⊢)
        rcases h with h|h|h
        ·right;omega
        ·exact Or.inl h
        ·right;omega
       ·rw [show (cutBa x).os=(x.os.take k2).map cutOp from congrArg (List.map cutOp) HTK2.o.symm]
        refine (((HKL3_6.o.mod j0.out aD aB).mod l7.out aD aB).rd).widen ?_
        intro k h
        (try dsimp only at h ⊢)
        rcases h with h|h|h
        ·right;omega
        ·exact Or.inl h
        ·right;omega
       ·rw [show (cutBa x).ts=(x.ts.take k3).map cutTb from congrArg (List.map cutTb) HTK3.o.symm]
        refine (((HAL3.o.mod j0.out aD aB).mod l7.out aD aB).rd).widen ?_
        intro k h
        (try dsimp only at h ⊢)
        rcases h with h|h|h
        ·right;omega
        ·exact Or.inl h
        ·right;omega
/-- a signature's bytes, a name's, those of a list of things, and so on -/
def sigB (a b:Int):List Int:=encI a ++ encI b
def nameB (a b:Int):List Int:=encI a ++ encI b
def listB {α:Type} (f:α→List Int) (l:List α):List Int:=encI l.length ++ (l.map f).flatten
def cmB (x:Cm):List Int:=nameB x.cl x.sq ++ (x.h ++ (encI x.ln ++ sigB x.sb x.mr))
def stB (x:St):List Int:=encI x.rp ++ (nameB x.cl x.sq ++ (x.h ++ (encN x.tm ++ sigB x.sb x.mr)))
def ceB (x:Ce):List Int:=cmB x.c ++ listB stB x.l
def pmB (x:Pm):List Int:=encI x.rp ++ (encI x.ep ++ (encN x.fl ++ (listB ceB x.l ++ sigB x.sb x.mr)))
def opB (x:Op):List Int:=encI x.ix ++ ((encN x.pl.length ++ x.pl) ++ x.nc)
def dnB (x:Dn):List Int:=encI x.rp ++ (encI x.ix ++ sigB x.sb x.mr)
def tbB (x:Tb):List Int:=encI x.ix ++ listB dnB x.l
def baB (x:Ba):List Int:=encI x.ep ++ (encN x.tm ++ (listB pmB x.ps ++ (listB opB x.os ++ listB tbB x.ts)))
def vtB (x:Vt):List Int:=encI x.kd ++ (encI x.ep ++ (encI x.rd ++ (encI x.rp ++ (x.h ++ sigB x.sb x.mr))))
def enB (x:En):List Int:=nameB x.cl x.sq ++ (x.h ++ encN x.tm)
theorem B3 {R:Nat→Prop} {g:Nat} {n:Int} {bs:List Int} {w:World} (hW:WrR R 900000 w g bs) (hn:I64 n) (hl:(bs ++ encI n).length≤900000) :
 Calls Tryz.prog 67 #[.pointer (some ⟨g,0,none⟩),.int .i64 n] w fun e w'=>e=.returned (.pointer (some ⟨g,0,none⟩))∧WrR (fun k=>R k∨New w w' k) 900000 w' g (bs ++ encI n)∧Mod R w w':=by
 obtain ⟨v,h1,h2,h3,h4⟩:=hW
 exact (WInt_any g n v bs w h1 hn gQ).mono fun _ _ ⟨he,h⟩=>⟨he,WrTo_R _ h2 h3 h hl⟩
theorem WNum_Q {R:Nat→Prop} {g:Nat} {n:Nat} {bs:List Int} {w:World} (hW:WrR R 900000 w g bs) (hn:n < U64) (hl:(bs ++ encN n).length≤900000) :
 Calls Tryz.prog 96 #[.pointer (some ⟨g,0,none⟩),.int .u64 n] w fun e w'=>e=.returned (.pointer (some ⟨g,0,none⟩))∧WrR (fun k=>R k∨New w w' k) 900000 w' g (bs ++ encN n)∧Mod R w w':=by
 obtain ⟨v,h1,h2,h3,h4⟩:=hW
 exact (Num_any g n v bs w h1 hn gQ).mono fun _ _ ⟨he,h⟩=>⟨he,WrTo_R _ h2 h3 h hl⟩
theorem WHash_Q {R:Nat→Prop} {g:Nat} {h bs:List Int} {w:World} (hW:WrR R 900000 w g bs) (hh:HK h) (hl:(bs ++ h).length≤900000) :
 Calls Tryz.prog 130 #[.pointer (some ⟨g,0,none⟩),hv h] w fun e w'=>e=.returned (.pointer (some ⟨g,0,none⟩))∧WrR (fun k=>R k∨New w w' k) 900000 w' g (bs ++ h)∧Mod R w w':=by
 obtain ⟨v,h1,h2,h3,h4⟩:=hW
 exact (WHash_any g v bs h w h1 hh.1 hh.2 gQ).mono fun _ _ ⟨he,h⟩=>⟨he,WrTo_R _ h2 h3 h hl⟩
theorem WRow_Q {R R':Nat→Prop} {M g:Nat} {bs:List Int} {v2:Value} {cs:List Int} {w:World} (hW:WrR R 900000 w g bs) (hr:RdR R' M w v2 cs) (hs:∀ k,R' k→R k→False) (hl:(bs ++ (encN cs.length ++ cs)).length≤900000) :
 Calls Tryz.prog 107 #[.pointer (some ⟨g,0,none⟩),v2] w fun e w'=>e=.returned (.pointer (some ⟨g,0,none⟩))∧WrR (fun k=>R k∨New w w' k) 900000 w' g (bs ++ (encN cs.length ++ cs))∧Mod R w w':=by
 obtain ⟨v,h1,h2,h3,h4⟩:=hW
 obtain ⟨ao,cap,rfl⟩:=hr.shape
 have hlc:cs.length≤900000:=by simp only [C3] at hl;omega
 refine (WRow_any g v bs ao cap cs w h1 hr.1 ?_ gQ).mono fun _ _ ⟨he,h⟩=>⟨he,WrTo_R _ h2 h3 h hl⟩
 intro h0 k hg hk
 rcases hk with rfl|hk
 ·exact hs _ (hr.2.1 h0 _ hg) h2
 ·exact hs _ (hr.2.1 h0 _ hg) (h3 k hk.symm)
/-- a function that puts things of a kind -/
def Puts {α:Type} (A:Rep α) (F:FuncId) (f:α→List Int):Prop:=∀ (R R2:Nat→Prop) (g:Nat) (bs:List Int) (cs:List Value) (x:α) (w:World),WrR R 900000 w g bs→(∀ k,R k→k < w.heap.size)→A.rd R2 w cs x→(∀ k,R2 k→k < w.heap.size)→(∀ k,R k→R2 k→False)→(bs ++ f x).length≤900000→
 Calls Tryz.prog F #[.pointer (some ⟨g,0,none⟩),.agg cs.toArray] w fun e w'=>e=.returned (.tuple #[])∧WrR (fun k=>R k∨New w w' k) 900000 w' g (bs ++ f x)∧Mod R w w'
/-- one that puts lists of them -/
def PutsL {α:Type} (A:Rep α) (F Fe:FuncId) (f:α→List Int):Prop:=∀ (R R2:Nat→Prop) (g:Nat) (bs:List Int) (v:Value) (l:List α) (w:World),WrR R 900000 w g bs→(∀ k,R k→k < w.heap.size)→RdS A R2 w v l→(∀ k,R2 k→k < w.heap.size)→(∀ k,R k→R2 k→False)→(bs ++ listB f l).length≤900000→
 Calls Tryz.prog F #[.pointer (some ⟨g,0,none⟩),v,.func (.func Fe) #[] #[]] w fun e w'=>e=.returned (.tuple #[])∧WrR (fun k=>R k∨New w w' k) 900000 w' g (bs ++ listB f l)∧Mod R w w'
theorem put_len {α:Type} (f:α→List Int) (bs:List Int) (n:List Int) (l:List α) (k:Nat):(bs ++ (n ++ ((l.take k).map f).flatten)).length≤(bs ++ (n ++ (l.map f).flatten)).length:=by
 have h:(l.map f).flatten=((l.take k).map f).flatten ++ ((l.drop k).map f).flatten:=by rw [← List.flatten_append,← List.map_append,List.take_append_drop]
 rw [h]
 simp only [C3]
 omega
open Go.Proofs renaming Tryz.func131→va',Tryz.ntmps131→vb',Tryz.underlying27→vd' in
open Go.Gv renaming n'27→vc' in
open Go.Proofs.YtnaoeginonpicaaGreat renaming sigB→ve' in
set_option maxHeartbeats 2000000 in
theorem PutSig_Q {R:Nat→Prop} {g:Nat} {bs:List Int} {a b:Int} {w:World} (hW:WrR R 900000 w g bs) (hB:∀ k,R k→k < w.heap.size) (ha:I64 a) (hb:I64 b) (hl:(bs ++ sigB a b).length≤900000) :
 Calls Tryz.prog 131 #[.pointer (some ⟨g,0,none⟩),.agg #[.int .i64 a,.int .i64 b]] w fun e w'=>e=.returned (.tuple #[])∧WrR (fun k=>R k∨New w w' k) 900000 w' g (bs ++ sigB a b)∧Mod R w w':=
 fm11'
open Go.Proofs renaming Tryz.func129→va',Tryz.ntmps129→vb',Tryz.underlying23→vd' in
open Go.Gv renaming n'23→vc' in
open Go.Proofs.YtnaoeginonpicaaGreat renaming nameB→ve' in
set_option maxHeartbeats 2000000 in
theorem PutName_Q {R:Nat→Prop} {g:Nat} {bs:List Int} {a b:Int} {w:World} (hW:WrR R 900000 w g bs) (hB:∀ k,R k→k < w.heap.size) (ha:I64 a) (hb:I64 b) (hl:(bs ++ nameB a b).length≤900000) :
 Calls Tryz.prog 129 #[.pointer (some ⟨g,0,none⟩),.agg #[.int .i64 a,.int .i64 b]] w fun e w'=>e=.returned (.tuple #[])∧WrR (fun k=>R k∨New w w' k) 900000 w' g (bs ++ nameB a b)∧Mod R w w':=
 fm11'
set_option maxHeartbeats 4000000 in
theorem PutCm_Q:Puts CmR 97 cmB:=by
 intro R R2 g bs cs x w hW hB hx hB2 hD hl
 obtain ⟨rfl,hok⟩:=hx
 have HW:=B8 hW
 have HBR:=B8 hB
 have HBT:=B8 hB2
 have HDJ:=B8 hD
 have HOK:=B8 hok
 have HL:=B8 hl
 clear hW hB hB2 hD hl hok
 unfold cmB at HL
 go_enter Tryz.func97,Tryz.ntmps97
 go_upto_region 1 with (fail)
 obtain ⟨w1,hw1⟩:∃ zz,zz=(w.alloc (.cells (x.cells:List Value).toArray 29)):=⟨_,rfl⟩
 change Code.wp _ _ _ _ (w.alloc (.cells (x.cells:List Value).toArray 29))
 rw [← hw1]
 have HB3:=hid (show Cs w1 (w.heap.size) (x.cells:List Value).toArray 29 by rw [hw1];exact Cs.new _ _ _)
 have hm:Mod (fun _=>False) w w1:=by rw [hw1];exact (Mod.refl _ _).alloc _
 have HM0:=hid (show Mod (fun k=>(R k)) w w1 from hm.mono iB)
 have hs1:w1.heap.size=w.heap.size+1:=by rw [hw1];simp
 have d8:=hid (HW.o.mod hm iA)
 clear HW
 clear hw1 hm
 go_upto_region 1 with (fail)
 refine Ab 19 [4,5,6,7] [0,1,2,3] (fun a0 HA0=>?_)
 have c6:=ev HA0 0 rfl
 have c4:=ev HA0 3 rfl
 refine qmo rfl c6 ?_
 refine qfd rfl 0 E7 c4 ?_
 refine QSeq.pure rfl _ (fun E=>Ak rfl Tryz.underlying23 rfl (off:=0) (cs:=[.int .i64 x.cl,.int .i64 x.sq]) aE (E.d 1 0) (Cs.preA (pre:=[.int .i64 x.cl,.int .i64 x.sq]) (mid:=x.h.map bv) (post:=[.int .i64 x.ln,.int .i64 x.sb,.int .i64 x.mr]) HB3.o rfl)) ?_
 refine QSeq.call rfl rfl Tryz.func129 (PutName_Q d8.out aK HOK.o.1.1 HOK.o.1.2.1 aF) (fun E=>Ar (E.d 0 2) (E.d 2 0)) ?_
 rintro e c3 ⟨rfl,qwr,hm⟩
 refine ⟨_,rfl,?_⟩
 have d9:=hid (qwr.widen (R':=(fun k=>(R k)∨(New w1 c3 k))) (fun _ h=>h) (C0 _))
 have i9:=hm.size
 have c7:=hid (show Mod (fun k=>(R k)) w1 c3 from hm)
 clear hm
 clear qwr d8
 refine qe ?_
 clear HA0 c6 c4 a0
 go_upto_region 2 with (fail)
 generalize ha0:Act.mk _ _=a0
 have c6:a0.eval (.tmp 0)=.pointer (some ⟨g,0,none⟩):=by rw [← ha0];rfl
 have c4:a0.eval (.tmp 3)=.pointer (some ⟨w.heap.size,0,none⟩):=by rw [← ha0];rfl
 have hsz0:a0.tmps.size=19:=by rw [← ha0];rfl
 have HA0:=hid ha0
 clear ha0
 refine Bc 19 hsz0 [8,9,10,11,12,13,14] (fun k=>(R k)∨(New w1 c3 k)) (fun k j=>(k=0∧((R j)∨(New w1 c3 j)))∨(k=1∧((R j)∨(New w1 c3 j)))) fE [qi (.pointer (some ⟨g,0,none⟩)),qi (.pointer (some ⟨w.heap.size,2,none⟩)),qi (hv x.h),qi (.pointer (some ⟨g,0,none⟩)),qi (.pointer (some ⟨w.heap.size,34,none⟩)),qi (.int .i64 x.ln),qi (.pointer (some ⟨g,0,none⟩))] ⟨Ac,Ac,Ac,Ac,Ac,Ac,Ac,trivial⟩ [3,6] ⟨?_,?_,?_,?_,?_,?_,?_,trivial⟩ ?_
 ·exact stq (fun E=>Al rfl (E.v c6))
 ·exact stq (fun E=>Ae rfl E7 rfl aE (E.v c4))
 ·exact stq (fun E=>Ak rfl D8 rfl (off:=2) (cs:=x.h.map bv) (by rw [List.length_map,HOK.o.2.1];exact size_hash) (E.d 1) (((HB3.o.mod c7.out aH).mod E.m dE).hash))
 ·exact Ad rfl
 ·exact stq (fun E=>Ae rfl E7 rfl aE (E.v c4))
 ·exact stq (fun E=>Af rfl B9 rfl (E.d 4) (((HB3.o.mod c7.out aH).mod E.m dE).c34 HOK.o.2.1))
 ·exact Ad rfl
 intro c8 hr
 have j0:=hr.size
 have g5:=hid (hr.new (S:=(fun k=>(R k)∨(New w1 c3 k))))
 have g6:=hid (d9.out.mod hr bH)
 clear d9
 clear hr
 refine QChain.go fun Z act E=>?_
 refine Aj (args:=#[.pointer (some ⟨g,0,none⟩),hv x.h]) rfl (Aa rfl) rfl Tryz.func130 (Ar (E.d 0) (E.d 2)) (WHash_Q g6.out HOK.o.2 aF) ?_
 rintro e c9 ⟨rfl,qwr,hm⟩
 have j3:=hm.size
 refine ⟨_,rfl,hm.mono fZ,(fun _=>rfl),?_⟩
 intro d5 hr
 have j4:=hr.size
 have g7:=hid ((qwr.widen (R':=(fun k=>(R k)∨(New w1 c3 k)∨(New c8 c9 k))) aP (C0 _)).mod hr bG)
 have g8:=hid (g5.out.goM hm hr iA)
 clear g5 hm hr Z act E qwr g6
 refine QChain.go fun Z act E=>?_
 refine Aj (args:=#[.pointer (some ⟨g,0,none⟩),.int .i64 x.ln]) rfl (Aa rfl) rfl E6 (Ar (E.d 3) (E.d 5)) (B3 g7.out HOK.o.1.2.2.1 aF) ?_
 rintro e d6 ⟨rfl,qwr,hm⟩
 have j5:=hm.size
 refine ⟨_,rfl,hm.mono fV,(fun _=>rfl),?_⟩
 intro g9 hr
 have j6:=hr.size
 have Hx8:=hid ((qwr.widen (R':=(fun k=>(R k)∨(New w1 c3 k)∨(New c8 c9 k)∨(New d5 d6 k))) aP (C0 _)).mod hr bT)
 have i7:=hid (g8.out.goM hm hr hH)
 clear g8 hm hr Z act E qwr g7
 refine QChain.nil fun vs hl hzz hrows hne=>?_
 obtain ⟨Z,hYZ,hZb,hV⟩:=hzz
 have f0:=fvi hV hl 0
 have f3:=fvi hV hl 3
 have f6:=fvi hV hl 6
 rw [show vs=[gw vs 0,gw vs 1,gw vs 2,gw vs 3,gw vs 4,gw vs 5,gw vs 6] from (Bi hl).trans rfl]
 have ha0:=HA0.o
 subst ha0
 clear HA0 hV hYZ hZb hsz0 hrows hne c6 c4
 simp only [Au,Act.put,sIB,sCZ,sCS,f0,f3,f6]
 clear hl f0 f3 f6
 go_upto_region 3 with (fail)
 refine Ab 19 [15,16,17,18] [0,1,2,3] (fun a0 HA0=>?_)
 have c6:=ev HA0 0 rfl
 have c4:=ev HA0 3 rfl
 refine qmo rfl c6 ?_
 refine qfd rfl 35 E7 c4 ?_
 refine QSeq.pure rfl _ (fun E=>Ak rfl Tryz.underlying27 rfl (off:=35) (cs:=[.int .i64 x.sb,.int .i64 x.mr]) aE (E.d 1 0) (((HB3.o.mod c7.out aH).mod i7.out bM).sig HOK.o.2.1)) ?_
 refine QSeq.call rfl rfl Tryz.func131 (PutSig_Q Hx8.o dH HOK.o.1.2.2.2.1 HOK.o.1.2.2.2.2 aF) (fun E=>Ar (E.d 0 2) (E.d 2 0)) ?_
 rintro e d7 ⟨rfl,qwr,hm⟩
 refine ⟨_,rfl,?_⟩
 have Hx10:=hid (qwr.widen (R':=(fun k=>(R k)∨(New w1 c3 k)∨(New c8 c9 k)∨(New d5 d6 k)∨(New g9 d7 k))) aP (C0 _))
 have j7:=hm.size
 have i8:=hid (show Mod (fun k=>(R k)∨(New w1 c3 k)∨(New c8 c9 k)∨(New d5 d6 k)) g9 d7 from hm)
 clear hm
 clear qwr Hx8
 refine qe ?_
 clear HA0 c6 c4 a0
 go_wp2
 go_end0
 have hq:=(Hx10.o.widen (R':=(fun k=>R k∨New w d7 k)) hX (C0 _))
 simp only [C2] at hq
 exact ⟨rfl,by simpa only [cmB,C2] using hq,(((HM0.o.trans c7.out iA).trans i7.out aC).trans i8.out cU)⟩
open Go.Proofs renaming Tryz.func98→va',Tryz.ntmps98→vb',Tryz.underlying32→vd' in
open Go.Gv renaming n'32→vc' in
set_option maxHeartbeats 4000000 in
theorem PutSt_Q:Puts StR 98 stB:=
 fm12'
open Go.Proofs renaming Tryz.func132→va',Tryz.ntmps132→vb',Tryz.underlying33→vc',Tryz.underlying32→vf',Tryz.func98→vi' in
open Go.Proofs.YtnaoeginonpicaaGreat renaming stB→vd',StR→ve',PutSt_Q→vj' in
open Go.Gv renaming z'0→vg',z'1→vh' in
set_option maxHeartbeats 4000000 in
theorem PutList_St:PutsL StR 132 98 stB:=
 fm2'
set_option maxHeartbeats 4000000 in
theorem PutCe_Q:Puts CeR 99 ceB:=by
 intro R R2 g bs cs x w hW hB hx hB2 hD hl
 obtain ⟨v_l,rfl,hok,hs0⟩:=hx
 have HS0:=B8 hs0
 clear hs0
 have HW:=B8 hW
 have HBR:=B8 hB
 have HBT:=B8 hB2
 have HDJ:=B8 hD
 have HOK:=B8 hok
 have HL:=B8 hl
 clear hW hB hB2 hD hl hok
 unfold ceB at HL
 go_enter Tryz.func99,Tryz.ntmps99
 go_upto_region 1 with (fail)
 obtain ⟨w1,hw1⟩:∃ zz,zz=(w.alloc (.cells (x.cells v_l:List Value).toArray 35)):=⟨_,rfl⟩
 change Code.wp _ _ _ _ (w.alloc (.cells (x.cells v_l:List Value).toArray 35))
 rw [← hw1]
 have HB3:=hid (show Cs w1 (w.heap.size) (x.cells v_l:List Value).toArray 35 by rw [hw1];exact Cs.new _ _ _)
 have hm:Mod (fun _=>False) w w1:=by rw [hw1];exact (Mod.refl _ _).alloc _
 have HM0:=hid (show Mod (fun k=>(R k)) w w1 from hm.mono iB)
 have hs1:w1.heap.size=w.heap.size+1:=by rw [hw1];simp
 have c9:=hid (HW.o.mod hm iA)
 clear HW
 have d6:=hid (HS0.o.mod hm iA)
 clear HS0
 clear hw1 hm
 go_upto_region 1 with (fail)
 refine Ab 12 [4,5,6,7] [0,1,2,3] (fun a0 HA0=>?_)
 have c4:=ev HA0 0 rfl
 have c6:=ev HA0 3 rfl
 refine qmo rfl c4 ?_
 refine qfd rfl 0 Tryz.underlying35 c6 ?_
 refine QSeq.pure rfl _ (fun E=>Ak rfl E7 rfl (off:=0) (cs:=x.c.cells) (by rw [Cm.len HOK.o.2.1];exact size_commit) (E.d 1 0) (Cs.midA (pre:=[]) (mid:=x.c.cells) (post:=[v_l]) HB3.o rfl)) ?_
 refine QSeq.call rfl rfl Tryz.func97 (PutCm_Q _ (fun _=>False) _ _ _ _ _ c9.out aK ⟨rfl,HOK.o⟩ iC iB aF) (fun E=>Ar (E.d 0 2) (E.d 2 0)) ?_
 rintro e c3 ⟨rfl,qwr,hm⟩
 refine ⟨_,rfl,?_⟩
 have d5:=hid (qwr.widen (R':=(fun k=>(R k)∨(New w1 c3 k))) (fun _ h=>h) (C0 _))
 have d9:=hm.size
 have c7:=hid (show Mod (fun k=>(R k)) w1 c3 from hm)
 clear hm
 clear qwr c9
 refine qe ?_
 clear HA0 c4 c6 a0
 go_upto_region 2 with (fail)
 refine Ab 12 [8,9,10,11] [0,1,2,3] (fun a0 HA0=>?_)
 have c4:=ev HA0 0 rfl
 have c6:=ev HA0 3 rfl
 refine qmo rfl c4 ?_
 refine qfd rfl 37 Tryz.underlying35 c6 ?_
 refine QSeq.pure rfl _ (fun E=>Af rfl Tryz.underlying33 rfl (E.d 1 0) (AL (pre:=[]) (mid:=x.c.cells) (post:=[v_l]) (m:=37) (k:=0) (HB3.o.mod c7.out aH) (Cm.len HOK.o.2.1) rfl rfl)) ?_
 refine QSeq.call rfl rfl Tryz.func132 (PutList_St _ _ _ _ _ _ _ d5.out dT (d6.out.mod c7.out aJ) aU cC aF) (fun E=>args3 (E.d 0 2) (E.d 2 0) rfl) ?_
 rintro e c8 ⟨rfl,qwr,hm⟩
 refine ⟨_,rfl,?_⟩
 have d7:=hid (qwr.widen (R':=(fun k=>(R k)∨(New w1 c3 k)∨(New c3 c8 k))) aP (C0 _))
 have g5:=hm.size
 have d8:=hid (show Mod (fun k=>(R k)∨(New w1 c3 k)) c3 c8 from hm)
 clear hm
 clear qwr d5
 refine qe ?_
 clear HA0 c4 c6 a0
 go_wp2
 go_end0
 have hq:=(d7.out.widen (R':=(fun k=>R k∨New w c8 k)) dU (C0 _))
 simp only [C2] at hq
 exact ⟨rfl,by simpa only [ceB,C2] using hq,((HM0.o.trans c7.out iA).trans d8.out aC)⟩
set_option maxHeartbeats 4000000 in
theorem PutDn_Q:Puts DnR 106 dnB:=by
 intro R R2 g bs cs x w hW hB hx hB2 hD hl
 obtain ⟨rfl,hok⟩:=hx
 have HW:=B8 hW
 have HBR:=B8 hB
 have HBT:=B8 hB2
 have HDJ:=B8 hD
 have HOK:=B8 hok
 have HL:=B8 hl
 clear hW hB hB2 hD hl hok
 unfold dnB at HL
 go_enter Tryz.func106,Tryz.ntmps106
 go_upto_region 1 with (fail)
 obtain ⟨w1,hw1⟩:∃ zz,zz=(w.alloc (.cells (x.cells:List Value).toArray 56)):=⟨_,rfl⟩
 change Code.wp _ _ _ _ (w.alloc (.cells (x.cells:List Value).toArray 56))
 rw [← hw1]
 have HB3:=hid (show Cs w1 (w.heap.size) (x.cells:List Value).toArray 56 by rw [hw1];exact Cs.new _ _ _)
 have hm:Mod (fun _=>False) w w1:=by rw [hw1];exact (Mod.refl _ _).alloc _
 have HM0:=hid (show Mod (fun k=>(R k)) w w1 from hm.mono iB)
 have hs1:w1.heap.size=w.heap.size+1:=by rw [hw1];simp
 have d6:=hid (HW.o.mod hm iA)
 clear HW
 clear hw1 hm
 go_upto_region 1 with (fail)
 generalize ha0:Act.mk _ _=a0
 have c4:a0.eval (.tmp 0)=.pointer (some ⟨g,0,none⟩):=by rw [← ha0];rfl
 have c3:a0.eval (.tmp 3)=.pointer (some ⟨w.heap.size,0,none⟩):=by rw [← ha0];rfl
 have hsz0:a0.tmps.size=15:=by rw [← ha0];rfl
 have HA0:=hid ha0
 clear ha0
 refine Bc 15 hsz0 [4,5,6,7,8,9,10] (fun k=>(R k)) (fun k j=>(k=0∧((R j)))∨(k=1∧((R j)))) cL [qi (.pointer (some ⟨g,0,none⟩)),qi (.pointer (some ⟨w.heap.size,0,none⟩)),qi (.int .i64 x.rp),qi (.pointer (some ⟨g,0,none⟩)),qi (.pointer (some ⟨w.heap.size,1,none⟩)),qi (.int .i64 x.ix),qi (.pointer (some ⟨g,0,none⟩))] ⟨Ac,Ac,Ac,Ac,Ac,Ac,Ac,trivial⟩ [3,6] ⟨?_,?_,?_,?_,?_,?_,?_,trivial⟩ ?_
 ·exact stq (fun E=>Al rfl (E.v c4))
 ·exact stq (fun E=>Ae rfl Tryz.underlying56 rfl aE (E.v c3))
 ·exact stq (fun E=>Af rfl B9 rfl (E.d 1) (AC (HB3.o.mod E.m aN) rfl))
 ·exact Ad rfl
 ·exact stq (fun E=>Ae rfl Tryz.underlying56 rfl aE (E.v c3))
 ·exact stq (fun E=>Af rfl B9 rfl (E.d 4) (AC (HB3.o.mod E.m aN) rfl))
 ·exact Ad rfl
 intro c6 hr
 have i7:=hr.size
 have d7:=hid (hr.new (S:=(fun k=>(R k))))
 have d8:=hid (d6.out.mod hr aO)
 clear d6
 clear hr
 refine QChain.go fun Z act E=>?_
 refine Aj (args:=#[.pointer (some ⟨g,0,none⟩),.int .i64 x.rp]) rfl (Aa rfl) rfl E6 (Ar (E.d 0) (E.d 2)) (B3 d8.out HOK.o.rp aF) ?_
 rintro e c7 ⟨rfl,qwr,hm⟩
 have i8:=hm.size
 refine ⟨_,rfl,hm.mono aW,(fun _=>rfl),?_⟩
 intro c8 hr
 have i9:=hr.size
 have d9:=hid ((qwr.widen (R':=(fun k=>(R k)∨(New c6 c7 k))) (fun _ h=>h) (C0 _)).mod hr bH)
 have g5:=hid (d7.out.goM hm hr iA)
 clear d7 hm hr Z act E qwr d8
 refine QChain.go fun Z act E=>?_
 refine Aj (args:=#[.pointer (some ⟨g,0,none⟩),.int .i64 x.ix]) rfl (Aa rfl) rfl E6 (Ar (E.d 3) (E.d 5)) (B3 d9.out HOK.o.ix aF) ?_
 rintro e c9 ⟨rfl,qwr,hm⟩
 have j0:=hm.size
 refine ⟨_,rfl,hm.mono cN,(fun _=>rfl),?_⟩
 intro g6 hr
 have j3:=hr.size
 have g7:=hid ((qwr.widen (R':=(fun k=>(R k)∨(New c6 c7 k)∨(New c8 c9 k))) aP (C0 _)).mod hr bG)
 have g8:=hid (g5.out.goM hm hr bY)
 clear g5 hm hr Z act E qwr d9
 refine QChain.nil fun vs hl hzz hrows hne=>?_
 obtain ⟨Z,hYZ,hZb,hV⟩:=hzz
 have f0:=fvi hV hl 0
 have f3:=fvi hV hl 3
 have f6:=fvi hV hl 6
 rw [show vs=[gw vs 0,gw vs 1,gw vs 2,gw vs 3,gw vs 4,gw vs 5,gw vs 6] from (Bi hl).trans rfl]
 have ha0:=HA0.o
 subst ha0
 clear HA0 hV hYZ hZb hsz0 hrows hne c4 c3
 simp only [Au,Act.put,sIB,sCZ,sCS,f0,f3,f6]
 clear hl f0 f3 f6
 go_upto_region 2 with (fail)
 refine Ab 15 [11,12,13,14] [0,1,2,3] (fun a0 HA0=>?_)
 have c4:=ev HA0 0 rfl
 have c3:=ev HA0 3 rfl
 refine qmo rfl c4 ?_
 refine qfd rfl 2 Tryz.underlying56 c3 ?_
 refine QSeq.pure rfl _ (fun E=>Ak rfl Tryz.underlying27 rfl (off:=2) (cs:=[.int .i64 x.sb,.int .i64 x.mr]) aE (E.d 1 0) (AK (HB3.o.mod g8.out aH) rfl)) ?_
 refine QSeq.call rfl rfl Tryz.func131 (PutSig_Q g7.out eR HOK.o.sb HOK.o.mr aF) (fun E=>Ar (E.d 0 2) (E.d 2 0)) ?_
 rintro e d5 ⟨rfl,qwr,hm⟩
 refine ⟨_,rfl,?_⟩
 have Hx8:=hid (qwr.widen (R':=(fun k=>(R k)∨(New c6 c7 k)∨(New c8 c9 k)∨(New g6 d5 k))) aP (C0 _))
 have j4:=hm.size
 have g9:=hid (show Mod (fun k=>(R k)∨(New c6 c7 k)∨(New c8 c9 k)) g6 d5 from hm)
 clear hm
 clear qwr g7
 refine qe ?_
 clear HA0 c4 c3 a0
 go_wp2
 go_end0
 have hq:=(Hx8.o.widen (R':=(fun k=>R k∨New w d5 k)) dQ (C0 _))
 simp only [C2] at hq
 exact ⟨rfl,by simpa only [dnB,C2] using hq,((HM0.o.trans g8.out iA).trans g9.out bJ)⟩
open Go.Proofs renaming Tryz.func146→va',Tryz.ntmps146→vb',Tryz.underlying125→vc',Tryz.underlying56→vg',Tryz.func106→vj' in
open Go.Proofs.YtnaoeginonpicaaGreat renaming dnB→vd',DnR→ve',PutDn_Q→vk' in
open Go.Gv renaming n'4→vf',z'15→vh',z'9→vi' in
set_option maxHeartbeats 4000000 in
theorem PutList_Dn:PutsL DnR 146 106 dnB:=
 fm13'
set_option maxHeartbeats 4000000 in
theorem PutTb_Q:Puts TbR 137 tbB:=by
 intro R R2 g bs cs x w hW hB hx hB2 hD hl
 obtain ⟨v_l,rfl,hok,hs0⟩:=hx
 have HS0:=B8 hs0
 clear hs0
 have HW:=B8 hW
 have HBR:=B8 hB
 have HBT:=B8 hB2
 have HDJ:=B8 hD
 have HOK:=B8 hok
 have HL:=B8 hl
 clear hW hB hB2 hD hl hok
 unfold tbB at HL
 go_enter Tryz.func137,Tryz.ntmps137
 go_upto_region 1 with (fail)
 obtain ⟨w1,hw1⟩:∃ zz,zz=(w.alloc (.cells (x.cells v_l:List Value).toArray 127)):=⟨_,rfl⟩
 change Code.wp _ _ _ _ (w.alloc (.cells (x.cells v_l:List Value).toArray 127))
 rw [← hw1]
 have HB3:=hid (show Cs w1 (w.heap.size) (x.cells v_l:List Value).toArray 127 by rw [hw1];exact Cs.new _ _ _)
 have hm:Mod (fun _=>False) w w1:=by rw [hw1];exact (Mod.refl _ _).alloc _
 have HM0:=hid (show Mod (fun k=>(R k)) w w1 from hm.mono iB)
 have hs1:w1.heap.size=w.heap.size+1:=by rw [hw1];simp
 have c9:=hid (HW.o.mod hm iA)
 clear HW
 have d6:=hid (HS0.o.mod hm iA)
 clear HS0
 clear hw1 hm
 go_upto_region 1 with (fail)
 refine Ab 12 [4,5,6,7] [0,1,2,3] (fun a0 HA0=>?_)
 have c4:=ev HA0 0 rfl
 have c6:=ev HA0 3 rfl
 refine qmo rfl c4 ?_
 refine qfd rfl 0 E4 c6 ?_
 refine QSeq.pure rfl _ (fun E=>Af rfl B9 rfl (E.d 1 0) (AC HB3.o rfl)) ?_
 refine QSeq.call rfl rfl E6 (B3 c9.out HOK.o aF) (fun E=>Ar (E.d 0 2) (E.d 2 0)) ?_
 rintro e c3 ⟨rfl,qwr,hm⟩
 refine ⟨_,rfl,?_⟩
 have d5:=hid (qwr.widen (R':=(fun k=>(R k)∨(New w1 c3 k))) (fun _ h=>h) (C0 _))
 have d9:=hm.size
 have c7:=hid (show Mod (fun k=>(R k)) w1 c3 from hm)
 clear hm
 clear qwr c9
 refine qe ?_
 clear HA0 c4 c6 a0
 go_upto_region 2 with (fail)
 refine Ab 12 [8,9,10,11] [0,1,2,3] (fun a0 HA0=>?_)
 have c4:=ev HA0 0 rfl
 have c6:=ev HA0 3 rfl
 refine qmo rfl c4 ?_
 refine qfd rfl 1 E4 c6 ?_
 refine QSeq.pure rfl _ (fun E=>Af rfl Tryz.underlying125 rfl (E.d 1 0) (AC (HB3.o.mod c7.out aH) rfl)) ?_
 refine QSeq.call rfl rfl Tryz.func146 (PutList_Dn _ _ _ _ _ _ _ d5.out dT (d6.out.mod c7.out aJ) aU cC aF) (fun E=>args3 (E.d 0 2) (E.d 2 0) rfl) ?_
 rintro e c8 ⟨rfl,qwr,hm⟩
 refine ⟨_,rfl,?_⟩
 have d7:=hid (qwr.widen (R':=(fun k=>(R k)∨(New w1 c3 k)∨(New c3 c8 k))) aP (C0 _))
 have g5:=hm.size
 have d8:=hid (show Mod (fun k=>(R k)∨(New w1 c3 k)) c3 c8 from hm)
 clear hm
 clear qwr d5
 refine qe ?_
 clear HA0 c4 c6 a0
 go_wp2
 go_end0
 have hq:=(d7.out.widen (R':=(fun k=>R k∨New w c8 k)) dU (C0 _))
 simp only [C2] at hq
 exact ⟨rfl,by simpa only [tbB,C2] using hq,((HM0.o.trans c7.out iA).trans d8.out aC)⟩
set_option maxHeartbeats 4000000 in
theorem PutList_Tb:PutsL TbR 136 137 tbB:=by
 intro R R2 g bs v l w hW hB hs hB2 hD hl
 obtain ⟨ao,cap,rfl⟩:=hs.shape
 have hb64:l.length≤maxLen:=hs.bd
 rw [Ax] at hb64
 have HI64:=hid (show I64 (l.length:Int) by unfold I64;omega)
 have HW:=B8 hW
 have HS:=B8 hs
 have HBR:=B8 hB
 have HBT:=B8 hB2
 have HDJ:=B8 hD
 have HL:=B8 hl
 clear hW hB hs hB2 hD hl
 unfold listB at HL
 go_enter Tryz.func136,Tryz.ntmps136
 go_upto_region 0 with (fail)
 have HM0:=hid (Mod.refl (fun k=>(R k)) w)
 go_upto_region 0 with (fail)
 refine Ab 23 [8,9,10,11] [0,1,2,3] (fun a0 HA0=>?_)
 have c3:=ev HA0 0 rfl
 have c7:=ev HA0 1 rfl
 refine qmo rfl c3 ?_
 refine qmo rfl c7 ?_
 refine QSeq.pure rfl (.int .i64 l.length) (fun E=>A2 rfl (E.d 1 0) D0) ?_
 refine QSeq.call rfl rfl E6 (B3 HW.o HI64.o aF) (fun E=>Ar (E.d 0 2) (E.d 2 0)) ?_
 rintro e c4 ⟨rfl,qwr,hm⟩
 refine ⟨_,rfl,?_⟩
 have c8:=hid (qwr.widen (R':=(fun k=>(R k)∨(New w c4 k))) (fun _ h=>h) (C0 _))
 have j0:=hm.size
 have c9:=hid (show Mod (fun k=>(R k)) w c4 from hm)
 clear hm
 clear qwr HW
 refine qe ?_
 clear HA0 c3 c7 a0
 go_wp2
 go_loopw [14] (fun t wr=>∃ k:Nat,t=.int .i64 (k:Int)∧k≤l.length∧c4.heap.size≤wr.heap.size∧WrR (fun b=>R b∨(w.heap.size≤b∧b < wr.heap.size)) 900000 wr g (bs ++ (encI l.length ++ ((l.take k).map tbB).flatten))∧RdS TbR R2 wr (.slice ao l.length cap) l∧Mod R w wr) (fun t _=>l.length - (intOf t).toNat)
 case atStart=>exact ⟨0,rfl,Nat.zero_le _,C0 _,by have hq:=(c8.out.widen (R':=(fun k=>R k∨(w.heap.size≤k∧k < c4.heap.size))) aI (C0 _));simpa only [List.take_zero,C6,List.flatten_nil,List.append_nil] using hq,(HS.o.mod c9.out aJ),(HM0.o.trans c9.out iA)⟩
 case round=>
  obtain ⟨k,rfl,hk,hz,hw,hs,hm⟩:=hrel
  have HW2:=B8 hw
  have HS2:=B8 hs
  have HM2:=B8 hm
  clear hw hs hm c8 HS HM0
  obtain ⟨wo,rfl⟩:∃ x,x=wr:=⟨_,rfl⟩
  by_cases hlt:k < l.length
  ·skip
   obtain ⟨g0,o0,cs,rfl,hrg,hrd,hcs⟩:=HS2.o.at hlt
   have hcl:cs.length=2:=TbR.len hrd
   have HCL:=B8 hcl
   have HAT:=hid (show CellsAt R2 wo g0 (o0+k * 2) cs from ⟨hrg,hcs⟩)
   have HRD:=B8 hrd
   have HOC:=hid (TbR.one hrd)
   clear hcl hcs hrd hrg
   have HE:Hid (bs ++ (encI l.length ++ ((l.take k).map tbB).flatten) ++ tbB l[k]=bs ++ (encI l.length ++ ((l.take (k+1)).map tbB).flatten)):=hid eF
   have HLk:=hid (show (bs ++ (encI l.length ++ ((l.take k).map tbB).flatten) ++ tbB l[k]).length≤900000 by rw [HE.o];exact C4 (put_len _ _ _ _ _) HL.o)
   go_upto_region 3 with (fail)
   refine Ab 23 [16,17,7,26] [0,1,2,3] (fun a0 HA0=>?_)
   have d5:=ev HA0 12 rfl
   have d6:=ev HA0 14 rfl
   refine QSeq.pure rfl (.pointer (some ⟨g0,o0+k * 2,none⟩)) (fun E=>Bq (i:=k) (s:=2) rfl D0 aE (E.v d5) (E.v d6) aL) ?_
   refine QSeq.pure rfl _ (fun E=>Ak rfl E4 rfl (off:=o0+k * 2) (cs:=cs) eS (E.d 0 0) (fun j u hu=>(HAT.o).2 j u hu)) ?_
   refine QSeq.go fun act E=>?_
   refine qc_alloc rfl (Aa rfl) rfl (z:=[.int .i64 0,.slice none 0 0]) aE ?_
   intro g9 qq hm
   have j3:=qq.lt
   have d7:=hid qq
   have j4:=hm.size
   have d8:=hid (show Mod (fun _=>False) wo g9 from hm)
   clear hm
   clear act E qq
   refine QSeq.go fun act E=>?_
   have hlz:(cs).length=List.length ([.int .i64 0,.slice none 0 0]:List Value):=(by rw [HCL.o];rfl)
   refine Am rfl (Aa rfl) rfl d7.out (off:=0) (vs:=cs) dI HOC.o bS (E.d 2 0) (ec (E.d 1 1)) ?_
   intro d9 qc0 hm
   have qq:=qc0.eqv (b:=(cs:List Value).toArray) (Aw #[.int .i64 0,.slice none 0 0] _ eK)
   clear qc0 hlz
   have i7:=hid qq
   have j5:=hm.size
   have i8:=hid hm
   have c6:=hid (AA (S':=(fun _=>False)) d8.out hm (fun _ h=>h) cQ)
   clear hm d8
   clear act E qq d7
   clear i8
   refine qe ?_
   clear HA0 d5 d6 a0
   go_upto_region 4 with (fail)
   refine Ab 23 [18,19,20,21] [0,1,2,3] (fun a0 HA0=>?_)
   have c3:=ev HA0 0 rfl
   have g5:=ev HA0 2 rfl
   have g6:=ev HA0 7 rfl
   refine qmo rfl g5 ?_
   refine qmo rfl c3 ?_
   refine QSeq.pure rfl _ (fun E=>Ak rfl E4 rfl (off:=0) (cs:=cs) eS (E.v g6) (Cs.whole i7.out)) ?_
   refine QSeq.go fun act E=>?_
   have ea19:act.eval (.tmp 19)=.pointer (some ⟨g,0,none⟩):=(E.d 1 1)
   have ea20:act.eval (.tmp 20)=.agg cs.toArray:=(E.d 2 0)
   refine qc_call (args:=#[.pointer (some ⟨g,0,none⟩),.agg cs.toArray]) rfl (Aa rfl) (by rw [ex_callV rfl (E.d 0 2) Tryz.func137 aE aE];exact congrArg (fun z=>Result.ok (Next.enter _ z) _) fH) (PutTb_Q _ _ _ _ _ _ _ (HW2.o.mod c6.out iA) dT (HRD.o.mod c6.out iA) aU cC HLk.o) ?_
   rintro e g7 ⟨rfl,qwr,hm⟩
   refine ⟨_,rfl,?_⟩
   have i9:=hid (qwr.widen (R':=(fun k=>(R k)∨(New w wo k)∨(New d9 g7 k))) aP (C0 _))
   have j6:=hm.size
   have g8:=hid (show Mod (fun k=>(R k)∨(New w wo k)) d9 g7 from hm)
   clear hm
   clear act E qwr HW2 ea19 ea20
   refine qe ?_
   clear HA0 c3 g5 g6 a0
   have hq:=i9.out
   rw [HE.o] at hq
   have HQ:=B8 hq
   clear hq
   go_wp2
   go_roundw
   case rel=>exact ⟨k+1,by go_num,by omega,by omega,(HQ.o.widen (by intro b h1;rcases h1 with h1|h1|h1<;>first|exact Or.inl h1|(right;omega)) (C0 _)),((HS2.o.mod c6.out iA).mod g8.out aA),((HM2.o.trans c6.out iB).trans g8.out aC)⟩
   case measure=>simp [intOf];omega
  ·have hkk:k=l.length:=by omega
   subst hkk
   go_wp2
   go_end0
   have hq:=HW2.o
   rw [List.take_length] at hq
   exact ⟨rfl,hq,HM2.o⟩
set_option maxHeartbeats 4000000 in
theorem PutOp_Q:Puts OpR 105 opB:=by
 intro R R2 g bs cs x w hW hB hx hB2 hD hl
 obtain ⟨v_pl,rfl,hok,hs0⟩:=hx
 have HS0:=B8 hs0
 clear hs0
 have HW:=B8 hW
 have HBR:=B8 hB
 have HBT:=B8 hB2
 have HDJ:=B8 hD
 have HOK:=B8 hok
 have HL:=B8 hl
 clear hW hB hB2 hD hl hok
 unfold opB at HL
 go_enter Tryz.func105,Tryz.ntmps105
 go_upto_region 1 with (fail)
 obtain ⟨w1,hw1⟩:∃ zz,zz=(w.alloc (.cells (x.cells v_pl:List Value).toArray 54)):=⟨_,rfl⟩
 change Code.wp _ _ _ _ (w.alloc (.cells (x.cells v_pl:List Value).toArray 54))
 rw [← hw1]
 have HB3:=hid (show Cs w1 (w.heap.size) (x.cells v_pl:List Value).toArray 54 by rw [hw1];exact Cs.new _ _ _)
 have hm:Mod (fun _=>False) w w1:=by rw [hw1];exact (Mod.refl _ _).alloc _
 have HM0:=hid (show Mod (fun k=>(R k)) w w1 from hm.mono iB)
 have hs1:w1.heap.size=w.heap.size+1:=by rw [hw1];simp
 have c8:=hid (HW.o.mod hm iA)
 clear HW
 have g7:=hid (HS0.o.mod hm iA)
 clear HS0
 clear hw1 hm
 go_upto_region 1 with (fail)
 generalize ha0:Act.mk _ _=a0
 have c9:a0.eval (.tmp 0)=.pointer (some ⟨g,0,none⟩):=by rw [← ha0];rfl
 have c3:a0.eval (.tmp 3)=.pointer (some ⟨w.heap.size,0,none⟩):=by rw [← ha0];rfl
 have hsz0:a0.tmps.size=14:=by rw [← ha0];rfl
 have HA0:=hid ha0
 clear ha0
 refine Bc 14 hsz0 [4,5,6,7,8,9,10,11,12,13] (fun k=>(R k)) (fun k j=>(k=0∧((R j)))∨(k=1∧((R j)))∨(k=2∧((R j)))) dW [qi (.pointer (some ⟨g,0,none⟩)),qi (.pointer (some ⟨w.heap.size,0,none⟩)),qi (.int .i64 x.ix),qi (.pointer (some ⟨g,0,none⟩)),qi (.pointer (some ⟨w.heap.size,1,none⟩)),qi (v_pl),qi (.pointer (some ⟨g,0,none⟩)),qi (.pointer (some ⟨w.heap.size,2,none⟩)),qi (hv x.nc),qi (.pointer (some ⟨g,0,none⟩))] ⟨Ac,Ac,Ac,Ac,Ac,Ac,Ac,Ac,Ac,Ac,trivial⟩ [3,6,9] ⟨?_,?_,?_,?_,?_,?_,?_,?_,?_,?_,trivial⟩ ?_
 ·exact stq (fun E=>Al rfl (E.v c9))
 ·exact stq (fun E=>Ae rfl Tryz.underlying54 rfl aE (E.v c3))
 ·exact stq (fun E=>Af rfl B9 rfl (E.d 1) (Cs.hd1 (HB3.o.mod E.m aN) rfl))
 ·exact Ad rfl
 ·exact stq (fun E=>Ae rfl Tryz.underlying54 rfl aE (E.v c3))
 ·exact stq (fun E=>Af rfl D2 rfl (E.d 4) (Cs.hd1 (HB3.o.mod E.m aN) rfl))
 ·exact Ad rfl
 ·exact stq (fun E=>Ae rfl Tryz.underlying54 rfl aE (E.v c3))
 ·exact stq (fun E=>Ak rfl D8 rfl (off:=2) (cs:=x.nc.map bv) (by rw [List.length_map,HOK.o.2.1];exact size_hash) (E.d 7) (Cs.tlA (HB3.o.mod E.m aN) rfl))
 ·exact Ad rfl
 intro c4 hr
 have i9:=hr.size
 have d5:=hid (hr.new (S:=(fun k=>(R k))))
 have d6:=hid (c8.out.mod hr aO)
 clear c8
 clear hr
 refine QChain.go fun Z act E=>?_
 refine Aj (args:=#[.pointer (some ⟨g,0,none⟩),.int .i64 x.ix]) rfl (Aa rfl) rfl E6 (Ar (E.d 0) (E.d 2)) (B3 d6.out HOK.o.1 aF) ?_
 rintro e c6 ⟨rfl,qwr,hm⟩
 have j0:=hm.size
 refine ⟨_,rfl,hm.mono aW,(fun _=>rfl),?_⟩
 intro d7 hr
 have j3:=hr.size
 have d8:=hid ((qwr.widen (R':=(fun k=>(R k)∨(New c4 c6 k))) (fun _ h=>h) (C0 _)).mod hr bH)
 have c7:=hid (d5.out.goM hm hr iA)
 clear d5 hm hr Z act E qwr d6
 refine QChain.go fun Z act E=>?_
 refine Aj (args:=#[.pointer (some ⟨g,0,none⟩),v_pl]) rfl (Aa rfl) rfl Tryz.func107 (Ar (E.d 3) (E.d 5)) (WRow_Q d8.out (g7.out.mod c7.out aJ) aA aF) ?_
 rintro e d9 ⟨rfl,qwr,hm⟩
 have j4:=hm.size
 refine ⟨_,rfl,hm.mono bX,(fun _=>rfl),?_⟩
 intro g8 hr
 have j5:=hr.size
 have g5:=hid ((qwr.widen (R':=(fun k=>(R k)∨(New c4 c6 k)∨(New d7 d9 k))) aP (C0 _)).mod hr bG)
 have g6:=hid (c7.out.goM hm hr bY)
 clear c7 hm hr Z act E qwr d8
 refine QChain.go fun Z act E=>?_
 refine Aj (args:=#[.pointer (some ⟨g,0,none⟩),hv x.nc]) rfl (Aa rfl) rfl Tryz.func130 (Ar (E.d 6) (E.d 8)) (WHash_Q g5.out HOK.o.2 aF) ?_
 rintro e g9 ⟨rfl,qwr,hm⟩
 have j6:=hm.size
 refine ⟨_,rfl,hm.mono dL,(fun _=>rfl),?_⟩
 intro i7 hr
 have j7:=hr.size
 have Hx9:=hid ((qwr.widen (R':=(fun k=>(R k)∨(New c4 c6 k)∨(New d7 d9 k)∨(New g8 g9 k))) aP (C0 _)).mod hr bT)
 have i8:=hid (g6.out.goM hm hr dK)
 clear g6 hm hr Z act E qwr g5
 refine QChain.nil fun vs hl hzz hrows hne=>?_
 obtain ⟨Z,hYZ,hZb,hV⟩:=hzz
 have f0:=fvi hV hl 0
 have f3:=fvi hV hl 3
 have f6:=fvi hV hl 6
 have f9:=fvi hV hl 9
 rw [show vs=[gw vs 0,gw vs 1,gw vs 2,gw vs 3,gw vs 4,gw vs 5,gw vs 6,gw vs 7,gw vs 8,gw vs 9] from (Bi hl).trans rfl]
 have ha0:=HA0.o
 subst ha0
 clear HA0 hV hYZ hZb hsz0 hrows hne c9 c3
 simp only [Au,Act.put,sIB,sCZ,sCS,f0,f3,f6,f9]
 clear hl f0 f3 f6 f9
 go_wp2
 go_end0
 have hq:=(Hx9.o.widen (R':=(fun k=>R k∨New w i7 k)) dQ (C0 _))
 simp only [C2] at hq
 exact ⟨rfl,by simpa only [opB,C2] using hq,(HM0.o.trans i8.out iA)⟩
open Go.Proofs renaming Tryz.func135→va',Tryz.ntmps135→vb',Tryz.underlying42→vc',Tryz.underlying54→vg',Tryz.func105→vj' in
open Go.Proofs.YtnaoeginonpicaaGreat renaming opB→vd',OpR→ve',PutOp_Q→vk' in
open Go.Gv renaming n'34→vf',z'17→vh',z'18→vi' in
set_option maxHeartbeats 4000000 in
theorem PutList_Op:PutsL OpR 135 105 opB:=
 fm13'
open Go.Proofs renaming Tryz.func133→va',Tryz.ntmps133→vb',Tryz.underlying38→vc',Tryz.underlying35→vf',Tryz.func99→vi' in
open Go.Proofs.YtnaoeginonpicaaGreat renaming ceB→vd',CeR→ve',PutCe_Q→vj' in
open Go.Gv renaming z'2→vg',z'3→vh' in
set_option maxHeartbeats 4000000 in
theorem PutList_Ce:PutsL CeR 133 99 ceB:=
 fm2'
set_option maxHeartbeats 4000000 in
theorem PutPm_Q:Puts PmR 101 pmB:=by
 intro R R2 g bs cs x w hW hB hx hB2 hD hl
 obtain ⟨v_l,rfl,hok,hs0⟩:=hx
 have HS0:=B8 hs0
 clear hs0
 have HW:=B8 hW
 have HBR:=B8 hB
 have HBT:=B8 hB2
 have HDJ:=B8 hD
 have HOK:=B8 hok
 have HL:=B8 hl
 clear hW hB hB2 hD hl hok
 unfold pmB at HL
 go_enter Tryz.func101,Tryz.ntmps101
 go_upto_region 1 with (fail)
 obtain ⟨w1,hw1⟩:∃ zz,zz=(w.alloc (.cells (x.cells v_l:List Value).toArray 40)):=⟨_,rfl⟩
 change Code.wp _ _ _ _ (w.alloc (.cells (x.cells v_l:List Value).toArray 40))
 rw [← hw1]
 have HB3:=hid (show Cs w1 (w.heap.size) (x.cells v_l:List Value).toArray 40 by rw [hw1];exact Cs.new _ _ _)
 have hm:Mod (fun _=>False) w w1:=by rw [hw1];exact (Mod.refl _ _).alloc _
 have HM0:=hid (show Mod (fun k=>(R k)) w w1 from hm.mono iB)
 have hs1:w1.heap.size=w.heap.size+1:=by rw [hw1];simp
 have g6:=hid (HW.o.mod hm iA)
 clear HW
 have j4:=hid (HS0.o.mod hm iA)
 clear HS0
 clear hw1 hm
 go_upto_region 1 with (fail)
 generalize ha0:Act.mk _ _=a0
 have c4:a0.eval (.tmp 0)=.pointer (some ⟨g,0,none⟩):=by rw [← ha0];rfl
 have c3:a0.eval (.tmp 3)=.pointer (some ⟨w.heap.size,0,none⟩):=by rw [← ha0];rfl
 have hsz0:a0.tmps.size=22:=by rw [← ha0];rfl
 have HA0:=hid ha0
 clear ha0
 refine Bc 22 hsz0 [4,5,6,7,8,9,10,11,12,13] (fun k=>(R k)) (fun k j=>(k=0∧((R j)))∨(k=1∧((R j)))∨(k=2∧((R j)))) dW [qi (.pointer (some ⟨g,0,none⟩)),qi (.pointer (some ⟨w.heap.size,0,none⟩)),qi (.int .i64 x.rp),qi (.pointer (some ⟨g,0,none⟩)),qi (.pointer (some ⟨w.heap.size,1,none⟩)),qi (.int .i64 x.ep),qi (.pointer (some ⟨g,0,none⟩)),qi (.pointer (some ⟨w.heap.size,2,none⟩)),qi (.int .u64 (x.fl:Nat)),qi (.pointer (some ⟨g,0,none⟩))] ⟨Ac,Ac,Ac,Ac,Ac,Ac,Ac,Ac,Ac,Ac,trivial⟩ [3,6,9] ⟨?_,?_,?_,?_,?_,?_,?_,?_,?_,?_,trivial⟩ ?_
 ·exact stq (fun E=>Al rfl (E.v c4))
 ·exact stq (fun E=>Ae rfl Tryz.underlying40 rfl aE (E.v c3))
 ·exact stq (fun E=>Af rfl B9 rfl (E.d 1) (AC (HB3.o.mod E.m aN) rfl))
 ·exact Ad rfl
 ·exact stq (fun E=>Ae rfl Tryz.underlying40 rfl aE (E.v c3))
 ·exact stq (fun E=>Af rfl B9 rfl (E.d 4) (AC (HB3.o.mod E.m aN) rfl))
 ·exact Ad rfl
 ·exact stq (fun E=>Ae rfl Tryz.underlying40 rfl aE (E.v c3))
 ·exact stq (fun E=>Af rfl E0 rfl (E.d 7) (AC (HB3.o.mod E.m aN) rfl))
 ·exact Ad rfl
 intro c6 hr
 have j7:=hr.size
 have g7:=hid (hr.new (S:=(fun k=>(R k))))
 have g8:=hid (g6.out.mod hr aO)
 clear g6
 clear hr
 refine QChain.go fun Z act E=>?_
 refine Aj (args:=#[.pointer (some ⟨g,0,none⟩),.int .i64 x.rp]) rfl (Aa rfl) rfl E6 (Ar (E.d 0) (E.d 2)) (B3 g8.out HOK.o.1 aF) ?_
 rintro e c7 ⟨rfl,qwr,hm⟩
 have j8:=hm.size
 refine ⟨_,rfl,hm.mono aW,(fun _=>rfl),?_⟩
 intro c8 hr
 have j9:=hr.size
 have g9:=hid ((qwr.widen (R':=(fun k=>(R k)∨(New c6 c7 k))) (fun _ h=>h) (C0 _)).mod hr bH)
 have i7:=hid (g7.out.goM hm hr iA)
 clear g7 hm hr Z act E qwr g8
 refine QChain.go fun Z act E=>?_
 refine Aj (args:=#[.pointer (some ⟨g,0,none⟩),.int .i64 x.ep]) rfl (Aa rfl) rfl E6 (Ar (E.d 3) (E.d 5)) (B3 g9.out HOK.o.2.1 aF) ?_
 rintro e c9 ⟨rfl,qwr,hm⟩
 have l7:=hm.size
 refine ⟨_,rfl,hm.mono bX,(fun _=>rfl),?_⟩
 intro d6 hr
 have l8:=hr.size
 have i8:=hid ((qwr.widen (R':=(fun k=>(R k)∨(New c6 c7 k)∨(New c8 c9 k))) aP (C0 _)).mod hr bG)
 have i9:=hid (i7.out.goM hm hr bY)
 clear i7 hm hr Z act E qwr g9
 refine QChain.go fun Z act E=>?_
 refine Aj (args:=#[.pointer (some ⟨g,0,none⟩),.int .u64 (x.fl:Nat)]) rfl (Aa rfl) rfl Tryz.func96 (Ar (E.d 6) (E.d 8)) (WNum_Q i8.out HOK.o.2.2.1 aF) ?_
 rintro e d7 ⟨rfl,qwr,hm⟩
 have m7:=hm.size
 refine ⟨_,rfl,hm.mono dL,(fun _=>rfl),?_⟩
 intro d8 hr
 have m8:=hr.size
 have Hx9:=hid ((qwr.widen (R':=(fun k=>(R k)∨(New c6 c7 k)∨(New c8 c9 k)∨(New d6 d7 k))) aP (C0 _)).mod hr bT)
 have d9:=hid (i9.out.goM hm hr dK)
 clear i9 hm hr Z act E qwr i8
 refine QChain.nil fun vs hl hzz hrows hne=>?_
 obtain ⟨Z,hYZ,hZb,hV⟩:=hzz
 have f0:=fvi hV hl 0
 have f3:=fvi hV hl 3
 have f6:=fvi hV hl 6
 have f9:=fvi hV hl 9
 rw [show vs=[gw vs 0,gw vs 1,gw vs 2,gw vs 3,gw vs 4,gw vs 5,gw vs 6,gw vs 7,gw vs 8,gw vs 9] from (Bi hl).trans rfl]
 have ha0:=HA0.o
 subst ha0
 clear HA0 hV hYZ hZb hsz0 hrows hne c4 c3
 simp only [Au,Act.put,sIB,sCZ,sCS,f0,f3,f6,f9]
 clear hl f0 f3 f6 f9
 go_upto_region 2 with (fail)
 refine Ab 22 [14,15,16,17] [0,1,2,3] (fun a0 HA0=>?_)
 have c4:=ev HA0 0 rfl
 have c3:=ev HA0 3 rfl
 refine qmo rfl c4 ?_
 refine qfd rfl 3 Tryz.underlying40 c3 ?_
 refine QSeq.pure rfl _ (fun E=>Af rfl Tryz.underlying38 rfl (E.d 1 0) (AC (HB3.o.mod d9.out aH) rfl)) ?_
 refine QSeq.call rfl rfl Tryz.func133 (PutList_Ce _ _ _ _ _ _ _ Hx9.o dH (j4.out.mod d9.out aJ) aU cA aF) (fun E=>args3 (E.d 0 2) (E.d 2 0) rfl) ?_
 rintro e d5 ⟨rfl,qwr,hm⟩
 refine ⟨_,rfl,?_⟩
 have j0:=hid (qwr.widen (R':=(fun k=>(R k)∨(New c6 c7 k)∨(New c8 c9 k)∨(New d6 d7 k)∨(New d8 d5 k))) aP (C0 _))
 have m9:=hm.size
 have j3:=hid (show Mod (fun k=>(R k)∨(New c6 c7 k)∨(New c8 c9 k)∨(New d6 d7 k)) d8 d5 from hm)
 clear hm
 clear qwr Hx9
 refine qe ?_
 clear HA0 c4 c3 a0
 go_upto_region 3 with (fail)
 refine Ab 22 [18,19,20,21] [0,1,2,3] (fun a0 HA0=>?_)
 have c4:=ev HA0 0 rfl
 have c3:=ev HA0 3 rfl
 refine qmo rfl c4 ?_
 refine qfd rfl 4 Tryz.underlying40 c3 ?_
 refine QSeq.pure rfl _ (fun E=>Ak rfl Tryz.underlying27 rfl (off:=4) (cs:=[.int .i64 x.sb,.int .i64 x.mr]) aE (E.d 1 0) (AK ((HB3.o.mod d9.out aH).mod j3.out hO) rfl)) ?_
 refine QSeq.call rfl rfl Tryz.func131 (PutSig_Q j0.out eI HOK.o.2.2.2.1 HOK.o.2.2.2.2 aF) (fun E=>Ar (E.d 0 2) (E.d 2 0)) ?_
 rintro e g5 ⟨rfl,qwr,hm⟩
 refine ⟨_,rfl,?_⟩
 have j5:=hid (qwr.widen (R':=(fun k=>(R k)∨(New c6 c7 k)∨(New c8 c9 k)∨(New d6 d7 k)∨(New d8 d5 k)∨(New d5 g5 k))) aP (C0 _))
 have n5:=hm.size
 have j6:=hid (show Mod (fun k=>(R k)∨(New c6 c7 k)∨(New c8 c9 k)∨(New d6 d7 k)∨(New d8 d5 k)) d5 g5 from hm)
 clear hm
 clear qwr j0
 refine qe ?_
 clear HA0 c4 c3 a0
 go_wp2
 go_end0
 have hq:=(j5.out.widen (R':=(fun k=>R k∨New w g5 k)) gY (C0 _))
 simp only [C2] at hq
 exact ⟨rfl,by simpa only [pmB,C2] using hq,(((HM0.o.trans d9.out iA).trans j3.out cU).trans j6.out eB)⟩
open Go.Proofs renaming Tryz.func134→va',Tryz.ntmps134→vb',Tryz.underlying41→vc',Tryz.underlying40→vg',Tryz.func101→vj' in
open Go.Proofs.YtnaoeginonpicaaGreat renaming pmB→vd',PmR→ve',PutPm_Q→vk' in
open Go.Gv renaming n'6→vf',z'20→vh',z'21→vi' in
set_option maxHeartbeats 4000000 in
theorem PutList_Pm:PutsL PmR 134 101 pmB:=
 fm13'
set_option maxHeartbeats 4000000 in
theorem PutBa_Q:Puts BaR 108 baB:=by
 intro R R2 g bs cs x w hW hB hx hB2 hD hl
 obtain ⟨v_ps,v_os,v_ts,rfl,hok,hs0,hs1,hs2⟩:=hx
 have HS0:=B8 hs0
 clear hs0
 have HS1:=B8 hs1
 clear hs1
 have HS2:=B8 hs2
 clear hs2
 have HW:=B8 hW
 have HBR:=B8 hB
 have HBT:=B8 hB2
 have HDJ:=B8 hD
 have HOK:=B8 hok
 have HL:=B8 hl
 clear hW hB hB2 hD hl hok
 unfold baB at HL
 go_enter Tryz.func108,Tryz.ntmps108
 go_upto_region 1 with (fail)
 obtain ⟨w1,hw1⟩:∃ zz,zz=(w.alloc (.cells (x.cells v_ps v_os v_ts:List Value).toArray 45)):=⟨_,rfl⟩
 change Code.wp _ _ _ _ (w.alloc (.cells (x.cells v_ps v_os v_ts:List Value).toArray 45))
 rw [← hw1]
 have HB3:=hid (show Cs w1 (w.heap.size) (x.cells v_ps v_os v_ts:List Value).toArray 45 by rw [hw1];exact Cs.new _ _ _)
 have hm:Mod (fun _=>False) w w1:=by rw [hw1];exact (Mod.refl _ _).alloc _
 have HM0:=hid (show Mod (fun k=>(R k)) w w1 from hm.mono iB)
 have hs1:w1.heap.size=w.heap.size+1:=by rw [hw1];simp
 have g7:=hid (HW.o.mod hm iA)
 clear HW
 have j3:=hid (HS0.o.mod hm iA)
 clear HS0
 have j4:=hid (HS1.o.mod hm iA)
 clear HS1
 have j5:=hid (HS2.o.mod hm iA)
 clear HS2
 clear hw1 hm
 go_upto_region 1 with (fail)
 generalize ha0:Act.mk _ _=a0
 have c4:a0.eval (.tmp 0)=.pointer (some ⟨g,0,none⟩):=by rw [← ha0];rfl
 have c3:a0.eval (.tmp 3)=.pointer (some ⟨w.heap.size,0,none⟩):=by rw [← ha0];rfl
 have hsz0:a0.tmps.size=23:=by rw [← ha0];rfl
 have HA0:=hid ha0
 clear ha0
 refine Bc 23 hsz0 [4,5,6,7,8,9,10] (fun k=>(R k)) (fun k j=>(k=0∧((R j)))∨(k=1∧((R j)))) cL [qi (.pointer (some ⟨g,0,none⟩)),qi (.pointer (some ⟨w.heap.size,0,none⟩)),qi (.int .i64 x.ep),qi (.pointer (some ⟨g,0,none⟩)),qi (.pointer (some ⟨w.heap.size,1,none⟩)),qi (.int .u64 (x.tm:Nat)),qi (.pointer (some ⟨g,0,none⟩))] ⟨Ac,Ac,Ac,Ac,Ac,Ac,Ac,trivial⟩ [3,6] ⟨?_,?_,?_,?_,?_,?_,?_,trivial⟩ ?_
 ·exact stq (fun E=>Al rfl (E.v c4))
 ·exact stq (fun E=>Ae rfl C7 rfl aE (E.v c3))
 ·exact stq (fun E=>Af rfl B9 rfl (E.d 1) (AC (HB3.o.mod E.m aN) rfl))
 ·exact Ad rfl
 ·exact stq (fun E=>Ae rfl C7 rfl aE (E.v c3))
 ·exact stq (fun E=>Af rfl E0 rfl (E.d 4) (AC (HB3.o.mod E.m aN) rfl))
 ·exact Ad rfl
 intro c7 hr
 have j8:=hr.size
 have g8:=hid (hr.new (S:=(fun k=>(R k))))
 have g9:=hid (g7.out.mod hr aO)
 clear g7
 clear hr
 refine QChain.go fun Z act E=>?_
 refine Aj (args:=#[.pointer (some ⟨g,0,none⟩),.int .i64 x.ep]) rfl (Aa rfl) rfl E6 (Ar (E.d 0) (E.d 2)) (B3 g9.out HOK.o.1 aF) ?_
 rintro e c8 ⟨rfl,qwr,hm⟩
 have j9:=hm.size
 refine ⟨_,rfl,hm.mono aW,(fun _=>rfl),?_⟩
 intro c9 hr
 have l7:=hr.size
 have i7:=hid ((qwr.widen (R':=(fun k=>(R k)∨(New c7 c8 k))) (fun _ h=>h) (C0 _)).mod hr bH)
 have i8:=hid (g8.out.goM hm hr iA)
 clear g8 hm hr Z act E qwr g9
 refine QChain.go fun Z act E=>?_
 refine Aj (args:=#[.pointer (some ⟨g,0,none⟩),.int .u64 (x.tm:Nat)]) rfl (Aa rfl) rfl Tryz.func96 (Ar (E.d 3) (E.d 5)) (WNum_Q i7.out HOK.o.2 aF) ?_
 rintro e d5 ⟨rfl,qwr,hm⟩
 have l8:=hm.size
 refine ⟨_,rfl,hm.mono cN,(fun _=>rfl),?_⟩
 intro d7 hr
 have m7:=hr.size
 have Hx9:=hid ((qwr.widen (R':=(fun k=>(R k)∨(New c7 c8 k)∨(New c9 d5 k))) aP (C0 _)).mod hr bG)
 have d6:=hid (i8.out.goM hm hr bY)
 clear i8 hm hr Z act E qwr i7
 refine QChain.nil fun vs hl hzz hrows hne=>?_
 obtain ⟨Z,hYZ,hZb,hV⟩:=hzz
 have f0:=fvi hV hl 0
 have f3:=fvi hV hl 3
 have f6:=fvi hV hl 6
 rw [show vs=[gw vs 0,gw vs 1,gw vs 2,gw vs 3,gw vs 4,gw vs 5,gw vs 6] from (Bi hl).trans rfl]
 have ha0:=HA0.o
 subst ha0
 clear HA0 hV hYZ hZb hsz0 hrows hne c4 c3
 simp only [Au,Act.put,sIB,sCZ,sCS,f0,f3,f6]
 clear hl f0 f3 f6
 go_upto_region 2 with (fail)
 refine Ab 23 [11,12,13,14] [0,1,2,3] (fun a0 HA0=>?_)
 have c4:=ev HA0 0 rfl
 have c3:=ev HA0 3 rfl
 refine qmo rfl c4 ?_
 refine qfd rfl 2 C7 c3 ?_
 refine QSeq.pure rfl _ (fun E=>Af rfl Tryz.underlying41 rfl (E.d 1 0) (AC (HB3.o.mod d6.out aH) rfl)) ?_
 refine QSeq.call rfl rfl Tryz.func134 (PutList_Pm _ _ _ _ _ _ _ Hx9.o eR (j3.out.mod d6.out aJ) aU dZ aF) (fun E=>args3 (E.d 0 2) (E.d 2 0) rfl) ?_
 rintro e c6 ⟨rfl,qwr,hm⟩
 refine ⟨_,rfl,?_⟩
 have i9:=hid (qwr.widen (R':=(fun k=>(R k)∨(New c7 c8 k)∨(New c9 d5 k)∨(New d7 c6 k))) aP (C0 _))
 have m8:=hm.size
 have d9:=hid (show Mod (fun k=>(R k)∨(New c7 c8 k)∨(New c9 d5 k)) d7 c6 from hm)
 clear hm
 clear qwr Hx9
 refine qe ?_
 clear HA0 c4 c3 a0
 go_upto_region 3 with (fail)
 refine Ab 23 [15,16,17,18] [0,1,2,3] (fun a0 HA0=>?_)
 have c4:=ev HA0 0 rfl
 have c3:=ev HA0 3 rfl
 refine qmo rfl c4 ?_
 refine qfd rfl 3 C7 c3 ?_
 refine QSeq.pure rfl _ (fun E=>Af rfl Tryz.underlying42 rfl (E.d 1 0) (AC ((HB3.o.mod d6.out aH).mod d9.out bP) rfl)) ?_
 refine QSeq.call rfl rfl Tryz.func135 (PutList_Op _ _ _ _ _ _ _ i9.out dH ((j4.out.mod d6.out aJ).mod d9.out cB) aU cA aF) (fun E=>args3 (E.d 0 2) (E.d 2 0) rfl) ?_
 rintro e d8 ⟨rfl,qwr,hm⟩
 refine ⟨_,rfl,?_⟩
 have j0:=hid (qwr.widen (R':=(fun k=>(R k)∨(New c7 c8 k)∨(New c9 d5 k)∨(New d7 c6 k)∨(New c6 d8 k))) aP (C0 _))
 have m9:=hm.size
 have g5:=hid (show Mod (fun k=>(R k)∨(New c7 c8 k)∨(New c9 d5 k)∨(New d7 c6 k)) c6 d8 from hm)
 clear hm
 clear qwr i9
 refine qe ?_
 clear HA0 c4 c3 a0
 go_upto_region 4 with (fail)
 refine Ab 23 [19,20,21,22] [0,1,2,3] (fun a0 HA0=>?_)
 have c4:=ev HA0 0 rfl
 have c3:=ev HA0 3 rfl
 refine qmo rfl c4 ?_
 refine qfd rfl 4 C7 c3 ?_
 refine QSeq.pure rfl _ (fun E=>Af rfl D0 rfl (E.d 1 0) (AC (((HB3.o.mod d6.out aH).mod d9.out bP).mod g5.out hO) rfl)) ?_
 refine QSeq.call rfl rfl Tryz.func136 (PutList_Tb _ _ _ _ _ _ _ j0.out eI (((j5.out.mod d6.out aJ).mod d9.out cB).mod g5.out (by intro k h1 h2;rcases h2 with h2|h2|h2|h2<;>first|omega|(have hb:=HBT.o k h1;omega)|(have hb:=HBR.o k h2;omega)|exact HDJ.o k h1 h2|exact HDJ.o k h2 h1|(have hb:=HBT.o k h1;have hb2:=HBR.o k h2;omega))) aU dX aF) (fun E=>args3 (E.d 0 2) (E.d 2 0) rfl) ?_
 rintro e g6 ⟨rfl,qwr,hm⟩
 refine ⟨_,rfl,?_⟩
 have j6:=hid (qwr.widen (R':=(fun k=>(R k)∨(New c7 c8 k)∨(New c9 d5 k)∨(New d7 c6 k)∨(New c6 d8 k)∨(New d8 g6 k))) aP (C0 _))
 have n5:=hm.size
 have j7:=hid (show Mod (fun k=>(R k)∨(New c7 c8 k)∨(New c9 d5 k)∨(New d7 c6 k)∨(New c6 d8 k)) d8 g6 from hm)
 clear hm
 clear qwr j0
 refine qe ?_
 clear HA0 c4 c3 a0
 go_wp2
 go_end0
 have hq:=(j6.out.widen (R':=(fun k=>R k∨New w g6 k)) gY (C0 _))
 simp only [C2] at hq
 exact ⟨rfl,by simpa only [baB,C2] using hq,((((HM0.o.trans d6.out iA).trans d9.out bJ).trans g5.out cU).trans j7.out eB)⟩
/-- a function from a thing to bytes; to a hash -/
def Makes {α:Type} (A:Rep α) (F:FuncId) (f:α→List Int):Prop:=∀ (R2:Nat→Prop) (cs:List Value) (x:α) (w:World),A.rd R2 w cs x→(∀ k,R2 k→k < w.heap.size)→(f x).length≤900000→
 Calls Tryz.prog F #[.agg cs.toArray] w fun e w'=>∃ v',e=.returned v'∧OwR (New w w') 900000 w' v' (f x)∧Mod (fun _=>False) w w'
def Hashes {α:Type} (A:Rep α) (F:FuncId) (f:α→List Int):Prop:=∀ (R2:Nat→Prop) (cs:List Value) (x:α) (w:World),A.rd R2 w cs x→(∀ k,R2 k→k < w.heap.size)→(f x).length≤900000→
 Calls Tryz.prog F #[.agg cs.toArray] w fun e w'=>e=.returned (hv (shaF (f x)))∧Mod (fun _=>False) w w'
end Go.Proofs.YtnaoeginonpicaaGreat
