/- Texts that are built one behind the other: XReg, XLift, XFits, XIdx, XArith, XQ2, XQ4, XQ5, XS, XRef1, XJoin, XQ3, XSha1, XSha2, XSha3, XSha4, XActs, XLoc, XPlain2, XOwV, XNums, XSha5, XWc, XCm1, XCm2, XSet0, XTy, XCut1, XCut2, XCut3. No condition. -/
import Derived.Test.YtnaoeginonpicaaGreatMaF1
import Derived.ProofKit
import Derived.OpenShut
import Derived.ChangeOld
import Derived.Deep.Slices
import Derived.Laws.Small
import Derived.Lib.ConvBytes
import Derived.IntWalk
import Derived.Deep.Cut
import Derived.Deep.RegionHeld3
set_option maxRecDepth 100000
set_option linter.unusedVariables false
open List renaming setIfInBounds_toArray → sIB, set_cons_zero → sCZ, set_cons_succ → sCS
/- The contracts once more, each object with the blocks in which it lives (R): so that what one call does to one object leaves the others. -/
namespace Go.Proofs.YtnaoeginonpicaaGreat
open Go Go.RowKit Go.Gv
/-- a list of bytes (at most N) that is only read; its block, where it has one that matters, is in R -/
def RdR (R:Nat→Prop) (N:Nat) (w:World) (v:Value) (bs:List Int):Prop:=RdB w v bs∧(0 < bs.length→∀ g,v.ownBlock=some g→R g)∧bs.length≤N
/-- a list of bytes that may be appended to, spoilt -/
def OwR (R:Nat→Prop) (N:Nat) (w:World) (v:Value) (bs:List Int):Prop:=OwnB w v bs∧(∀ g,v.ownBlock=some g→R g)∧bs.length≤N
def WrR (R:Nat→Prop) (N:Nat) (w:World) (b:Nat) (bs:List Int):Prop:=∃ v,Wr w b v bs∧R b∧(∀ g,v.ownBlock=some g→R g)∧bs.length≤N
def RrR (T:TypeId) (R:Nat→Prop) (w:World) (r:Nat) (s:RSt):Prop:=∃ v,Rr T w r v s∧R r∧(0 < (s.getD []).length→∀ g,v.ownBlock=some g→R g)
section
variable {R R' S:Nat→Prop} {N M:Nat} {w w':World} {v:Value} {bs:List Int} {b r:Nat} {s:RSt} {T:TypeId}
theorem RdR.mod (h:RdR R N w v bs) (hm:Mod S w w') (hs:∀ k,R k→S k→False):RdR R N w' v bs:=⟨h.1.mod hm (fun h0 g hg hS=>hs g (h.2.1 h0 g hg) hS),h.2⟩
theorem RdR.widen (h:RdR R N w v bs) (hs:∀ k,R k→R' k) (hM:N≤M):RdR R' M w v bs:=⟨h.1,fun h0 g hg=>hs g (h.2.1 h0 g hg),Nat.le_trans h.2.2 hM⟩
theorem OwR.mod (h:OwR R N w v bs) (hm:Mod S w w') (hs:∀ k,R k→S k→False):OwR R N w' v bs:=⟨OwnB.mod h.1 hm (fun g hg hS=>hs g (h.2.1 g hg) hS),h.2⟩
theorem OwR.widen (h:OwR R N w v bs) (hs:∀ k,R k→R' k) (hM:N≤M):OwR R' M w v bs:=⟨h.1,fun g hg=>hs g (h.2.1 g hg),Nat.le_trans h.2.2 hM⟩
theorem OwR.rd (h:OwR R N w v bs):RdR R N w v bs:=⟨h.1.rd,fun _=>h.2.1,h.2.2⟩
theorem WrR.mod (h:WrR R N w b bs) (hm:Mod S w w') (hs:∀ k,R k→S k→False):WrR R N w' b bs:=by
 obtain ⟨v,h1,h2,h3,h4⟩:=h
 exact ⟨v,h1.mod hm (hs b h2) (fun g hg=>hs g (h3 g hg)),h2,h3,h4⟩
theorem WrR.widen (h:WrR R N w b bs) (hs:∀ k,R k→R' k) (hM:N≤M):WrR R' M w b bs:=by
 obtain ⟨v,h1,h2,h3,h4⟩:=h
 exact ⟨v,h1,hs b h2,fun g hg=>hs g (h3 g hg),Nat.le_trans h4 hM⟩
theorem RrR.mod (h:RrR T R w r s) (hm:Mod S w w') (hs:∀ k,R k→S k→False):RrR T R w' r s:=by
 obtain ⟨v,h1,h2,h3⟩:=h
 exact ⟨v,h1.mod hm (hs r h2) (fun h0 g hg=>hs g (h3 h0 g hg)),h2,h3⟩
theorem RrR.widen (h:RrR T R w r s) (hs:∀ k,R k→R' k):RrR T R' w r s:=by
 obtain ⟨v,h1,h2,h3⟩:=h
 exact ⟨v,h1,hs r h2,fun h0 g hg=>hs g (h3 h0 g hg)⟩
theorem RdR.len {ao:Option Addr} {n cap:Nat} (h:RdR R N w (.slice ao n cap) bs):n=bs.length:=h.1.len.1
theorem RdR.shape (h:RdR R N w v bs):∃ ao cap,v=.slice ao bs.length cap:=by obtain ⟨ao,cap,e,_⟩:=h.1.shape;exact ⟨ao,cap,e⟩
theorem OwR.shape (h:OwR R N w v bs):∃ ao cap,v=.slice ao bs.length cap:=h.rd.shape
end
/-- what is new in w' -/
abbrev New (w w':World) (k:Nat):Prop:=w.heap.size≤k∧k < w'.heap.size
theorem OwR_of {w w':World} {v:Value} {bs:List Int} (N:Nat) (h:OwnB w' v bs) (hf:Fresh w v) (hN:bs.length≤N):OwR (New w w') N w' v bs:=⟨h,fun g hg=>⟨hf g hg,Own.lt h hg⟩,hN⟩
theorem Cut_R {R:Nat→Prop} {N:Nat} {v:Value} {bs:List Int} (n:Nat) {w:World} (hr:RdR R N w v bs) (hn:n≤1000000) :
 Calls Tryz.prog 9 #[v,.int .i64 n] w fun e w'=>∃ v',e=.returned v'∧OwR (New w w') n w' v' (bs.take n)∧Mod (fun _=>False) w w':=by
 obtain ⟨ao,cap,rfl⟩:=hr.shape
 exact (Cut_any ao _ cap bs n w hr.1 hn).mono fun e w' ⟨ao',cap',he,ho,hf,hm⟩=>⟨_,he,OwR_of n ho hf (by simp;omega),hm⟩
theorem Same_R {R R':Nat→Prop} {N N':Nat} {va vb:Value} {a b:List Int} {w:World} (ha:RdR R N w va a) (hb:RdR R' N' w vb b) :
 Calls Tryz.prog 17 #[va,vb] w fun e w'=>e=.returned (.bool (decide (a=b)))∧Mod (fun _=>False) w w':=
 (Same_any va vb a b w ha.1 hb.1).mono fun _ _ ⟨he,hd⟩=>⟨he,mod_of_drewN hd _⟩
theorem NewWriter_R (w:World) :
 Calls Tryz.prog 66 #[] w fun e w'=>∃ b,e=.returned (.pointer (some ⟨b,0,none⟩))∧WrR (New w w') 0 w' b []∧Mod (fun _=>False) w w':=
 (NewWriter_any w).mono fun _ _ ⟨he,hW,hm⟩=>⟨_,he,⟨_,hW,⟨Nat.le_refl _,hW.1.lt⟩,(fun g hg=>by cases hg),Nat.le_refl _⟩,hm⟩
theorem WrTo_R {R:Nat→Prop} {w w':World} {b:Nat} {v:Value} {bs:List Int} (N:Nat) (hb:R b) (hv:∀ g,v.ownBlock=some g→R g) (h:WrTo w b v bs w') (hN:bs.length≤N) :
 WrR (fun k=>R k∨New w w' k) N w' b bs∧Mod R w w':=by
 obtain ⟨v',h1,h2,h3⟩:=h
 refine ⟨⟨v',h1,.inl hb,fun g hg=>?_,hN⟩,h2.mono (fun k _ hk=>?_)⟩
 ·rcases h3 with h3|⟨k,h3,hk⟩
  ·exact .inl (hv g (h3▸hg))
  ·rw [h3] at hg
   obtain rfl:k=g:=by simpa using hg
   exact .inr ⟨hk,Own.lt h1.2 h3⟩
 ·rcases hk with rfl|hk
  ·exact hb
  ·exact hv k hk.symm
theorem WBytes_R {R:Nat→Prop} {N b:Nat} {bs:List Int} {w:World} (hW:WrR R N w b bs) (hl:N≤1000000) :
 Calls Tryz.prog 69 #[.pointer (some ⟨b,0,none⟩)] w fun e w'=>∃ v',e=.returned v'∧OwR (New w w') N w' v' bs∧Mod (fun _=>False) w w':=by
 obtain ⟨v,h1,h2,h3,h4⟩:=hW
 exact (WBytes_any b v bs w h1 (by unfold Room;omega)).mono fun e w' ⟨ao',cap',he,ho,hf,hm⟩=>⟨_,he,OwR_of N ho hf h4,hm⟩
theorem NewReader_R {R:Nat→Prop} {N:Nat} {v:Value} {bs:List Int} {w:World} (hr:RdR R N w v bs) (hl:N≤1000000) :
 Calls Tryz.prog 40 #[v] w fun e w'=>∃ r,e=.returned (.pointer (some ⟨r,0,none⟩))∧RrR 132 (New w w') w' r (some bs)∧Mod (fun _=>False) w w':=
 (NewReader_any v bs w hr.1 (by have:=hr.2.2;unfold Room;omega)).mono fun _ w' ⟨r,v',he,h1,h2,h3,hm⟩=>⟨r,he,⟨v',h2,⟨h1,h2.1.lt⟩,fun h0 g hg=>⟨h3 h0 g hg,h2.2.1.block_lt h0 g hg⟩⟩,hm⟩
theorem RrTo_R {T:TypeId} {R:Nat→Prop} {w w':World} {r:Nat} {v:Value} {s s':RSt} (hr:R r) (hv:0 < (s.getD []).length→∀ g,v.ownBlock=some g→R g) (hl:(s'.getD []).length≤(s.getD []).length) (h:RrTo T w r v s' w') :
 RrR T R w' r s'∧Mod R w w':=by
 obtain ⟨v',h1,h2,h3⟩:=h
 exact ⟨⟨v',h1,hr,fun h0 g hg=>hv (by omega) g (by rw [← h3 h0];exact hg)⟩,h2.mono (fun k _ hk=>by subst hk;exact hr)⟩
theorem RInt_R {R:Nat→Prop} {r:Nat} {most:Int} {s:RSt} {w:World} (hR:RrR 132 R w r s) (hm:-9223372036854775808≤most∧most≤9223372036854775807) :
 Calls Tryz.prog 42 #[.pointer (some ⟨r,0,none⟩),.int .i64 most] w fun e w'=>e=.returned (.int .i64 ((rInt most s).1:Nat))∧RrR 132 R w' r (rInt most s).2∧Mod R w w':=by
 obtain ⟨v,h1,h2,h3⟩:=hR
 exact (RInt_any r most v s w h1 hm).mono fun _ _ ⟨he,h⟩=>⟨he,RrTo_R h2 h3 (rInt_len most s) h⟩
theorem OK_R {R:Nat→Prop} {r:Nat} {s:RSt} {w:World} (hR:RrR 132 R w r s) :
 Calls Tryz.prog 43 #[.pointer (some ⟨r,0,none⟩)] w fun e w'=>e=.returned (.bool s.isSome)∧w=w':=by
 obtain ⟨v,h1,h2,h3⟩:=hR
 exact OK_any r v s w h1
theorem hv_guard2 (op:BinOp) (x y:Operand) (a b:List Int) (w:World):(eqGuard op 25 x y (hv a) (hv b)).run Tryz.prog w=.ok () w:=
 run_eqGuard_agg (P:=Tryz.prog) w op 25 x y _ _ (by kernel_rfl)
theorem hv_eql {a b:List Int} (ha:a.length=32) (hb:b.length=32) (w:World):(binOp .eql 25 (hv a) (hv b)).run Tryz.prog w=.ok (.bool (decide (a=b))) w:=
 run_eql_ints w 25 5 32 Tryz.underlying25 Tryz.underlying5 (by kernel_rfl) a b ha hb
/-- append of bytes, with the blocks -/
theorem wpList_appR {w:World} {ops:Array Oper} {rest:List Oper} {o:Oper} {a:Act} {Q:Exit→Act→World→Prop} (hgd:o.guard=none) (s x:Operand)
 (ho:o.op=.call { callee:=.builtin .append,args:=#[s,x],argTypes:=#[52,52] })
 {R R':Nat→Prop} {N M:Nat} {v:Value} {bs:List Int} (hs:a.eval s=v) (hown:OwR R N w v bs) {xv:Value} {new:List Int} (hx:a.eval x=xv) (hrd:RdR R' M w xv new)
 (hroom:N+M≤1000000)
 (h:∀ ao cap w',OwR (fun k=>R k∨New w w' k) (N+M) w' (.slice ao (bs.length+new.length) cap) (bs ++ new)→Mod R w w'→wpList Tryz.prog ops Q rest (a.put o.dst (.slice ao (bs.length+new.length) cap)) w'):wpList Tryz.prog ops Q (o :: rest) a w:=
 wpList_appB hgd s x ho hs hown.1 hx hrd.1 (by have:=hown.2.2;have:=hrd.2.2;unfold Room;omega) fun ao cap w' ⟨h1,h2,h3⟩=>h ao cap w' ⟨h1,(fun g hg=>by
  rcases h3 with h3|⟨k,h3,hk⟩
  ·exact .inl (hown.2.1 g (h3▸hg))
  ·rw [h3] at hg
   obtain rfl:k=g:=by simpa using hg
   exact .inr ⟨hk,Own.lt h1 h3⟩),by have:=hown.2.2;have:=hrd.2.2;simp;omega⟩ (h2.mono (fun k _ hk=>hown.2.1 k hk.symm))
end Go.Proofs.YtnaoeginonpicaaGreat

/- From a reading of the arguments to what the walks take: numbers, slices of bytes. -/
namespace Go.Proofs.YtnaoeginonpicaaGreat
open Go Go.RowKit Go.Gv Go.ChangeShapes Go.WideShapes Go.ChangeAt
theorem u64_nat {a:Int} (h:(Lit.int .u64 a).wf=true):∃ n:Nat,a=n∧n < U64:=by
 have:=bounds_u64 h
 exact ⟨a.toNat,by omega,by unfold U64;omega⟩
end Go.Proofs.YtnaoeginonpicaaGreat

/- From readings of arguments to typed lists: slices of structs, arrays of bytes. -/
namespace Go.Proofs.YtnaoeginonpicaaGreat
open Go Go.RowKit Go.Gv Go.ChangeShapes Go.WideShapes Go.ChangeAt Go.Deep
/-- the slice v is the list l, each element s cells -/
def RdE {α:Type} (s:Nat) (cells:α→List Value) (R:Nat→Prop) (w:World) (v:Value) (l:List α):Prop:=
 (l=[]∧∃ ao cap,v=.slice ao 0 cap)∨
 ∃ g o cap,R g∧v=.slice (some ⟨g,o,none⟩) l.length cap∧0 < l.length∧l.length≤cap∧cap≤maxLen∧∀ i (h:i < l.length),∀ j u,(cells l[i])[j]? = some u→w.cell? ⟨g,o+i * s+j,none⟩=some u
theorem RdE.mod {α:Type} {s:Nat} {cells:α→List Value} {R S:Nat→Prop} {w w':World} {v:Value} {l:List α} (h:RdE s cells R w v l) (hm:Mod S w w') (hs:∀ k,R k→S k→False):RdE s cells R w' v l:=by
 rcases h with h|⟨g,o,cap,h1,h2,h3,h4,h5,h6⟩
 ·exact .inl h
 ·exact .inr ⟨g,o,cap,h1,h2,h3,h4,h5,fun i hi j u hu=>hm.cell (h6 i hi j u hu) (hs g h1)⟩
section
variable {H:Type} {enc:TypeId × Value→H} {W:World}
theorem trod_arr {t e:TypeId} {n fuel:Nat} {cs:List Value} {x:DataW H × List MemPlace} (ht:Tryz.prog.underlying t=some (.array n e)) (he:Tryz.prog.underlying e=some (.int .u8)) (hce:Tryz.prog.cellsOf e=1) (hcs:Tryz.prog.cellsOf t=n)
 (h:DataW.trod enc Tryz.prog W 0 (fun _=>true) true fuel t cs=some x):∃ hs:List Int,cs=hs.map bv∧Bytes hs∧hs.length=n:=by
 obtain ⟨xs,m,_,rfl,hl,hn,hx⟩:=DataW.trod_array ht h
 rw [hcs] at hl
 have key:∀ i (hi:i < n),∃ q:Int,cs[i]'(by omega)=bv q∧0≤q∧q < 256:=by
  intro i hi
  have:=hx i hi
  rw [hce,Nat.mul_one,List.getElem?_eq_getElem (by omega)] at this
  have e1:(cs.drop i).take 1=[cs[i]'(by omega)]:=by
   rw [List.drop_eq_getElem_cons (by omega:i < cs.length)];rfl
  rw [e1] at this
  obtain ⟨q,e2,_,hw⟩:=DataW.trod_int he this
  simp at e2
  have hb:=bounds_u8 hw
  exact ⟨q,e2,by omega,by omega⟩
 refine ⟨cs.map (intOf ·),?_,?_,by simp [hl]⟩
 ·apply List.ext_getElem
  ·simp
  ·intro i h1 h2
   obtain ⟨q,hq,_⟩:=key i (by omega)
   simp [hq,intOf]
 ·intro y hy
  obtain ⟨u,hu,rfl⟩:=List.mem_map.1 hy
  obtain ⟨i,hi,rfl⟩:=List.getElem_of_mem hu
  obtain ⟨q,hq,h0,h1⟩:=key i (by omega)
  rw [hq]
  exact ⟨h0,h1⟩
theorem trod_bytes {fuel:Nat} {v:Value} {x:DataW H × List MemPlace} (h:DataW.trod enc Tryz.prog W 0 (fun _=>true) true fuel 52 [v]=some x):∃ bs,RdR (fun k=>k < W.heap.size) bs.length W v bs:=by
 rcases open_ints Tryz.underlying52 Tryz.underlying5 (by kernel_rfl) h with ⟨hcs,_⟩|⟨x,len0,cap0,zs,hcs,_,hl,hm,hz,hx,hcell,hwz⟩
 ·simp at hcs;subst hcs
  exact ⟨[],RdB.nil _,fun h=>by simp at h,Nat.le_refl _⟩
 ·simp at hcs;subst hcs
  simp only [if_true] at hz
  have hbl:(zs.take len0).length=len0:=by simp;omega
  refine ⟨zs.take len0,⟨?_,?_⟩,?_,Nat.le_refl _⟩
  ·intro y hy
   have:=bounds_u8 (hwz y (List.mem_of_mem_take hy))
   omega
  ·rw [hbl]
   refine ⟨by simp;omega,some x,cap0,rfl,hl,hm,(fun h=>by cases h),?_⟩
   intro y hy j u hu
   cases hy
   simp only [List.getElem?_map,Option.map_eq_some_iff] at hu
   obtain ⟨q,hq,rfl⟩:=hu
   have hj:j < len0:=by have:=(List.getElem?_eq_some_iff.1 hq).1;omega
   rw [List.getElem?_take,if_pos hj] at hq
   have h0:=hcell 0 (by omega)
   refine ⟨by simpa [Addr.add] using World.cell?_spot h0,?_⟩
   rw [hcell j (by omega)]
   simp [List.getD,hq]
  ·intro h0 g hg
   rw [hbl] at h0
   simp [Value.ownBlock] at hg
   subst hg
   have h0:=World.block_lt_of_cell? _ _ (hcell 0 (by omega))
   simpa [Addr.add] using h0
/-- a slice whose elements are read one by one -/
theorem trod_list {α:Type} [Inhabited α] {t e:TypeId} {s fuel:Nat} (cells:α→List Value) (Ok:α→Prop) {v:Value} {x:DataW H × List MemPlace} (ht:Tryz.prog.underlying t=some (.slice e)) (hce:Tryz.prog.cellsOf e=s) (hs:0 < s) (hlen:∀ a,(cells a).length=s)
 (he:∀ fuel cs x,DataW.trod enc Tryz.prog W 0 (fun _=>true) true fuel e cs=some x→∃ a,cs=cells a∧Ok a)
 (h:DataW.trod enc Tryz.prog W 0 (fun _=>true) true fuel t [v]=some x):∃ l:List α,RdE s cells (fun k=>k < W.heap.size) W v l∧∀ a ∈ l,Ok a:=by
 rcases open_slice ht h with ⟨hcs,_⟩|⟨a,len,cap,m,n,D,Pl,hcs,_,hl,hm,hmm,_,hel⟩
 ·simp at hcs;subst hcs
  exact ⟨[],.inl ⟨rfl,_,_,rfl⟩,fun a ha=>by cases ha⟩
 ·simp at hcs;subst hcs
  simp only [if_true] at hmm
  subst hmm
  rcases Nat.eq_zero_or_pos len with rfl|hpos
  ·exact ⟨[],.inl ⟨rfl,_,_,rfl⟩,fun a ha=>by cases ha⟩
  have key:∀ i,i < len→∃ b:α,W.cells? 0 (a.add (i * s)) s=some (cells b)∧Ok b:=by
   intro i hi
   obtain ⟨cs',h1,h2⟩:=hel i (by omega)
   rw [hce] at h1
   obtain ⟨b,rfl,hb⟩:=he _ _ _ h2
   exact ⟨b,h1,hb⟩
  obtain ⟨f,hf⟩:=choose_lt key
  have cell:∀ i,i < len→∀ j u,(cells (f i))[j]? = some u→W.cell? ((a.add (i * s)).add j)=some u:=by
   intro i hi j u hu
   obtain ⟨_,hl2,hc2⟩:=World.cells?_some (hf i hi).1
   have hj:=(List.getElem?_eq_some_iff.1 hu).1
   rw [hc2 j (by omega),hu]
  have h00:0 < (cells (f 0)).length:=by rw [hlen];exact hs
  have c00:=cell 0 hpos 0 _ (List.getElem?_eq_getElem h00)
  have ea:(a.add (0 * s)).add 0=a:=by simp [Addr.add]
  rw [ea] at c00
  have hspot:=World.cell?_spot c00
  have hblk:=World.block_lt_of_cell? _ _ c00
  obtain ⟨g,o,sp⟩:=a
  simp only at hspot hblk
  subst hspot
  refine ⟨(List.range len).map f,.inr ⟨g,o,m,hblk,by simp,by simpa using hpos,by simpa using hl,hm,?_⟩,?_⟩
  ·intro i hi j u hu
   simp only [List.length_map,List.length_range] at hi
   have:=cell i hi j u (by simpa using hu)
   rw [add_mk,add_mk] at this
   exact this
  ·intro b hb
   obtain ⟨i,hi,rfl⟩:=List.mem_map.1 hb
   exact (hf i (by simpa using hi)).2
end
end Go.Proofs.YtnaoeginonpicaaGreat

/- Elements of slices: their addresses, appending one that has many cells. No program here. -/
namespace Go.Gv
open Go Go.RowKit
section
variable {P:Program} {o:Oper} {a:Act} {w w':World}
theorem Bk {T e:TypeId} {x y:Operand} {g off n cap i s:Nat} {k:IntKind} (ho:o.op=.indexAddr T x y) (hu:P.underlying T=some (.slice e)) (hs:(P.info? e).map (·.size)=some s) (hx:a.eval x=.slice (some ⟨g,off,none⟩) n cap) (hy:a.eval y=.int k (i:Int)) (hi:i < n) :
 (execOp a.eval o).run P w=.ok (.value (.pointer (some ⟨g,off+i * s,none⟩))) w:=by
 have hsz:(sizeOf e).run P w=.ok s w:=by
  cases hq:P.info? e with
  | none=>rw [hq] at hs;cases hs
  | some i=>rw [hq] at hs;simp [sizeOf,typeInfo,hq];exact Option.some.inj hs
 unfold execOp
 simp [ho,hx,hy,Instr.indexAt,asIntOf,run_underlying hu,hsz,hi,add_mk]
theorem ex_buildS1 {T e:TypeId} {y:Operand} {cs:List Value} {s:Nat} {zc:List Value} (ho:o.op=.buildSlice T 1 #[(0,y)]) (hu:P.underlying T=some (.slice e)) (hie:(P.info? e).map (fun i=>(i.size,i.zero))=some (s,some (.agg zc.toArray))) (hz:zc.length=s) (h0:0 < s) (hb:s≤1000) (hy:a.eval y=.agg cs.toArray) (hl:cs.length=s) :
 (execOp a.eval o).run P w=.ok (.value (.slice (some ⟨w.heap.size,0,none⟩) 1 1)) (w.alloc (.cells cs.toArray e)):=by
 cases hq:P.info? e with
 | none=>rw [hq] at hie;cases hie
 | some ie=>
  rw [hq] at hie
  have e0:=Option.some.inj hie
  have e1:ie.size=s:=congrArg Prod.fst e0
  have e2:ie.zero=some (.agg zc.toArray):=congrArg Prod.snd e0
  have hf:Instr.fill (fun i=>some (i * ie.size,ie.size)) ((Array.range (1 * ie.size)).map ((Value.agg zc.toArray).cells[· % (Value.agg zc.toArray).cells.size]!)) (#[((0:Nat),a.eval y)]:Array (Nat × Value)).toList=some cs.toArray:=by
   rw [hy,e1]
   unfold Instr.fill
   simp only
   have hsz:((Array.range (1 * s)).map ((Value.agg zc.toArray).cells[· % (Value.agg zc.toArray).cells.size]!)).size=s:=by simp
   rw [if_neg (by simp [Value.cells,hl])]
   unfold Instr.fill
   congr 1
   have:=foldl_lay (0 * s) cs ((Array.range (1 * s)).map ((Value.agg zc.toArray).cells[· % (Value.agg zc.toArray).cells.size]!)).toList (by simp [hl])
   simp only [Value.cells] at this ⊢
   simp only [Array.toArray_toList] at this
   rw [← Array.toList_zipIdx] at this
   simp only [Array.foldl_toList] at this
   rw [this]
   simp [hl]
  have hr:=run_buildSlice (P:=P) w T e 1 (#[((0:Nat),a.eval y)]:Array (Nat × Value)) cs.toArray ie (.agg zc.toArray) hu hq e2 (by rw [e1];omega) (by rw [e1];omega) hf
  unfold execOp
  simp only [ho,Sem.run_bind,List.map_toArray,List.map_cons,List.map_nil,hr,Result.andThen_ok,Sem.run_pure]
theorem ex_append {t:TypeId} {x y:Operand} {vx vy v:Value} (ho:o.op=.call { callee:=.builtin .append,args:=#[x,y],argTypes:=#[t,t] }) (hx:a.eval x=vx) (hy:a.eval y=vy) (hr:(Builtin.append_ #[t,t] o.type #[vx,vy]).run P w=.ok v w'):(execOp a.eval o).run P w=.ok (.value v) w':=by
 unfold execOp
 simp only [ho,resolve,invoke,builtin,Sem.run_bind,Sem.run_pure,Result.andThen_ok,List.map_toArray,List.map_cons,List.map_nil,hx,hy,hr]
end
end Go.Gv

/- Arithmetic of single operations; elements of arrays. No program here. -/
namespace Go.Gv
open Go Go.RowKit
section
variable {P:Program} {o:Oper} {a:Act} {w w':World} {t:TypeId} {k:IntKind}
end
end Go.Gv

/- Single operations for wp_region_Q: calls of function values, parts of results, slices' rows, appends of things. No program here. -/
namespace Go.Gv
open Go Go.RowKit
section
variable {P:Program} {ops:Array Oper} {Q:Exit→Act→World→Prop} {i:Nat} {o:Oper} {a:Act} {w:World} {KQ:Value→World→Prop}
theorem ex_callV {x:Operand} {F:FuncId} {xs:Array Operand} {ts:Array TypeId} (ho:o.op=.call { callee:=.value x,args:=xs,argTypes:=ts }) (hx:a.eval x=.func (.func F) #[] #[]) {fn:Func} (hf:P.funcs[F]? = some fn) (hn:(fn.name == "runtime.NumGoroutine")=false) (hb:fn.body.isNone=false) :
 (execOp a.eval o).run P w=.ok (.enter F (xs.map a.eval)) w:=by
 have hn':¬ fn.name = "runtime.NumGoroutine" := by simpa using hn
 have hb':¬ fn.body=none:=by intro e;rw [e] at hb;cases hb
 unfold execOp
 simp [ho,resolve,invoke,hx,Deferred.ofValue,callFunc,hf,hn',hb']
theorem ex_extract {x:Operand} {k:Nat} {vs:Array Value} {v:Value} (ho:o.op=.extract x k) (hx:a.eval x=.tuple vs) (hv:vs[k]? = some v):(execOp a.eval o).run P w=.ok (.value v) w:=by
 unfold execOp
 simp [ho,hx,Instr.extract,hv]
theorem An {op:BinOp} {t u:TypeId} {x y:Operand} {vx vy v v':Value} (ho:o.op=.binOp op t x y u) (hx:a.eval x=vx) (hy:a.eval y=vy) (hg:(eqGuard op t x y vx vy).run P w=.ok () w) (hr:(binOp op t vx vy).run P w=.ok v w) (he:v=v'):(execOp a.eval o).run P w=.ok (.value v') w:=by
 subst he;exact ex_bin ho hx hy hg hr
theorem A2 {c x y:Operand} {b:Bool} {vx vy v:Value} (ho:o.op=.pick c x y) (hc:a.eval c=.bool b) (hx:a.eval x=vx) (hy:a.eval y=vy) (he:(if b then vx else vy)=v):(execOp a.eval o).run P w=.ok (.value v) w:=by
 subst he;exact ex_pick ho hc hx hy
theorem ex_min {x y:Operand} {ts:Array TypeId} {k k':IntKind} {m n r:Int} (ho:o.op=.call { callee:=.builtin .min,args:=#[x,y],argTypes:=ts }) (hx:a.eval x=.int k m) (hy:a.eval y=.int k' n) (he:(if n < m then n else m)=r):(execOp a.eval o).run P w=.ok (.value (.int k r)) w:=by
 subst he
 unfold execOp
 simp [ho,resolve,invoke,builtin,hx,hy,run_min_int2,Result.andThen]
theorem add_zero (a:Addr):a.add 0=a:=by
 unfold Addr.add
 split<;>simp_all
theorem ex_sliceTo {T e:TypeId} {x y:Operand} {ao:Option Addr} {n cap i:Nat} {s:Nat} {k:IntKind} (ho:o.op=.slice T x none (some y) none) (hu:P.underlying T=some (.slice e)) (hs:(P.info? e).map (·.size)=some s) (hx:a.eval x=.slice ao n cap) (hy:a.eval y=.int k (i:Int)) (hi:i≤cap) :
 (execOp a.eval o).run P w=.ok (.value (.slice ao i cap)) w:=by
 have hsz:(sizeOf e).run P w=.ok s w:=by
  cases hq:P.info? e with
  | none=>rw [hq] at hs;cases hs
  | some i=>rw [hq] at hs;simp [sizeOf,typeInfo,hq];exact Option.some.inj hs
 have hm:(if cap=0 then ao else ao.map (·.add (0 * s)))=ao:=by
  split
  ·rfl
  ·cases ao with
   | none=>rfl
   | some x=>simp [add_zero]
 have hm2:ao.map (fun x=>x.add 0)=ao:=by cases ao with|none=>rfl|some x=>simp [add_zero]
 unfold execOp
 simp [ho,hx,hy,Instr.sliceAt,Instr.slice,Instr.sliceBounds,Instr.sliceBound,asIntOf,run_underlying hu,hsz,hi]
 intro h0
 exact hm2
/-- one of the chain appends things -/
theorem qc_appS {α:Type} {A:Rep α} {e t:TypeId} {R E R2:Nat→Prop} {v xv:Value} {l new:List α} {s x:Operand} (ho:ops[i]? = some o) (hw:Region.wanted o (yielded ops a.tmps)=true) (hop:o.op=.call { callee:=.builtin .append,args:=#[s,x],argTypes:=#[t,t] }) (z:Value) (bytes:Nat)
 (ht:P.underlying t=some (.slice e)) (hinfo:(P.info? e).map (fun i=>(i.zero,i.size,i.bytes))=some (some z,A.sz,bytes)) (hzs:z.cells.size=A.sz) (hzE:∀ u ∈ z.cells.toList,u.oneCell'=true)
 (hs:a.eval s=v) (hx:a.eval x=xv) (hown:OwS A e R E w v l) (hrd:RdS A R2 w xv new) (hd:∀ k,R2 k→R k→False) (hbytes:(l.length+new.length) * bytes≤140737488355328) (h63:l.length+new.length≤maxLen)
 (h:∀ ao cap w',OwS A e (fun k=>R k∨(w.heap.size≤k∧k < w'.heap.size)) (fun k=>E k∨R2 k) w' (.slice ao (l.length+new.length) cap) (l ++ new)→Mod R w w'→KQ (.slice ao (l.length+new.length) cap) w'):wpOp P ops Q i (fun a' w'=>∃ v,a'=a.put o.dst v∧KQ v w') a w:=by
 obtain ⟨ao,cap,w',hr,h1,h2⟩:=run_appS (P:=P) w t o.type e z bytes ht hinfo hzs hzE hown hrd (fun k hk he=>by obtain ⟨_,_,_,_,h5⟩:=hown;exact hd k hk (h5 k he)) hbytes h63
 exact qc_run ho hw (ex_append hop hs hx hr) (h ao cap w' h1 h2)
/-- one of the chain makes a row of one thing -/
theorem qc_buildS {e t:TypeId} {y:Operand} {cs zc:List Value} {sz:Nat} (ho:ops[i]? = some o) (hw:Region.wanted o (yielded ops a.tmps)=true) (hop:o.op=.buildSlice t 1 #[(0,y)]) (hu:P.underlying t=some (.slice e)) (hie:(P.info? e).map (fun i=>(i.size,i.zero))=some (sz,some (.agg zc.toArray))) (hz:zc.length=sz) (h0:0 < sz) (hb:sz≤1000) (hy:a.eval y=.agg cs.toArray) (hl:cs.length=sz)
 (h:∀ w',Cs w' w.heap.size cs.toArray e→Mod (fun _=>False) w w'→KQ (.slice (some ⟨w.heap.size,0,none⟩) 1 1) w'):wpOp P ops Q i (fun a' w'=>∃ v,a'=a.put o.dst v∧KQ v w') a w:=
 qc_run ho hw (ex_buildS1 hop hu hie hz h0 hb hy hl) (h _ (Cs.new _ _ _) ((Mod.refl _ _).alloc _))
end
end Go.Gv

/- Short forms for printed walks: facts carried over a whole chain at once, single operations, regions without new variables. No program here. -/
namespace Go.Gv
open Go Go.RowKit
theorem hid {p:Prop} (h:p):Hid p:=h
/-- a chain's steps, told at once: S: what of old they may turn -/
theorem Mod.new {S:Nat→Prop} {w a:World} (h:Mod (fun j=>w.heap.size≤j) w a):Mod S w a:=h.mono fun k hk h=>absurd hk (Nat.not_lt.2 h)
theorem Mod.goR {S R:Nat→Prop} {w a c:World} (h:Mod S w a) (hr:Mod (fun j=>w.heap.size≤j∧R j) a c):Mod S w c:=
 h.trans hr fun k hk h=>absurd hk (Nat.not_lt.2 h.1)
theorem Mod.goM {S T R:Nat→Prop} {w a b c:World} (h:Mod S w a) (hm:Mod T a b) (hr:Mod (fun j=>w.heap.size≤j∧R j) b c) (hs:∀ k,k < w.heap.size→T k→S k):Mod S w c:=
 (h.trans hm hs).goR hr
theorem Mod.go {S R:Nat→Prop} {w a b c:World} (h:Mod S w a) (hm:Mod (fun _=>False) a b) (hr:Mod (fun j=>w.heap.size≤j∧R j) b c):Mod S w c:=
 h.goM hm hr fun _ _ h=>h.elim
theorem Mod.old {w a:World} (h:Mod (fun j=>(j < w.heap.size∧False)∨w.heap.size≤j) w a):Mod (fun j=>w.heap.size≤j) w a:=h.mono fun _ _ h=>h.elim (fun h=>h.2.elim) (fun h=>h)
theorem chv {v x:Value} (h:some v=some x):x=v:=(Option.some.inj h).symm
theorem list_eta {vs:List Value} {n:Nat} (hl:vs.length=n):vs=(List.range n).map fun i=>vs.getD i undef:=by
 subst hl
 refine List.ext_getElem? fun i=>?_
 rcases Nat.lt_or_ge i vs.length with h|h
 ·simp [List.getD_eq_getElem?_getD,h]
 ·simp [h]
theorem getq {vs:List Value} {n p:Nat} (hl:vs.length=n) (h:p < n):vs[p]? = some (vs.getD p undef):=by
 subst hl
 simp [List.getD_eq_getElem?_getD,h]
section
variable {β:Type} {f:Operand→β}
theorem args0:(#[]:Array Operand).map f=#[]:=by simp
theorem Aw {x1:Operand} {a1:β} (h1:f x1=a1):#[x1].map f=#[a1]:=by rw [← h1];simp
theorem Az {x1 x2:Operand} {a1 a2:β} (h1:f x1=a1) (h2:f x2=a2):#[x1,x2].map f=#[a1,a2]:=by rw [← h1,← h2];simp
theorem args3 {x1 x2 x3:Operand} {a1 a2 a3:β} (h1:f x1=a1) (h2:f x2=a2) (h3:f x3=a3):#[x1,x2,x3].map f=#[a1,a2,a3]:=by rw [← h1,← h2,← h3];simp
end
section
variable {P:Program} {ops:Array Oper} {Q:Exit→Act→World→Prop} {a0:Act} {w0:World} {n:Nat} {ss:List Nat} {S0:Nat→Prop} {SS:Nat→Nat→Prop} {l:List QPred} {c:List Nat} {al:List QRow} {i:Nat} {o:Oper}
/-- what is known where an operation beside the chain stands -/
structure StE (ops:Array Oper) (a0:Act) (w0:World) (n:Nat) (ss:List Nat) (S0:Nat→Prop) (SS:Nat→Nat→Prop) (l:List QPred) (c:List Nat) (i:Nat) (o:Oper) (Z:Nat→Prop) (t:List Value) (a:Act) (w:World):Prop where
 inZ:∀ j,Z j→w0.heap.size≤j∧j < w.heap.size
 m:Mod (fun j=>(j < w0.heap.size∧S0 j)∨w0.heap.size≤j) w0 w
 m0:Mod (fun j=>(j < w0.heap.size∧∃ k,k < t.length∧SS k j)∨w0.heap.size≤j) w0 w
 out:∀ t,t ∉ ss→a.eval (.tmp t)=a0.eval (.tmp t)
 sz:∀ s,s < n→s < a.tmps.size
 on:∀ e ∈ o.after,Region.binds .any e=true→∀ s,(ops[e.on]?).bind (·.dst)=some s→(l.getD e.on qa) Z t (a.eval (.tmp s)) w
 ub:∀ k q,c[k]? = some q→(clo ops ops.size (Bp ops q)).contains i=true→t.length≤k
 pre:∀ j s,(ops[j]?).bind (·.dst)=some s→(clo ops ops.size (Bp ops j)).contains i=true→a.eval (.tmp s)=a0.eval (.tmp s)
theorem StE.v {Z:Nat→Prop} {t:List Value} {a:Act} {w:World} (E:StE ops a0 w0 n ss S0 SS l c i o Z t a w) {k:Nat} {v:Value} (h:a0.eval (.tmp k)=v) (hk:k ∉ ss:=by decide):a.eval (.tmp k)=v:=(E.out k hk).trans h
theorem StE.e {Z:Nat→Prop} {t:List Value} {a:Act} {w:World} (E:StE ops a0 w0 n ss S0 SS l c i o Z t a w) (k:Nat) (g:Ground) {s:Nat} (h:(⟨k,g⟩:Edge) ∈ o.after:=by simp) (hb:Region.binds .any ⟨k,g⟩=true:=by rfl) (hs:(ops[k]?).bind (·.dst)=some s:=by rfl):(l.getD k qa) Z t (a.eval (.tmp s)) w:=E.on ⟨k,g⟩ h hb s hs
theorem StE.d {Z:Nat→Prop} {t:List Value} {a:Act} {w:World} (E:StE ops a0 w0 n ss S0 SS l c i o Z t a w) (k:Nat) {s:Nat} (h:(⟨k,.data⟩:Edge) ∈ o.after:=by simp) (hs:(ops[k]?).bind (·.dst)=some s:=by rfl):(l.getD k qa) Z t (a.eval (.tmp s)) w:=E.on ⟨k,.data⟩ h rfl s hs
/-- where one of the chain stands -/
structure ChE (ops:Array Oper) (a0:Act) (n:Nat) (ss:List Nat) (B:Nat) (l:List QPred) (i:Nat) (o:Oper) (Y:Nat→Prop) (Z:Nat→Prop) (t:List Value) (a:Act) (w:World):Prop where
 YZ:∀ j,Y j→Z j
 inZ:∀ j,Z j→B≤j∧j < w.heap.size
 out:∀ t,t ∉ ss→a.eval (.tmp t)=a0.eval (.tmp t)
 sz:∀ s,s < n→s < a.tmps.size
 on:∀ e ∈ o.after,Region.binds .any e=true→∀ s,(ops[e.on]?).bind (·.dst)=some s→(l.getD e.on qa) Z t (a.eval (.tmp s)) w
 pre:∀ j s,(ops[j]?).bind (·.dst)=some s→(clo ops ops.size (Bp ops j)).contains i=true→a.eval (.tmp s)=a0.eval (.tmp s)
theorem ChE.v {B:Nat} {Y Z:Nat→Prop} {t:List Value} {a:Act} {w:World} (E:ChE ops a0 n ss B l i o Y Z t a w) {k:Nat} {v:Value} (h:a0.eval (.tmp k)=v) (hk:k ∉ ss:=by decide):a.eval (.tmp k)=v:=(E.out k hk).trans h
theorem ChE.e {B:Nat} {Y Z:Nat→Prop} {t:List Value} {a:Act} {w:World} (E:ChE ops a0 n ss B l i o Y Z t a w) (k:Nat) (g:Ground) {s:Nat} (h:(⟨k,g⟩:Edge) ∈ o.after:=by simp) (hb:Region.binds .any ⟨k,g⟩=true:=by rfl) (hs:(ops[k]?).bind (·.dst)=some s:=by rfl):(l.getD k qa) Z t (a.eval (.tmp s)) w:=E.on ⟨k,g⟩ h hb s hs
theorem ChE.d {B:Nat} {Y Z:Nat→Prop} {t:List Value} {a:Act} {w:World} (E:ChE ops a0 n ss B l i o Y Z t a w) (k:Nat) {s:Nat} (h:(⟨k,.data⟩:Edge) ∈ o.after:=by simp) (hs:(ops[k]?).bind (·.dst)=some s:=by rfl):(l.getD k qa) Z t (a.eval (.tmp s)) w:=E.on ⟨k,.data⟩ h rfl s hs
theorem QChain.go {B:Nat} {Y:Nat→Prop} {k:Nat} {t:List Value} {w:World} (h:∀ Z a,ChE ops a0 n ss B l i o Y Z t a w→wpOp P ops Q i (fun a' w'=>∃ v,a'=a.put o.dst v∧QPost P ops Q a0 n ss B S0 SS l al i c k Y t w v w') a w) (ho:ops[i]? = some o:=by rfl):QChain P ops Q a0 n ss B S0 SS l al (i :: c) k Y t w:=
 QChain.cons ho fun Z a h1 h2 h3 h4 h5 h6=>h Z a ⟨h1,h2,h3,h4,h5,h6⟩
theorem stq {v:Value} (hs:∀ {Z:Nat→Prop} {t:List Value} {a:Act} {w:World},StE ops a0 w0 n ss S0 SS l c i o Z t a w→(execOp a.eval o).run P w=.ok (.value v) w) (ho:ops[i]? = some o:=by rfl) (hg:o.guard=none:=by rfl) (hv:l.getD i qa=qi v:=by rfl)
 (h:c.contains i=false:=by rfl) (h0:al.find? (fun r=>r.a == i)=none:=by rfl) (h1:al.find? (fun r=>r.s == i)=none:=by rfl):StepQ P ops Q a0 w0 n ss S0 SS l c al i o:=
 Av h h0 h1 fun Z t a w k1 k2 k3 k4 k5 k6 k7 k8=>Bd ho (Ac hg) (hs ⟨k1,k2,k3,k4,k5,k6,k7,k8⟩) QE.refl (by rw [hv];rfl)
def gw (vs:List Value) (i:Nat):Value:=vs.getD i undef
theorem Be {vs:List Value} {n:Nat} (hl:vs.length=n):vs=(List.range n).map fun i=>gw vs i:=list_eta hl
theorem fvi {Z:Nat→Prop} {t:List Value} {w:World} {vs:List Value} {m:Nat} {x:Value} (hV:∀ p v,vs[p]? = some v→(l.getD p qa) Z t v w) (hl:vs.length=m) (p:Nat) (hp:p < m:=by decide) (he:l.getD p qa=qi x:=by rfl):gw vs p=x:=by
 have h:=hV p _ (getq hl hp)
 rw [he] at h
 exact h
theorem fvc {Z:Nat→Prop} {t:List Value} {w:World} {vs:List Value} {m k:Nat} {x:Value} (hV:∀ p v,vs[p]? = some v→(l.getD p qa) Z t v w) (hl:vs.length=m) (p:Nat) (hp:p < m:=by decide) (he:l.getD p qa=qv k:=by rfl) (hx:t[k]? = some x:=by rfl):gw vs p=x:=by
 have h:=hV p _ (getq hl hp)
 rw [he] at h
 exact (Option.some.inj (hx.symm.trans h)).symm
/-- a region without new variables -/
theorem A3 {d:Bool} {id:Nat} (n:Nat) (hn:a0.tmps.size=n) (ss:List Nat)
 (S0:Nat→Prop) (SS:Nat→Nat→Prop) (hSS:∀ k j,SS k j→S0 j) (l:List QPred) (stable:AllQ w0.heap.size S0 l) (c:List Nat)
 (step:Each (StepQ P ops Q a0 w0 n ss S0 SS l c []) 0 ops.toList)
 (start:∀ w1,Mod (fun j=>w0.heap.size≤j) w0 w1→QChain P ops Q a0 n ss w0.heap.size S0 SS l [] c 0 (fun _=>False) [] w1)
 (hm:P.follows .mixedOrders=true:=by kernel_rfl) (hac:backward ops=true:=by kernel_rfl) (hss:okSlots ops n ss=true:=by kernel_rfl) (hnd:ss.Nodup:=by decide) (hlk:linked ops c=true:=by kernel_rfl) (hcn:c.Nodup:=by decide) (hcs:(c.all fun i=>decide (i < ops.size))=true:=by kernel_rfl):(Code.region id ops d).wp P Q a0 w0:=
 wp_region_Q n hn hm hac ss hss hnd S0 SS hSS l stable c hlk hcn hcs [] rfl (fun r hr=>by cases hr) (fun r hr=>by cases hr) (fun r hr=>by cases hr) step start
/-- one that turns nothing of old -/
theorem A1 {d:Bool} {id:Nat} (n:Nat) (hn:a0.tmps.size=n) (ss:List Nat) (l:List QPred) (stable:AllQ w0.heap.size (fun _=>False) l) (c:List Nat)
 (step:Each (StepQ P ops Q a0 w0 n ss (fun _=>False) (fun _ _=>False) l c []) 0 ops.toList)
 (start:∀ w1,Mod (fun j=>w0.heap.size≤j) w0 w1→QChain P ops Q a0 n ss w0.heap.size (fun _=>False) (fun _ _=>False) l [] c 0 (fun _=>False) [] w1)
 (hm:P.follows .mixedOrders=true:=by kernel_rfl) (hac:backward ops=true:=by kernel_rfl) (hss:okSlots ops n ss=true:=by kernel_rfl) (hnd:ss.Nodup:=by decide) (hlk:linked ops c=true:=by kernel_rfl) (hcn:c.Nodup:=by decide) (hcs:(c.all fun i=>decide (i < ops.size))=true:=by kernel_rfl):(Code.region id ops d).wp P Q a0 w0:=
 A3 n hn ss _ _ (fun _ _ h=>h) l stable c step start hm hac hss hnd hlk hcn hcs
theorem Ap {KQ:Value→World→Prop} {a:Act} {w:World} {F:FuncId} {xs:Array Operand} {ts:Array TypeId} {args:Array Value} {post:Ending→World→Prop} {fn:Func} (ho:ops[i]? = some o) (hw:Region.wanted o (yielded ops a.tmps)=true) (hop:o.op=.call { callee:=.value (.func F),args:=xs,argTypes:=ts })
 (hf:P.funcs[F]? = some fn) (ha:xs.map a.eval=args) (hcl:Calls P F args w post) (hp:∀ e w',post e w'→∃ v,e=.returned v∧KQ v w') (hn:(fn.name == "runtime.NumGoroutine")=false:=by kernel_rfl) (hb:fn.body.isNone=false:=by kernel_rfl):wpOp P ops Q i (fun a' w'=>∃ v,a'=a.put o.dst v∧KQ v w') a w:=
 qc_call ho hw (by rw [ex_callF hop hf hn hb,ha]) hcl hp
theorem qe_callF {B:Nat} {Z:Nat→Prop} {t:List Value} {a:Act} {w:World} {F:FuncId} {xs:Array Operand} {ts:Array TypeId} {args:Array Value} {post:Ending→World→Prop} {fn:Func} (ho:ops[i]? = some o) (hw:Region.wanted o (yielded ops a.tmps)=true) (hop:o.op=.call { callee:=.value (.func F),args:=xs,argTypes:=ts })
 (hf:P.funcs[F]? = some fn) (ha:xs.map a.eval=args) (hcl:Calls P F args w post) (hp:∀ e w',post e w'→∃ v,e=.returned v∧QE B Z w w'∧(l.getD i qa) Z t v w') (hn:(fn.name == "runtime.NumGoroutine")=false:=by kernel_rfl) (hb:fn.body.isNone=false:=by kernel_rfl):wpOp P ops Q i (QJ B l Z i o t a w) a w:=
 qe_call ho hw (by rw [ex_callF hop hf hn hb,ha]) hcl hp
end
end Go.Gv

/- Answers of the chain of which more is known than what they are: new variables that are written whole with them. No program here. -/
namespace Go.Gv
open Go Go.RowKit
end Go.Gv

/- A region that keeps its order, told operation by operation. No program here. -/
namespace Go.Gv
open Go Go.RowKit
theorem putAll_snoc:∀ (ss:List Nat) (t:List Value) (a:Act) (s:Nat) (v:Value),ss[t.length]? = some s→(Au a ss t).put (some s) v=Au a ss (t ++ [v])
 | [],t,a,s,v,h=>by simp at h
 | s :: ss,[],a,s',v,h=>by
  simp only [List.length_nil,List.getElem?_cons_zero,Option.some.injEq] at h
  subst h
  cases ss<;>rfl
 | s :: ss,u :: t,a,s',v,h=>by
  simp only [List.length_cons,List.getElem?_cons_succ] at h
  simp only [List.cons_append,Au]
  exact putAll_snoc ss t _ s' v h
theorem putAll_take:∀ (ss:List Nat) (t:List Value) (a:Act),Au a ss t=Au a (ss.take t.length) t
 | [],t,a=>by simp
 | s :: ss,[],a=>rfl
 | s :: ss,u :: t,a=>by
  simp only [List.length_cons,List.take_succ_cons,Au]
  exact putAll_take ss t _
theorem putAll_at:∀ (ss:List Nat) (t:List Value) (a:Act) (p s:Nat) (v:Value),ss.Nodup→ss[p]? = some s→t[p]? = some v→s < a.tmps.size→(Au a ss t).tmps[s]? = some v
 | [],t,a,p,s,v,hn,h,hv,hs=>by simp at h
 | s :: ss,[],a,p,s',v,hn,h,hv,hs=>by simp at hv
 | s :: ss,u :: t,a,0,s',v,hn,h,hv,hs=>by
  simp only [List.getElem?_cons_zero,Option.some.injEq] at h hv
  subst h hv
  simp only [Au]
  rw [putAll_out ss t _ s (List.nodup_cons.1 hn).1,put_tmps]
  simp [hs]
 | s :: ss,u :: t,a,p+1,s',v,hn,h,hv,hs=>by
  simp only [List.getElem?_cons_succ] at h hv
  simp only [Au]
  exact putAll_at ss t _ p s' v (List.nodup_cons.1 hn).2 h hv (by simpa [put_tmps] using hs)
/-- what is known of the frame where an operation stands: t: the answers of those ahead of it, the last one first -/
structure SqE (a0:Act) (n:Nat) (ss:List Nat) (t:List Value) (a:Act):Prop where
 out:∀ s:Nat,s ∉ ss→a.eval (.tmp s)=a0.eval (.tmp s)
 sz:∀ s:Nat,s < n→s < a.tmps.size
 on:∀ (k p s:Nat) (v:Value),ss[k]? = some s→t[p]? = some v→p+k+1=t.length→s < n→a.eval (.tmp s)=v
 yet:∀ (k s:Nat),t.length≤k→ss[k]? = some s→a.eval (.tmp s)=a0.eval (.tmp s)
section
variable {P:Program} {ops:Array Oper} {Q:Exit→Act→World→Prop} {a0:Act} {n:Nat} {ss:List Nat} {c:List Nat} {i:Nat} {o:Oper} {t:List Value} {w w':World} {a:Act}
theorem SqE.v (E:SqE a0 n ss t a) {k:Nat} {v:Value} (h:a0.eval (.tmp k)=v) (hk:k ∉ ss:=by decide):a.eval (.tmp k)=v:=(E.out k hk).trans h
theorem SqE.y (E:SqE a0 n ss t a) (k:Nat) {s:Nat} {v:Value} (h:a0.eval (.tmp s)=v) (hs:ss[k]? = some s:=by rfl) (hk:Nat.ble t.length k=true:=by rfl):a.eval (.tmp s)=v:=(E.yet k s (Nat.le_of_ble_eq_true hk) hs).trans h
theorem SqE.d (E:SqE a0 n ss t a) (k p:Nat) {s:Nat} {v:Value} (hs:ss[k]? = some s:=by rfl) (hv:t[p]? = some v:=by rfl) (hp:p+k+1=t.length:=by rfl) (hn:s < n:=by decide):a.eval (.tmp s)=v:=E.on k p s v hs hv hp hn
theorem SqE.q (E:SqE a0 n ss t a) (k p:Nat) {s:Nat} {v x:Value} {b:Bool} (h:(b=true→v=x)∧(b=false→v=undef)) (hs:ss[k]? = some s:=by rfl) (hv:t[p]? = some v:=by rfl) (hp:p+k+1=t.length:=by rfl) (hn:s < n:=by decide):(b=true→a.eval (.tmp s)=x)∧(b=false→a.eval (.tmp s)=undef):=by
 rw [E.on k p s v hs hv hp hn]
 exact h
def QSeq (P:Program) (ops:Array Oper) (Q:Exit→Act→World→Prop) (a0:Act) (n:Nat) (ss:List Nat):List Nat→List Value→World→Prop
 | [],t,w=>Q .normal (Au a0 ss t.reverse) w
 | i :: c,t,w=>∀ a,SqE a0 n ss t a→wpOp P ops Q i (fun a' w'=>∃ o v,ops[i]? = some o∧a'=a.put o.dst v∧QSeq P ops Q a0 n ss c (v :: t) w') a w
theorem QSeq.go (h:∀ a,SqE a0 n ss t a→wpOp P ops Q i (fun a' w'=>∃ v,a'=a.put o.dst v∧QSeq P ops Q a0 n ss c (v :: t) w') a w) (ho:ops[i]? = some o:=by rfl):QSeq P ops Q a0 n ss (i :: c) t w:=
 fun a E=>wpOp_mono (fun a' w' ⟨v,e,hq⟩=>⟨o,v,ho,e,hq⟩) (h a E)
theorem QSeq.nil {t':List Value} (e:t.reverse=t') (h:Q .normal (Au a0 ss t') w):QSeq P ops Q a0 n ss [] t w:=by subst e;exact h
theorem QSeq.pure {v':Value} (ho:ops[i]? = some o) (v:Value) (hs:∀ {a},SqE a0 n ss t a→(execOp a.eval o).run P w=.ok (.value v') w) (h:QSeq P ops Q a0 n ss c (v :: t) w) (hg:o.guard=none:=by rfl) (hv:v'=v:=by rfl):QSeq P ops Q a0 n ss (i :: c) t w:=
 QSeq.go (fun a E=>qc_run ho (Ac hg) (hv▸hs E) h) ho
theorem QSeq.pureG {v':Value} (ho:ops[i]? = some o) (v:Value) (hw:∀ {a},SqE a0 n ss t a→Region.wanted o (yielded ops a.tmps)=true) (hs:∀ {a},SqE a0 n ss t a→(execOp a.eval o).run P w=.ok (.value v') w) (h:QSeq P ops Q a0 n ss c (v :: t) w) (hv:v'=v:=by rfl):QSeq P ops Q a0 n ss (i :: c) t w:=
 QSeq.go (fun a E=>qc_run ho (hw E) (hv▸hs E) h) ho
theorem QSeq.skip (ho:ops[i]? = some o) (hw:∀ {a},SqE a0 n ss t a→Region.wanted o (yielded ops a.tmps)=false) (h:QSeq P ops Q a0 n ss c (undef :: t) w):QSeq P ops Q a0 n ss (i :: c) t w:=by
 refine QSeq.go (fun a E=>?_) ho
 unfold wpOp
 rw [ho]
 simp only [hw E]
 exact ⟨undef,rfl,h⟩
/-- one that a test may leave out -/
theorem QSeq.may {b:Bool} {x':Value} (ho:ops[i]? = some o) (x:Value) (hw:∀ {a},SqE a0 n ss t a→Region.wanted o (yielded ops a.tmps)=b) (hs:∀ {a},SqE a0 n ss t a→b=true→(execOp a.eval o).run P w=.ok (.value x') w)
 (h:∀ v,((b=true→v=x)∧(b=false→v=undef))→QSeq P ops Q a0 n ss c (v :: t) w) (hv:x'=x:=by rfl):QSeq P ops Q a0 n ss (i :: c) t w:=by
 cases b with
 | false=>exact QSeq.skip ho hw (h undef ⟨(fun e=>by cases e),fun _=>rfl⟩)
 | true=>exact QSeq.pureG ho x hw (fun E=>hs E rfl) (h x ⟨fun _=>rfl,fun e=>by cases e⟩) hv
/-- a call that turns nothing, which a test may leave out -/
theorem QSeq.mayCall {b:Bool} (ho:ops[i]? = some o) (x:Value) {F:FuncId} {xs:Array Operand} {ts:Array TypeId} {args:Array Value} {fn:Func} (hw:∀ {a},SqE a0 n ss t a→Region.wanted o (yielded ops a.tmps)=b) (hop:o.op=.call { callee:=.value (.func F),args:=xs,argTypes:=ts }) (hf:P.funcs[F]? = some fn)
 (ha:∀ {a},SqE a0 n ss t a→b=true→xs.map a.eval=args) (hcl:b=true→Calls P F args w (fun e w'=>e=.returned x∧Mod (fun _=>False) w w'))
 (h:∀ v w',((b=true→v=x)∧(b=false→v=undef))→Mod (fun _=>False) w w'→QSeq P ops Q a0 n ss c (v :: t) w') (hn:(fn.name == "runtime.NumGoroutine")=false:=by kernel_rfl) (hb:fn.body.isNone=false:=by kernel_rfl):QSeq P ops Q a0 n ss (i :: c) t w:=by
 cases b with
 | false=>exact QSeq.skip ho hw (h undef w ⟨(fun e=>by cases e),fun _=>rfl⟩ (Mod.refl _ _))
 | true=>
  refine QSeq.go (fun a E=>?_) ho
  refine Ap ho (hw E) hop hf (ha E rfl) (hcl rfl) (fun e w' ⟨he,hm⟩=>⟨x,he,h x w' ⟨fun _=>rfl,fun e=>by cases e⟩ hm⟩) hn hb
theorem wp_region_S {id:Nat} (n:Nat) (hn:a0.tmps.size=n) (ss:List Nat) (c:List Nat) (h:QSeq P ops Q a0 n ss c [] w) (hc:c=List.range ops.size:=by kernel_rfl) (hss:okSlots ops n ss=true:=by kernel_rfl) (hnd:ss.Nodup:=by decide):(Code.region id ops false).wp P Q a0 w:=by
 subst hc
 refine wp_region ?_
 have key:∀ (m i:Nat) (t:List Value) (w:World),i+m=ops.size→t.length=i→QSeq P ops Q a0 n ss (List.range' i m) t w→wpOps P ops Q (List.range' i m) (Au a0 ss t.reverse) w:=by
  intro m
  induction m with
  | zero=>intro i t w _ _ h;exact h
  | succ m ih=>
   intro i t w him hti h
   rw [List.range'_succ] at h ⊢
   rw [wpOps_cons]
   refine wpOp_mono ?_ (h (Au a0 ss t.reverse) ⟨fun s hs=>eval_out _ _ _ _ hs,fun s hs=>by rw [putAll_size,hn];exact hs,fun k p s v hk hv hp hsn=>?_,fun k s hk hks=>?_⟩)
   ·rintro a' w' ⟨o,v,ho,rfl,hq⟩
    obtain ⟨s,hs,hds⟩:=okSlots_at hss ho
    have e:(Au a0 ss t.reverse).put o.dst v=Au a0 ss (v :: t).reverse:=by
     have e1:=putAll_snoc ss t.reverse a0 s v (by rw [List.length_reverse,hti];exact hs)
     rw [List.reverse_cons]
     rcases hds with ⟨h1,h2⟩|⟨h1,h2⟩
     ·rw [h1];exact e1
     ·rw [h1,← e1,put_far _ (by rw [putAll_size,hn];exact h2)];rfl
    rw [e]
    exact ih (i+1) (v :: t) w' (by omega) (by simp [hti]) hq
   ·have hv':t.reverse[k]? = some v:=by
     rw [List.getElem?_reverse (by omega),show t.length - 1 - k=p by omega]
     exact hv
    have:=putAll_at ss t.reverse a0 k s v hnd hk hv' (by rw [hn];exact hsn)
    simp only [Act.eval,Array.getD_eq_getD_getElem?]
    rw [this]
    rfl
   ·rw [putAll_take]
    refine eval_out _ _ _ _ fun hm=>?_
    obtain ⟨j,hj,e⟩:=List.getElem_of_mem hm
    rw [List.getElem_take] at e
    have hj2:j < t.length:=by rw [List.length_take,List.length_reverse] at hj;omega
    have hj3:ss[j]? = some s:=by rw [← e];exact List.getElem?_eq_getElem _
    have:=(List.getElem?_inj (List.getElem?_eq_some_iff.1 hj3).1 hnd).1 (hj3.trans hks.symm)
    omega
 rw [List.range_eq_range'] at h ⊢
 have hk:=key ops.size 0 [] w (by omega) rfl h
 rw [show Au a0 ss ([]:List Value).reverse=a0 by cases ss<;>rfl] at hk
 exact hk
theorem Ar (b:Bool):(b == true)=b:=by cases b<;>rfl
theorem beq_f (b:Bool):(b == false)=!b:=by cases b<;>rfl
theorem Mod.goS {S S' T:Nat→Prop} {w a b:World} (h:Mod S w a) (hm:Mod T a b) (hS:∀ k,S k→S' k) (hT:∀ k,k < w.heap.size→T k→S' k):Mod S' w b:=(h.mono (fun k _ h=>hS k h)).trans hm hT
theorem Mod.goE {S:Nat→Prop} {w a b:World} (h:Mod S w a) (hm:Mod (fun _=>False) a b):Mod S w b:=h.trans hm (fun _ _ h=>h.elim)
theorem ev {a1 a0:Act} (h:Hid (a1=a0)) (k:Nat) {v:Value} (e:a1.tmps.toList[k]? = some v):a0.eval (.tmp k)=v:=by
 have h:=h.out
 subst h
 simp only [Act.eval,Array.getD_eq_getD_getElem?]
 rw [← Array.getElem?_toList,e]
 rfl
theorem Aa {id:Nat} {a1:Act} (n:Nat) (ss:List Nat) (c:List Nat) (h:∀ a0,Hid (a1=a0)→QSeq P ops Q a0 n ss c [] w) (hn:a1.tmps.size=n:=by rfl) (hc:c=List.range ops.size:=by kernel_rfl) (hss:okSlots ops n ss=true:=by kernel_rfl) (hnd:ss.Nodup:=by decide):(Code.region id ops false).wp P Q a1 w:=
 wp_region_S n hn ss c (h a1 rfl) hc hss hnd
theorem Cs.eqv {g:Nat} {a b:Array Value} {T:TypeId} (h:Cs w g a T) (e:a=b):Cs w g b T:=e▸h
theorem one1 {v:Value} (h:v.oneCell'=true:=by rfl):∀ u ∈ [v],u.oneCell'=true:=by
 intro u hu
 rw [List.mem_singleton] at hu
 rw [hu]
 exact h
theorem ec {x:Operand} {v:Value} {vs:List Value} (h:a.eval x=v) (e:v.cells=vs.toArray:=by rfl):(a.eval x).cells=vs.toArray:=by rw [h];exact e
theorem sB {R:Nat→Prop} {m b:Nat} (hb:Hid (∀ k,R k→k < m)) (h:m≤b:=by omega):∀ k,R k→k=b→False:=fun k h1 h2=>by have:=hb.out k h1;omega
theorem sN {R:Nat→Prop} {m:Nat} {x y:World} (hb:Hid (∀ k,R k→k < m)) (h:m≤x.heap.size:=by omega):∀ k,R k→x.heap.size≤k∧k < y.heap.size→False:=fun k h1 h2=>by have:=hb.out k h1;omega
theorem pz:(∀ a ss,Au a ss []=a)∧(∀ a s ss v vs,Au a (s :: ss) (v :: vs)=Au (a.put (some s) v) ss vs):=⟨fun a ss=>by cases ss<;>rfl,fun _ _ _ _ _=>rfl⟩
theorem QSeq.call {F:FuncId} {xs:Array Operand} {ts:Array TypeId} {args:Array Value} {post:Ending→World→Prop} {fn:Func} (ho:ops[i]? = some o) (hop:o.op=.call { callee:=.value (.func F),args:=xs,argTypes:=ts }) (hf:P.funcs[F]? = some fn)
 (hcl:Calls P F args w post) (ha:∀ {a},SqE a0 n ss t a→xs.map a.eval=args) (hp:∀ e w',post e w'→∃ v,e=.returned v∧QSeq P ops Q a0 n ss c (v :: t) w') (hg:o.guard=none:=by rfl) (hn:(fn.name == "runtime.NumGoroutine")=false:=by kernel_rfl) (hb:fn.body.isNone=false:=by kernel_rfl):QSeq P ops Q a0 n ss (i :: c) t w:=
 QSeq.go (fun a E=>Ap ho (Ac hg) hop hf (ha E) hcl hp hn hb) ho
end
end Go.Gv

/- gavelref01: numbers and rows as bytes. -/
namespace Go.Proofs.YtnaoeginonpicaaGreat
open Go Go.RowKit Go.Gv
/-- the blocks of what an append gave: those before, or new ones since w -/
theorem AppB.trans {w0 w w':World} {v v':Value} {bs:List Int} (h:AppB w v bs v' w') (hm:Mod (fun _=>False) w0 w) (hf:Fresh w0 v):Mod (fun _=>False) w0 w'∧Fresh w0 v':=by
 obtain ⟨h1,h2,h3⟩:=h
 refine ⟨hm.trans h2 (fun i hi hk=>by have:=hf i hk.symm;omega),fun g hg=>?_⟩
 rcases h3 with h3|⟨k,h3,hk⟩
 ·exact hf g (h3▸hg)
 ·rw [h3] at hg
  obtain rfl:k=g:=by simpa using hg
  exact Nat.le_trans hm.size hk
theorem RefNum_any (n:Nat) (hn:n < U64) (w:World) :
 Calls Tryz.prog 28 #[.int .u64 n] w fun e w'=>∃ v',e=.returned v'∧OwnB w' v' (encN n)∧Fresh w v'∧Mod (fun _=>False) w w':=by
 have hen:=Bq hn
 have HN:=Lib.hid hn
 clear hn
 go_enter Tryz.func28,Tryz.ntmps28
 go_wp2
 go_loopw [0,3] (fun t o wr=>∃ (m:Nat) (bs':List Int) (ao:Option Addr) (cap:Nat),t=.int .u64 m∧m≤n∧bs' ++ encN m=encN n∧o=.slice ao bs'.length cap∧OwnB wr (.slice ao bs'.length cap) bs'∧Fresh w (.slice ao bs'.length cap)∧Mod (fun _=>False) w wr) (fun t _ _=>(intOf t).toNat)
 case atStart=>exact ⟨n,[],none,0,rfl,Nat.le_refl _,rfl,rfl,OwnB.nil _,(fun g hg=>by cases hg),Mod.refl _ _⟩
 case round=>
  obtain ⟨m,bs',ao,cap,rfl,hm,hbs,rfl,ho,hfr,hmod⟩:=hrel
  have hlen:bs'.length+(encN m).length=(encN n).length:=by have:=congrArg List.length hbs;simpa using this
  have hpos:=encN_pos m
  have hroom:bs'.length+1≤Room:=by unfold Room;omega
  have Hbs:=Lib.hid hbs
  have Hfr:=Lib.hid hfr
  have Hm:=Lib.hid hmod
  have Hr:=Lib.hid hroom
  have HO:=Lib.hid ho
  clear hbs hfr hmod hlen hroom hpos hen ho
  have hdv:IntKind.u64.wrap ((m:Int) / 128)=(m:Int) / 128:=by
   have:=HN.out
   unfold U64 at this
   simp only [IntKind.wrap,IntKind.bits,IntKind.signed];simp;omega
  by_cases h128:(128:Int)≤m
  ·go_wp2_with (at_builtin;go_must (refine wpList_appB rfl (.tmp 6) (.tmp 11) rfl rfl (HO.out.alloc _) (new:=[(m:Int) % 128+128]) rfl (RdB_one _ (by omega) (by omega) _) Hr.out ?_))
   intro ao1 cap1 w1 happ
   have hT:=AppB.trans happ (Hm.out.alloc _) Hfr.out
   have HT:=Lib.hid hT
   have HO1:=Lib.hid happ.1
   clear hT happ
   go_wp2
   go_roundw
   case rel=>exact ⟨m / 128,bs' ++ [(m:Int) % 128+128],ao1,cap1,by go_num,by omega,by have:=Hbs.out;rw [encN_ge (by omega)] at this;simpa using this,by simp,by simpa using HO1.out,by simpa using HT.out.2,HT.out.1⟩
   case measure=>simp [intOf];omega
  ·go_wp2_with (at_builtin;go_must (refine wpList_appB rfl (.tmp 15) (.tmp 18) rfl rfl (HO.out.alloc _) (new:=[(m:Int)]) rfl (RdB_one _ (by omega) (by omega) _) Hr.out ?_))
   intro ao1 cap1 w1 happ
   have hT:=AppB.trans happ (Hm.out.alloc _) Hfr.out
   have HT:=Lib.hid hT
   have HO1:=Lib.hid happ.1
   clear hT happ
   go_wp2
   go_ret
   have hb:=Hbs.out
   rw [encN_lt (by omega)] at hb
   rw [← hb]
   exact ⟨_,rfl,HO1.out,HT.out.2,HT.out.1⟩
theorem RefNum_R (n:Nat) (hn:n < U64) (w:World) :
 Calls Tryz.prog 28 #[.int .u64 n] w fun e w'=>∃ v',e=.returned v'∧OwR (New w w') 10 w' v' (encN n)∧Mod (fun _=>False) w w':=
 (RefNum_any n hn w).mono fun _ _ ⟨v',he,ho,hf,hm⟩=>⟨v',he,OwR_of 10 ho hf (Bq hn).2,hm⟩
theorem RefInt_R (n:Int) (hn:-9223372036854775808≤n∧n≤9223372036854775807) (w:World) :
 Calls Tryz.prog 22 #[.int .i64 n] w fun e w'=>∃ v',e=.returned v'∧OwR (New w w') 10 w' v' (encI n)∧Mod (fun _=>False) w w':=by
 by_cases h0:0≤n
 ·obtain ⟨k,rfl⟩:=Int.eq_ofNat_of_zero_le h0
  rw [encI_nat]
  have K:=Lib.hid (RefNum_R k (by unfold U64;omega))
  go_enter Tryz.func22,Tryz.ntmps22
  go_wp2_with (go_at_call 28;go_must (refine (K.out _).mono ?_);rintro e w' ⟨v',rfl,h1,h2⟩;have H1:=Lib.hid h1;have H2:=Lib.hid h2;clear h1 h2)
  go_ret
  exact ⟨v',rfl,H1.out,H2.out⟩
 ·have e:encI n=encN 0:=by unfold encI;congr 1;omega
  rw [e]
  have K:=Lib.hid (RefNum_R 0 (by unfold U64;omega))
  clear e
  go_enter Tryz.func22,Tryz.ntmps22
  go_wp2_with (go_at_call 28;go_must (refine (K.out _).mono ?_);rintro e w' ⟨v',rfl,h1,h2⟩;have H1:=Lib.hid h1;have H2:=Lib.hid h2;clear h1 h2)
  go_ret
  exact ⟨v',rfl,H1.out,H2.out⟩
theorem RefRow_R {R:Nat→Prop} {N:Nat} {v:Value} {bs:List Int} {w:World} (hr:RdR R N w v bs) (hN:N≤900000) :
 Calls Tryz.prog 35 #[v] w fun e w'=>∃ v',e=.returned v'∧OwR (New w w') (N+10) w' v' (encN bs.length ++ bs)∧Mod (fun _=>False) w w':=by
 obtain ⟨ao,cap,rfl⟩:=hr.shape
 have K:=Lib.hid (RefInt_R bs.length (by have:=hr.2.2;omega))
 have HR:=Lib.hid hr
 have HL:=Lib.hid (show bs.length < U64 by have:=hr.2.2;unfold U64;omega)
 clear hr
 go_enter Tryz.func35,Tryz.ntmps35
 go_wp2_with (first
  | (go_at_call 22;go_must (refine (K.out _).mono ?_);rintro e w1 ⟨v1,rfl,h1,h2⟩;rw [encI_nat] at h1;have z1:=h2.size;have H1:=Lib.hid h1;have H2:=Lib.hid h2;have HR1:=Lib.hid (HR.out.mod h2 (fun _ _ h=>h));clear h1 h2)
  | (at_builtin;go_must (refine wpList_appR rfl (.tmp 5) (.tmp 6) rfl rfl H1.out rfl HR1.out (by omega) ?_)))
 intro ao2 cap2 w2 ho hm
 have z2:=hm.size
 have HO:=Lib.hid ho
 have HM:=Lib.hid hm
 clear ho hm
 go_wp2
 go_ret
 exact ⟨_,rfl,HO.out.widen (fun k h=>by unfold New at *; omega) (by omega),H2.out.trans HM.out (fun i hi h=>by unfold New at h;omega)⟩
end Go.Proofs.YtnaoeginonpicaaGreat

/- gavelref01.join: bytes, one behind the other; a region that joins what calls answer. -/
namespace Go.Gv
open Go Go.RowKit
section
variable {P:Program} {o:Oper} {a:Act} {w w':World}
/-- a row of slices is made -/
theorem ex_buildSl {ts T:TypeId} {n:Nat} {parts:Array (Nat × Operand)} (ho:o.op=.buildSlice ts n parts) (hu:P.underlying ts=some (.slice T)) (hie:(P.info? T).map (fun i=>(i.size,i.zero))=some (1,some (.slice none 0 0))) (hn:n≠0∧n≤1000) {C:Array Value}
 (hf:Instr.fill (fun i=>some (i * 1,1)) ((Array.range (n * 1)).map (#[Value.slice none 0 0][· % 1]!)) (parts.map fun (i,x)=>(i,a.eval x)).toList=some C) :
 (execOp a.eval o).run P w=.ok (.value (.slice (some ⟨w.heap.size,0,none⟩) n n)) (w.alloc (.cells C T)):=by
 cases hq:P.info? T with
 | none=>rw [hq] at hie;cases hie
 | some ie=>
  rw [hq] at hie
  have e:=Option.some.inj hie
  have e1:ie.size=1:=congrArg Prod.fst e
  have e2:ie.zero=some (.slice none 0 0):=congrArg Prod.snd e
  have hr:=run_buildSlice (P:=P) w ts T n (parts.map fun (i,x)=>(i,a.eval x)) C ie (.slice none 0 0) hu hq e2 (by rw [e1];omega) (by rw [e1];omega) (by rw [e1];exact hf)
  unfold execOp
  simp only [ho,Sem.run_bind,hr,Result.andThen_ok,Sem.run_pure]
end
/-- marks turn no cell -/
theorem Marked.cell {B:Nat} {T8:TypeId} {w w':World} (hm:Marked B T8 w w') {p:Addr} {u:Value} (h:w.cell? p=some u):w'.cell? p=some u:=by
 have hlt:=World.block_lt_of_cell? _ _ h
 rcases hm.block p.block hlt with h1|⟨-,C,m,h1,h2⟩
 ·exact (World.cell?_of_block h1).trans h
 ·unfold World.cell? at h ⊢
  rw [h1] at h
  rw [h2]
  exact h
theorem Rd.cells {s n:Nat} {w w':World} {v:Value} {cs:List Value} (h:Rd s w v n cs) (hc:∀ p u,w.cell? p=some u→w'.cell? p=some u):Rd s w' v n cs:=by
 obtain ⟨hl,ao,cap,rfl,h1,h2,h3,h4⟩:=h
 exact ⟨hl,ao,cap,rfl,h1,h2,h3,fun x hx j u hu=>⟨(h4 x hx j u hu).1,hc _ _ (h4 x hx j u hu).2⟩⟩
theorem Rd.old {s n:Nat} {w:World} {v:Value} {cs:List Value} (hs:0 < s) (h:Rd s w v n cs) (h0:0 < n):∀ g,v.ownBlock=some g→g < w.heap.size:=by
 rcases h.form hs with ⟨rfl,_⟩|⟨g,o,cap,_,rfl,_,_,hl,hc⟩
 ·omega
 ·intro g' hg
  have e:g=g':=by simpa [Value.ownBlock] using hg
  subst e
  have hlt:0 < cs.length:=by rw [hl];exact Nat.mul_pos h0 hs
  exact World.block_lt_of_cell? _ _ (hc 0 _ (List.getElem?_eq_getElem hlt))
end Go.Gv
namespace Go.Proofs.YtnaoeginonpicaaGreat
open Go Go.RowKit Go.Gv
theorem RdB.cells {w w':World} {v:Value} {bs:List Int} (h:RdB w v bs) (hc:∀ p u,w.cell? p=some u→w'.cell? p=some u):RdB w' v bs:=⟨h.1,h.2.cells hc⟩
/-- rows of bytes: the outer list, and each row where it lies -/
structure RdJ (w:World) (v:Value) (rs:List (Value × List Int)):Prop where
 o:Rd 1 w v rs.length (rs.map (·.1))
 f:∀ p ∈ rs,RdB w p.1 p.2
theorem RdJ.cells {w w':World} {v:Value} {rs:List (Value × List Int)} (h:RdJ w v rs) (hc:∀ p u,w.cell? p=some u→w'.cell? p=some u):RdJ w' v rs:=⟨h.o.cells hc,fun p hp=>(h.f p hp).cells hc⟩
theorem RdJ.shape {w:World} {v:Value} {rs:List (Value × List Int)} (h:RdJ w v rs):∃ ao cap,v=.slice ao rs.length cap:=by
 obtain ⟨_,ao,cap,e,_⟩:=h.o
 exact ⟨ao,cap,e⟩
theorem RdJ.at {w:World} {ao:Option Addr} {n cap:Nat} {rs:List (Value × List Int)} (h:RdJ w (.slice ao n cap) rs) {i:Nat} (hi:i < rs.length) :
 ∃ g o,ao=some ⟨g,o,none⟩∧g < w.heap.size∧w.cell? ⟨g,o+i,none⟩=some rs[i].1:=by
 rcases h.o.form (by decide) with ⟨h0,_⟩|⟨g,o,cap',h0,hv,h1,h2,hl,hc⟩
 ·omega
 ·simp only [Value.slice.injEq] at hv
  obtain ⟨rfl,rfl,rfl⟩:=hv
  exact ⟨g,o,rfl,h.o.old (by decide) h0 g rfl,hc i _ (by simp [List.getElem?_eq_getElem hi])⟩
/-- a new outer list -/
theorem RdJ.new {w:World} {e:TypeId} {rs:List (Value × List Int)} (h:∀ p ∈ rs,RdB w p.1 p.2) (hl:rs.length≤1000) {C:Array Value} (hC:C=(rs.map (·.1)).toArray) {n:Nat} (hn:n=rs.length):RdJ (w.alloc (.cells C e)) (.slice (some ⟨w.heap.size,0,none⟩) n n) rs:=by
 subst hC
 subst hn
 refine ⟨Rd.mk (Nat.le_refl _) (by rw [Ax];omega) (by simp) fun j y hy=>?_,fun p hp=>(h p hp).alloc _⟩
 rw [Nat.zero_add,(Cs.new w _ e).cell]
 simpa using hy
def flat (rs:List (Value × List Int)):List Int:=(rs.map (·.2)).flatten
theorem flat_take (rs:List (Value × List Int)) (i:Nat) (h:i < rs.length):flat (rs.take (i+1))=flat (rs.take i) ++ rs[i].2:=by
 unfold flat
 rw [List.take_succ_eq_append_getElem h,List.map_append,List.flatten_append]
 simp
theorem flat_le (rs:List (Value × List Int)) (i:Nat):(flat (rs.take i)).length≤(flat rs).length:=by
 conv=>rhs;rw [← List.take_append_drop i rs]
 unfold flat
 rw [List.map_append,List.flatten_append,List.length_append]
 omega
set_option maxHeartbeats 4000000 in
theorem Join_any (v:Value) (rs:List (Value × List Int)) (w:World) (h:RdJ w v rs) (hn:rs.length≤1000) (hl:(flat rs).length≤900000) :
 Calls Tryz.prog 21 #[v] w fun e w'=>∃ v',e=.returned v'∧OwR (New w w') (flat rs).length w' v' (flat rs)∧Mod (fun _=>False) w w':=by
 have HR1:=Lib.hid h
 have HFL:=Lib.hid hl
 obtain ⟨ao,cap,rfl⟩:=h.shape
 clear h hl
 go_enter Tryz.func21,Tryz.ntmps21
 go_wp2
 go_loopw [3,7] (fun t3 t7 wr=>∃ (i:Nat),t7=.int .i64 i∧i≤rs.length∧OwR (fun k=>w.heap.size≤k) (flat (rs.take i)).length wr t3 (flat (rs.take i))∧Mod (fun k=>w.heap.size≤k) w wr) (fun _ t7 _=>rs.length - (intOf t7).toNat)
 case atStart=>exact ⟨0,rfl,by omega,⟨OwnB.nil _,(fun g hg=>by cases hg),Nat.le_refl _⟩,Mod.refl _ _⟩
 case round=>
  obtain ⟨wi,rfl⟩:∃ x,x=wr:=⟨_,rfl⟩
  obtain ⟨i,rfl,hi,hB,hm⟩:=hrel
  have KB:=Lib.hid hB
  have KM:=Lib.hid hm
  have zi:=hm.size
  clear hB hm
  by_cases hlt:i < rs.length
  ·obtain ⟨g,o,rfl,hg,hcell0⟩:=HR1.out.at hlt
   have hcell:wi.cell? ⟨g,o+i,none⟩=some rs[i].1:=KM.out.cell hcell0 (by show ¬ w.heap.size≤g;omega)
   have hrb:RdB w rs[i].1 rs[i].2:=HR1.out.f rs[i] (List.getElem_mem hlt)
   have HRW:=Lib.hid (show RdR (fun k=>k < w.heap.size) rs[i].2.length wi rs[i].1 rs[i].2 from RdR.mod ⟨hrb,hrb.block_lt,Nat.le_refl _⟩ KM.out (fun k h1 h2=>by omega))
   have HT:=Lib.hid (flat_take rs i hlt)
   have hle:=flat_le rs (i+1)
   have hle2:=HFL.out
   rw [HT.out,List.length_append] at hle
   obtain ⟨q,hq⟩:∃ q,q=rs[i]:=⟨_,rfl⟩
   rw [← hq] at hcell HRW HT hle
   clear hcell0 hrb hq
   obtain ⟨vi,bi⟩:=q
   obtain ⟨ai,ci,rfl⟩:∃ ai ci,vi=.slice ai bi.length ci:=HRW.out.shape
   dsimp only at hcell HRW HT hle
   obtain ⟨ab,cb,rfl⟩:=KB.out.shape
   go_wp2_with (at_builtin;go_must (refine wpList_appR rfl (.tmp 10) (.tmp 14) rfl rfl KB.out rfl HRW.out (by omega) ?_))
   intro ao5 cap5 w5 ho5 hm5
   have KB5:=Lib.hid (show OwR (fun k=>w.heap.size≤k) (flat (rs.take (i+1))).length w5 _ (flat (rs.take (i+1))) from by
    rw [HT.out]
    exact ho5.widen (R':=fun k=>w.heap.size≤k) (fun k h=>by unfold New at h;omega) (by rw [List.length_append];exact Nat.le_refl _))
   have KM5:=Lib.hid (KM.out.trans hm5 (fun k _ h=>h))
   clear ho5 hm5 KB KM HT HRW hcell hle hle2
   go_wp2
   go_roundw
   case rel=>exact ⟨i+1,by go_num,by omega,KB5.out,KM5.out⟩
   case measure=>first|(simp [intOf];done)|(simp [intOf];omega)
  ·obtain rfl:i=rs.length:=by omega
   have hb:=KB.out
   rw [List.take_length] at hb
   have HB:=Lib.hid hb
   obtain ⟨ab,cb,rfl⟩:=KB.out.shape
   clear hb KB
   go_wp2
   go_ret
   exact ⟨_,rfl,⟨HB.out.1,(fun g hg=>⟨HB.out.2.1 g hg,Own.lt HB.out.1 hg⟩),Nat.le_refl _⟩,KM.out.mono (fun k hk h=>by omega)⟩
theorem litG.rd {B K:Nat} {bs:List Int} {t:List Value} {v:Value} {w:World} (h:litG B 5 K (bs.map bv).toArray t v w) (hk:t.length≤K) (hb:Bytes bs) (hl:bs.length≤1000000):RdB w v bs:=by
 obtain ⟨g,rfl,-,m,-,h4⟩:=h hk
 have e:(bs.map bv).toArray.size=bs.length:=by simp
 rw [e]
 refine ⟨hb,Rd.mk (Nat.le_refl _) (by rw [Ax];omega) (by simp) fun j y hy=>?_⟩
 rw [Nat.zero_add]
 simp only [World.cell?,h4]
 simpa using hy
theorem StillM.obj {B K k:Nat} {w w':World} (h:StillM B 5 K k w w') {g:Nat} {c:Array Value} {e:TypeId} (hc:Cs w g c e) (he:e≠5):Cs w' g c e:=by
 rcases h with h|⟨-,h⟩
 ·exact hc.mod h (fun h=>h)
 ·rcases h.block g hc.lt with h1|⟨-,C,m,h1,-⟩
  ·exact h1.trans hc
  ·unfold Cs at hc
   rw [hc] at h1
   cases h1
   exact absurd rfl he
/-- an array's slice -/
theorem ex_sliceArr {P:Program} {o:Oper} {a:Act} {w:World} {T e:TypeId} {x:Operand} {g off n:Nat} (ho:o.op=.slice T x none none none) (hu:P.underlying T=some (.array n e)) (hs:(P.info? e).map (·.size)=some 1) (hx:a.eval x=.pointer (some ⟨g,off,none⟩)) (hn:0 < n) :
 (execOp a.eval o).run P w=.ok (.value (.slice (some ⟨g,off,none⟩) n n)) w:=by
 have hsz:(sizeOf e).run P w=.ok 1 w:=by
  cases hq:P.info? e with
  | none=>rw [hq] at hs;cases hs
  | some i=>rw [hq] at hs;simp [sizeOf,typeInfo,hq];exact Option.some.inj hs
 unfold execOp
 have h0:¬ n=0:=by omega
 simp [ho,hx,Instr.sliceAt,Instr.slice,Instr.sliceBounds,asIntOf,run_underlying hu,hsz,add_mk,Instr.sureAddr,h0]
end Go.Proofs.YtnaoeginonpicaaGreat

/- Bytes in regions told step by step: appends, rows of rows, strings as bytes, writers' ends. -/
namespace Go.Proofs.YtnaoeginonpicaaGreat
open Go Go.RowKit Go.Gv
section
variable {ops:Array Oper} {Q:Exit→Act→World→Prop} {i:Nat} {o:Oper} {a:Act} {w:World} {KQ:Value→World→Prop} {B:Nat} {S0 Z:Nat→Prop} {t:List Value} {l:List QPred}
/-- one of the chain appends bytes -/
theorem qc_appR {s x:Operand} {R R':Nat→Prop} {N M:Nat} {v xv:Value} {bs new:List Int} (ho:ops[i]? = some o) (hw:Region.wanted o (yielded ops a.tmps)=true) (hop:o.op=.call { callee:=.builtin .append,args:=#[s,x],argTypes:=#[52,52] })
 (hs:a.eval s=v) (hx:a.eval x=xv) (hown:OwR R N w v bs) (hrd:RdR R' M w xv new) (hroom:(bs ++ new).length≤900000)
 (h:∀ ao cap w',OwR (fun k=>R k∨New w w' k) 900000 w' (.slice ao (bs.length+new.length) cap) (bs ++ new)→Mod R w w'→KQ (.slice ao (bs.length+new.length) cap) w'):wpOp Tryz.prog ops Q i (fun a' w'=>∃ v,a'=a.put o.dst v∧KQ v w') a w:=by
 obtain ⟨i0,hi,hz0,hz1,hz2⟩:=info_parts info_u8
 have hlen:bs.length+new.length≤900000:=by simpa using hroom
 obtain ⟨ao,cap,w',hr,h1,h2,h3⟩:=run_append (P:=Tryz.prog) w 52 o.type 5 i0 (.int .u8 0) 1 1 Tryz.underlying52 hi hz0 hz1 hz2 rfl (by decide) IsB_zero v _ _ hown.1 xv new.length (new.map bv) hrd.1.2 (isB_all hrd.1.1) (ints_oneCell .u8 new) (by omega) (by rw [Ax];omega)
 refine qc_run ho hw (ex_append hop hs hx hr) (h ao cap w' ⟨?_,(fun g hg=>?_),hroom⟩ (h2.mono (fun k _ hk=>hown.2.1 k hk.symm)))
 ·unfold OwnB
  rw [List.length_append,List.map_append]
  exact h1
 ·rcases h3 with h3|⟨k,h3,hk⟩
  ·exact .inl (hown.2.1 g (h3▸hg))
  ·rw [h3] at hg
   obtain rfl:k=g:=by simpa using hg
   exact .inr ⟨hk,Own.lt h1 h3⟩
/-- one of the chain makes a row of rows -/
theorem Bl {ts:TypeId} {n:Nat} {parts:Array (Nat × Operand)} (ho:ops[i]? = some o) (hw:Region.wanted o (yielded ops a.tmps)=true) (hop:o.op=.buildSlice ts n parts) (hu:Tryz.prog.underlying ts=some (.slice 52)) (hn:n≠0∧n≤1000) {C:Array Value}
 (hf:Instr.fill (fun i=>some (i * 1,1)) ((Array.range (n * 1)).map (#[Value.slice none 0 0][· % 1]!)) (parts.map fun (i,x)=>(i,a.eval x)).toList=some C)
 (h:∀ w',Cs w' w.heap.size C 52→Mod (fun _=>False) w w'→KQ (.slice (some ⟨w.heap.size,0,none⟩) n n) w'):wpOp Tryz.prog ops Q i (fun a' w'=>∃ v,a'=a.put o.dst v∧KQ v w') a w:=
 qc_run ho hw (ex_buildSl hop hu (by kernel_rfl) hn hf) (h _ (Cs.new _ _ _) ((Mod.refl _ _).alloc _))
theorem Join_Q {g n:Nat} {C:Array Value} {e:TypeId} (hc:Cs w g C e) (rs:List (Value × List Int)) (hC:C=(rs.map (·.1)).toArray) (hn:n=rs.length) (h:∀ p ∈ rs,RdB w p.1 p.2) (hl2:rs.length≤1000) {bs:List Int} (hb:flat rs=bs) (hl:bs.length≤900000) :
 Calls Tryz.prog 21 #[.slice (some ⟨g,0,none⟩) n n] w fun e w'=>∃ v',e=.returned v'∧OwR (New w w') 900000 w' v' bs∧Mod (fun _=>False) w w':=by
 subst hb
 have hj:RdJ w (.slice (some ⟨g,0,none⟩) n n) rs:=by
  refine ⟨?_,h⟩
  subst hn
  refine Rd.mk (Nat.le_refl _) (by rw [Ax];omega) (by simp) fun j y hy=>?_
  rw [Nat.zero_add,hc.cell,hC]
  simpa using hy
 exact (Join_any _ rs w hj hl2 hl).mono fun e w' ⟨v',he,ho,hm⟩=>⟨v',he,ho.widen (fun _ h=>h) hl,hm⟩
theorem ql.rd {bs:List Int} {v:Value} (hb:Bytes bs) (h:ql B 5 (bs.map bv).toArray Z t v w) (hl:bs.length≤1000000):∃ R:Nat→Prop,(∀ j,R j→B≤j∧¬ Z j∧j < w.heap.size)∧RdR R bs.length w v bs:=by
 obtain ⟨g,rfl,hB,hZ,m,h4⟩:=h
 have e:(bs.map bv).toArray.size=bs.length:=by simp
 refine ⟨fun k=>k=g,fun j hj=>by subst hj;exact ⟨hB,hZ,(Array.getElem?_eq_some_iff.1 h4).1⟩,⟨hb,?_⟩,fun _ k hk=>by cases hk;rfl,Nat.le_refl _⟩
 rw [e]
 refine Rd.mk (Nat.le_refl _) (by rw [Ax];omega) (by simp) fun j y hy=>?_
 rw [Nat.zero_add]
 simp only [World.cell?,h4]
 simpa using hy
/-- a string's bytes -/
def Bg (s:ByteArray):List Int:=s.data.toList.map fun b=>(b.toNat:Int)
theorem bytesOf_len (s:ByteArray):(Bg s).length=s.size:=by unfold Bg;rw [List.length_map];rfl
theorem bytesOf_ok (s:ByteArray):Bytes (Bg s):=by
 intro x hx
 obtain ⟨b,-,rfl⟩:=List.mem_map.1 hx
 have:=b.toNat_lt
 omega
theorem str_bytes (w:World) (s:ByteArray) (hs:s.size≤1000000):∃ cap w',(convert 9 52 (.string s)).run Tryz.prog w=.ok (.slice (some ⟨w.heap.size,0,none⟩) s.size cap) w'∧RdR (fun k=>k=w.heap.size) 1000000 w' (.slice (some ⟨w.heap.size,0,none⟩) s.size cap) (Bg s)∧Mod (fun _=>False) w w'∧w'.heap.size=w.heap.size+1:=by
 refine ⟨_,_,Lib.run_convert_string_bytes (P:=Tryz.prog) w _ _ 5 s Tryz.underlying9 Tryz.underlying52 Tryz.underlying5,⟨⟨bytesOf_ok s,?_⟩,(fun _ g hg=>by cases hg;rfl),by rw [bytesOf_len];exact hs⟩,⟨rfl,rfl,rfl,by rw [Lib.bytesWorld_size];omega,fun k hk _=>Lib.bytesWorld_at_old w _ s k hk⟩,Lib.bytesWorld_size w _ s⟩
 rw [bytesOf_len]
 refine Rd.mk (grownCap_ge w s.size 0 _) (grownCap_le_maxLen w s.size 0 _ (by rw [Ax];omega)) (by rw [List.length_map,bytesOf_len,Nat.mul_one]) fun j u hu=>?_
 rw [Nat.zero_add]
 have hj:j < s.size:=by have:=(List.getElem?_eq_some_iff.1 hu).1;rwa [List.length_map,bytesOf_len] at this
 rw [Lib.bytesWorld_cell w _ s j hj,← hu]
 simp only [Bg,List.map_map,List.getElem?_map]
 have hj2:j < s.data.toList.length:=by rw [Array.length_toList];exact hj
 rw [List.getElem?_eq_getElem hj2]
 simp only [Option.map_some,Function.comp,List.getD,List.getElem?_eq_getElem hj2,Option.getD_some]
theorem ex_convW {P:Program} {o:Oper} {a:Act} {w w':World} {src dst:TypeId} {x:Operand} {u v:Value} (ho:o.op=.convert src dst x) (hx:a.eval x=u) (hr:(convert src dst u).run P w=.ok v w'):(execOp a.eval o).run P w=.ok (.value v) w':=by
 unfold execOp;simp [ho,hx,hr]
/-- beside the chain a string is made bytes -/
theorem qe_strB {x:Operand} {s:ByteArray} (ho:ops[i]? = some o) (hw:Region.wanted o (yielded ops a.tmps)=true) (hop:o.op=.convert 9 52 x) (hx:a.eval x=.string s) (hs:s.size≤1000000) (hB:B≤w.heap.size) (hZ:∀ j,Z j→j < w.heap.size)
 (hv:∀ v w',qr B S0 (fun R w v=>RdR R 1000000 w v (Bg s)) Z t v w'→(l.getD i qa) Z t v w'):wpOp Tryz.prog ops Q i (QJ B l Z i o t a w) a w:=by
 obtain ⟨cap,w',hr,h1,h2,h3⟩:=str_bytes w s hs
 refine Bd ho hw (ex_convW hop hx hr) (QE.still h2) (hv _ _ ⟨fun k=>k=w.heap.size,fun j hj=>?_,h1⟩)
 subst hj
 exact ⟨by omega,fun h=>by omega,fun h=>by have:=hZ _ h.2;omega⟩
theorem rdR_cells {bs:List Int} {N:Nat}:∀ R w w' v,RdR R N w v bs→(∀ p u,R p.block→w.cell? p=some u→w'.cell? p=some u)→RdR R N w' v bs:=
 fun R w w' v h hk=>⟨⟨h.1.1,h.1.2.keepc fun h0 g hg p u hp hc=>hk p u (hp▸h.2.1 h0 g hg) hc⟩,h.2⟩
theorem NewWriter_Q (w:World):Calls Tryz.prog 66 #[] w fun e w'=>∃ b,e=.returned (.pointer (some ⟨b,0,none⟩))∧WrR (New w w') 900000 w' b []∧Mod (fun _=>False) w w':=
 (NewWriter_R w).mono fun e w' ⟨b,he,h,hm⟩=>⟨b,he,h.widen (fun _ h=>h) (by omega),hm⟩
theorem WBytes_Q {R:Nat→Prop} {b:Nat} {bs:List Int} {w:World} (hW:WrR R 900000 w b bs) :
 Calls Tryz.prog 69 #[.pointer (some ⟨b,0,none⟩)] w fun e w'=>∃ v',e=.returned v'∧OwR (New w w') 900000 w' v' bs∧Mod (fun _=>False) w w':=WBytes_R hW (by omega)
end
end Go.Proofs.YtnaoeginonpicaaGreat

/- SHA-256 in plain words, as the program's own operations spell it; bits.RotateLeft32 and sha.word. -/
namespace Go.Proofs.YtnaoeginonpicaaGreat
open Go Go.RowKit Go.Gv
abbrev wv (x:Int):Value:=.int .u32 x
/-- a word turned to the right -/
def rr (n:Nat) (x:Int):Int:=bits .or .u32 (IntKind.u32.wrap (x * 2 ^ (32 - n))) (x / 2 ^ n)
def xr (a b:Int):Int:=bits .xor .u32 a b
def an (a b:Int):Int:=bits .and .u32 a b
def pl (a b:Int):Int:=(a+b) % 4294967296
def wordOf (a b c d:Int):Int:=bits .or .u32 (bits .or .u32 (bits .or .u32 (a % 4294967296 * 16777216 % 4294967296) (b % 4294967296 * 65536 % 4294967296)) (c % 4294967296 * 256 % 4294967296)) (d % 4294967296)
end Go.Proofs.YtnaoeginonpicaaGreat

/- sha.spread: a block as 64 words. -/
namespace Go.Proofs.YtnaoeginonpicaaGreat
open Go Go.RowKit Go.Gv
def wAt (bs:List Int) (i:Nat):Int:=wordOf (bs.getD (4 * i) 0) (bs.getD (4 * i+1) 0) (bs.getD (4 * i+2) 0) (bs.getD (4 * i+3) 0)
def w16 (bs:List Int) (i:Nat):List Int:=(List.range i).map (wAt bs) ++ List.replicate (64 - i) 0
def spVal (p x q y:Int):Int:=pl (pl (pl p (xr (xr (rr 7 x) (rr 18 x)) (x / 8))) q) (xr (xr (rr 17 y) (rr 19 y)) (y / 1024))
def spStep (ws:List Int) (j:Nat):List Int:=ws.set (j+16) (spVal (ws.getD j 0) (ws.getD (j+1) 0) (ws.getD (j+9) 0) (ws.getD (j+14) 0))
def spTo (bs:List Int) (j:Nat):List Int:=(List.range j).foldl spStep (w16 bs 16)
def spreadF (bs:List Int):List Int:=spTo bs 48
/-- an array of words in a block -/
def Ws (T:TypeId) (w:World) (g:Nat) (ws:List Int):Prop:=Cs w g (ws.map wv).toArray T
theorem Ws.cell {T:TypeId} {w:World} {g:Nat} {ws:List Int} (h:Ws T w g ws) {j:Nat} (hj:j < ws.length):w.cell? ⟨g,j,none⟩=some (wv (ws.getD j 0)):=by
 rw [Cs.cell h];simp [List.getD,List.getElem?_eq_getElem hj]
theorem Ws.mod {T:TypeId} {S:Nat→Prop} {w w':World} {g:Nat} {ws:List Int} (h:Ws T w g ws) (hm:Mod S w w') (hn:¬ S g):Ws T w' g ws:=Cs.mod h hm hn
theorem Ws.set {T:TypeId} {w:World} {g:Nat} {ws:List Int} (h:Ws T w g ws) (j:Nat) (x:Int):Ws T (w.setCell ⟨g,j,none⟩ (wv x)) g (ws.set j x):=by
 have:=Cs.set h j (wv x)
 unfold Ws
 simpa [List.map_set] using this
theorem Ws.frozen {T:TypeId} {w:World} {g:Nat} {ws:List Int} (h:Ws T w g ws) (j:Nat):w.frozen? ⟨g,j,none⟩=false:=Cs.frozen h j
end Go.Proofs.YtnaoeginonpicaaGreat

/- sha.mix: a block goes into the state. -/
namespace Go.Proofs.YtnaoeginonpicaaGreat
open Go Go.RowKit Go.Gv
section
variable {w0 w:World} {v:Value} {hs F z8 z64:List Int} {g3:Nat} {L:Nat→Bool} {vs:List Value}
end
def mixT (s:List Int) (k x:Int):Int:=(s.getD 7 0+xr (xr (rr 6 (s.getD 4 0)) (rr 11 (s.getD 4 0))) (rr 25 (s.getD 4 0))+xr (an (s.getD 4 0) (s.getD 5 0)) (an (xr 4294967295 (s.getD 4 0)) (s.getD 6 0))+k+x) % 4294967296
def mixU (s:List Int):Int:=(xr (xr (rr 2 (s.getD 0 0)) (rr 13 (s.getD 0 0))) (rr 22 (s.getD 0 0))+xr (xr (an (s.getD 0 0) (s.getD 1 0)) (an (s.getD 0 0) (s.getD 2 0))) (an (s.getD 1 0) (s.getD 2 0))) % 4294967296
def mixStep (s:List Int) (k x:Int):List Int:=[pl (mixT s k x) (mixU s),s.getD 0 0,s.getD 1 0,s.getD 2 0,pl (s.getD 3 0) (mixT s k x),s.getD 4 0,s.getD 5 0,s.getD 6 0]
def mixTo (hs ks ws:List Int) (n:Nat):List Int:=(List.range n).foldl (fun s i=>mixStep s (ks.getD i 0) (ws.getD i 0)) hs
def addTo (hs s:List Int) (n:Nat):List Int:=(List.range n).foldl (fun h i=>h.set i (pl (h.getD i 0) (s.getD i 0))) hs
def mixF (hs ks bs:List Int):List Int:=addTo hs (mixTo hs ks (spreadF bs) 64) 8
end Go.Proofs.YtnaoeginonpicaaGreat

/- The rounds' numbers; an element of an array value; SHA-256 in plain words. -/
namespace Go.Proofs.YtnaoeginonpicaaGreat
open Go Go.RowKit Go.Gv
def K256:List Int:=[1116352408,1899447441,3049323471,3921009573,961987163,1508970993,2453635748,2870763221,3624381080,310598401,607225278,1426881987,1925078388,2162078206,2614888103,3248222580,3835390401,4022224774,264347078,604807628,770255983,1249150122,1555081692,1996064986,2554220882,2821834349,2952996808,3210313671,3336571891,3584528711,113926993,338241895,666307205,773529912,1294757372,1396182291,1695183700,1986661051,2177026350,2456956037,2730485921,2820302411,3259730800,3345764771,3516065817,3600352804,4094571909,275423344,430227734,506948616,659060556,883997877,958139571,1322822218,1537002063,1747873779,1955562222,2024104815,2227730452,2361852424,2428436474,2756734187,3204031479,3329325298]
def H256:List Int:=[1779033703,3144134277,1013904242,2773480762,1359893119,2600822924,528734635,1541459225]
end Go.Proofs.YtnaoeginonpicaaGreat

/- gavellaw01.Act: a call, as an argument holds it. -/
namespace Go.Proofs.YtnaoeginonpicaaGreat
open Go Go.RowKit Go.Gv Go.ChangeShapes Go.WideShapes Go.ChangeAt Go.Deep
structure Act01 where
 Do:Int
 N:Int
 U:Nat
 VB:Value
 B:List Int
 H:List Int
instance:Inhabited Act01:=⟨⟨0,0,0,.slice none 0 0,[],List.replicate 32 0⟩⟩
def Act01.tail (a:Act01):List Value:=(List.range 32).map fun i=>bv (a.H.getD i 0)
def Act01.cells (a:Act01):List Value:=.int .i64 a.Do :: .int .i64 a.N :: .int .u64 a.U :: a.VB :: a.tail
structure Act01.Ok (W:World) (a:Act01):Prop where
 d:-9223372036854775808≤a.Do∧a.Do≤9223372036854775807
 n:-9223372036854775808≤a.N∧a.N≤9223372036854775807
 u:a.U < U64
 b:RdR (fun k=>k < W.heap.size) a.B.length W a.VB a.B
 h:a.H.length=32
 hb:Bytes a.H
theorem Act01.len (a:Act01):a.cells.length=36:=by simp [Act01.cells,Act01.tail]
end Go.Proofs.YtnaoeginonpicaaGreat

/- Local copies of an Act; lent texts with their blocks. -/
namespace Go.Proofs.YtnaoeginonpicaaGreat
open Go Go.RowKit Go.Gv
section
variable {α:Type} {s:Nat} {cells:α→List Value} {R R' S:Nat→Prop} {w w':World} {v:Value} {l:List α}
theorem RdE.shape (h:RdE s cells R w v l):∃ ao cap,v=.slice ao l.length cap∧l.length≤maxLen:=by
 rcases h with ⟨rfl,ao,cap,rfl⟩|⟨g,o,cap,_,rfl,_,h1,h2,_⟩
 ·exact ⟨ao,cap,rfl,by simp⟩
 ·exact ⟨_,cap,rfl,by omega⟩
theorem RdE.at {ao:Option Addr} {n cap:Nat} (h:RdE s cells R w (.slice ao n cap) l) {i:Nat} (hi:i < l.length) :
 ∃ g o,ao=some ⟨g,o,none⟩∧∀ j u,(cells l[i])[j]? = some u→w.cell? ⟨g,o+i * s+j,none⟩=some u:=by
 rcases h with ⟨rfl,_⟩|⟨g,o,cap',_,e,_,_,_,h6⟩
 ·exact absurd hi (by simp)
 ·simp only [Value.slice.injEq] at e
  exact ⟨g,o,e.1,fun j u=>h6 i hi j u⟩
theorem RdE.widen (h:RdE s cells R w v l) (hs:∀ k,R k→R' k):RdE s cells R' w v l:=by
 rcases h with h|⟨g,o,cap,h1,h2⟩
 ·exact .inl h
 ·exact .inr ⟨g,o,cap,hs g h1,h2⟩
end
section
variable {R R' S:Nat→Prop} {w w':World} {g:Nat} {a:Act01}
end
theorem Act01.one {W:World} {a:Act01} (h:a.Ok W):∀ u ∈ a.cells,u.oneCell'=true:=by
 intro u hu
 obtain ⟨ao,cap,e⟩:=h.b.shape
 simp only [Act01.cells,Act01.tail,List.mem_cons,List.mem_map] at hu
 rcases hu with rfl|rfl|rfl|rfl|⟨i,_,rfl⟩
 ·rfl
 ·rfl
 ·rfl
 ·rw [e];rfl
 ·rfl
/-- a lent text with its block -/
def LentR (R:Nat→Prop) (N:Nat) (w:World) (v:Value) (bs:List Int):Prop:=Lent w v bs∧(∀ g,v.ownBlock=some g→R g)∧Bytes bs∧bs.length≤N∧N≤1000000
section
variable {R R' S:Nat→Prop} {N M:Nat} {w w':World} {v:Value} {bs:List Int}
theorem LentR.mod (h:LentR R N w v bs) (hm:Mod S w w') (hs:∀ k,R k→S k→False):LentR R N w' v bs:=by
 obtain ⟨⟨g,rfl,hc⟩,h2,h3⟩:=h
 exact ⟨⟨g,rfl,hc.mod hm (hs g (h2 g rfl))⟩,h2,h3⟩
theorem LentR.widen (h:LentR R N w v bs) (hs:∀ k,R k→R' k) (_hM:N≤N):LentR R' N w v bs:=⟨h.1,fun g hg=>hs g (h.2.1 g hg),h.2.2⟩
theorem LentR.rd (h:LentR R N w v bs):RdR R N w v bs:=by
 obtain ⟨⟨g,rfl,hc⟩,h2,h3,h4,h5⟩:=h
 refine ⟨⟨h3,?_⟩,fun _=>h2,h4⟩
 refine Rd.mk (by omega) (by rw [Ax];omega) (by simp) fun j u hu=>?_
 rw [Nat.zero_add,hc.cell]
 have hj:j < bs.length:=by have:=(List.getElem?_eq_some_iff.1 hu).1;simpa using this
 simp only [List.getElem?_map,List.getElem?_toArray] at hu ⊢
 rw [← hu]
 congr 1
 unfold lendc
 rw [List.getElem?_append_left hj]
end
end Go.Proofs.YtnaoeginonpicaaGreat

/- What calls write, what is read of it, what is read of a strict beginning of it. -/
namespace Go.Proofs.YtnaoeginonpicaaGreat
open Go Go.RowKit Go.Gv
theorem RdR.upto {R:Nat→Prop} {N:Nat} {w:World} {ao:Option Addr} {n cap:Nat} {bs:List Int} (h:RdR R N w (.slice ao n cap) bs) (k:Nat) (hk:k≤bs.length):RdR R N w (.slice ao k cap) (bs.take k):=by
 refine ⟨h.1.upto k hk,fun h0 g hg=>h.2.1 (by simp at h0;omega) g (by cases ao<;>simp_all [Value.ownBlock]),by have:=h.2.2;simp;omega⟩
/-- the state of a reader that has less than all of `full` ahead -/
def SP (s:RSt) (full:List Int):Prop:=s=none∨∃ t,s=some t∧t <+: full∧t.length < full.length
theorem SP.nil {s:RSt} (h:SP s []):s=none:=by
 rcases h with h|⟨t,_,_,h⟩
 ·exact h
 ·simp at h
theorem SP.cut {t a rest:List Int} (h1:t <+: a ++ rest) (h2:t.length < (a ++ rest).length):(t <+: a∧t.length < a.length)∨∃ t',t=a ++ t'∧SP (some t') rest:=by
 rcases Nat.lt_or_ge t.length a.length with h|h
 ·exact .inl ⟨List.prefix_of_prefix_length_le h1 (List.prefix_append a rest) (by omega),h⟩
 ·obtain ⟨t',rfl⟩:=List.prefix_of_prefix_length_le (List.prefix_append a rest) h1 h
  refine .inr ⟨t',rfl,.inr ⟨t',rfl,(List.prefix_append_right_inj a).1 h1,by simpa using h2⟩⟩
theorem dec_pre:∀ (m i acc:Nat) (t:List Int),t <+: encN m→t.length < (encN m).length→decGo i acc t=none:=by
 intro m
 induction m using Nat.strongRecOn with
 | _ m ih=>
  intro i acc t h1 h2
  by_cases hm:m < 128
  ·rw [encN_lt hm] at h2
   obtain rfl:t=[]:=List.eq_nil_of_length_eq_zero (by simpa using h2)
   rfl
  ·rw [encN_ge (by omega)] at h1 h2
   cases t with
   | nil=>rfl
   | cons c t=>
    obtain ⟨rfl,h1'⟩:=List.cons_prefix_cons.1 h1
    simp only [decGo]
    split
    ·rfl
    ·rw [if_neg (by omega)]
     exact ih (m / 128) (by omega) _ _ t h1' (by simpa using h2)
theorem SP.num {s:RSt} {n:Nat} {rest:List Int} (hn:n < U64) (h:SP s (encN n ++ rest)):SP (rNum s).2 rest∧((rNum s).2.isSome→(rNum s).1=n):=by
 rcases h with rfl|⟨t,rfl,h1,h2⟩
 ·exact ⟨.inl rfl,by simp⟩
 ·rcases SP.cut h1 h2 with ⟨h3,h4⟩|⟨t',rfl,h5⟩
  ·have:=dec_pre n 0 0 t h3 h4
   simp [rNum,this,SP]
  ·rw [rNum_enc hn]
   exact ⟨h5,fun _=>rfl⟩
theorem SP.int {s:RSt} {n:Nat} {rest:List Int} (most:Int) (hn:n < U64) (h:SP s (encN n ++ rest)):SP (rInt most s).2 rest∧((rInt most s).2.isSome→(rInt most s).1=n):=by
 have:=h.num hn
 unfold rInt
 split
 ·exact ⟨.inl rfl,by simp⟩
 ·exact this
theorem SP.take {s:RSt} {a rest:List Int} (h:SP s (a ++ rest)):SP (rTake a.length s).2 rest:=by
 rcases h with rfl|⟨t,rfl,h1,h2⟩
 ·exact .inl rfl
 ·rcases SP.cut h1 h2 with ⟨h3,h4⟩|⟨t',rfl,h5⟩
  ·simp [rTake,h4,SP]
  ·rw [rTake_app rfl];exact h5
theorem SP.row {s:RSt} {bs rest:List Int} (most:Int) (hb:bs.length < U64) (h:SP s (encN bs.length ++ bs ++ rest)):SP (rRow most s).2 rest:=by
 rw [List.append_assoc] at h
 have h1:=h.int most hb
 unfold rRow
 cases hs:(rInt most s).2 with
 | none=>exact .inl rfl
 | some u=>
  rw [h1.2 (by simp [hs]),← hs]
  exact h1.1.take
theorem SP.hash {s:RSt} {hh rest:List Int} (hl:hh.length=32) (h:SP s (hh ++ rest)):SP (rHash s).2 rest:=by
 have h1:=h.take
 rw [hl] at h1
 unfold rHash
 generalize rTake 32 s=q at *
 rcases q with ⟨b,_|x⟩
 ·exact .inl rfl
 ·exact h1
section
variable {nm:Int} {row:Nat} {a:Act01}
end
end Go.Proofs.YtnaoeginonpicaaGreat

/- Slices of one-cell values (numbers, slices) that are appended to; an Act's fields in the slice itself. -/
namespace Go.Proofs.YtnaoeginonpicaaGreat
open Go Go.RowKit Go.Gv
def OwV (e:TypeId) (R:Nat→Prop) (N:Nat) (w:World) (v:Value) (cs:List Value):Prop:=Own (fun u=>u.oneCell'=true) e 1 w v cs.length cs∧(∀ g,v.ownBlock=some g→R g)∧cs.length≤N
section
variable {e:TypeId} {R R' S:Nat→Prop} {N M:Nat} {w w':World} {v:Value} {cs:List Value}
theorem OwV.mod (h:OwV e R N w v cs) (hm:Mod S w w') (hs:∀ k,R k→S k→False):OwV e R N w' v cs:=⟨Own.mod h.1 hm (fun g hg hS=>hs g (h.2.1 g hg) hS),h.2⟩
theorem OwV.widen (h:OwV e R N w v cs) (hs:∀ k,R k→R' k) (hM:N≤M):OwV e R' M w v cs:=⟨h.1,fun g hg=>hs g (h.2.1 g hg),Nat.le_trans h.2.2 hM⟩
theorem OwV.nil (e:TypeId) (R:Nat→Prop) (w:World):OwV e R 0 w (.slice none 0 0) []:=⟨Own.nil _ _ _ _,(fun g hg=>by cases hg),Nat.le_refl _⟩
theorem OwV.shape (h:OwV e R N w v cs):∃ ao cap,v=.slice ao cs.length cap:=Own.shape h.1
theorem OwV.at {ao:Option Addr} {n cap:Nat} (h:OwV e R N w (.slice ao n cap) cs) {i:Nat} (hi:i < cs.length) :
 ∃ g,ao=some ⟨g,0,none⟩∧∀ j u,cs[j]? = some u→w.cell? ⟨g,j,none⟩=some u:=by
 obtain ⟨hl,_,⟨hv,hn⟩|⟨g,cap',cur,hv,hg,h1,h2,h3,h4,_⟩⟩:=h.1
 ·omega
 ·simp only [Value.slice.injEq] at hv
  refine ⟨g,hv.1,fun j u hu=>?_⟩
  rw [hg.cell]
  have hj:j < cs.length:=(List.getElem?_eq_some_iff.1 hu).1
  rw [← h4,List.getElem?_take,if_pos (by omega)] at hu
  simpa using hu
end
section
variable {R:Nat→Prop} {w:World} {g o n cap i:Nat} {l:List Act01} {a:Act01}
end
end Go.Proofs.YtnaoeginonpicaaGreat

/- How long a number is; a number that is written longer; a text whose last byte is turned. -/
namespace Go.Proofs.YtnaoeginonpicaaGreat
open Go Go.RowKit Go.Gv
theorem OwR.last {R:Nat→Prop} {N:Nat} {w:World} {v:Value} {ini:List Int} {d:Int} (h:OwR R N w v (ini ++ [d])) :
 ∃ g cap,v=.slice (some ⟨g,0,none⟩) (ini.length+1) cap∧R g∧g < w.heap.size∧w.cell? ⟨g,ini.length,none⟩=some (bv d)∧w.frozen? ⟨g,ini.length,none⟩=false∧
  ∀ y:Int,0≤y→y < 256→OwR R N (w.setCell ⟨g,ini.length,none⟩ (bv y)) v (ini ++ [y]):=by
 obtain ⟨h1,h2,h3⟩:=h
 have hby:=h1.bytes
 obtain ⟨hl,hE,⟨rfl,hn⟩|⟨g,cap,cur,rfl,hc,q1,q2,q3,q4,q5⟩⟩:=h1
 ·simp at hn
 ·have q3':cap≤cur.size:=by omega
  have hlen:(ini ++ [d]).length=ini.length+1:=by simp
  rw [hlen] at q1 q4 hl
  refine ⟨g,cap,by rw [hlen],h2 g rfl,hc.lt,?_,hc.frozen _,fun y h0 hy=>⟨?_,h2,by simpa using h3⟩⟩
  ·rw [hc.cell]
   have:cur.toList[ini.length]? = some (bv d):=by
    have e:(cur.toList.take ((ini.length+1) * 1))[ini.length]? = ((ini ++ [d]).map bv)[ini.length]?:=by rw [q4]
    rw [List.getElem?_take,if_pos (by omega)] at e
    rw [e];simp
   simpa using this
  ·refine ⟨by simp,?_,.inr ⟨g,cap,cur.setIfInBounds ini.length (bv y),by simp,hc.set ini.length (bv y),by simpa using q1,q2,by simpa using q3,?_,?_⟩⟩
   ·refine isB_all ?_
    intro x hx
    rcases List.mem_append.1 hx with h|h
    ·exact hby x (List.mem_append_left _ h)
    ·simp at h;subst h;exact ⟨h0,hy⟩
   ·rw [Array.toList_setIfInBounds]
    have e2:(ini ++ [y]).length * 1=(ini.length+1) * 1:=by simp
    rw [e2,List.take_set,q4,List.map_append,List.map_append]
    rw [List.set_append_right _ _ (by simp)]
    simp
   ·intro u hu
    rw [Array.toList_setIfInBounds] at hu
    rcases List.mem_or_eq_of_mem_set hu with h|h
    ·exact q5 u h
    ·exact ⟨y,h,h0,hy⟩
end Go.Proofs.YtnaoeginonpicaaGreat

/- sha.Sum. -/
namespace Go.Proofs.YtnaoeginonpicaaGreat
open Go Go.RowKit Go.Gv
def padZ (n:Nat):Nat:=(119 - n % 64) % 64
def padded (bs:List Int) (j:Nat):List Int:=bs ++ [128] ++ List.replicate j 0
def lenB (n i:Nat):Int:=((n:Int) * 8) / 2 ^ (56 - 8 * i) % 256
def fullTo (bs:List Int) (i:Nat):List Int:=padded bs (padZ bs.length) ++ (List.range i).map (lenB bs.length)
def fullB (bs:List Int):List Int:=fullTo bs 8
def blocksTo (fb:List Int) (t:Nat):List Int:=(List.range t).foldl (fun h j=>mixF h K256 (fb.drop (64 * j))) H256
def outB (h:List Int) (q:Nat):Int:=(h.getD (q / 4) 0) / 2 ^ (24 - 8 * (q % 4)) % 256
def shaF (bs:List Int):List Int:=(List.range 32).map (outB (blocksTo (fullB bs) ((fullB bs).length / 64)))
def lenOf:Value→Nat
 | .slice _ n _=>n
 | _=>0
/-- the padded bytes, in blocks of their own -/
def FulO (w0:World) (w:World) (v:Value) (bs:List Int):Prop:=OwR (fun k=>w0.heap.size+2≤k) bs.length w v bs
theorem FulO.mod {S:Nat→Prop} {w0 w w':World} {v:Value} {bs:List Int} (o:FulO w0 w v bs) (hm:Mod S w w') (hS:∀ k,S k→k < w0.heap.size+2):FulO w0 w' v bs:=OwR.mod o hm (fun k h1 h2=>by have:=hS k h2;omega)
end Go.Proofs.YtnaoeginonpicaaGreat

/- A writer that a region fills, one call behind the other: the state for wp_region_G. -/
namespace Go.Proofs.YtnaoeginonpicaaGreat
open Go Go.RowKit Go.Gv
end Go.Proofs.YtnaoeginonpicaaGreat

/- commit.Of. -/
namespace Go.Proofs.YtnaoeginonpicaaGreat
open Go Go.RowKit Go.Gv
def I64 (n:Int):Prop:=-9223372036854775808≤n∧n≤9223372036854775807
end Go.Proofs.YtnaoeginonpicaaGreat

/- commit.Text. -/
namespace Go.Proofs.YtnaoeginonpicaaGreat
open Go Go.RowKit Go.Gv
/-- a commitment -/
structure Cm where
 cl:Int
 sq:Int
 h:List Int
 ln:Int
 sb:Int
 mr:Int
def Cm.cells (c:Cm):List Value:=[.int .i64 c.cl,.int .i64 c.sq] ++ (c.h.map bv ++ [.int .i64 c.ln,.int .i64 c.sb,.int .i64 c.mr])
def Cm.val (c:Cm):Value:=.agg c.cells.toArray
/-- its numbers are numbers, its hash is one -/
def Cm.OK (c:Cm):Prop:=(I64 c.cl∧I64 c.sq∧I64 c.ln∧I64 c.sb∧I64 c.mr)∧c.h.length=32∧Bytes c.h
theorem Cm.len {c:Cm} (h:c.h.length=32):c.cells.length=37:=by simp [Cm.cells,h]
theorem size_commit:(Tryz.prog.info? 29).map (·.size)=some 37:=by kernel_rfl
section
variable {w:World} {g:Nat} {c:Cm} {T:TypeId}
end
end Go.Proofs.YtnaoeginonpicaaGreat
namespace Go.Gv
open Go Go.RowKit Go.Proofs.YtnaoeginonpicaaGreat
section
variable {w:World} {g:Nat} {c:Cm} {T:TypeId}
theorem Cs.c0 (h:Cs w g c.cells.toArray T):w.cell? ⟨g,0,none⟩=some (.int .i64 c.cl):=by rw [h.cell];rfl
theorem Cs.c1 (h:Cs w g c.cells.toArray T):w.cell? ⟨g,1,none⟩=some (.int .i64 c.sq):=by rw [h.cell];rfl
theorem Cs.far (h:Cs w g c.cells.toArray T) (hl:c.h.length=32) (j:Nat):w.cell? ⟨g,34+j,none⟩=([Value.int .i64 c.ln,.int .i64 c.sb,.int .i64 c.mr]:List Value)[j]?:=by
 rw [h.cell]
 simp only [List.getElem?_toArray,Cm.cells]
 rw [List.getElem?_append_right (by simp;omega),List.getElem?_append_right (by simp [hl];omega)]
 simp only [List.length_cons,List.length_nil,List.length_map,hl]
 congr 1
 omega
theorem Cs.c34 (h:Cs w g c.cells.toArray T) (hl:c.h.length=32):w.cell? ⟨g,34,none⟩=some (.int .i64 c.ln):=Cs.far h hl 0
theorem Cs.hash (h:Cs w g c.cells.toArray T):∀ j u,(c.h.map bv)[j]? = some u→w.cell? ⟨g,2+j,none⟩=some u:=by
 intro j u hu
 rw [h.cell]
 simp only [List.getElem?_toArray,Cm.cells]
 rw [List.getElem?_append_right (by simp),List.getElem?_append_left (by simpa using (List.getElem?_eq_some_iff.1 hu).1)]
 simpa using hu
theorem Cs.name (h:Cs w g c.cells.toArray T):∀ j u,([Value.int .i64 c.cl,.int .i64 c.sq]:List Value)[j]? = some u→w.cell? ⟨g,0+j,none⟩=some u:=by
 intro j u hu
 rw [Nat.zero_add,h.cell]
 simp only [List.getElem?_toArray,Cm.cells]
 rw [List.getElem?_append_left (List.getElem?_eq_some_iff.1 hu).1]
 exact hu
theorem Cs.sig (h:Cs w g c.cells.toArray T) (hl:c.h.length=32):∀ j u,([Value.int .i64 c.sb,.int .i64 c.mr]:List Value)[j]? = some u→w.cell? ⟨g,35+j,none⟩=some u:=by
 intro j u hu
 have:=Cs.far h hl (1+j)
 rw [show 34+(1+j)=35+j by omega] at this
 rw [this,Nat.add_comm]
 exact hu
theorem Cs.whole {cs:List Value} (h:Cs w g cs.toArray T):∀ j u,cs[j]? = some u→w.cell? ⟨g,0+j,none⟩=some u:=by
 intro j u hu
 rw [Nat.zero_add,h.cell]
 simpa using hu
end
end Go.Gv
namespace Go.Proofs.YtnaoeginonpicaaGreat
open Go Go.RowKit Go.Gv
end Go.Proofs.YtnaoeginonpicaaGreat

/- Hashes as keys of maps; zeros. -/
namespace Go.Proofs.YtnaoeginonpicaaGreat
open Go Go.RowKit Go.Gv
open Go.Maps (Keyed)
/-- a hash -/
def HK (bs:List Int):Prop:=bs.length=32∧Bytes bs
end Go.Proofs.YtnaoeginonpicaaGreat

/- The kinds of things that messages are made of: their cells, what reads as one. -/
namespace Go.Proofs.YtnaoeginonpicaaGreat
open Go Go.RowKit Go.Gv
/-- a stamp, or an ack -/
structure St where
 rp:Int
 cl:Int
 sq:Int
 h:List Int
 tm:Nat
 sb:Int
 mr:Int
abbrev St.cells (x:St):List Value:=[.int .i64 x.rp,.int .i64 x.cl,.int .i64 x.sq] ++ (x.h.map bv ++ [.int .u64 (x.tm:Nat),.int .i64 x.sb,.int .i64 x.mr])
abbrev St.val (x:St):Value:=.agg x.cells.toArray
structure St.OK (x:St):Prop where
 rp:I64 x.rp
 cl:I64 x.cl
 sq:I64 x.sq
 h:HK x.h
 tm:x.tm < U64
 sb:I64 x.sb
 mr:I64 x.mr
theorem St.len {x:St} (h:x.OK):x.cells.length=38:=by simp [St.cells,h.h.1]
theorem St.one (x:St):∀ u ∈ x.cells,u.oneCell'=true:=by
 intro u hu
 simp only [St.cells,List.mem_append,List.mem_cons,List.not_mem_nil,or_false,List.mem_map] at hu
 rcases hu with (rfl|rfl|rfl)|⟨y,-,rfl⟩|rfl|rfl|rfl<;>rfl
def StR:Rep St:=Rep.flat 38 (by decide) St.cells St.OK (fun a h=>St.len h) (fun a _=>St.one a)
/-- a vote -/
structure Vt where
 kd:Int
 ep:Int
 rd:Int
 rp:Int
 h:List Int
 sb:Int
 mr:Int
abbrev Vt.cells (x:Vt):List Value:=[.int .i64 x.kd,.int .i64 x.ep,.int .i64 x.rd,.int .i64 x.rp] ++ (x.h.map bv ++ [.int .i64 x.sb,.int .i64 x.mr])
abbrev Vt.val (x:Vt):Value:=.agg x.cells.toArray
structure Vt.OK (x:Vt):Prop where
 kd:I64 x.kd
 ep:I64 x.ep
 rd:I64 x.rd
 rp:I64 x.rp
 h:HK x.h
 sb:I64 x.sb
 mr:I64 x.mr
theorem Vt.len {x:Vt} (h:x.OK):x.cells.length=38:=by simp [Vt.cells,h.h.1]
theorem Vt.one (x:Vt):∀ u ∈ x.cells,u.oneCell'=true:=by
 intro u hu
 simp only [Vt.cells,List.mem_append,List.mem_cons,List.not_mem_nil,or_false,List.mem_map] at hu
 rcases hu with (rfl|rfl|rfl|rfl)|⟨y,-,rfl⟩|rfl|rfl<;>rfl
def VtR:Rep Vt:=Rep.flat 38 (by decide) Vt.cells Vt.OK (fun a h=>Vt.len h) (fun a _=>Vt.one a)
/-- a denial -/
structure Dn where
 rp:Int
 ix:Int
 sb:Int
 mr:Int
abbrev Dn.cells (x:Dn):List Value:=[.int .i64 x.rp,.int .i64 x.ix,.int .i64 x.sb,.int .i64 x.mr]
abbrev Dn.val (x:Dn):Value:=.agg x.cells.toArray
structure Dn.OK (x:Dn):Prop where
 rp:I64 x.rp
 ix:I64 x.ix
 sb:I64 x.sb
 mr:I64 x.mr
theorem Dn.len {x:Dn} (h:x.OK):x.cells.length=4:=by rfl
theorem Dn.one (x:Dn):∀ u ∈ x.cells,u.oneCell'=true:=by
 intro u hu
 simp only [Dn.cells,List.mem_cons,List.not_mem_nil,or_false] at hu
 rcases hu with rfl|rfl|rfl|rfl<;>rfl
def DnR:Rep Dn:=Rep.flat 4 (by decide) Dn.cells Dn.OK (fun a h=>Dn.len h) (fun a _=>Dn.one a)
/-- an entry -/
structure En where
 cl:Int
 sq:Int
 h:List Int
 tm:Nat
abbrev En.cells (x:En):List Value:=[.int .i64 x.cl,.int .i64 x.sq] ++ (x.h.map bv ++ [.int .u64 (x.tm:Nat)])
abbrev En.val (x:En):Value:=.agg x.cells.toArray
structure En.OK (x:En):Prop where
 cl:I64 x.cl
 sq:I64 x.sq
 h:HK x.h
 tm:x.tm < U64
theorem En.len {x:En} (h:x.OK):x.cells.length=35:=by simp [En.cells,h.h.1]
theorem En.one (x:En):∀ u ∈ x.cells,u.oneCell'=true:=by
 intro u hu
 simp only [En.cells,List.mem_append,List.mem_cons,List.not_mem_nil,or_false,List.mem_map] at hu
 rcases hu with (rfl|rfl)|⟨y,-,rfl⟩|rfl<;>rfl
def EnR:Rep En:=Rep.flat 35 (by decide) En.cells En.OK (fun a h=>En.len h) (fun a _=>En.one a)
theorem RdR_keep {R:Nat→Prop} {N:Nat} {w w':World} {v:Value} {bs:List Int} (h:RdR R N w v bs) (hk:∀ p u,R p.block→w.cell? p=some u→w'.cell? p=some u):RdR R N w' v bs:=
 ⟨⟨h.1.1,h.1.2.keepc fun h0 g hg p u hp hc=>hk p u (hp▸h.2.1 h0 g hg) hc⟩,h.2⟩
theorem RdR_tight {R:Nat→Prop} {N:Nat} {w:World} {v:Value} {bs:List Int} (h:RdR R N w v bs):RdR (fun k=>R k∧k < w.heap.size) N w v bs:=
 ⟨h.1,fun h0 g hg=>⟨h.2.1 h0 g hg,h.1.2.lt (by decide) h0 hg⟩,h.2.2⟩
theorem Cm_one (c:Cm):∀ u ∈ c.cells,u.oneCell'=true:=by
 intro u hu
 simp only [Cm.cells,List.mem_append,List.mem_cons,List.not_mem_nil,or_false,List.mem_map] at hu
 rcases hu with (rfl|rfl)|⟨x,-,rfl⟩|rfl|rfl|rfl<;>rfl
def CmR:Rep Cm:=Rep.flat 37 (by decide) Cm.cells Cm.OK (fun a h=>Cm.len h.2.1) (fun a _=>Cm_one a)
/-- a certificate -/
structure Ce where
 c:Cm
 l:List St
abbrev Ce.cells (x:Ce) (v_l:Value):List Value:=x.c.cells ++ [v_l]
def Ce.OK (x:Ce):Prop:=x.c.OK
def Ce.rd (R:Nat→Prop) (w:World) (cs:List Value) (x:Ce):Prop:=∃ v_l,cs=x.cells v_l∧x.OK∧RdS StR R w v_l x.l
def CeR:Rep Ce where
 sz:=38
 pos:=by decide
 rd:=Ce.rd
 len h:=by
  obtain ⟨v_l,rfl,hok,h0⟩:=h
  simp [Ce.cells,Cm.len hok.2.1]
 one h:=by
  obtain ⟨v_l,rfl,hok,h0⟩:=h
  obtain ⟨_,_,e_l⟩:=h0.shape
  subst e_l
  intro u hu
  simp only [Ce.cells,List.mem_append,List.mem_cons,List.not_mem_nil,or_false,List.mem_map] at hu
  rcases hu with hu|rfl
  ·exact Cm_one _ _ hu
  ·rfl
 keep h hk:=by
  obtain ⟨v_l,rfl,hok,h0⟩:=h
  exact ⟨_,rfl,hok,h0.keep hk⟩
 wid h hs:=by
  obtain ⟨v_l,rfl,hok,h0⟩:=h
  exact ⟨_,rfl,hok,h0.widen hs⟩
 tight h:=by
  obtain ⟨v_l,rfl,hok,h0⟩:=h
  exact ⟨_,rfl,hok,h0.tight⟩
/-- a promise -/
structure Pm where
 rp:Int
 ep:Int
 fl:Nat
 l:List Ce
 sb:Int
 mr:Int
abbrev Pm.cells (x:Pm) (v_l:Value):List Value:=[.int .i64 x.rp,.int .i64 x.ep,.int .u64 (x.fl:Nat),v_l,.int .i64 x.sb,.int .i64 x.mr]
def Pm.OK (x:Pm):Prop:=I64 x.rp∧I64 x.ep∧x.fl < U64∧I64 x.sb∧I64 x.mr
def Pm.rd (R:Nat→Prop) (w:World) (cs:List Value) (x:Pm):Prop:=∃ v_l,cs=x.cells v_l∧x.OK∧RdS CeR R w v_l x.l
def PmR:Rep Pm where
 sz:=6
 pos:=by decide
 rd:=Pm.rd
 len h:=by
  obtain ⟨v_l,rfl,hok,h0⟩:=h
  rfl
 one h:=by
  obtain ⟨v_l,rfl,hok,h0⟩:=h
  obtain ⟨_,_,e_l⟩:=h0.shape
  subst e_l
  intro u hu
  simp only [Pm.cells,List.mem_append,List.mem_cons,List.not_mem_nil,or_false,List.mem_map] at hu
  rcases hu with rfl|rfl|rfl|rfl|rfl|rfl<;>rfl
 keep h hk:=by
  obtain ⟨v_l,rfl,hok,h0⟩:=h
  exact ⟨_,rfl,hok,h0.keep hk⟩
 wid h hs:=by
  obtain ⟨v_l,rfl,hok,h0⟩:=h
  exact ⟨_,rfl,hok,h0.widen hs⟩
 tight h:=by
  obtain ⟨v_l,rfl,hok,h0⟩:=h
  exact ⟨_,rfl,hok,h0.tight⟩
/-- an opening -/
structure Op where
 ix:Int
 pl:List Int
 nc:List Int
abbrev Op.cells (x:Op) (v_pl:Value):List Value:=[.int .i64 x.ix,v_pl] ++ x.nc.map bv
def Op.OK (x:Op):Prop:=I64 x.ix∧HK x.nc
def Op.rd (R:Nat→Prop) (w:World) (cs:List Value) (x:Op):Prop:=∃ v_pl,cs=x.cells v_pl∧x.OK∧RdR R x.pl.length w v_pl x.pl
def OpR:Rep Op where
 sz:=34
 pos:=by decide
 rd:=Op.rd
 len h:=by
  obtain ⟨v_pl,rfl,hok,h0⟩:=h
  simp [Op.cells,hok.2.1]
 one h:=by
  obtain ⟨v_pl,rfl,hok,h0⟩:=h
  obtain ⟨_,_,e_pl⟩:=h0.shape
  subst e_pl
  intro u hu
  simp only [Op.cells,List.mem_append,List.mem_cons,List.not_mem_nil,or_false,List.mem_map] at hu
  rcases hu with (rfl|rfl)|⟨y,-,rfl⟩<;>rfl
 keep h hk:=by
  obtain ⟨v_pl,rfl,hok,h0⟩:=h
  exact ⟨_,rfl,hok,RdR_keep h0 hk⟩
 wid h hs:=by
  obtain ⟨v_pl,rfl,hok,h0⟩:=h
  exact ⟨_,rfl,hok,h0.widen hs (Nat.le_refl _)⟩
 tight h:=by
  obtain ⟨v_pl,rfl,hok,h0⟩:=h
  exact ⟨_,rfl,hok,RdR_tight h0⟩
/-- a tombstone -/
structure Tb where
 ix:Int
 l:List Dn
abbrev Tb.cells (x:Tb) (v_l:Value):List Value:=[.int .i64 x.ix,v_l]
def Tb.OK (x:Tb):Prop:=I64 x.ix
def Tb.rd (R:Nat→Prop) (w:World) (cs:List Value) (x:Tb):Prop:=∃ v_l,cs=x.cells v_l∧x.OK∧RdS DnR R w v_l x.l
def TbR:Rep Tb where
 sz:=2
 pos:=by decide
 rd:=Tb.rd
 len h:=by
  obtain ⟨v_l,rfl,hok,h0⟩:=h
  rfl
 one h:=by
  obtain ⟨v_l,rfl,hok,h0⟩:=h
  obtain ⟨_,_,e_l⟩:=h0.shape
  subst e_l
  intro u hu
  simp only [Tb.cells,List.mem_append,List.mem_cons,List.not_mem_nil,or_false,List.mem_map] at hu
  rcases hu with rfl|rfl<;>rfl
 keep h hk:=by
  obtain ⟨v_l,rfl,hok,h0⟩:=h
  exact ⟨_,rfl,hok,h0.keep hk⟩
 wid h hs:=by
  obtain ⟨v_l,rfl,hok,h0⟩:=h
  exact ⟨_,rfl,hok,h0.widen hs⟩
 tight h:=by
  obtain ⟨v_l,rfl,hok,h0⟩:=h
  exact ⟨_,rfl,hok,h0.tight⟩
/-- a batch -/
structure Ba where
 ep:Int
 tm:Nat
 ps:List Pm
 os:List Op
 ts:List Tb
abbrev Ba.cells (x:Ba) (v_ps v_os v_ts:Value):List Value:=[.int .i64 x.ep,.int .u64 (x.tm:Nat),v_ps,v_os,v_ts]
def Ba.OK (x:Ba):Prop:=I64 x.ep∧x.tm < U64
def Ba.rd (R:Nat→Prop) (w:World) (cs:List Value) (x:Ba):Prop:=∃ v_ps v_os v_ts,cs=x.cells v_ps v_os v_ts∧x.OK∧RdS PmR R w v_ps x.ps∧RdS OpR R w v_os x.os∧RdS TbR R w v_ts x.ts
def BaR:Rep Ba where
 sz:=5
 pos:=by decide
 rd:=Ba.rd
 len h:=by
  obtain ⟨v_ps,v_os,v_ts,rfl,hok,h0,h1,h2⟩:=h
  rfl
 one h:=by
  obtain ⟨v_ps,v_os,v_ts,rfl,hok,h0,h1,h2⟩:=h
  obtain ⟨_,_,e_ps⟩:=h0.shape
  obtain ⟨_,_,e_os⟩:=h1.shape
  obtain ⟨_,_,e_ts⟩:=h2.shape
  subst e_ps e_os e_ts
  intro u hu
  simp only [Ba.cells,List.mem_append,List.mem_cons,List.not_mem_nil,or_false,List.mem_map] at hu
  rcases hu with rfl|rfl|rfl|rfl|rfl<;>rfl
 keep h hk:=by
  obtain ⟨v_ps,v_os,v_ts,rfl,hok,h0,h1,h2⟩:=h
  exact ⟨_,_,_,rfl,hok,h0.keep hk,h1.keep hk,h2.keep hk⟩
 wid h hs:=by
  obtain ⟨v_ps,v_os,v_ts,rfl,hok,h0,h1,h2⟩:=h
  exact ⟨_,_,_,rfl,hok,h0.widen hs,h1.widen hs,h2.widen hs⟩
 tight h:=by
  obtain ⟨v_ps,v_os,v_ts,rfl,hok,h0,h1,h2⟩:=h
  exact ⟨_,_,_,rfl,hok,h0.tight,h1.tight,h2.tight⟩
/-- a proposal -/
structure Pr where
 ep:Int
 rn:Int
 vl:Int
 rp:Int
 ba:Ba
 sb:Int
 mr:Int
abbrev Pr.cells (x:Pr) (v_ps v_os v_ts:Value):List Value:=[.int .i64 x.ep,.int .i64 x.rn,.int .i64 x.vl,.int .i64 x.rp,.int .i64 x.ba.ep,.int .u64 (x.ba.tm:Nat),v_ps,v_os,v_ts,.int .i64 x.sb,.int .i64 x.mr]
def Pr.OK (x:Pr):Prop:=I64 x.ep∧I64 x.rn∧I64 x.vl∧I64 x.rp∧x.ba.OK∧I64 x.sb∧I64 x.mr
def Pr.rd (R:Nat→Prop) (w:World) (cs:List Value) (x:Pr):Prop:=∃ v_ps v_os v_ts,cs=x.cells v_ps v_os v_ts∧x.OK∧RdS PmR R w v_ps x.ba.ps∧RdS OpR R w v_os x.ba.os∧RdS TbR R w v_ts x.ba.ts
def PrR:Rep Pr where
 sz:=11
 pos:=by decide
 rd:=Pr.rd
 len h:=by
  obtain ⟨v_ps,v_os,v_ts,rfl,hok,h0,h1,h2⟩:=h
  rfl
 one h:=by
  obtain ⟨v_ps,v_os,v_ts,rfl,hok,h0,h1,h2⟩:=h
  obtain ⟨_,_,e_ps⟩:=h0.shape
  obtain ⟨_,_,e_os⟩:=h1.shape
  obtain ⟨_,_,e_ts⟩:=h2.shape
  subst e_ps e_os e_ts
  intro u hu
  simp only [Pr.cells,List.mem_append,List.mem_cons,List.not_mem_nil,or_false,List.mem_map] at hu
  rcases hu with rfl|rfl|rfl|rfl|rfl|rfl|rfl|rfl|rfl|rfl|rfl<;>rfl
 keep h hk:=by
  obtain ⟨v_ps,v_os,v_ts,rfl,hok,h0,h1,h2⟩:=h
  exact ⟨_,_,_,rfl,hok,h0.keep hk,h1.keep hk,h2.keep hk⟩
 wid h hs:=by
  obtain ⟨v_ps,v_os,v_ts,rfl,hok,h0,h1,h2⟩:=h
  exact ⟨_,_,_,rfl,hok,h0.widen hs,h1.widen hs,h2.widen hs⟩
 tight h:=by
  obtain ⟨v_ps,v_os,v_ts,rfl,hok,h0,h1,h2⟩:=h
  exact ⟨_,_,_,rfl,hok,h0.tight,h1.tight,h2.tight⟩
end Go.Proofs.YtnaoeginonpicaaGreat

/- Copies and cuts of lists of things. -/
namespace Go.Proofs.YtnaoeginonpicaaGreat
open Go Go.RowKit Go.Gv
theorem info_St:(Tryz.prog.info? 32).map (fun i=>(i.zero,i.size,i.bytes))=some (some (.agg #[.int .i64 0,.int .i64 0,.int .i64 0,.int .u8 0,.int .u8 0,.int .u8 0,.int .u8 0,.int .u8 0,.int .u8 0,.int .u8 0,.int .u8 0,.int .u8 0,.int .u8 0,.int .u8 0,.int .u8 0,.int .u8 0,.int .u8 0,.int .u8 0,.int .u8 0,.int .u8 0,.int .u8 0,.int .u8 0,.int .u8 0,.int .u8 0,.int .u8 0,.int .u8 0,.int .u8 0,.int .u8 0,.int .u8 0,.int .u8 0,.int .u8 0,.int .u8 0,.int .u8 0,.int .u8 0,.int .u8 0,.int .u64 0,.int .i64 0,.int .i64 0]),38,80):=by kernel_rfl
theorem info_Dn:(Tryz.prog.info? 56).map (fun i=>(i.zero,i.size,i.bytes))=some (some (.agg #[.int .i64 0,.int .i64 0,.int .i64 0,.int .i64 0]),4,32):=by kernel_rfl
theorem info_Ce:(Tryz.prog.info? 35).map (fun i=>(i.zero,i.size,i.bytes))=some (some (.agg #[.int .i64 0,.int .i64 0,.int .u8 0,.int .u8 0,.int .u8 0,.int .u8 0,.int .u8 0,.int .u8 0,.int .u8 0,.int .u8 0,.int .u8 0,.int .u8 0,.int .u8 0,.int .u8 0,.int .u8 0,.int .u8 0,.int .u8 0,.int .u8 0,.int .u8 0,.int .u8 0,.int .u8 0,.int .u8 0,.int .u8 0,.int .u8 0,.int .u8 0,.int .u8 0,.int .u8 0,.int .u8 0,.int .u8 0,.int .u8 0,.int .u8 0,.int .u8 0,.int .u8 0,.int .u8 0,.int .i64 0,.int .i64 0,.int .i64 0,.slice none 0 0]),38,96):=by kernel_rfl
theorem info_Pm:(Tryz.prog.info? 40).map (fun i=>(i.zero,i.size,i.bytes))=some (some (.agg #[.int .i64 0,.int .i64 0,.int .u64 0,.slice none 0 0,.int .i64 0,.int .i64 0]),6,64):=by kernel_rfl
theorem info_Op:(Tryz.prog.info? 54).map (fun i=>(i.zero,i.size,i.bytes))=some (some (.agg #[.int .i64 0,.slice none 0 0,.int .u8 0,.int .u8 0,.int .u8 0,.int .u8 0,.int .u8 0,.int .u8 0,.int .u8 0,.int .u8 0,.int .u8 0,.int .u8 0,.int .u8 0,.int .u8 0,.int .u8 0,.int .u8 0,.int .u8 0,.int .u8 0,.int .u8 0,.int .u8 0,.int .u8 0,.int .u8 0,.int .u8 0,.int .u8 0,.int .u8 0,.int .u8 0,.int .u8 0,.int .u8 0,.int .u8 0,.int .u8 0,.int .u8 0,.int .u8 0,.int .u8 0,.int .u8 0]),34,64):=by kernel_rfl
theorem info_Tb:(Tryz.prog.info? 127).map (fun i=>(i.zero,i.size,i.bytes))=some (some (.agg #[.int .i64 0,.slice none 0 0]),2,32):=by kernel_rfl
/-- a function that copies a list of things; one that cuts it -/
def CopiesS {α:Type} (A:Rep α) (e:TypeId) (F:FuncId):Prop:=∀ (R2:Nat→Prop) (v:Value) (l:List α) (w:World),RdS A R2 w v l→(∀ k,R2 k→k < w.heap.size)→l.length≤1000000→
 Calls Tryz.prog F #[v] w fun e' w'=>∃ v',e'=.returned v'∧OwS A e (New w w') R2 w' v' l∧Mod (fun _=>False) w w'
def CutsS {α:Type} (A:Rep α) (e:TypeId) (F:FuncId):Prop:=∀ (R2:Nat→Prop) (v:Value) (l:List α) (n:Nat) (w:World),RdS A R2 w v l→(∀ k,R2 k→k < w.heap.size)→n≤1000000→
 Calls Tryz.prog F #[v,.int .i64 (n:Int)] w fun e' w'=>∃ v',e'=.returned v'∧OwS A e (New w w') R2 w' v' (l.take n)∧Mod (fun _=>False) w w'
theorem fm4' {P:Prop} (h:P:=by
 intro R2 v l w hs hB2 hl
 obtain ⟨ao,cap,rfl⟩:=hs.shape
 have HS:=Lib.hid hs
 have HBT:=Lib.hid hB2
 clear hs hB2
 go_enter va',vb'
 go_upto_region 1 with (fail)
 have HM0:=hid (Mod.refl (fun _=>False) w)
 go_upto_region 1 with (fail)
 refine Aa 5 [3,4,2] [0,1,2] (fun a0 HA0=>?_)
 have oe0:=ev HA0 0 rfl
 refine QSeq.pure rfl _ (fun E=>Ai rfl (E.v oe0)) ?_
 refine QSeq.go fun act E=>?_
 refine qc_appS (A:=vc') (e:=vd') rfl (Ac rfl) rfl (.agg ve') vf' vg' vh' (by rfl) (of_decide_eq_true (by kernel_rfl)) rfl (E.d 0 0) (OwS.nil _ _ (fun _=>False) (fun _=>False) _) (HS.out) (fun _ _ h=>h) (by simp only [List.length_nil];(first|omega|(simp only [vd',ve',vf'] at *;omega))) (by simp only [List.length_nil];rw [Ax];(first|omega|(simp only [vd',ve',vf'] at *;omega))) ?_
 intro ao0 cap0 u1_1 qout hm
 have Hx1:=hid (qout.widen (R':=(fun k=>(New w u1_1 k))) (E':=(fun k=>(R2 k))) (fun _ h=>h.elim (fun h=>h.elim) (fun h=>h)) (by intro k h1;rcases h1 with h1|h1<;>first|(first|omega|(simp only [vd',ve',vf'] at *;omega))|exact h1.elim|exact h1))
 have zu1_1:=hm.size
 have Cx2:=hid (show Mod (fun _=>False) w u1_1 from hm)
 clear hm
 clear act E qout
 refine QSeq.pure rfl _ (fun E=>Af rfl (E.d 1 0)) ?_
 refine QSeq.nil (t':=[_,_,_]) rfl ?_
 obtain rfl:=HA0.out
 clear HA0 oe0
 simp only [pz,Act.put,sIB,sCZ,sCS]
 go_wp2
 go_ret
 have hq:=Hx1.out
 exact ⟨_,rfl,hq.widen (by intro k h;(first|omega|(simp only [vd',ve',vf'] at *;omega))) (by intro k h;exact h),(HM0.out.trans Cx2.out (fun _ _ h=>h.elim))⟩):P:=h
open Go.Proofs renaming Tryz.func116→va',Tryz.ntmps116→vb',Tryz.underlying33→vg' in
open Go.Proofs.YtnaoeginonpicaaGreat renaming StR→vc',info_St→vh' in
open Go.Gv renaming n'32→vd',z'1→ve',n'80→vf' in
set_option maxHeartbeats 2000000 in
theorem Copy_St:CopiesS StR 32 116:=
 fm4'
open Go.Proofs renaming Tryz.func117→va',Tryz.ntmps117→vb',Tryz.underlying125→vg' in
open Go.Proofs.YtnaoeginonpicaaGreat renaming DnR→vc',info_Dn→vh' in
open Go.Gv renaming n'56→vd',z'9→ve',n'32→vf' in
set_option maxHeartbeats 2000000 in
theorem Copy_Dn:CopiesS DnR 56 117:=
 fm4'
theorem fm1' {P:Prop} (h:P:=by
 intro R2 v l n w hs hB2 hn
 obtain ⟨css,k1,k2,⟨k3,ao,cap,rfl,hlc,hcm,k5,k6⟩,k7⟩:=id hs
 clear k1 k2 k3 k5 k6 k7
 rw [Ax] at hcm
 have HS:=Lib.hid hs
 have HBT:=Lib.hid hB2
 clear hs hB2
 clear css
 go_enter va',vb'
 go_upto_region 1 with (fail)
 have HM0:=hid (Mod.refl (fun _=>False) w)
 go_upto_region 1 with (fail)
 refine Aa 12 [5,6,7,8,9,10,11,4] [0,1,2,3,4,5,6,7] (fun a0 HA0=>?_)
 have oe0:=ev HA0 0 rfl
 have oe1:=ev HA0 1 rfl
 refine QSeq.pure rfl _ (fun E=>Ai rfl (E.v oe0)) ?_
 refine QSeq.pure rfl _ (fun E=>Ai rfl (E.v oe0)) ?_
 refine QSeq.pure rfl (.int .i64 l.length) (fun E=>A0 rfl (E.d 1 0) vc') ?_
 refine QSeq.pure rfl _ (fun E=>Ai rfl (E.v oe1)) ?_
 refine QSeq.pure rfl (.int .i64 ((min l.length n:Nat):Int)) (fun E=>ex_min (r:=((min l.length n:Nat):Int)) rfl (E.d 2 1) (E.d 3 0) (by split<;>omega)) ?_
 refine QSeq.pure rfl (.slice ao (min l.length n) cap) (fun E=>ex_sliceTo (i:=min l.length n) (s:=38) rfl vc' (by kernel_rfl) (E.d 0 4) (E.d 4 0) (by omega)) ?_
 refine QSeq.call rfl rfl vd' (ve' _ _ (l.take (min l.length n)) _ (HS.out.upto (min l.length n) (by omega)) (by intro k h1;have hb:=HBT.out k h1;omega) (by simp;omega)) (fun E=>Aw (E.d 5 0)) ?_
 rintro e u1_6 ⟨v',rfl,qout,hm⟩
 refine ⟨_,rfl,?_⟩
 have Hx1:=hid (qout.widen (R':=(fun k=>(New w u1_6 k))) (E':=(fun k=>(R2 k))) (fun _ h=>h) (fun _ h=>h))
 have zu1_6:=hm.size
 have Cx2:=hid (show Mod (fun _=>False) w u1_6 from hm)
 clear hm
 clear qout
 refine QSeq.pure rfl _ (fun E=>Af rfl (E.d 6 0)) ?_
 refine QSeq.nil (t':=[_,_,_,_,_,_,_,_]) rfl ?_
 obtain rfl:=HA0.out
 clear HA0 oe0 oe1
 simp only [pz,Act.put,sIB,sCZ,sCS]
 go_wp2
 go_ret
 have hq:=Hx1.out
 rw [show l.take (min l.length n)=l.take n by rw [Nat.min_comm,← List.take_take,List.take_length]] at hq
 exact ⟨v',rfl,hq.widen (by intro k h;omega) (fun _ h=>h),(HM0.out.trans Cx2.out (fun _ _ h=>h.elim))⟩):P:=h
open Go.Proofs renaming Tryz.func73→va',Tryz.ntmps73→vb',Tryz.underlying33→vc',Tryz.func116→vd' in
open Go.Proofs.YtnaoeginonpicaaGreat renaming Copy_St→ve' in
set_option maxHeartbeats 2000000 in
theorem Cut_St:CutsS StR 32 73:=
 fm1'
set_option maxHeartbeats 2000000 in
theorem Cut_Dn:CutsS DnR 56 74:=by
 intro R2 v l n w hs hB2 hn
 obtain ⟨css,k1,k2,⟨k3,ao,cap,rfl,hlc,hcm,k5,k6⟩,k7⟩:=id hs
 clear k1 k2 k3 k5 k6 k7
 rw [Ax] at hcm
 have HS:=Lib.hid hs
 have HBT:=Lib.hid hB2
 clear hs hB2
 clear css
 go_enter Tryz.func74,Tryz.ntmps74
 go_upto_region 1 with (fail)
 have HM0:=hid (Mod.refl (fun _=>False) w)
 go_upto_region 1 with (fail)
 refine Aa 12 [5,6,7,8,9,10,11,4] [0,1,2,3,4,5,6,7] (fun a0 HA0=>?_)
 have oe0:=ev HA0 0 rfl
 have oe1:=ev HA0 1 rfl
 refine QSeq.pure rfl _ (fun E=>Ai rfl (E.v oe0)) ?_
 refine QSeq.pure rfl _ (fun E=>Ai rfl (E.v oe0)) ?_
 refine QSeq.pure rfl (.int .i64 l.length) (fun E=>A0 rfl (E.d 1 0) Tryz.underlying125) ?_
 refine QSeq.pure rfl _ (fun E=>Ai rfl (E.v oe1)) ?_
 refine QSeq.pure rfl (.int .i64 ((min l.length n:Nat):Int)) (fun E=>ex_min (r:=((min l.length n:Nat):Int)) rfl (E.d 2 1) (E.d 3 0) (by split<;>omega)) ?_
 refine QSeq.pure rfl (.slice ao (min l.length n) cap) (fun E=>ex_sliceTo (i:=min l.length n) (s:=4) rfl Tryz.underlying125 (by kernel_rfl) (E.d 0 4) (E.d 4 0) (by omega)) ?_
 refine QSeq.call rfl rfl Tryz.func117 (Copy_Dn _ _ (l.take (min l.length n)) _ (HS.out.upto (min l.length n) (by omega)) (by intro k h1;have hb:=HBT.out k h1;omega) (by simp;omega)) (fun E=>Aw (E.d 5 0)) ?_
 rintro e u1_6 ⟨v',rfl,qout,hm⟩
 refine ⟨_,rfl,?_⟩
 have Hx1:=hid (qout.widen (R':=(fun k=>(New w u1_6 k))) (E':=(fun k=>(R2 k))) (fun _ h=>h) (fun _ h=>h))
 have zu1_6:=hm.size
 have Cx2:=hid (show Mod (fun _=>False) w u1_6 from hm)
 clear hm
 clear qout
 refine QSeq.pure rfl _ (fun E=>Af rfl (E.d 6 0)) ?_
 refine QSeq.nil (t':=[_,_,_,_,_,_,_,_]) rfl ?_
 obtain rfl:=HA0.out
 clear HA0 oe0 oe1
 simp only [pz,Act.put,sIB,sCZ,sCS]
 go_wp2
 go_ret
 have hq:=Hx1.out
 rw [show l.take (min l.length n)=l.take n by rw [Nat.min_comm,← List.take_take,List.take_length]] at hq
 exact ⟨v',rfl,hq.widen (by intro k h;omega) (fun _ h=>h),(HM0.out.trans Cx2.out (fun _ _ h=>h.elim))⟩
end Go.Proofs.YtnaoeginonpicaaGreat

/- Certificates and promises that are cut. -/
namespace Go.Proofs.YtnaoeginonpicaaGreat
open Go Go.RowKit Go.Gv
/-- what the laws leave of a certificate, a promise -/
def cutCe (x:Ce):Ce:={ x with l:=x.l.take 5 }
def cutPm (x:Pm):Pm:={ x with l:=(x.l.take 3).map cutCe }
/-- a function that gives a thing anew, cut -/
def CutR {α:Type} (A:Rep α) (F:FuncId) (f:α→α):Prop:=∀ (R2:Nat→Prop) (x:α) (cs:List Value) (w:World),A.rd R2 w cs x→(∀ k,R2 k→k < w.heap.size)→
 Calls Tryz.prog F #[.agg cs.toArray] w fun e w'=>∃ cs',e=.returned (.agg cs'.toArray)∧A.rd (fun k=>R2 k∨New w w' k) w' cs' (f x)∧Mod (fun _=>False) w w'
theorem size_ce:(Tryz.prog.info? 35).map (·.size)=some (37+1):=by kernel_rfl
theorem one_ce (c:Cm) (v:Value) (h:v.oneCell'=true):∀ u ∈ c.cells ++ [v],u.oneCell'=true:=by
 intro u hu
 rw [List.mem_append] at hu
 rcases hu with hu|hu
 ·exact Cm_one _ _ hu
 ·simp at hu;subst hu;exact h
theorem take_two {α:Type} {l:List α} {k n:Nat} (hk:k≤n) (h:k=n∨l.length≤k):l.take k=l.take n:=by
 rcases h with rfl|h
 ·rfl
 ·rw [List.take_of_length_le h,List.take_of_length_le (by omega)]
theorem lay_l (c:Cm) (u v:Value) (hl:c.h.length=32):lay (c.cells ++ [u]).toArray 37 [v]=(c.cells ++ [v]).toArray:=by
 have h37:=Cm.len hl
 simp [lay,h37]
set_option maxHeartbeats 4000000 in
theorem LCert_c:CutR CeR 36 cutCe:=by
 intro R2 x cs w hx hB2
 obtain ⟨v_l,rfl,hok,hs0⟩:=hx
 obtain ⟨ao,cap,rfl⟩:=hs0.shape
 have HS:=Lib.hid hs0
 have HBT:=Lib.hid hB2
 have HOK:=Lib.hid hok
 clear hs0 hB2 hok
 go_enter Tryz.func36,Tryz.ntmps36
 go_upto_region 1 with (fail)
 obtain ⟨w1,hw1⟩:∃ zz,zz=((w.alloc (.cells (x.cells (.slice ao x.l.length cap):List Value).toArray 35)).alloc (.cells #[.int .i64 0,.int .i64 0,.int .u8 0,.int .u8 0,.int .u8 0,.int .u8 0,.int .u8 0,.int .u8 0,.int .u8 0,.int .u8 0,.int .u8 0,.int .u8 0,.int .u8 0,.int .u8 0,.int .u8 0,.int .u8 0,.int .u8 0,.int .u8 0,.int .u8 0,.int .u8 0,.int .u8 0,.int .u8 0,.int .u8 0,.int .u8 0,.int .u8 0,.int .u8 0,.int .u8 0,.int .u8 0,.int .u8 0,.int .u8 0,.int .u8 0,.int .u8 0,.int .u8 0,.int .u8 0,.int .i64 0,.int .i64 0,.int .i64 0,.slice none 0 0] 35)):=⟨_,rfl⟩
 change Code.wp _ _ _ _ ((w.alloc (.cells (x.cells (.slice ao x.l.length cap):List Value).toArray 35)).alloc (.cells #[.int .i64 0,.int .i64 0,.int .u8 0,.int .u8 0,.int .u8 0,.int .u8 0,.int .u8 0,.int .u8 0,.int .u8 0,.int .u8 0,.int .u8 0,.int .u8 0,.int .u8 0,.int .u8 0,.int .u8 0,.int .u8 0,.int .u8 0,.int .u8 0,.int .u8 0,.int .u8 0,.int .u8 0,.int .u8 0,.int .u8 0,.int .u8 0,.int .u8 0,.int .u8 0,.int .u8 0,.int .u8 0,.int .u8 0,.int .u8 0,.int .u8 0,.int .u8 0,.int .u8 0,.int .u8 0,.int .i64 0,.int .i64 0,.int .i64 0,.slice none 0 0] 35))
 rw [← hw1]
 have HB1:=hid (show Cs w1 (w.heap.size) (x.cells (.slice ao x.l.length cap):List Value).toArray 35 by rw [hw1];exact (Cs.new _ _ _).alloc _)
 have HB2:=hid (show Cs w1 (w.heap.size+1) #[.int .i64 0,.int .i64 0,.int .u8 0,.int .u8 0,.int .u8 0,.int .u8 0,.int .u8 0,.int .u8 0,.int .u8 0,.int .u8 0,.int .u8 0,.int .u8 0,.int .u8 0,.int .u8 0,.int .u8 0,.int .u8 0,.int .u8 0,.int .u8 0,.int .u8 0,.int .u8 0,.int .u8 0,.int .u8 0,.int .u8 0,.int .u8 0,.int .u8 0,.int .u8 0,.int .u8 0,.int .u8 0,.int .u8 0,.int .u8 0,.int .u8 0,.int .u8 0,.int .u8 0,.int .u8 0,.int .i64 0,.int .i64 0,.int .i64 0,.slice none 0 0] 35 by rw [hw1];exact Cs_newN _ _ _ (by simp))
 have hm:Mod (fun _=>False) w w1:=by rw [hw1];exact ((Mod.refl _ _).alloc _).alloc _
 have HM0:=hid (show Mod (fun _=>False) w w1 from hm.mono (fun _ _ h=>h.elim))
 have hs1:w1.heap.size=w.heap.size+2:=by rw [hw1];simp
 have Hx1:=hid (HS.out.mod hm (fun _ _ h=>h))
 clear HS
 clear hw1 hm
 go_upto_region 1 with (fail)
 refine Aa 8 [3,4,5,6,12] [0,1,2,3,4] (fun a0 HA0=>?_)
 have oe1:=ev HA0 1 rfl
 refine QSeq.pure rfl (.pointer (some ⟨w.heap.size,37,none⟩)) (fun E=>Ad rfl Tryz.underlying35 rfl (by kernel_rfl) (E.v oe1)) ?_
 refine QSeq.pure rfl _ (fun E=>Aj rfl Tryz.underlying33 rfl (E.d 0 0) (Cs.post1 (pre:=[]) (mid:=x.c.cells) (post:=[.slice ao x.l.length cap]) (m:=37) (k:=0) HB1.out (Cm.len HOK.out.2.1) rfl rfl)) ?_
 refine QSeq.call rfl rfl Tryz.func73 (Cut_St _ _ x.l 5 _ Hx1.out (by intro k h1;have hb:=HBT.out k h1;omega) (by omega)) (fun E=>Az (E.d 1 0) rfl) ?_
 rintro e u1_2 ⟨v',rfl,qout,hm⟩
 obtain ⟨ao',cap',rfl⟩:=qout.shape
 refine ⟨_,rfl,?_⟩
 have Hx2:=hid (qout.widen (R':=(fun k=>(New w1 u1_2 k))) (E':=(fun k=>(R2 k))) (fun _ h=>h) (fun _ h=>h))
 have zu1_2:=hm.size
 have Cx3:=hid (show Mod (fun _=>False) w1 u1_2 from hm)
 clear hm
 clear qout
 refine QSeq.pure rfl (.pointer (some ⟨w.heap.size,37,none⟩)) (fun E=>Ad rfl Tryz.underlying35 rfl (by kernel_rfl) (E.v oe1)) ?_
 refine QSeq.go fun act E=>?_
 refine Aq rfl (Ac rfl) rfl (HB1.out.mod Cx3.out (fun h=>h)) (off:=37) (vs:=[Value.slice ao' (x.l.take 5).length cap']) (by kernel_rfl) one1 (by simp [Ce.cells,Cm.len HOK.out.2.1]) (E.d 3 0) (ec (E.d 2 1)) ?_
 intro u1_4 qc0 hm
 have qB1:=qc0.eqv (b:=((x.c.cells ++ [Value.slice ao' (x.l.take 5).length cap']):List Value).toArray) (lay_l x.c _ _ HOK.out.2.1)
 clear qc0
 have Hx4:=hid qB1
 have zu1_4:=hm.size
 have HMu1_4:=hid hm
 have Cx5:=hid (Mod.goS (S':=(fun k=>(k=w.heap.size))) Cx3.out hm (fun _ h=>h.elim) (by intro k h0 h2;exact h2))
 clear hm Cx3
 clear act E qB1 HB1
 have Hx6:=hid (Hx2.out.mod HMu1_4.out (by intro k h1 h2;omega) (sB HBT))
 clear Hx2 HMu1_4
 refine QSeq.nil (t':=[_,_,_,_,_]) rfl ?_
 obtain rfl:=HA0.out
 clear HA0 oe1
 simp only [pz,Act.put,sIB,sCZ,sCS,List.set_nil]
 go_upto_region 2 with (fail)
 refine Aa 8 [7,9] [0,1] (fun a0 HA0=>?_)
 have oe1:=ev HA0 1 rfl
 have oe2:=ev HA0 2 rfl
 refine QSeq.pure rfl _ (fun E=>Am rfl Tryz.underlying35 rfl (off:=0) (cs:=x.c.cells ++ [Value.slice ao' (x.l.take 5).length cap']) (by rw [List.length_append,Cm.len HOK.out.2.1];exact size_ce) (E.v oe1) (Cs.whole Hx4.out)) ?_
 refine QSeq.go fun act E=>?_
 refine Aq rfl (Ac rfl) rfl (HB2.out.mod Cx5.out (by intro h2;omega)) (off:=0) (vs:=(x.c.cells ++ [Value.slice ao' (x.l.take 5).length cap'])) (by rw [List.length_append,Cm.len HOK.out.2.1];exact size_ce) (one_ce _ _ rfl) (by simp [Cm.len HOK.out.2.1]) (E.v oe2) (ec (E.d 0 0)) ?_
 intro u2_1 qc0 hm
 have qB2:=qc0.eqv (b:=((x.c.cells ++ [Value.slice ao' (x.l.take 5).length cap']):List Value).toArray) (A5 _ _ (by simp [Cm.len HOK.out.2.1]))
 clear qc0
 have Hx7:=hid qB2
 have zu2_1:=hm.size
 have Cx8:=hid (show Mod (fun k=>(k=w.heap.size+1)) u1_4 u2_1 from hm)
 clear hm
 clear act E qB2 HB2
 refine QSeq.nil (t':=[_,_]) rfl ?_
 obtain rfl:=HA0.out
 clear HA0 oe1 oe2
 simp only [pz,Act.put,sIB,sCZ,sCS,List.set_nil]
 go_wp2
 have hq:=(Hx6.out.mod Cx8.out (by intro k h1 h2;omega) (sB HBT))
 refine bodyPost_ret (A7 rfl _ _ (w.heap.size+1) (x.c.cells ++ [Value.slice ao' (x.l.take 5).length cap']) rfl (fun k u hu=>by rw [Hx7.out.cell];simpa using hu) Tryz.underlying35 rfl (by rw [List.length_append,Cm.len HOK.out.2.1];exact size_ce)) rfl ⟨_,rfl,⟨_,rfl,HOK.out,hq.rd.widen ?_⟩,((HM0.out.trans Cx5.out (by intro k h1 h2;omega)).trans Cx8.out (by intro k h1 h2;omega))⟩
 intro k h
 (try dsimp only at h ⊢)
 rcases h with h|h
 ·right;omega
 ·exact Or.inl h
set_option maxHeartbeats 4000000 in
theorem LPromise_c:CutR PmR 37 cutPm:=by
 intro R2 x cs w hx hB2
 obtain ⟨v_l,rfl,hok,hs0⟩:=hx
 obtain ⟨ao,cap,rfl⟩:=hs0.shape
 have HS:=Lib.hid hs0
 have HBT:=Lib.hid hB2
 have HOK:=Lib.hid hok
 clear hs0 hB2 hok
 go_enter Tryz.func37,Tryz.ntmps37
 go_upto_region 1 with (fail)
 obtain ⟨w1,hw1⟩:∃ zz,zz=((w.alloc (.cells (x.cells (.slice ao x.l.length cap):List Value).toArray 40)).alloc (.cells #[.int .i64 0,.int .i64 0,.int .u64 0,.slice none 0 0,.int .i64 0,.int .i64 0] 40)):=⟨_,rfl⟩
 change Code.wp _ _ _ _ ((w.alloc (.cells (x.cells (.slice ao x.l.length cap):List Value).toArray 40)).alloc (.cells #[.int .i64 0,.int .i64 0,.int .u64 0,.slice none 0 0,.int .i64 0,.int .i64 0] 40))
 rw [← hw1]
 have HB1:=hid (show Cs w1 (w.heap.size) (x.cells (.slice ao x.l.length cap):List Value).toArray 40 by rw [hw1];exact (Cs.new _ _ _).alloc _)
 have HB2:=hid (show Cs w1 (w.heap.size+1) #[.int .i64 0,.int .i64 0,.int .u64 0,.slice none 0 0,.int .i64 0,.int .i64 0] 40 by rw [hw1];exact Cs_newN _ _ _ (by simp))
 have hm:Mod (fun _=>False) w w1:=by rw [hw1];exact ((Mod.refl _ _).alloc _).alloc _
 have HM0:=hid (show Mod (fun _=>False) w w1 from hm.mono (fun _ _ h=>h.elim))
 have hs1:w1.heap.size=w.heap.size+2:=by rw [hw1];simp
 have Hx1:=hid (HS.out.mod hm (fun _ _ h=>h))
 clear HS
 clear hw1 hm
 go_wp2
 go_loopw [3,4] (fun ta ti wr=>∃ k:Nat,ti=.int .i64 (k:Int)∧k≤x.l.length∧k≤3∧w1.heap.size≤wr.heap.size∧OwS CeR 35 (fun b=>w1.heap.size≤b∧b < wr.heap.size) (fun b=>R2 b∨(w1.heap.size≤b∧b < wr.heap.size)) wr ta ((x.l.take k).map cutCe)∧RdS CeR R2 wr (.slice ao x.l.length cap) x.l∧Cs wr (w.heap.size) (x.cells (.slice ao x.l.length cap):List Value).toArray 40∧Cs wr (w.heap.size+1) #[.int .i64 0,.int .i64 0,.int .u64 0,.slice none 0 0,.int .i64 0,.int .i64 0] 40∧Mod (fun _=>False) w wr) (fun _ ti _=>x.l.length - (intOf ti).toNat)
 case atStart=>exact ⟨0,rfl,Nat.zero_le _,Nat.zero_le _,Nat.le_refl _,OwS.nil _ _ _ _ _,Hx1.out,HB1.out,HB2.out,HM0.out⟩
 case round=>
  obtain ⟨k1,rfl,hk,hkN,hz,ha,hk_0,hk_1,hk_2,hm⟩:=hrel
  obtain ⟨wl1,rfl⟩:∃ x,x=wr:=⟨_,rfl⟩
  obtain ⟨aol1,capl1,rfl⟩:=ha.shape
  have HAL1:=Lib.hid ha
  have HKL1_0:=Lib.hid hk_0
  have HKL1_1:=Lib.hid hk_1
  have HKL1_2:=Lib.hid hk_2
  have HML1:=Lib.hid hm
  clear ha hm hk_0 hk_1 hk_2 Hx1 HB1 HB2 HM0
  by_cases hlt1:k1 < x.l.length∧k1 < 3
  ·obtain ⟨hlt1,hlN1⟩:=hlt1
   go_upto_region 3 with (fail)
   refine Aa 28 [5,6,7,8,9,10,11,12,13] [0,1,2,3,4,5,6,7,8] (fun a0 HA0=>?_)
   have oe1:=ev HA0 1 rfl
   have oe4:=ev HA0 4 rfl
   refine QSeq.pure rfl _ (fun E=>Ai rfl (E.v oe4)) ?_
   refine QSeq.pure rfl (.pointer (some ⟨w.heap.size,3,none⟩)) (fun E=>Ad rfl Tryz.underlying40 rfl (by kernel_rfl) (E.v oe1)) ?_
   refine QSeq.pure rfl _ (fun E=>Aj rfl Tryz.underlying38 rfl (E.d 1 0) (Cs.lit1 HKL1_1.out rfl)) ?_
   refine QSeq.pure rfl (.int .i64 x.l.length) (fun E=>A0 rfl (E.d 2 0) Tryz.underlying38) ?_
   refine QSeq.pure rfl (.bool true) (fun E=>An rfl (E.d 0 3) (E.d 3 0) (Ag _ _ _ _ _ _) (A6 _ _ _ Tryz.underlying3) (congrArg Value.bool (decide_eq_true (by omega)))) ?_
   refine QSeq.pure rfl _ (fun E=>Ai rfl (E.d 4 0)) ?_
   refine QSeq.pureG rfl (.int .i64 ((k1:Nat):Int)) (fun E=>((Ae rfl rfl (E.sz 10 (by decide)) (E.d 5 0)).trans rfl)) (fun E=>Ai rfl (E.v oe4)) ?_
   refine QSeq.pureG rfl (.bool true) (fun E=>((Ae rfl rfl (E.sz 10 (by decide)) (E.d 5 1)).trans rfl)) (fun E=>An rfl (E.d 6 0) rfl (Ag _ _ _ _ _ _) (A6 _ _ _ Tryz.underlying3) (congrArg Value.bool (decide_eq_true (by omega)))) ?_
   refine QSeq.pure rfl (.bool true) (fun E=>ex_pick rfl (E.d 5 2) (E.d 7 0) rfl) ?_
   refine QSeq.nil (t':=[_,_,_,_,_,_,_,_,_]) rfl ?_
   obtain rfl:=HA0.out
   clear HA0 oe1 oe4
   simp only [pz,Act.put,sIB,sCZ,sCS]
   have hat:=HKL1_0.out.at hlt1
   obtain ⟨g1,o1,cs1,eao,hrg,hrd,hcs⟩:=hat
   subst eao
   have hcl:cs1.length=38:=CeR.len hrd
   have HCL1:=Lib.hid hcl
   have HAT1:=hid (show CellsAt R2 wl1 g1 (o1+k1 * 38) cs1 from ⟨hrg,hcs⟩)
   have HRD1:=Lib.hid hrd
   have HOC1:=hid (CeR.one hrd)
   clear hcl hcs hrd hrg
   have HE1:Hid (((x.l.take k1).map cutCe) ++ [cutCe x.l[k1]]=(x.l.take (k1+1)).map cutCe):=hid (by rw [List.take_succ_eq_append_getElem hlt1,List.map_append];rfl)
   have HLN1:Hid (((x.l.take k1).map cutCe).length=k1):=hid (by rw [List.length_map,List.length_take];omega)
   go_upto_region 5 with (fail)
   refine Aa 28 [16,17,18,19,20,21,22,23,24,3] [0,1,2,3,4,5,6,7,8,9] (fun a0 HA0=>?_)
   have oe1:=ev HA0 1 rfl
   have oe3:=ev HA0 3 rfl
   have oe4:=ev HA0 4 rfl
   refine QSeq.pure rfl _ (fun E=>Ai rfl (E.y 9 oe3)) ?_
   refine QSeq.pure rfl (.pointer (some ⟨w.heap.size,3,none⟩)) (fun E=>Ad rfl Tryz.underlying40 rfl (by kernel_rfl) (E.v oe1)) ?_
   refine QSeq.pure rfl _ (fun E=>Aj rfl Tryz.underlying38 rfl (E.d 1 0) (Cs.lit1 HKL1_1.out rfl)) ?_
   refine QSeq.pure rfl _ (fun E=>Ai rfl (E.v oe4)) ?_
   refine QSeq.pure rfl (.pointer (some ⟨g1,o1+k1 * 38,none⟩)) (fun E=>Bk (i:=k1) (s:=38) rfl Tryz.underlying38 (by kernel_rfl) (E.d 2 1) (E.d 3 0) hlt1) ?_
   refine QSeq.pure rfl _ (fun E=>Am rfl Tryz.underlying35 rfl (off:=o1+k1 * 38) (cs:=cs1) (by rw [HCL1.out];kernel_rfl) (E.d 4 0) (fun j u hu=>(HAT1.out).2 j u hu)) ?_
   refine QSeq.call rfl rfl Tryz.func36 (LCert_c _ _ _ _ HRD1.out (by intro k h1;have hb:=HBT.out k h1;omega)) (fun E=>Aw (E.d 5 0)) ?_
   rintro e u5_6 ⟨cs',rfl,qel,hm⟩
   refine ⟨_,rfl,?_⟩
   have Hx2:=hid (qel.widen (R':=(fun k=>(R2 k)∨(New wl1 u5_6 k))) (fun _ h=>h))
   have zu5_6:=hm.size
   have Cx3:=hid (show Mod (fun _=>False) wl1 u5_6 from hm)
   clear hm
   clear qel HRD1
   refine QSeq.go fun act E=>?_
   refine qc_buildS (e:=35) (cs:=cs') (zc:=[.int .i64 0,.int .i64 0,.int .u8 0,.int .u8 0,.int .u8 0,.int .u8 0,.int .u8 0,.int .u8 0,.int .u8 0,.int .u8 0,.int .u8 0,.int .u8 0,.int .u8 0,.int .u8 0,.int .u8 0,.int .u8 0,.int .u8 0,.int .u8 0,.int .u8 0,.int .u8 0,.int .u8 0,.int .u8 0,.int .u8 0,.int .u8 0,.int .u8 0,.int .u8 0,.int .u8 0,.int .u8 0,.int .u8 0,.int .u8 0,.int .u8 0,.int .u8 0,.int .u8 0,.int .u8 0,.int .i64 0,.int .i64 0,.int .i64 0,.slice none 0 0]) (sz:=38) rfl (Ac rfl) rfl Tryz.underlying38 (by kernel_rfl) rfl (by decide) (by decide) (E.d 6 0) (CeR.len Hx2.out) ?_
   intro u5_7 qrow hm
   have zl5_7:=qrow.lt
   have Hx4:=hid qrow
   have zu5_7:=hm.size
   have HMu5_7:=hid hm
   have Cx5:=hid (Cx3.out.goE hm)
   clear hm Cx3
   clear act E qrow
   refine QSeq.go fun act E=>?_
   refine qc_appS (A:=CeR) (e:=35) rfl (Ac rfl) rfl (.agg #[.int .i64 0,.int .i64 0,.int .u8 0,.int .u8 0,.int .u8 0,.int .u8 0,.int .u8 0,.int .u8 0,.int .u8 0,.int .u8 0,.int .u8 0,.int .u8 0,.int .u8 0,.int .u8 0,.int .u8 0,.int .u8 0,.int .u8 0,.int .u8 0,.int .u8 0,.int .u8 0,.int .u8 0,.int .u8 0,.int .u8 0,.int .u8 0,.int .u8 0,.int .u8 0,.int .u8 0,.int .u8 0,.int .u8 0,.int .u8 0,.int .u8 0,.int .u8 0,.int .u8 0,.int .u8 0,.int .i64 0,.int .i64 0,.int .i64 0,.slice none 0 0]) 96 Tryz.underlying38 info_Ce (by rfl) (of_decide_eq_true (by kernel_rfl)) (E.d 0 7) (E.d 7 0) ((HAL1.out.mod Cx5.out (fun _ _ h=>h) (fun _ _ h=>h))) (RdS.single (R:=(fun k=>(R2 k)∨(New wl1 u5_6 k)∨(k=u5_6.heap.size))) Hx4.out ((Hx2.out.mod HMu5_7.out (fun _ _ h=>h)).widen (by intro k h1;rcases h1 with h1|h1<;>first|omega|exact h1.elim|exact Or.inl h1|exact Or.inr (Or.inl h1)|exact Or.inr (Or.inr (h1)))) (by first|exact Or.inr rfl|exact Or.inr (Or.inr rfl)|(right;omega))) (by intro k h1 h2;rcases h1 with h1|h1|h1<;>first|omega|(have hb:=HBT.out k h1;omega)) (by rw [HLN1.out];simp only [List.length_cons,List.length_nil];omega) (by rw [HLN1.out,Ax];simp only [List.length_cons,List.length_nil];omega) ?_
   intro ao4 cap4 u5_8 qacc hm
   have Hx6:=hid (qacc.widen (R':=(fun k=>(New w1 wl1 k)∨(New u5_7 u5_8 k))) (E':=(fun k=>(R2 k)∨(New w1 wl1 k)∨(New wl1 u5_6 k)∨(k=u5_6.heap.size))) (fun _ h=>h) (by intro k h1;rcases h1 with (h1|h1)|(h1|h1|h1)<;>first|omega|exact h1.elim|exact Or.inl h1|exact Or.inr (Or.inl h1)|exact Or.inr (Or.inr (Or.inl h1))|exact Or.inr (Or.inr (Or.inr (h1)))))
   have zu5_8:=hm.size
   have HMu5_8:=hid hm
   have Cx7:=hid (Mod.goS (S':=(fun k=>(New w1 wl1 k))) Cx5.out hm (fun _ h=>h.elim) (by intro k h0 h2;exact h2))
   clear hm Cx5
   clear act E qacc HAL1
   refine QSeq.pure rfl _ (fun E=>Af rfl (E.d 8 0)) ?_
   have Hx8:=hid ((Hx2.out.mod HMu5_7.out (fun _ _ h=>h)).mod HMu5_8.out (by intro k h1 h2;rcases h1 with h1|h1<;>first|omega|(have hb:=HBT.out k h1;omega)))
   have Hx9:=hid (Hx4.out.mod HMu5_8.out (by intro h2;omega))
   clear Hx2 Hx4 HMu5_7 HMu5_8
   refine QSeq.nil (t':=[_,_,_,_,_,_,_,_,_,_]) rfl ?_
   obtain rfl:=HA0.out
   clear HA0 oe1 oe3 oe4
   simp only [pz,Act.put,sIB,sCZ,sCS]
   have hq:=Hx6.out
   rw [HE1.out] at hq
   have HQ1:=Lib.hid hq
   clear hq
   go_wp2
   go_roundw
   case rel=>exact ⟨k1+1,by go_num,by omega,by omega,by omega,(HQ1.out.widen (by intro b h1;omega) (by intro k h1;rcases h1 with h1|h1|h1|h1<;>first|omega|exact h1.elim|exact Or.inl h1|exact Or.inr (h1))),(HKL1_0.out.mod Cx7.out (sN HBT)),(HKL1_1.out.mod Cx7.out (by intro h2;omega)),(HKL1_2.out.mod Cx7.out (by intro h2;omega)),(HML1.out.trans Cx7.out (by intro k h1 h2;omega))⟩
   case measure=>simp [intOf];omega
  ·skip
   obtain ⟨bA1,hbA1⟩:∃ b:Bool,b=decide (((k1:Nat):Int) < (x.l.length:Int)):=⟨_,rfl⟩
   obtain ⟨bB1,hbB1⟩:∃ b:Bool,b=decide (((k1:Nat):Int) < 3):=⟨_,rfl⟩
   go_upto_region 3 with (fail)
   refine Aa 28 [5,6,7,8,9,10,11,12,13] [0,1,2,3,4,5,6,7,8] (fun a0 HA0=>?_)
   have oe1:=ev HA0 1 rfl
   have oe4:=ev HA0 4 rfl
   refine QSeq.pure rfl _ (fun E=>Ai rfl (E.v oe4)) ?_
   refine QSeq.pure rfl (.pointer (some ⟨w.heap.size,3,none⟩)) (fun E=>Ad rfl Tryz.underlying40 rfl (by kernel_rfl) (E.v oe1)) ?_
   refine QSeq.pure rfl _ (fun E=>Aj rfl Tryz.underlying38 rfl (E.d 1 0) (Cs.lit1 HKL1_1.out rfl)) ?_
   refine QSeq.pure rfl (.int .i64 x.l.length) (fun E=>A0 rfl (E.d 2 0) Tryz.underlying38) ?_
   refine QSeq.pure rfl (.bool bA1) (fun E=>An rfl (E.d 0 3) (E.d 3 0) (Ag _ _ _ _ _ _) (A6 _ _ _ Tryz.underlying3) (congrArg Value.bool hbA1.symm)) ?_
   refine QSeq.pure rfl _ (fun E=>Ai rfl (E.d 4 0)) ?_
   refine QSeq.may (b:=bA1) rfl (.int .i64 ((k1:Nat):Int)) (fun E=>((Ae rfl rfl (E.sz 10 (by decide)) (E.d 5 0)).trans (Ar _))) (fun E hb=>Ai rfl (E.v oe4)) ?_
   intro v3_6 hw
   have hv3_6:=hid hw
   clear hw
   refine QSeq.may (b:=bA1) rfl (.bool bB1) (fun E=>((Ae rfl rfl (E.sz 10 (by decide)) (E.d 5 1)).trans (Ar _))) (fun E hb=>An rfl ((E.q 6 0 hv3_6.out).1 hb) rfl (Ag _ _ _ _ _ _) (A6 _ _ _ Tryz.underlying3) (congrArg Value.bool hbB1.symm)) ?_
   intro v3_7 hw
   have hv3_7:=hid hw
   clear hw
   refine QSeq.pure rfl (.bool (bA1 && bB1)) (fun E=>A2 rfl (E.d 5 2) rfl rfl (Bh fun hb=>(E.q 7 0 hv3_7.out).1 hb)) ?_
   clear hv3_6 hv3_7
   refine QSeq.nil (t':=[_,_,_,_,_,_,_,_,_]) rfl ?_
   obtain rfl:=HA0.out
   clear HA0 oe1 oe4
   simp only [pz,Act.put,sIB,sCZ,sCS]
   rw [show (bA1 && bB1)=false by rw [hbA1,hbB1,Bool.and_eq_false_iff,decide_eq_false_iff_not,decide_eq_false_iff_not];omega]
   have HTK1:=hid (show x.l.take k1=x.l.take 3 from take_two (by omega) (by omega))
   go_upto_region 6 with (fail)
   refine Aa 28 [25,26,30] [0,1,2] (fun a0 HA0=>?_)
   have oe1:=ev HA0 1 rfl
   have oe3:=ev HA0 3 rfl
   refine QSeq.pure rfl _ (fun E=>Ai rfl (E.v oe3)) ?_
   refine QSeq.pure rfl (.pointer (some ⟨w.heap.size,3,none⟩)) (fun E=>Ad rfl Tryz.underlying40 rfl (by kernel_rfl) (E.v oe1)) ?_
   refine QSeq.go fun act E=>?_
   refine Aq rfl (Ac rfl) rfl HKL1_1.out (off:=3) (vs:=[Value.slice aol1 ((x.l.take k1).map cutCe).length capl1]) (by kernel_rfl) one1 (by simp) (E.d 1 0) (ec (E.d 0 1)) ?_
   intro u6_2 qc0 hm
   have qB1:=qc0.eqv (b:=#[.int .i64 x.rp,.int .i64 x.ep,.int .u64 (x.fl:Nat),Value.slice aol1 ((x.l.take k1).map cutCe).length capl1,.int .i64 x.sb,.int .i64 x.mr]) rfl
   clear qc0
   have Hx10:=hid qB1
   have zu6_2:=hm.size
   have Cx11:=hid (show Mod (fun k=>(k=w.heap.size)) wl1 u6_2 from hm)
   clear hm
   clear act E qB1 HKL1_1
   refine QSeq.nil (t':=[_,_,_]) rfl ?_
   obtain rfl:=HA0.out
   clear HA0 oe1 oe3
   simp only [pz,Act.put,sIB,sCZ,sCS,List.set_nil]
   go_upto_region 7 with (fail)
   refine Aa 28 [27,29] [0,1] (fun a0 HA0=>?_)
   have oe1:=ev HA0 1 rfl
   have oe2:=ev HA0 2 rfl
   refine QSeq.pure rfl _ (fun E=>Am rfl Tryz.underlying40 rfl (off:=0) (cs:=[.int .i64 x.rp,.int .i64 x.ep,.int .u64 (x.fl:Nat),Value.slice aol1 ((x.l.take k1).map cutCe).length capl1,.int .i64 x.sb,.int .i64 x.mr]) (by kernel_rfl) (E.v oe1) (Cs.whole Hx10.out)) ?_
   refine QSeq.go fun act E=>?_
   refine Aq rfl (Ac rfl) rfl (HKL1_2.out.mod Cx11.out (by intro h2;omega)) (off:=0) (vs:=[.int .i64 x.rp,.int .i64 x.ep,.int .u64 (x.fl:Nat),Value.slice aol1 ((x.l.take k1).map cutCe).length capl1,.int .i64 x.sb,.int .i64 x.mr]) (by kernel_rfl) (by intro u hu;simp at hu;rcases hu with rfl|rfl|rfl|rfl|rfl|rfl<;>rfl) (by simp) (E.v oe2) (ec (E.d 0 0)) ?_
   intro u7_1 qc0 hm
   have qB2:=qc0.eqv (b:=#[.int .i64 x.rp,.int .i64 x.ep,.int .u64 (x.fl:Nat),Value.slice aol1 ((x.l.take k1).map cutCe).length capl1,.int .i64 x.sb,.int .i64 x.mr]) rfl
   clear qc0
   have Hx12:=hid qB2
   have zu7_1:=hm.size
   have Cx13:=hid (show Mod (fun k=>(k=w.heap.size+1)) u6_2 u7_1 from hm)
   clear hm
   clear act E qB2 HKL1_2
   refine QSeq.nil (t':=[_,_]) rfl ?_
   obtain rfl:=HA0.out
   clear HA0 oe1 oe2
   simp only [pz,Act.put,sIB,sCZ,sCS,List.set_nil]
   go_wp2
   have hq:=((HAL1.out.mod Cx11.out (by intro k h1 h2;omega) (by intro k h1 h2;rcases h1 with h1|h1<;>first|omega|(have hb:=HBT.out k h1;omega))).mod Cx13.out (by intro k h1 h2;omega) (by intro k h1 h2;rcases h1 with h1|h1<;>first|omega|(have hb:=HBT.out k h1;omega)))
   refine bodyPost_ret (A7 rfl _ _ (w.heap.size+1) ([.int .i64 x.rp,.int .i64 x.ep,.int .u64 (x.fl:Nat),Value.slice aol1 ((x.l.take k1).map cutCe).length capl1,.int .i64 x.sb,.int .i64 x.mr]) rfl (fun k u hu=>by rw [Hx12.out.cell];simpa using hu) Tryz.underlying40 rfl (by kernel_rfl)) rfl ⟨_,rfl,⟨_,rfl,HOK.out,?_⟩,((HML1.out.trans Cx11.out (by intro k h1 h2;omega)).trans Cx13.out (by intro k h1 h2;omega))⟩
   rw [show (cutPm x).l=(x.l.take k1).map cutCe from congrArg (List.map cutCe) HTK1.out.symm]
   refine hq.rd.widen ?_
   intro k h
   (try dsimp only at h ⊢)
   rcases h with h|h|h
   ·right;omega
   ·exact Or.inl h
   ·right;omega
end Go.Proofs.YtnaoeginonpicaaGreat

/- Batches that are cut. -/
namespace Go.Proofs.YtnaoeginonpicaaGreat
open Go Go.RowKit Go.Gv
def cutOp (x:Op):Op:={ x with pl:=x.pl.take 260 }
def cutTb (x:Tb):Tb:={ x with l:=x.l.take 5 }
def cutBa (x:Ba):Ba:={ x with ps:=(x.ps.take 4).map cutPm,os:=(x.os.take 4).map cutOp,ts:=(x.ts.take 4).map cutTb }
theorem RdR_len {R:Nat→Prop} {N:Nat} {w:World} {v:Value} {bs:List Int} (h:RdR R N w v bs):RdR R bs.length w v bs:=⟨h.1,h.2.1,Nat.le_refl _⟩
theorem op_len (x:Op) (v:Value) (h:x.nc.length=32):(x.cells v).length=34:=by simp [Op.cells,h]
theorem lay_pl (x y:Op) (u v:Value) (h:y.ix=x.ix∧y.nc=x.nc):lay (x.cells u).toArray 1 [v]=(y.cells v).toArray:=by
 obtain ⟨h1,h2⟩:=h
 simp [lay,Op.cells,h1,h2]
theorem lay_tl (x y:Tb) (u v:Value) (h:y.ix=x.ix):lay (x.cells u).toArray 1 [v]=(y.cells v).toArray:=by
 simp [lay,Tb.cells,h]
set_option maxHeartbeats 8000000 in
theorem LBatch_c:CutR BaR 38 cutBa:=by
 intro R2 x cs w hx hB2
 obtain ⟨v_ps,v_os,v_ts,rfl,hok,hs0,hs1,hs2⟩:=hx
 obtain ⟨ao_ps,cap_ps,rfl⟩:=hs0.shape
 obtain ⟨ao_os,cap_os,rfl⟩:=hs1.shape
 obtain ⟨ao_ts,cap_ts,rfl⟩:=hs2.shape
 have HS0:=Lib.hid hs0
 have HS1:=Lib.hid hs1
 have HS2:=Lib.hid hs2
 have HBT:=Lib.hid hB2
 have HOK:=Lib.hid hok
 clear hs0 hs1 hs2 hB2 hok
 go_enter Tryz.func38,Tryz.ntmps38
 go_upto_region 1 with (fail)
 obtain ⟨w1,hw1⟩:∃ zz,zz=((w.alloc (.cells (x.cells (.slice ao_ps x.ps.length cap_ps) (.slice ao_os x.os.length cap_os) (.slice ao_ts x.ts.length cap_ts):List Value).toArray 45)).alloc (.cells #[.int .i64 0,.int .u64 0,.slice none 0 0,.slice none 0 0,.slice none 0 0] 45)):=⟨_,rfl⟩
 change Code.wp _ _ _ _ ((w.alloc (.cells (x.cells (.slice ao_ps x.ps.length cap_ps) (.slice ao_os x.os.length cap_os) (.slice ao_ts x.ts.length cap_ts):List Value).toArray 45)).alloc (.cells #[.int .i64 0,.int .u64 0,.slice none 0 0,.slice none 0 0,.slice none 0 0] 45))
 rw [← hw1]
 have HB1:=hid (show Cs w1 (w.heap.size) (x.cells (.slice ao_ps x.ps.length cap_ps) (.slice ao_os x.os.length cap_os) (.slice ao_ts x.ts.length cap_ts):List Value).toArray 45 by rw [hw1];exact (Cs.new _ _ _).alloc _)
 have HB2:=hid (show Cs w1 (w.heap.size+1) #[.int .i64 0,.int .u64 0,.slice none 0 0,.slice none 0 0,.slice none 0 0] 45 by rw [hw1];exact Cs_newN _ _ _ (by simp))
 have hm:Mod (fun _=>False) w w1:=by rw [hw1];exact ((Mod.refl _ _).alloc _).alloc _
 have HM0:=hid (show Mod (fun _=>False) w w1 from hm.mono (fun _ _ h=>h.elim))
 have hs1:w1.heap.size=w.heap.size+2:=by rw [hw1];simp
 have Hx1:=hid (HS0.out.mod hm (fun _ _ h=>h))
 clear HS0
 have Hx2:=hid (HS1.out.mod hm (fun _ _ h=>h))
 clear HS1
 have Hx3:=hid (HS2.out.mod hm (fun _ _ h=>h))
 clear HS2
 clear hw1 hm
 go_wp2
 go_loopw [3,4] (fun ta ti wr=>∃ k:Nat,ti=.int .i64 (k:Int)∧k≤x.ps.length∧k≤4∧w1.heap.size≤wr.heap.size∧OwS PmR 40 (fun b=>w1.heap.size≤b∧b < wr.heap.size) (fun b=>R2 b∨(w1.heap.size≤b∧b < wr.heap.size)) wr ta ((x.ps.take k).map cutPm)∧RdS PmR R2 wr (.slice ao_ps x.ps.length cap_ps) x.ps∧RdS OpR R2 wr (.slice ao_os x.os.length cap_os) x.os∧RdS TbR R2 wr (.slice ao_ts x.ts.length cap_ts) x.ts∧Cs wr (w.heap.size) (x.cells (.slice ao_ps x.ps.length cap_ps) (.slice ao_os x.os.length cap_os) (.slice ao_ts x.ts.length cap_ts):List Value).toArray 45∧Cs wr (w.heap.size+1) #[.int .i64 0,.int .u64 0,.slice none 0 0,.slice none 0 0,.slice none 0 0] 45∧Mod (fun _=>False) w wr) (fun _ ti _=>x.ps.length - (intOf ti).toNat)
 case atStart=>exact ⟨0,rfl,Nat.zero_le _,Nat.zero_le _,Nat.le_refl _,OwS.nil _ _ _ _ _,Hx1.out,Hx2.out,Hx3.out,HB1.out,HB2.out,HM0.out⟩
 case round=>
  obtain ⟨k1,rfl,hk,hkN,hz,ha,hk_0,hk_1,hk_2,hk_3,hk_4,hm⟩:=hrel
  obtain ⟨wl1,rfl⟩:∃ x,x=wr:=⟨_,rfl⟩
  obtain ⟨aol1,capl1,rfl⟩:=ha.shape
  have HAL1:=Lib.hid ha
  have HKL1_0:=Lib.hid hk_0
  have HKL1_1:=Lib.hid hk_1
  have HKL1_2:=Lib.hid hk_2
  have HKL1_3:=Lib.hid hk_3
  have HKL1_4:=Lib.hid hk_4
  have HML1:=Lib.hid hm
  clear ha hm hk_0 hk_1 hk_2 hk_3 hk_4 Hx1 Hx2 Hx3 HB1 HB2 HM0
  by_cases hlt1:k1 < x.ps.length∧k1 < 4
  ·obtain ⟨hlt1,hlN1⟩:=hlt1
   go_upto_region 3 with (fail)
   refine Aa 86 [11,12,13,14,15,16,17,18,19] [0,1,2,3,4,5,6,7,8] (fun a0 HA0=>?_)
   have oe1:=ev HA0 1 rfl
   have oe4:=ev HA0 4 rfl
   refine QSeq.pure rfl _ (fun E=>Ai rfl (E.v oe4)) ?_
   refine QSeq.pure rfl (.pointer (some ⟨w.heap.size,2,none⟩)) (fun E=>Ad rfl Tryz.underlying45 rfl (by kernel_rfl) (E.v oe1)) ?_
   refine QSeq.pure rfl _ (fun E=>Aj rfl Tryz.underlying41 rfl (E.d 1 0) (Cs.lit1 HKL1_3.out rfl)) ?_
   refine QSeq.pure rfl (.int .i64 x.ps.length) (fun E=>A0 rfl (E.d 2 0) Tryz.underlying41) ?_
   refine QSeq.pure rfl (.bool true) (fun E=>An rfl (E.d 0 3) (E.d 3 0) (Ag _ _ _ _ _ _) (A6 _ _ _ Tryz.underlying3) (congrArg Value.bool (decide_eq_true (by omega)))) ?_
   refine QSeq.pure rfl _ (fun E=>Ai rfl (E.d 4 0)) ?_
   refine QSeq.pureG rfl (.int .i64 ((k1:Nat):Int)) (fun E=>((Ae rfl rfl (E.sz 16 (by decide)) (E.d 5 0)).trans rfl)) (fun E=>Ai rfl (E.v oe4)) ?_
   refine QSeq.pureG rfl (.bool true) (fun E=>((Ae rfl rfl (E.sz 16 (by decide)) (E.d 5 1)).trans rfl)) (fun E=>An rfl (E.d 6 0) rfl (Ag _ _ _ _ _ _) (A6 _ _ _ Tryz.underlying3) (congrArg Value.bool (decide_eq_true (by omega)))) ?_
   refine QSeq.pure rfl (.bool true) (fun E=>ex_pick rfl (E.d 5 2) (E.d 7 0) rfl) ?_
   refine QSeq.nil (t':=[_,_,_,_,_,_,_,_,_]) rfl ?_
   obtain rfl:=HA0.out
   clear HA0 oe1 oe4
   simp only [pz,Act.put,sIB,sCZ,sCS]
   have hat:=HKL1_0.out.at hlt1
   obtain ⟨g1,o1,cs1,eao,hrg,hrd,hcs⟩:=hat
   subst eao
   have hcl:cs1.length=6:=PmR.len hrd
   have HCL1:=Lib.hid hcl
   have HAT1:=hid (show CellsAt R2 wl1 g1 (o1+k1 * 6) cs1 from ⟨hrg,hcs⟩)
   have HRD1:=Lib.hid hrd
   have HOC1:=hid (PmR.one hrd)
   clear hcl hcs hrd hrg
   have HE1:Hid (((x.ps.take k1).map cutPm) ++ [cutPm x.ps[k1]]=(x.ps.take (k1+1)).map cutPm):=hid (by rw [List.take_succ_eq_append_getElem hlt1,List.map_append];rfl)
   have HLN1:Hid (((x.ps.take k1).map cutPm).length=k1):=hid (by rw [List.length_map,List.length_take];omega)
   go_upto_region 5 with (fail)
   refine Aa 86 [22,23,24,25,26,27,28,29,30,3] [0,1,2,3,4,5,6,7,8,9] (fun a0 HA0=>?_)
   have oe1:=ev HA0 1 rfl
   have oe3:=ev HA0 3 rfl
   have oe4:=ev HA0 4 rfl
   refine QSeq.pure rfl _ (fun E=>Ai rfl (E.y 9 oe3)) ?_
   refine QSeq.pure rfl (.pointer (some ⟨w.heap.size,2,none⟩)) (fun E=>Ad rfl Tryz.underlying45 rfl (by kernel_rfl) (E.v oe1)) ?_
   refine QSeq.pure rfl _ (fun E=>Aj rfl Tryz.underlying41 rfl (E.d 1 0) (Cs.lit1 HKL1_3.out rfl)) ?_
   refine QSeq.pure rfl _ (fun E=>Ai rfl (E.v oe4)) ?_
   refine QSeq.pure rfl (.pointer (some ⟨g1,o1+k1 * 6,none⟩)) (fun E=>Bk (i:=k1) (s:=6) rfl Tryz.underlying41 (by kernel_rfl) (E.d 2 1) (E.d 3 0) hlt1) ?_
   refine QSeq.pure rfl _ (fun E=>Am rfl Tryz.underlying40 rfl (off:=o1+k1 * 6) (cs:=cs1) (by rw [HCL1.out];kernel_rfl) (E.d 4 0) (fun j u hu=>(HAT1.out).2 j u hu)) ?_
   refine QSeq.call rfl rfl Tryz.func37 (LPromise_c _ _ _ _ HRD1.out (by intro k h1;have hb:=HBT.out k h1;omega)) (fun E=>Aw (E.d 5 0)) ?_
   rintro e u5_6 ⟨cs',rfl,qel,hm⟩
   refine ⟨_,rfl,?_⟩
   have Hx4:=hid (qel.widen (R':=(fun k=>(R2 k)∨(New wl1 u5_6 k))) (fun _ h=>h))
   have zu5_6:=hm.size
   have Cx5:=hid (show Mod (fun _=>False) wl1 u5_6 from hm)
   clear hm
   clear qel HRD1
   refine QSeq.go fun act E=>?_
   refine qc_buildS (e:=40) (cs:=cs') (zc:=[.int .i64 0,.int .i64 0,.int .u64 0,.slice none 0 0,.int .i64 0,.int .i64 0]) (sz:=6) rfl (Ac rfl) rfl Tryz.underlying41 (by kernel_rfl) rfl (by decide) (by decide) (E.d 6 0) (PmR.len Hx4.out) ?_
   intro u5_7 qrow hm
   have zl5_7:=qrow.lt
   have Hx6:=hid qrow
   have zu5_7:=hm.size
   have HMu5_7:=hid hm
   have Cx7:=hid (Cx5.out.goE hm)
   clear hm Cx5
   clear act E qrow
   refine QSeq.go fun act E=>?_
   refine qc_appS (A:=PmR) (e:=40) rfl (Ac rfl) rfl (.agg #[.int .i64 0,.int .i64 0,.int .u64 0,.slice none 0 0,.int .i64 0,.int .i64 0]) 64 Tryz.underlying41 info_Pm (by rfl) (of_decide_eq_true (by kernel_rfl)) (E.d 0 7) (E.d 7 0) ((HAL1.out.mod Cx7.out (fun _ _ h=>h) (fun _ _ h=>h))) (RdS.single (R:=(fun k=>(R2 k)∨(New wl1 u5_6 k)∨(k=u5_6.heap.size))) Hx6.out ((Hx4.out.mod HMu5_7.out (fun _ _ h=>h)).widen (by intro k h1;rcases h1 with h1|h1<;>first|omega|exact h1.elim|exact Or.inl h1|exact Or.inr (Or.inl h1)|exact Or.inr (Or.inr (h1)))) (by first|exact Or.inr rfl|exact Or.inr (Or.inr rfl)|(right;omega))) (by intro k h1 h2;rcases h1 with h1|h1|h1<;>first|omega|(have hb:=HBT.out k h1;omega)) (by rw [HLN1.out];simp only [List.length_cons,List.length_nil];omega) (by rw [HLN1.out,Ax];simp only [List.length_cons,List.length_nil];omega) ?_
   intro ao4 cap4 u5_8 qacc1 hm
   have Hx8:=hid (qacc1.widen (R':=(fun k=>(New w1 wl1 k)∨(New u5_7 u5_8 k))) (E':=(fun k=>(R2 k)∨(New w1 wl1 k)∨(New wl1 u5_6 k)∨(k=u5_6.heap.size))) (fun _ h=>h) (by intro k h1;rcases h1 with (h1|h1)|(h1|h1|h1)<;>first|omega|exact h1.elim|exact Or.inl h1|exact Or.inr (Or.inl h1)|exact Or.inr (Or.inr (Or.inl h1))|exact Or.inr (Or.inr (Or.inr (h1)))))
   have zu5_8:=hm.size
   have HMu5_8:=hid hm
   have Cx9:=hid (Mod.goS (S':=(fun k=>(New w1 wl1 k))) Cx7.out hm (fun _ h=>h.elim) (by intro k h0 h2;exact h2))
   clear hm Cx7
   clear act E qacc1 HAL1
   refine QSeq.pure rfl _ (fun E=>Af rfl (E.d 8 0)) ?_
   have Hx10:=hid ((Hx4.out.mod HMu5_7.out (fun _ _ h=>h)).mod HMu5_8.out (by intro k h1 h2;rcases h1 with h1|h1<;>first|omega|(have hb:=HBT.out k h1;omega)))
   have Hx11:=hid (Hx6.out.mod HMu5_8.out (by intro h2;omega))
   clear Hx4 Hx6 HMu5_7 HMu5_8
   refine QSeq.nil (t':=[_,_,_,_,_,_,_,_,_,_]) rfl ?_
   obtain rfl:=HA0.out
   clear HA0 oe1 oe3 oe4
   simp only [pz,Act.put,sIB,sCZ,sCS]
   have hq:=Hx8.out
   rw [HE1.out] at hq
   have HQ1:=Lib.hid hq
   clear hq
   go_wp2
   go_roundw
   case rel=>exact ⟨k1+1,by go_num,by omega,by omega,by omega,(HQ1.out.widen (by intro b h1;omega) (by intro k h1;rcases h1 with h1|h1|h1|h1<;>first|omega|exact h1.elim|exact Or.inl h1|exact Or.inr (h1))),(HKL1_0.out.mod Cx9.out (sN HBT)),(HKL1_1.out.mod Cx9.out (sN HBT)),(HKL1_2.out.mod Cx9.out (sN HBT)),(HKL1_3.out.mod Cx9.out (by intro h2;omega)),(HKL1_4.out.mod Cx9.out (by intro h2;omega)),(HML1.out.trans Cx9.out (by intro k h1 h2;omega))⟩
   case measure=>simp [intOf];omega
  ·skip
   obtain ⟨bA1,hbA1⟩:∃ b:Bool,b=decide (((k1:Nat):Int) < (x.ps.length:Int)):=⟨_,rfl⟩
   obtain ⟨bB1,hbB1⟩:∃ b:Bool,b=decide (((k1:Nat):Int) < 4):=⟨_,rfl⟩
   go_upto_region 3 with (fail)
   refine Aa 86 [11,12,13,14,15,16,17,18,19] [0,1,2,3,4,5,6,7,8] (fun a0 HA0=>?_)
   have oe1:=ev HA0 1 rfl
   have oe4:=ev HA0 4 rfl
   refine QSeq.pure rfl _ (fun E=>Ai rfl (E.v oe4)) ?_
   refine QSeq.pure rfl (.pointer (some ⟨w.heap.size,2,none⟩)) (fun E=>Ad rfl Tryz.underlying45 rfl (by kernel_rfl) (E.v oe1)) ?_
   refine QSeq.pure rfl _ (fun E=>Aj rfl Tryz.underlying41 rfl (E.d 1 0) (Cs.lit1 HKL1_3.out rfl)) ?_
   refine QSeq.pure rfl (.int .i64 x.ps.length) (fun E=>A0 rfl (E.d 2 0) Tryz.underlying41) ?_
   refine QSeq.pure rfl (.bool bA1) (fun E=>An rfl (E.d 0 3) (E.d 3 0) (Ag _ _ _ _ _ _) (A6 _ _ _ Tryz.underlying3) (congrArg Value.bool hbA1.symm)) ?_
   refine QSeq.pure rfl _ (fun E=>Ai rfl (E.d 4 0)) ?_
   refine QSeq.may (b:=bA1) rfl (.int .i64 ((k1:Nat):Int)) (fun E=>((Ae rfl rfl (E.sz 16 (by decide)) (E.d 5 0)).trans (Ar _))) (fun E hb=>Ai rfl (E.v oe4)) ?_
   intro v3_6 hw
   have hv3_6:=hid hw
   clear hw
   refine QSeq.may (b:=bA1) rfl (.bool bB1) (fun E=>((Ae rfl rfl (E.sz 16 (by decide)) (E.d 5 1)).trans (Ar _))) (fun E hb=>An rfl ((E.q 6 0 hv3_6.out).1 hb) rfl (Ag _ _ _ _ _ _) (A6 _ _ _ Tryz.underlying3) (congrArg Value.bool hbB1.symm)) ?_
   intro v3_7 hw
   have hv3_7:=hid hw
   clear hw
   refine QSeq.pure rfl (.bool (bA1 && bB1)) (fun E=>A2 rfl (E.d 5 2) rfl rfl (Bh fun hb=>(E.q 7 0 hv3_7.out).1 hb)) ?_
   clear hv3_6 hv3_7
   refine QSeq.nil (t':=[_,_,_,_,_,_,_,_,_]) rfl ?_
   obtain rfl:=HA0.out
   clear HA0 oe1 oe4
   simp only [pz,Act.put,sIB,sCZ,sCS]
   rw [show (bA1 && bB1)=false by rw [hbA1,hbB1,Bool.and_eq_false_iff,decide_eq_false_iff_not,decide_eq_false_iff_not];omega]
   have HTK1:=hid (show x.ps.take k1=x.ps.take 4 from take_two (by omega) (by omega))
   go_wp2
   go_loopw [5,6] (fun ta ti wr=>∃ k:Nat,ti=.int .i64 (k:Int)∧k≤x.os.length∧k≤4∧wl1.heap.size≤wr.heap.size∧OwS OpR 54 (fun b=>wl1.heap.size≤b∧b < wr.heap.size) (fun b=>R2 b∨(wl1.heap.size≤b∧b < wr.heap.size)) wr ta ((x.os.take k).map cutOp)∧RdS PmR R2 wr (.slice ao_ps x.ps.length cap_ps) x.ps∧RdS OpR R2 wr (.slice ao_os x.os.length cap_os) x.os∧RdS TbR R2 wr (.slice ao_ts x.ts.length cap_ts) x.ts∧Cs wr (w.heap.size) (x.cells (.slice ao_ps x.ps.length cap_ps) (.slice ao_os x.os.length cap_os) (.slice ao_ts x.ts.length cap_ts):List Value).toArray 45∧Cs wr (w.heap.size+1) #[.int .i64 0,.int .u64 0,.slice none 0 0,.slice none 0 0,.slice none 0 0] 45∧OwS PmR 40 (fun b=>w1.heap.size≤b∧b < wl1.heap.size) (fun b=>R2 b∨(w1.heap.size≤b∧b < wl1.heap.size)) wr (.slice aol1 ((x.ps.take k1).map cutPm).length capl1) ((x.ps.take k1).map cutPm)∧Mod (fun _=>False) w wr) (fun _ ti _=>x.os.length - (intOf ti).toNat)
   case atStart=>exact ⟨0,rfl,Nat.zero_le _,Nat.zero_le _,Nat.le_refl _,OwS.nil _ _ _ _ _,HKL1_0.out,HKL1_1.out,HKL1_2.out,HKL1_3.out,HKL1_4.out,HAL1.out,HML1.out⟩
   case round=>
    obtain ⟨k2,rfl,hk,hkN,hz,ha,hk_0,hk_1,hk_2,hk_3,hk_4,hk_5,hm⟩:=hrel
    obtain ⟨wl2,rfl⟩:∃ x,x=wr:=⟨_,rfl⟩
    obtain ⟨aol2,capl2,rfl⟩:=ha.shape
    have HAL2:=Lib.hid ha
    have HKL2_0:=Lib.hid hk_0
    have HKL2_1:=Lib.hid hk_1
    have HKL2_2:=Lib.hid hk_2
    have HKL2_3:=Lib.hid hk_3
    have HKL2_4:=Lib.hid hk_4
    have HKL2_5:=Lib.hid hk_5
    have HML2:=Lib.hid hm
    clear ha hm hk_0 hk_1 hk_2 hk_3 hk_4 hk_5 HKL1_0 HKL1_1 HKL1_2 HKL1_3 HKL1_4 HML1 HAL1
    by_cases hlt2:k2 < x.os.length∧k2 < 4
    ·obtain ⟨hlt2,hlN2⟩:=hlt2
     go_upto_region 8 with (fail)
     refine Aa 86 [31,32,33,34,35,36,37,38,39] [0,1,2,3,4,5,6,7,8] (fun a0 HA0=>?_)
     have oe1:=ev HA0 1 rfl
     have oe6:=ev HA0 6 rfl
     refine QSeq.pure rfl _ (fun E=>Ai rfl (E.v oe6)) ?_
     refine QSeq.pure rfl (.pointer (some ⟨w.heap.size,3,none⟩)) (fun E=>Ad rfl Tryz.underlying45 rfl (by kernel_rfl) (E.v oe1)) ?_
     refine QSeq.pure rfl _ (fun E=>Aj rfl Tryz.underlying42 rfl (E.d 1 0) (Cs.lit1 HKL2_3.out rfl)) ?_
     refine QSeq.pure rfl (.int .i64 x.os.length) (fun E=>A0 rfl (E.d 2 0) Tryz.underlying42) ?_
     refine QSeq.pure rfl (.bool true) (fun E=>An rfl (E.d 0 3) (E.d 3 0) (Ag _ _ _ _ _ _) (A6 _ _ _ Tryz.underlying3) (congrArg Value.bool (decide_eq_true (by omega)))) ?_
     refine QSeq.pure rfl _ (fun E=>Ai rfl (E.d 4 0)) ?_
     refine QSeq.pureG rfl (.int .i64 ((k2:Nat):Int)) (fun E=>((Ae rfl rfl (E.sz 36 (by decide)) (E.d 5 0)).trans rfl)) (fun E=>Ai rfl (E.v oe6)) ?_
     refine QSeq.pureG rfl (.bool true) (fun E=>((Ae rfl rfl (E.sz 36 (by decide)) (E.d 5 1)).trans rfl)) (fun E=>An rfl (E.d 6 0) rfl (Ag _ _ _ _ _ _) (A6 _ _ _ Tryz.underlying3) (congrArg Value.bool (decide_eq_true (by omega)))) ?_
     refine QSeq.pure rfl (.bool true) (fun E=>ex_pick rfl (E.d 5 2) (E.d 7 0) rfl) ?_
     refine QSeq.nil (t':=[_,_,_,_,_,_,_,_,_]) rfl ?_
     obtain rfl:=HA0.out
     clear HA0 oe1 oe6
     simp only [pz,Act.put,sIB,sCZ,sCS]
     have hat:=HKL2_1.out.at hlt2
     obtain ⟨g2,o2,cs2,eao,hrg,hrd,hcs⟩:=hat
     subst eao
     have hcl:cs2.length=34:=OpR.len hrd
     have HCL2:=Lib.hid hcl
     have HAT2:=hid (show CellsAt R2 wl2 g2 (o2+k2 * 34) cs2 from ⟨hrg,hcs⟩)
     have HRD2:=Lib.hid hrd
     have HOC2:=hid (OpR.one hrd)
     clear hcl hcs hrd hrg
     have HE2:Hid (((x.os.take k2).map cutOp) ++ [cutOp x.os[k2]]=(x.os.take (k2+1)).map cutOp):=hid (by rw [List.take_succ_eq_append_getElem hlt2,List.map_append];rfl)
     have HLN2:Hid (((x.os.take k2).map cutOp).length=k2):=hid (by rw [List.length_map,List.length_take];omega)
     obtain ⟨y2,hy2⟩:∃ y,y=x.os[k2]:=⟨_,rfl⟩
     rw [← hy2] at HRD2 HE2
     clear hy2
     obtain ⟨v_e,rfl,hoke,hse⟩:=HRD2.out
     obtain ⟨aoe2,cape2,rfl⟩:=hse.shape
     have HOK2:=Lib.hid hoke
     have HSE2:=Lib.hid hse
     clear hoke hse HRD2
     go_upto_region 10 with (fail)
     refine Aa 86 [42,43,44,45,46,7,92] [0,1,2,3,4,5,6] (fun a0 HA0=>?_)
     have oe1:=ev HA0 1 rfl
     have oe6:=ev HA0 6 rfl
     refine QSeq.pure rfl (.pointer (some ⟨w.heap.size,3,none⟩)) (fun E=>Ad rfl Tryz.underlying45 rfl (by kernel_rfl) (E.v oe1)) ?_
     refine QSeq.pure rfl _ (fun E=>Aj rfl Tryz.underlying42 rfl (E.d 0 0) (Cs.lit1 HKL2_3.out rfl)) ?_
     refine QSeq.pure rfl _ (fun E=>Ai rfl (E.v oe6)) ?_
     refine QSeq.pure rfl (.pointer (some ⟨g2,o2+k2 * 34,none⟩)) (fun E=>Bk (i:=k2) (s:=34) rfl Tryz.underlying42 (by kernel_rfl) (E.d 1 1) (E.d 2 0) hlt2) ?_
     refine QSeq.pure rfl _ (fun E=>Am rfl Tryz.underlying54 rfl (off:=o2+k2 * 34) (cs:=(y2.cells (.slice aoe2 y2.pl.length cape2))) (by rw [HCL2.out];kernel_rfl) (E.d 3 0) (fun j u hu=>(HAT2.out).2 j u hu)) ?_
     refine QSeq.go fun act E=>?_
     refine qc_alloc rfl (Ac rfl) rfl (z:=[.int .i64 0,.slice none 0 0,.int .u8 0,.int .u8 0,.int .u8 0,.int .u8 0,.int .u8 0,.int .u8 0,.int .u8 0,.int .u8 0,.int .u8 0,.int .u8 0,.int .u8 0,.int .u8 0,.int .u8 0,.int .u8 0,.int .u8 0,.int .u8 0,.int .u8 0,.int .u8 0,.int .u8 0,.int .u8 0,.int .u8 0,.int .u8 0,.int .u8 0,.int .u8 0,.int .u8 0,.int .u8 0,.int .u8 0,.int .u8 0,.int .u8 0,.int .u8 0,.int .u8 0,.int .u8 0]) (by kernel_rfl) ?_
     intro u10_5 qq2 hm
     have zl10_5:=qq2.lt
     have Hx12:=hid qq2
     have zu10_5:=hm.size
     have Cx13:=hid (show Mod (fun _=>False) wl2 u10_5 from hm)
     clear hm
     clear act E qq2
     refine QSeq.go fun act E=>?_
     have hlz:((y2.cells (.slice aoe2 y2.pl.length cape2))).length=List.length ([.int .i64 0,.slice none 0 0,.int .u8 0,.int .u8 0,.int .u8 0,.int .u8 0,.int .u8 0,.int .u8 0,.int .u8 0,.int .u8 0,.int .u8 0,.int .u8 0,.int .u8 0,.int .u8 0,.int .u8 0,.int .u8 0,.int .u8 0,.int .u8 0,.int .u8 0,.int .u8 0,.int .u8 0,.int .u8 0,.int .u8 0,.int .u8 0,.int .u8 0,.int .u8 0,.int .u8 0,.int .u8 0,.int .u8 0,.int .u8 0,.int .u8 0,.int .u8 0,.int .u8 0,.int .u8 0]:List Value):=(by rw [HCL2.out];rfl)
     refine Aq rfl (Ac rfl) rfl Hx12.out (off:=0) (vs:=(y2.cells (.slice aoe2 y2.pl.length cape2))) (by rw [hlz];kernel_rfl) HOC2.out (by rw [hlz];exact Nat.le_of_eq (Nat.zero_add _)) (E.d 5 0) (ec (E.d 4 1)) ?_
     intro u10_6 qc0 hm
     have qq2:=qc0.eqv (b:=((y2.cells (.slice aoe2 y2.pl.length cape2)):List Value).toArray) (A5 #[.int .i64 0,.slice none 0 0,.int .u8 0,.int .u8 0,.int .u8 0,.int .u8 0,.int .u8 0,.int .u8 0,.int .u8 0,.int .u8 0,.int .u8 0,.int .u8 0,.int .u8 0,.int .u8 0,.int .u8 0,.int .u8 0,.int .u8 0,.int .u8 0,.int .u8 0,.int .u8 0,.int .u8 0,.int .u8 0,.int .u8 0,.int .u8 0,.int .u8 0,.int .u8 0,.int .u8 0,.int .u8 0,.int .u8 0,.int .u8 0,.int .u8 0,.int .u8 0,.int .u8 0,.int .u8 0] _ (by rw [hlz];rfl))
     clear qc0 hlz
     have Hx14:=hid qq2
     have zu10_6:=hm.size
     have HMu10_6:=hid hm
     have Cx15:=hid (Mod.goS (S':=(fun _=>False)) Cx13.out hm (fun _ h=>h) (by intro k h0 h2;omega))
     clear hm Cx13
     clear act E qq2 Hx12
     clear HMu10_6
     refine QSeq.nil (t':=[_,_,_,_,_,_,_]) rfl ?_
     obtain rfl:=HA0.out
     clear HA0 oe1 oe6
     simp only [pz,Act.put,sIB,sCZ,sCS,List.set_nil]
     go_upto_region 11 with (fail)
     refine Aa 86 [47,48,49,50,90] [0,1,2,3,4] (fun a0 HA0=>?_)
     have oe7:=ev HA0 7 rfl
     refine QSeq.pure rfl (.pointer (some ⟨wl2.heap.size,1,none⟩)) (fun E=>Ad rfl Tryz.underlying54 rfl (by kernel_rfl) (E.v oe7)) ?_
     refine QSeq.pure rfl _ (fun E=>Aj rfl Tryz.underlying52 rfl (E.d 0 0) (Cs.hd1 Hx14.out rfl)) ?_
     refine QSeq.call rfl rfl Tryz.func9 (Cut_R 260 (HSE2.out.mod Cx15.out (fun _ _ h=>h)) (by decide)) (fun E=>Az (E.d 1 0) rfl) ?_
     rintro e u11_2 ⟨v',rfl,qpc,hm⟩
     obtain ⟨aop2,capp2,rfl⟩:=qpc.shape
     refine ⟨_,rfl,?_⟩
     have Hx16:=hid qpc
     have zu11_2:=hm.size
     have Cx17:=hid (show Mod (fun _=>False) u10_6 u11_2 from hm)
     clear hm
     clear qpc
     refine QSeq.pure rfl (.pointer (some ⟨wl2.heap.size,1,none⟩)) (fun E=>Ad rfl Tryz.underlying54 rfl (by kernel_rfl) (E.v oe7)) ?_
     refine QSeq.go fun act E=>?_
     refine Aq rfl (Ac rfl) rfl (Hx14.out.mod Cx17.out (fun h=>h)) (off:=1) (vs:=[Value.slice aop2 (y2.pl.take 260).length capp2]) (by kernel_rfl) one1 (by rw [List.size_toArray,op_len _ _ HOK2.out.2.1];show 1+1≤34;decide) (E.d 3 0) (ec (E.d 2 1)) ?_
     intro u11_4 qc0 hm
     have qq2:=qc0.eqv (b:=(((cutOp y2).cells (Value.slice aop2 (y2.pl.take 260).length capp2)):List Value).toArray) (lay_pl y2 (cutOp y2) _ _ ⟨rfl,rfl⟩)
     clear qc0
     have Hx18:=hid qq2
     have zu11_4:=hm.size
     have HMu11_4:=hid hm
     have Cx19:=hid (Mod.goS (S':=(fun k=>(k=wl2.heap.size))) Cx17.out hm (fun _ h=>h.elim) (by intro k h0 h2;exact h2))
     clear hm Cx17
     clear act E qq2 Hx14
     have Hx20:=hid (Hx16.out.mod HMu11_4.out (by intro k h1 h2;omega))
     clear Hx16 HMu11_4
     refine QSeq.nil (t':=[_,_,_,_,_]) rfl ?_
     obtain rfl:=HA0.out
     clear HA0 oe7
     simp only [pz,Act.put,sIB,sCZ,sCS,List.set_nil]
     have HEL2:=hid (show OpR.rd (fun k=>(New u10_6 u11_2 k)) u11_4 ((cutOp y2).cells (Value.slice aop2 (y2.pl.take 260).length capp2)) (cutOp y2) from ⟨_,rfl,HOK2.out,RdR_len Hx20.out.rd⟩)
     go_upto_region 12 with (fail)
     refine Aa 86 [51,52,53,54,5] [0,1,2,3,4] (fun a0 HA0=>?_)
     have oe5:=ev HA0 5 rfl
     have oe7:=ev HA0 7 rfl
     refine QSeq.pure rfl _ (fun E=>Ai rfl (E.y 4 oe5)) ?_
     refine QSeq.pure rfl _ (fun E=>Am rfl Tryz.underlying54 rfl (off:=0) (cs:=((cutOp y2).cells (Value.slice aop2 (y2.pl.take 260).length capp2))) (by rw [op_len (cutOp y2) _ HOK2.out.2.1];kernel_rfl) (E.v oe7) (Cs.whole Hx18.out)) ?_
     refine QSeq.go fun act E=>?_
     refine qc_buildS (e:=54) (cs:=((cutOp y2).cells (Value.slice aop2 (y2.pl.take 260).length capp2))) (zc:=[.int .i64 0,.slice none 0 0,.int .u8 0,.int .u8 0,.int .u8 0,.int .u8 0,.int .u8 0,.int .u8 0,.int .u8 0,.int .u8 0,.int .u8 0,.int .u8 0,.int .u8 0,.int .u8 0,.int .u8 0,.int .u8 0,.int .u8 0,.int .u8 0,.int .u8 0,.int .u8 0,.int .u8 0,.int .u8 0,.int .u8 0,.int .u8 0,.int .u8 0,.int .u8 0,.int .u8 0,.int .u8 0,.int .u8 0,.int .u8 0,.int .u8 0,.int .u8 0,.int .u8 0,.int .u8 0]) (sz:=34) rfl (Ac rfl) rfl Tryz.underlying42 (by kernel_rfl) rfl (by decide) (by decide) (E.d 1 0) (OpR.len HEL2.out) ?_
     intro u12_2 qrow hm
     have zl12_2:=qrow.lt
     have Hx21:=hid qrow
     have zu12_2:=hm.size
     have Cx22:=hid (show Mod (fun _=>False) u11_4 u12_2 from hm)
     clear hm
     clear act E qrow
     refine QSeq.go fun act E=>?_
     refine qc_appS (A:=OpR) (e:=54) rfl (Ac rfl) rfl (.agg #[.int .i64 0,.slice none 0 0,.int .u8 0,.int .u8 0,.int .u8 0,.int .u8 0,.int .u8 0,.int .u8 0,.int .u8 0,.int .u8 0,.int .u8 0,.int .u8 0,.int .u8 0,.int .u8 0,.int .u8 0,.int .u8 0,.int .u8 0,.int .u8 0,.int .u8 0,.int .u8 0,.int .u8 0,.int .u8 0,.int .u8 0,.int .u8 0,.int .u8 0,.int .u8 0,.int .u8 0,.int .u8 0,.int .u8 0,.int .u8 0,.int .u8 0,.int .u8 0,.int .u8 0,.int .u8 0]) 64 Tryz.underlying42 info_Op (by rfl) (of_decide_eq_true (by kernel_rfl)) (E.d 0 2) (E.d 2 0) ((((HAL2.out.mod Cx15.out (fun _ _ h=>h) (fun _ _ h=>h)).mod Cx19.out (by intro k h1 h2;omega) (by intro k h1 h2;rcases h1 with h1|h1<;>first|omega|(have hb:=HBT.out k h1;omega))).mod Cx22.out (fun _ _ h=>h) (fun _ _ h=>h))) (RdS.single (R:=(fun k=>(New u10_6 u11_2 k)∨(k=u11_4.heap.size))) Hx21.out ((HEL2.out.mod Cx22.out (fun _ _ h=>h)).widen (by intro k h1;first|omega|exact h1.elim|exact Or.inl h1|exact Or.inr (h1))) (by first|exact Or.inr rfl|exact Or.inr (Or.inr rfl)|(right;omega))) (by intro k h1 h2;omega) (by rw [HLN2.out];simp only [List.length_cons,List.length_nil];omega) (by rw [HLN2.out,Ax];simp only [List.length_cons,List.length_nil];omega) ?_
     intro ao8 cap8 u12_3 qacc2 hm
     have Hx23:=hid (qacc2.widen (R':=(fun k=>(New wl1 wl2 k)∨(New u12_2 u12_3 k))) (E':=(fun k=>(R2 k)∨(New wl1 wl2 k)∨(New u10_6 u11_2 k)∨(k=u11_4.heap.size))) (fun _ h=>h) (by intro k h1;rcases h1 with (h1|h1)|(h1|h1)<;>first|omega|exact h1.elim|exact Or.inl h1|exact Or.inr (Or.inl h1)|exact Or.inr (Or.inr (Or.inl h1))|exact Or.inr (Or.inr (Or.inr (h1)))))
     have zu12_3:=hm.size
     have HMu12_3:=hid hm
     have Cx24:=hid (Mod.goS (S':=(fun k=>(New wl1 wl2 k))) Cx22.out hm (fun _ h=>h.elim) (by intro k h0 h2;exact h2))
     clear hm Cx22
     clear act E qacc2 HAL2
     refine QSeq.pure rfl _ (fun E=>Af rfl (E.d 3 0)) ?_
     have Hx25:=hid (Hx21.out.mod HMu12_3.out (by intro h2;omega))
     clear Hx21 HMu12_3
     refine QSeq.nil (t':=[_,_,_,_,_]) rfl ?_
     obtain rfl:=HA0.out
     clear HA0 oe5 oe7
     simp only [pz,Act.put,sIB,sCZ,sCS]
     have hq:=Hx23.out
     rw [HE2.out] at hq
     have HQ2:=Lib.hid hq
     clear hq
     go_wp2
     go_roundw
     case rel=>exact ⟨k2+1,by go_num,by omega,by omega,by omega,(HQ2.out.widen (by intro b h1;omega) (by intro k h1;rcases h1 with h1|h1|h1|h1<;>first|omega|exact h1.elim|exact Or.inl h1|exact Or.inr (h1))),(((HKL2_0.out.mod Cx15.out (fun _ _ h=>h)).mod Cx19.out (sB HBT)).mod Cx24.out (sN HBT)),(((HKL2_1.out.mod Cx15.out (fun _ _ h=>h)).mod Cx19.out (sB HBT)).mod Cx24.out (sN HBT)),(((HKL2_2.out.mod Cx15.out (fun _ _ h=>h)).mod Cx19.out (sB HBT)).mod Cx24.out (sN HBT)),(((HKL2_3.out.mod Cx15.out (fun h=>h)).mod Cx19.out (by intro h2;omega)).mod Cx24.out (by intro h2;omega)),(((HKL2_4.out.mod Cx15.out (fun h=>h)).mod Cx19.out (by intro h2;omega)).mod Cx24.out (by intro h2;omega)),(((HKL2_5.out.mod Cx15.out (fun _ _ h=>h) (fun _ _ h=>h)).mod Cx19.out (by intro k h1 h2;omega) (by intro k h1 h2;rcases h1 with h1|h1<;>first|omega|(have hb:=HBT.out k h1;omega))).mod Cx24.out (by intro k h1 h2;omega) (by intro k h1 h2;rcases h1 with h1|h1<;>first|omega|(have hb:=HBT.out k h1;omega))),(((HML2.out.trans Cx15.out (fun _ _ h=>h.elim)).trans Cx19.out (by intro k h1 h2;omega)).trans Cx24.out (by intro k h1 h2;omega))⟩
     case measure=>simp [intOf];omega
    ·skip
     obtain ⟨bA2,hbA2⟩:∃ b:Bool,b=decide (((k2:Nat):Int) < (x.os.length:Int)):=⟨_,rfl⟩
     obtain ⟨bB2,hbB2⟩:∃ b:Bool,b=decide (((k2:Nat):Int) < 4):=⟨_,rfl⟩
     go_upto_region 8 with (fail)
     refine Aa 86 [31,32,33,34,35,36,37,38,39] [0,1,2,3,4,5,6,7,8] (fun a0 HA0=>?_)
     have oe1:=ev HA0 1 rfl
     have oe6:=ev HA0 6 rfl
     refine QSeq.pure rfl _ (fun E=>Ai rfl (E.v oe6)) ?_
     refine QSeq.pure rfl (.pointer (some ⟨w.heap.size,3,none⟩)) (fun E=>Ad rfl Tryz.underlying45 rfl (by kernel_rfl) (E.v oe1)) ?_
     refine QSeq.pure rfl _ (fun E=>Aj rfl Tryz.underlying42 rfl (E.d 1 0) (Cs.lit1 HKL2_3.out rfl)) ?_
     refine QSeq.pure rfl (.int .i64 x.os.length) (fun E=>A0 rfl (E.d 2 0) Tryz.underlying42) ?_
     refine QSeq.pure rfl (.bool bA2) (fun E=>An rfl (E.d 0 3) (E.d 3 0) (Ag _ _ _ _ _ _) (A6 _ _ _ Tryz.underlying3) (congrArg Value.bool hbA2.symm)) ?_
     refine QSeq.pure rfl _ (fun E=>Ai rfl (E.d 4 0)) ?_
     refine QSeq.may (b:=bA2) rfl (.int .i64 ((k2:Nat):Int)) (fun E=>((Ae rfl rfl (E.sz 36 (by decide)) (E.d 5 0)).trans (Ar _))) (fun E hb=>Ai rfl (E.v oe6)) ?_
     intro v8_6 hw
     have hv8_6:=hid hw
     clear hw
     refine QSeq.may (b:=bA2) rfl (.bool bB2) (fun E=>((Ae rfl rfl (E.sz 36 (by decide)) (E.d 5 1)).trans (Ar _))) (fun E hb=>An rfl ((E.q 6 0 hv8_6.out).1 hb) rfl (Ag _ _ _ _ _ _) (A6 _ _ _ Tryz.underlying3) (congrArg Value.bool hbB2.symm)) ?_
     intro v8_7 hw
     have hv8_7:=hid hw
     clear hw
     refine QSeq.pure rfl (.bool (bA2 && bB2)) (fun E=>A2 rfl (E.d 5 2) rfl rfl (Bh fun hb=>(E.q 7 0 hv8_7.out).1 hb)) ?_
     clear hv8_6 hv8_7
     refine QSeq.nil (t':=[_,_,_,_,_,_,_,_,_]) rfl ?_
     obtain rfl:=HA0.out
     clear HA0 oe1 oe6
     simp only [pz,Act.put,sIB,sCZ,sCS]
     rw [show (bA2 && bB2)=false by rw [hbA2,hbB2,Bool.and_eq_false_iff,decide_eq_false_iff_not,decide_eq_false_iff_not];omega]
     have HTK2:=hid (show x.os.take k2=x.os.take 4 from take_two (by omega) (by omega))
     go_wp2
     go_loopw [8,9] (fun ta ti wr=>∃ k:Nat,ti=.int .i64 (k:Int)∧k≤x.ts.length∧k≤4∧wl2.heap.size≤wr.heap.size∧OwS TbR 127 (fun b=>wl2.heap.size≤b∧b < wr.heap.size) (fun b=>R2 b∨(wl2.heap.size≤b∧b < wr.heap.size)) wr ta ((x.ts.take k).map cutTb)∧RdS PmR R2 wr (.slice ao_ps x.ps.length cap_ps) x.ps∧RdS OpR R2 wr (.slice ao_os x.os.length cap_os) x.os∧RdS TbR R2 wr (.slice ao_ts x.ts.length cap_ts) x.ts∧Cs wr (w.heap.size) (x.cells (.slice ao_ps x.ps.length cap_ps) (.slice ao_os x.os.length cap_os) (.slice ao_ts x.ts.length cap_ts):List Value).toArray 45∧Cs wr (w.heap.size+1) #[.int .i64 0,.int .u64 0,.slice none 0 0,.slice none 0 0,.slice none 0 0] 45∧OwS PmR 40 (fun b=>w1.heap.size≤b∧b < wl1.heap.size) (fun b=>R2 b∨(w1.heap.size≤b∧b < wl1.heap.size)) wr (.slice aol1 ((x.ps.take k1).map cutPm).length capl1) ((x.ps.take k1).map cutPm)∧OwS OpR 54 (fun b=>wl1.heap.size≤b∧b < wl2.heap.size) (fun b=>R2 b∨(wl1.heap.size≤b∧b < wl2.heap.size)) wr (.slice aol2 ((x.os.take k2).map cutOp).length capl2) ((x.os.take k2).map cutOp)∧Mod (fun _=>False) w wr) (fun _ ti _=>x.ts.length - (intOf ti).toNat)
     case atStart=>exact ⟨0,rfl,Nat.zero_le _,Nat.zero_le _,Nat.le_refl _,OwS.nil _ _ _ _ _,HKL2_0.out,HKL2_1.out,HKL2_2.out,HKL2_3.out,HKL2_4.out,HKL2_5.out,HAL2.out,HML2.out⟩
     case round=>
      obtain ⟨k3,rfl,hk,hkN,hz,ha,hk_0,hk_1,hk_2,hk_3,hk_4,hk_5,hk_6,hm⟩:=hrel
      obtain ⟨wl3,rfl⟩:∃ x,x=wr:=⟨_,rfl⟩
      obtain ⟨aol3,capl3,rfl⟩:=ha.shape
      have HAL3:=Lib.hid ha
      have HKL3_0:=Lib.hid hk_0
      have HKL3_1:=Lib.hid hk_1
      have HKL3_2:=Lib.hid hk_2
      have HKL3_3:=Lib.hid hk_3
      have HKL3_4:=Lib.hid hk_4
      have HKL3_5:=Lib.hid hk_5
      have HKL3_6:=Lib.hid hk_6
      have HML3:=Lib.hid hm
      clear ha hm hk_0 hk_1 hk_2 hk_3 hk_4 hk_5 hk_6 HKL2_0 HKL2_1 HKL2_2 HKL2_3 HKL2_4 HKL2_5 HML2 HAL2
      by_cases hlt3:k3 < x.ts.length∧k3 < 4
      ·obtain ⟨hlt3,hlN3⟩:=hlt3
       go_upto_region 15 with (fail)
       refine Aa 86 [55,56,57,58,59,60,61,62,63] [0,1,2,3,4,5,6,7,8] (fun a0 HA0=>?_)
       have oe1:=ev HA0 1 rfl
       have oe9:=ev HA0 9 rfl
       refine QSeq.pure rfl _ (fun E=>Ai rfl (E.v oe9)) ?_
       refine QSeq.pure rfl (.pointer (some ⟨w.heap.size,4,none⟩)) (fun E=>Ad rfl Tryz.underlying45 rfl (by kernel_rfl) (E.v oe1)) ?_
       refine QSeq.pure rfl _ (fun E=>Aj rfl Tryz.underlying43 rfl (E.d 1 0) (Cs.lit1 HKL3_3.out rfl)) ?_
       refine QSeq.pure rfl (.int .i64 x.ts.length) (fun E=>A0 rfl (E.d 2 0) Tryz.underlying43) ?_
       refine QSeq.pure rfl (.bool true) (fun E=>An rfl (E.d 0 3) (E.d 3 0) (Ag _ _ _ _ _ _) (A6 _ _ _ Tryz.underlying3) (congrArg Value.bool (decide_eq_true (by omega)))) ?_
       refine QSeq.pure rfl _ (fun E=>Ai rfl (E.d 4 0)) ?_
       refine QSeq.pureG rfl (.int .i64 ((k3:Nat):Int)) (fun E=>((Ae rfl rfl (E.sz 60 (by decide)) (E.d 5 0)).trans rfl)) (fun E=>Ai rfl (E.v oe9)) ?_
       refine QSeq.pureG rfl (.bool true) (fun E=>((Ae rfl rfl (E.sz 60 (by decide)) (E.d 5 1)).trans rfl)) (fun E=>An rfl (E.d 6 0) rfl (Ag _ _ _ _ _ _) (A6 _ _ _ Tryz.underlying3) (congrArg Value.bool (decide_eq_true (by omega)))) ?_
       refine QSeq.pure rfl (.bool true) (fun E=>ex_pick rfl (E.d 5 2) (E.d 7 0) rfl) ?_
       refine QSeq.nil (t':=[_,_,_,_,_,_,_,_,_]) rfl ?_
       obtain rfl:=HA0.out
       clear HA0 oe1 oe9
       simp only [pz,Act.put,sIB,sCZ,sCS]
       have hat:=HKL3_2.out.at hlt3
       obtain ⟨g3,o3,cs3,eao,hrg,hrd,hcs⟩:=hat
       subst eao
       have hcl:cs3.length=2:=TbR.len hrd
       have HCL3:=Lib.hid hcl
       have HAT3:=hid (show CellsAt R2 wl3 g3 (o3+k3 * 2) cs3 from ⟨hrg,hcs⟩)
       have HRD3:=Lib.hid hrd
       have HOC3:=hid (TbR.one hrd)
       clear hcl hcs hrd hrg
       have HE3:Hid (((x.ts.take k3).map cutTb) ++ [cutTb x.ts[k3]]=(x.ts.take (k3+1)).map cutTb):=hid (by rw [List.take_succ_eq_append_getElem hlt3,List.map_append];rfl)
       have HLN3:Hid (((x.ts.take k3).map cutTb).length=k3):=hid (by rw [List.length_map,List.length_take];omega)
       obtain ⟨y3,hy3⟩:∃ y,y=x.ts[k3]:=⟨_,rfl⟩
       rw [← hy3] at HRD3 HE3
       clear hy3
       obtain ⟨v_e,rfl,hoke,hse⟩:=HRD3.out
       obtain ⟨aoe3,cape3,rfl⟩:=hse.shape
       have HOK3:=Lib.hid hoke
       have HSE3:=Lib.hid hse
       clear hoke hse HRD3
       go_upto_region 17 with (fail)
       refine Aa 86 [66,67,68,69,70,10,92] [0,1,2,3,4,5,6] (fun a0 HA0=>?_)
       have oe1:=ev HA0 1 rfl
       have oe9:=ev HA0 9 rfl
       refine QSeq.pure rfl (.pointer (some ⟨w.heap.size,4,none⟩)) (fun E=>Ad rfl Tryz.underlying45 rfl (by kernel_rfl) (E.v oe1)) ?_
       refine QSeq.pure rfl _ (fun E=>Aj rfl Tryz.underlying43 rfl (E.d 0 0) (Cs.lit1 HKL3_3.out rfl)) ?_
       refine QSeq.pure rfl _ (fun E=>Ai rfl (E.v oe9)) ?_
       refine QSeq.pure rfl (.pointer (some ⟨g3,o3+k3 * 2,none⟩)) (fun E=>Bk (i:=k3) (s:=2) rfl Tryz.underlying43 (by kernel_rfl) (E.d 1 1) (E.d 2 0) hlt3) ?_
       refine QSeq.pure rfl _ (fun E=>Am rfl Tryz.underlying127 rfl (off:=o3+k3 * 2) (cs:=(y3.cells (.slice aoe3 y3.l.length cape3))) (by rw [HCL3.out];kernel_rfl) (E.d 3 0) (fun j u hu=>(HAT3.out).2 j u hu)) ?_
       refine QSeq.go fun act E=>?_
       refine qc_alloc rfl (Ac rfl) rfl (z:=[.int .i64 0,.slice none 0 0]) (by kernel_rfl) ?_
       intro u17_5 qq3 hm
       have zl17_5:=qq3.lt
       have Hx26:=hid qq3
       have zu17_5:=hm.size
       have Cx27:=hid (show Mod (fun _=>False) wl3 u17_5 from hm)
       clear hm
       clear act E qq3
       refine QSeq.go fun act E=>?_
       have hlz:((y3.cells (.slice aoe3 y3.l.length cape3))).length=List.length ([.int .i64 0,.slice none 0 0]:List Value):=(by rw [HCL3.out];rfl)
       refine Aq rfl (Ac rfl) rfl Hx26.out (off:=0) (vs:=(y3.cells (.slice aoe3 y3.l.length cape3))) (by rw [hlz];kernel_rfl) HOC3.out (by rw [hlz];exact Nat.le_of_eq (Nat.zero_add _)) (E.d 5 0) (ec (E.d 4 1)) ?_
       intro u17_6 qc0 hm
       have qq3:=qc0.eqv (b:=((y3.cells (.slice aoe3 y3.l.length cape3)):List Value).toArray) (A5 #[.int .i64 0,.slice none 0 0] _ (by rw [hlz];rfl))
       clear qc0 hlz
       have Hx28:=hid qq3
       have zu17_6:=hm.size
       have HMu17_6:=hid hm
       have Cx29:=hid (Mod.goS (S':=(fun _=>False)) Cx27.out hm (fun _ h=>h) (by intro k h0 h2;omega))
       clear hm Cx27
       clear act E qq3 Hx26
       clear HMu17_6
       refine QSeq.nil (t':=[_,_,_,_,_,_,_]) rfl ?_
       obtain rfl:=HA0.out
       clear HA0 oe1 oe9
       simp only [pz,Act.put,sIB,sCZ,sCS,List.set_nil]
       go_upto_region 18 with (fail)
       refine Aa 86 [71,72,73,74,90] [0,1,2,3,4] (fun a0 HA0=>?_)
       have oe10:=ev HA0 10 rfl
       refine QSeq.pure rfl (.pointer (some ⟨wl3.heap.size,1,none⟩)) (fun E=>Ad rfl Tryz.underlying127 rfl (by kernel_rfl) (E.v oe10)) ?_
       refine QSeq.pure rfl _ (fun E=>Aj rfl Tryz.underlying125 rfl (E.d 0 0) (Cs.lit1 Hx28.out rfl)) ?_
       refine QSeq.call rfl rfl Tryz.func74 (Cut_Dn _ _ y3.l 5 _ (HSE3.out.mod Cx29.out (fun _ _ h=>h)) (by intro k h1;have hb:=HBT.out k h1;omega) (by omega)) (fun E=>Az (E.d 1 0) rfl) ?_
       rintro e u18_2 ⟨v',rfl,qpc,hm⟩
       obtain ⟨aop3,capp3,rfl⟩:=qpc.shape
       refine ⟨_,rfl,?_⟩
       have Hx30:=hid (qpc.widen (R':=(fun k=>(New u17_6 u18_2 k))) (E':=(fun k=>(R2 k))) (fun _ h=>h) (fun _ h=>h))
       have zu18_2:=hm.size
       have Cx31:=hid (show Mod (fun _=>False) u17_6 u18_2 from hm)
       clear hm
       clear qpc
       refine QSeq.pure rfl (.pointer (some ⟨wl3.heap.size,1,none⟩)) (fun E=>Ad rfl Tryz.underlying127 rfl (by kernel_rfl) (E.v oe10)) ?_
       refine QSeq.go fun act E=>?_
       refine Aq rfl (Ac rfl) rfl (Hx28.out.mod Cx31.out (fun h=>h)) (off:=1) (vs:=[Value.slice aop3 (y3.l.take 5).length capp3]) (by kernel_rfl) one1 (by show 1+1≤2;decide) (E.d 3 0) (ec (E.d 2 1)) ?_
       intro u18_4 qc0 hm
       have qq3:=qc0.eqv (b:=(((cutTb y3).cells (Value.slice aop3 (y3.l.take 5).length capp3)):List Value).toArray) (lay_tl y3 (cutTb y3) _ _ rfl)
       clear qc0
       have Hx32:=hid qq3
       have zu18_4:=hm.size
       have HMu18_4:=hid hm
       have Cx33:=hid (Mod.goS (S':=(fun k=>(k=wl3.heap.size))) Cx31.out hm (fun _ h=>h.elim) (by intro k h0 h2;exact h2))
       clear hm Cx31
       clear act E qq3 Hx28
       have Hx34:=hid (Hx30.out.mod HMu18_4.out (by intro k h1 h2;omega) (sB HBT))
       clear Hx30 HMu18_4
       refine QSeq.nil (t':=[_,_,_,_,_]) rfl ?_
       obtain rfl:=HA0.out
       clear HA0 oe10
       simp only [pz,Act.put,sIB,sCZ,sCS,List.set_nil]
       have HEL3:=hid (show TbR.rd (fun k=>(New u17_6 u18_2 k)∨(R2 k)) u18_4 ((cutTb y3).cells (Value.slice aop3 (y3.l.take 5).length capp3)) (cutTb y3) from ⟨_,rfl,HOK3.out,Hx34.out.rd.widen (by intro k h1;rcases h1 with h1|h1<;>first|omega|exact h1.elim|exact Or.inl h1|exact Or.inr (h1))⟩)
       go_upto_region 19 with (fail)
       refine Aa 86 [75,76,77,78,8] [0,1,2,3,4] (fun a0 HA0=>?_)
       have oe8:=ev HA0 8 rfl
       have oe10:=ev HA0 10 rfl
       refine QSeq.pure rfl _ (fun E=>Ai rfl (E.y 4 oe8)) ?_
       refine QSeq.pure rfl _ (fun E=>Am rfl Tryz.underlying127 rfl (off:=0) (cs:=((cutTb y3).cells (Value.slice aop3 (y3.l.take 5).length capp3))) (by kernel_rfl) (E.v oe10) (Cs.whole Hx32.out)) ?_
       refine QSeq.go fun act E=>?_
       refine qc_buildS (e:=127) (cs:=((cutTb y3).cells (Value.slice aop3 (y3.l.take 5).length capp3))) (zc:=[.int .i64 0,.slice none 0 0]) (sz:=2) rfl (Ac rfl) rfl Tryz.underlying43 (by kernel_rfl) rfl (by decide) (by decide) (E.d 1 0) (TbR.len HEL3.out) ?_
       intro u19_2 qrow hm
       have zl19_2:=qrow.lt
       have Hx35:=hid qrow
       have zu19_2:=hm.size
       have Cx36:=hid (show Mod (fun _=>False) u18_4 u19_2 from hm)
       clear hm
       clear act E qrow
       refine QSeq.go fun act E=>?_
       refine qc_appS (A:=TbR) (e:=127) rfl (Ac rfl) rfl (.agg #[.int .i64 0,.slice none 0 0]) 32 Tryz.underlying43 info_Tb (by rfl) (of_decide_eq_true (by kernel_rfl)) (E.d 0 2) (E.d 2 0) ((((HAL3.out.mod Cx29.out (fun _ _ h=>h) (fun _ _ h=>h)).mod Cx33.out (by intro k h1 h2;omega) (by intro k h1 h2;rcases h1 with h1|h1<;>first|omega|(have hb:=HBT.out k h1;omega))).mod Cx36.out (fun _ _ h=>h) (fun _ _ h=>h))) (RdS.single (R:=(fun k=>(New u17_6 u18_2 k)∨(R2 k)∨(k=u18_4.heap.size))) Hx35.out ((HEL3.out.mod Cx36.out (fun _ _ h=>h)).widen (by intro k h1;rcases h1 with h1|h1<;>first|omega|exact h1.elim|exact Or.inl h1|exact Or.inr (Or.inl h1)|exact Or.inr (Or.inr (h1)))) (by first|exact Or.inr rfl|exact Or.inr (Or.inr rfl)|(right;omega))) (by intro k h1 h2;rcases h1 with h1|h1|h1<;>first|omega|(have hb:=HBT.out k h1;omega)) (by rw [HLN3.out];simp only [List.length_cons,List.length_nil];omega) (by rw [HLN3.out,Ax];simp only [List.length_cons,List.length_nil];omega) ?_
       intro ao9 cap9 u19_3 qacc3 hm
       have Hx37:=hid (qacc3.widen (R':=(fun k=>(New wl2 wl3 k)∨(New u19_2 u19_3 k))) (E':=(fun k=>(R2 k)∨(New wl2 wl3 k)∨(New u17_6 u18_2 k)∨(k=u18_4.heap.size))) (fun _ h=>h) (by intro k h1;rcases h1 with (h1|h1)|(h1|h1|h1)<;>first|omega|exact h1.elim|exact Or.inl h1|exact Or.inr (Or.inl h1)|exact Or.inr (Or.inr (Or.inl h1))|exact Or.inr (Or.inr (Or.inr (h1)))))
       have zu19_3:=hm.size
       have HMu19_3:=hid hm
       have Cx38:=hid (Mod.goS (S':=(fun k=>(New wl2 wl3 k))) Cx36.out hm (fun _ h=>h.elim) (by intro k h0 h2;exact h2))
       clear hm Cx36
       clear act E qacc3 HAL3
       refine QSeq.pure rfl _ (fun E=>Af rfl (E.d 3 0)) ?_
       have Hx39:=hid (Hx35.out.mod HMu19_3.out (by intro h2;omega))
       clear Hx35 HMu19_3
       refine QSeq.nil (t':=[_,_,_,_,_]) rfl ?_
       obtain rfl:=HA0.out
       clear HA0 oe8 oe10
       simp only [pz,Act.put,sIB,sCZ,sCS]
       have hq:=Hx37.out
       rw [HE3.out] at hq
       have HQ3:=Lib.hid hq
       clear hq
       go_wp2
       go_roundw
       case rel=>exact ⟨k3+1,by go_num,by omega,by omega,by omega,(HQ3.out.widen (by intro b h1;omega) (by intro k h1;rcases h1 with h1|h1|h1|h1<;>first|omega|exact h1.elim|exact Or.inl h1|exact Or.inr (h1))),(((HKL3_0.out.mod Cx29.out (fun _ _ h=>h)).mod Cx33.out (sB HBT)).mod Cx38.out (sN HBT)),(((HKL3_1.out.mod Cx29.out (fun _ _ h=>h)).mod Cx33.out (sB HBT)).mod Cx38.out (sN HBT)),(((HKL3_2.out.mod Cx29.out (fun _ _ h=>h)).mod Cx33.out (sB HBT)).mod Cx38.out (sN HBT)),(((HKL3_3.out.mod Cx29.out (fun h=>h)).mod Cx33.out (by intro h2;omega)).mod Cx38.out (by intro h2;omega)),(((HKL3_4.out.mod Cx29.out (fun h=>h)).mod Cx33.out (by intro h2;omega)).mod Cx38.out (by intro h2;omega)),(((HKL3_5.out.mod Cx29.out (fun _ _ h=>h) (fun _ _ h=>h)).mod Cx33.out (by intro k h1 h2;omega) (by intro k h1 h2;rcases h1 with h1|h1<;>first|omega|(have hb:=HBT.out k h1;omega))).mod Cx38.out (by intro k h1 h2;omega) (by intro k h1 h2;rcases h1 with h1|h1<;>first|omega|(have hb:=HBT.out k h1;omega))),(((HKL3_6.out.mod Cx29.out (fun _ _ h=>h) (fun _ _ h=>h)).mod Cx33.out (by intro k h1 h2;omega) (by intro k h1 h2;rcases h1 with h1|h1<;>first|omega|(have hb:=HBT.out k h1;omega))).mod Cx38.out (by intro k h1 h2;omega) (by intro k h1 h2;rcases h1 with h1|h1<;>first|omega|(have hb:=HBT.out k h1;omega))),(((HML3.out.trans Cx29.out (fun _ _ h=>h.elim)).trans Cx33.out (by intro k h1 h2;omega)).trans Cx38.out (by intro k h1 h2;omega))⟩
       case measure=>simp [intOf];omega
      ·skip
       obtain ⟨bA3,hbA3⟩:∃ b:Bool,b=decide (((k3:Nat):Int) < (x.ts.length:Int)):=⟨_,rfl⟩
       obtain ⟨bB3,hbB3⟩:∃ b:Bool,b=decide (((k3:Nat):Int) < 4):=⟨_,rfl⟩
       go_upto_region 15 with (fail)
       refine Aa 86 [55,56,57,58,59,60,61,62,63] [0,1,2,3,4,5,6,7,8] (fun a0 HA0=>?_)
       have oe1:=ev HA0 1 rfl
       have oe9:=ev HA0 9 rfl
       refine QSeq.pure rfl _ (fun E=>Ai rfl (E.v oe9)) ?_
       refine QSeq.pure rfl (.pointer (some ⟨w.heap.size,4,none⟩)) (fun E=>Ad rfl Tryz.underlying45 rfl (by kernel_rfl) (E.v oe1)) ?_
       refine QSeq.pure rfl _ (fun E=>Aj rfl Tryz.underlying43 rfl (E.d 1 0) (Cs.lit1 HKL3_3.out rfl)) ?_
       refine QSeq.pure rfl (.int .i64 x.ts.length) (fun E=>A0 rfl (E.d 2 0) Tryz.underlying43) ?_
       refine QSeq.pure rfl (.bool bA3) (fun E=>An rfl (E.d 0 3) (E.d 3 0) (Ag _ _ _ _ _ _) (A6 _ _ _ Tryz.underlying3) (congrArg Value.bool hbA3.symm)) ?_
       refine QSeq.pure rfl _ (fun E=>Ai rfl (E.d 4 0)) ?_
       refine QSeq.may (b:=bA3) rfl (.int .i64 ((k3:Nat):Int)) (fun E=>((Ae rfl rfl (E.sz 60 (by decide)) (E.d 5 0)).trans (Ar _))) (fun E hb=>Ai rfl (E.v oe9)) ?_
       intro v15_6 hw
       have hv15_6:=hid hw
       clear hw
       refine QSeq.may (b:=bA3) rfl (.bool bB3) (fun E=>((Ae rfl rfl (E.sz 60 (by decide)) (E.d 5 1)).trans (Ar _))) (fun E hb=>An rfl ((E.q 6 0 hv15_6.out).1 hb) rfl (Ag _ _ _ _ _ _) (A6 _ _ _ Tryz.underlying3) (congrArg Value.bool hbB3.symm)) ?_
       intro v15_7 hw
       have hv15_7:=hid hw
       clear hw
       refine QSeq.pure rfl (.bool (bA3 && bB3)) (fun E=>A2 rfl (E.d 5 2) rfl rfl (Bh fun hb=>(E.q 7 0 hv15_7.out).1 hb)) ?_
       clear hv15_6 hv15_7
       refine QSeq.nil (t':=[_,_,_,_,_,_,_,_,_]) rfl ?_
       obtain rfl:=HA0.out
       clear HA0 oe1 oe9
       simp only [pz,Act.put,sIB,sCZ,sCS]
       rw [show (bA3 && bB3)=false by rw [hbA3,hbB3,Bool.and_eq_false_iff,decide_eq_false_iff_not,decide_eq_false_iff_not];omega]
       have HTK3:=hid (show x.ts.take k3=x.ts.take 4 from take_two (by omega) (by omega))
       go_upto_region 20 with (fail)
       refine Aa 86 [79,80,81,82,90,83,92,84,94] [0,1,2,3,4,5,6,7,8] (fun a0 HA0=>?_)
       have oe1:=ev HA0 1 rfl
       have oe3:=ev HA0 3 rfl
       have oe5:=ev HA0 5 rfl
       have oe8:=ev HA0 8 rfl
       refine QSeq.pure rfl _ (fun E=>Ai rfl (E.v oe3)) ?_
       refine QSeq.pure rfl _ (fun E=>Ai rfl (E.v oe5)) ?_
       refine QSeq.pure rfl _ (fun E=>Ai rfl (E.v oe8)) ?_
       refine QSeq.pure rfl (.pointer (some ⟨w.heap.size,2,none⟩)) (fun E=>Ad rfl Tryz.underlying45 rfl (by kernel_rfl) (E.v oe1)) ?_
       refine QSeq.go fun act E=>?_
       refine Aq rfl (Ac rfl) rfl HKL3_3.out (off:=2) (vs:=[Value.slice aol1 ((x.ps.take k1).map cutPm).length capl1]) (by kernel_rfl) one1 (by simp) (E.d 3 0) (ec (E.d 0 3)) ?_
       intro u20_4 qc0 hm
       have qB1:=qc0.eqv (b:=#[.int .i64 x.ep,.int .u64 (x.tm:Nat),Value.slice aol1 ((x.ps.take k1).map cutPm).length capl1,Value.slice ao_os x.os.length cap_os,Value.slice ao_ts x.ts.length cap_ts]) rfl
       clear qc0
       have Hx40:=hid qB1
       have zu20_4:=hm.size
       have Cx41:=hid (show Mod (fun k=>(k=w.heap.size)) wl3 u20_4 from hm)
       clear hm
       clear act E qB1 HKL3_3
       refine QSeq.pure rfl (.pointer (some ⟨w.heap.size,3,none⟩)) (fun E=>Ad rfl Tryz.underlying45 rfl (by kernel_rfl) (E.v oe1)) ?_
       refine QSeq.go fun act E=>?_
       refine Aq rfl (Ac rfl) rfl Hx40.out (off:=3) (vs:=[Value.slice aol2 ((x.os.take k2).map cutOp).length capl2]) (by kernel_rfl) one1 (by simp) (E.d 5 0) (ec (E.d 1 4)) ?_
       intro u20_6 qc0 hm
       have qB1:=qc0.eqv (b:=#[.int .i64 x.ep,.int .u64 (x.tm:Nat),Value.slice aol1 ((x.ps.take k1).map cutPm).length capl1,Value.slice aol2 ((x.os.take k2).map cutOp).length capl2,Value.slice ao_ts x.ts.length cap_ts]) rfl
       clear qc0
       have Hx42:=hid qB1
       have zu20_6:=hm.size
       have HMu20_6:=hid hm
       have Cx43:=hid (Mod.goS (S':=(fun k=>(k=w.heap.size))) Cx41.out hm (fun _ h=>h) (by intro k h0 h2;exact h2))
       clear hm Cx41
       clear act E qB1 Hx40
       refine QSeq.pure rfl (.pointer (some ⟨w.heap.size,4,none⟩)) (fun E=>Ad rfl Tryz.underlying45 rfl (by kernel_rfl) (E.v oe1)) ?_
       refine QSeq.go fun act E=>?_
       refine Aq rfl (Ac rfl) rfl Hx42.out (off:=4) (vs:=[Value.slice aol3 ((x.ts.take k3).map cutTb).length capl3]) (by kernel_rfl) one1 (by simp) (E.d 7 0) (ec (E.d 2 5)) ?_
       intro u20_8 qc0 hm
       have qB1:=qc0.eqv (b:=#[.int .i64 x.ep,.int .u64 (x.tm:Nat),Value.slice aol1 ((x.ps.take k1).map cutPm).length capl1,Value.slice aol2 ((x.os.take k2).map cutOp).length capl2,Value.slice aol3 ((x.ts.take k3).map cutTb).length capl3]) rfl
       clear qc0
       have Hx44:=hid qB1
       have zu20_8:=hm.size
       have HMu20_8:=hid hm
       have Cx45:=hid (Mod.goS (S':=(fun k=>(k=w.heap.size))) Cx43.out hm (fun _ h=>h) (by intro k h0 h2;exact h2))
       clear hm Cx43
       clear act E qB1 Hx42
       clear HMu20_6 HMu20_8
       refine QSeq.nil (t':=[_,_,_,_,_,_,_,_,_]) rfl ?_
       obtain rfl:=HA0.out
       clear HA0 oe1 oe3 oe5 oe8
       simp only [pz,Act.put,sIB,sCZ,sCS,List.set_nil]
       go_upto_region 21 with (fail)
       refine Aa 86 [85,87] [0,1] (fun a0 HA0=>?_)
       have oe1:=ev HA0 1 rfl
       have oe2:=ev HA0 2 rfl
       refine QSeq.pure rfl _ (fun E=>Am rfl Tryz.underlying45 rfl (off:=0) (cs:=[.int .i64 x.ep,.int .u64 (x.tm:Nat),Value.slice aol1 ((x.ps.take k1).map cutPm).length capl1,Value.slice aol2 ((x.os.take k2).map cutOp).length capl2,Value.slice aol3 ((x.ts.take k3).map cutTb).length capl3]) (by kernel_rfl) (E.v oe1) (Cs.whole Hx44.out)) ?_
       refine QSeq.go fun act E=>?_
       refine Aq rfl (Ac rfl) rfl (HKL3_4.out.mod Cx45.out (by intro h2;omega)) (off:=0) (vs:=[.int .i64 x.ep,.int .u64 (x.tm:Nat),Value.slice aol1 ((x.ps.take k1).map cutPm).length capl1,Value.slice aol2 ((x.os.take k2).map cutOp).length capl2,Value.slice aol3 ((x.ts.take k3).map cutTb).length capl3]) (by kernel_rfl) (by intro u hu;simp at hu;rcases hu with rfl|rfl|rfl|rfl|rfl<;>rfl) (by simp) (E.v oe2) (ec (E.d 0 0)) ?_
       intro u21_1 qc0 hm
       have qB2:=qc0.eqv (b:=#[.int .i64 x.ep,.int .u64 (x.tm:Nat),Value.slice aol1 ((x.ps.take k1).map cutPm).length capl1,Value.slice aol2 ((x.os.take k2).map cutOp).length capl2,Value.slice aol3 ((x.ts.take k3).map cutTb).length capl3]) rfl
       clear qc0
       have Hx46:=hid qB2
       have zu21_1:=hm.size
       have Cx47:=hid (show Mod (fun k=>(k=w.heap.size+1)) u20_8 u21_1 from hm)
       clear hm
       clear act E qB2 HKL3_4
       refine QSeq.nil (t':=[_,_]) rfl ?_
       obtain rfl:=HA0.out
       clear HA0 oe1 oe2
       simp only [pz,Act.put,sIB,sCZ,sCS,List.set_nil]
       go_wp2
       refine bodyPost_ret (A7 rfl _ _ (w.heap.size+1) ([.int .i64 x.ep,.int .u64 (x.tm:Nat),Value.slice aol1 ((x.ps.take k1).map cutPm).length capl1,Value.slice aol2 ((x.os.take k2).map cutOp).length capl2,Value.slice aol3 ((x.ts.take k3).map cutTb).length capl3]) rfl (fun k u hu=>by rw [Hx46.out.cell];simpa using hu) Tryz.underlying45 rfl (by kernel_rfl)) rfl ⟨_,rfl,⟨_,_,_,rfl,HOK.out,?_,?_,?_⟩,((HML3.out.trans Cx45.out (by intro k h1 h2;omega)).trans Cx47.out (by intro k h1 h2;omega))⟩
       ·rw [show (cutBa x).ps=(x.ps.take k1).map cutPm from congrArg (List.map cutPm) HTK1.out.symm]
        refine (((HKL3_5.out.mod Cx45.out (by intro k h1 h2;omega) (by intro k h1 h2;rcases h1 with h1|h1<;>first|omega|(have hb:=HBT.out k h1;omega))).mod Cx47.out (by intro k h1 h2;omega) (by intro k h1 h2;rcases h1 with h1|h1<;>first|omega|(have hb:=HBT.out k h1;omega))).rd).widen ?_
        intro k h
        (try dsimp only at h ⊢)
        rcases h with h|h|h
        ·right;omega
        ·exact Or.inl h
        ·right;omega
       ·rw [show (cutBa x).os=(x.os.take k2).map cutOp from congrArg (List.map cutOp) HTK2.out.symm]
        refine (((HKL3_6.out.mod Cx45.out (by intro k h1 h2;omega) (by intro k h1 h2;rcases h1 with h1|h1<;>first|omega|(have hb:=HBT.out k h1;omega))).mod Cx47.out (by intro k h1 h2;omega) (by intro k h1 h2;rcases h1 with h1|h1<;>first|omega|(have hb:=HBT.out k h1;omega))).rd).widen ?_
        intro k h
        (try dsimp only at h ⊢)
        rcases h with h|h|h
        ·right;omega
        ·exact Or.inl h
        ·right;omega
       ·rw [show (cutBa x).ts=(x.ts.take k3).map cutTb from congrArg (List.map cutTb) HTK3.out.symm]
        refine (((HAL3.out.mod Cx45.out (by intro k h1 h2;omega) (by intro k h1 h2;rcases h1 with h1|h1<;>first|omega|(have hb:=HBT.out k h1;omega))).mod Cx47.out (by intro k h1 h2;omega) (by intro k h1 h2;rcases h1 with h1|h1<;>first|omega|(have hb:=HBT.out k h1;omega))).rd).widen ?_
        intro k h
        (try dsimp only at h ⊢)
        rcases h with h|h|h
        ·right;omega
        ·exact Or.inl h
        ·right;omega
end Go.Proofs.YtnaoeginonpicaaGreat
