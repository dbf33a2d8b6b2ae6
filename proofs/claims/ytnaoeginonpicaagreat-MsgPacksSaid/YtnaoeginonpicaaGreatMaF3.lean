/- Texts that are built one behind the other: XPt1, XPt2, XWt1, XRf1, XRf2. No condition. -/
import Derived.Test.YtnaoeginonpicaaGreatMaF2
set_option maxRecDepth 100000
set_option linter.unusedVariables false
open List renaming setIfInBounds_toArray → sIB, set_cons_zero → sCZ, set_cons_succ → sCS
/- Small parts of messages, put as bytes. -/
namespace Go.Proofs.YtnaoeginonpicaaGreat
open Go Go.RowKit Go.Gv
/-- a signature's bytes, a name's, those of a list of things, and so on -/
def sigB (a b:Int):List Int:=encI a ++ encI b
def nameB (a b:Int):List Int:=encI a ++ encI b
def listB {α:Type} (f:α→List Int) (l:List α):List Int:=encI l.length ++ (l.map f).flatten
def cmB (x:Cm):List Int:=nameB x.cl x.sq ++ (x.h ++ (encI x.ln ++ sigB x.sb x.mr))
def stB (x:St):List Int:=encI x.rp ++ (nameB x.cl x.sq ++ (x.h ++ (encN x.tm ++ sigB x.sb x.mr)))
def ceB (x:Ce):List Int:=cmB x.c ++ listB stB x.l
def pmB (x:Pm):List Int:=encI x.rp ++ (encI x.ep ++ (encN x.fl ++ (listB ceB x.l ++ sigB x.sb x.mr)))
def opB (x:Op):List Int:=encI x.ix ++ ((encN x.pl.length ++ x.pl) ++ x.nc)
def dnB (x:Dn):List Int:=encI x.rp ++ (encI x.ix ++ sigB x.sb x.mr)
def tbB (x:Tb):List Int:=encI x.ix ++ listB dnB x.l
def baB (x:Ba):List Int:=encI x.ep ++ (encN x.tm ++ (listB pmB x.ps ++ (listB opB x.os ++ listB tbB x.ts)))
def vtB (x:Vt):List Int:=encI x.kd ++ (encI x.ep ++ (encI x.rd ++ (encI x.rp ++ (x.h ++ sigB x.sb x.mr))))
def enB (x:En):List Int:=nameB x.cl x.sq ++ (x.h ++ encN x.tm)
theorem Bo {R:Nat→Prop} {g:Nat} {n:Int} {bs:List Int} {w:World} (hW:WrR R 900000 w g bs) (hn:I64 n) (hl:(bs ++ encI n).length≤900000) :
 Calls Tryz.prog 67 #[.pointer (some ⟨g,0,none⟩),.int .i64 n] w fun e w'=>e=.returned (.pointer (some ⟨g,0,none⟩))∧WrR (fun k=>R k∨New w w' k) 900000 w' g (bs ++ encI n)∧Mod R w w':=by
 obtain ⟨v,h1,h2,h3,h4⟩:=hW
 exact (WInt_any g n v bs w h1 hn (by unfold Room;omega)).mono fun _ _ ⟨he,h⟩=>⟨he,WrTo_R _ h2 h3 h hl⟩
theorem WNum_Q {R:Nat→Prop} {g:Nat} {n:Nat} {bs:List Int} {w:World} (hW:WrR R 900000 w g bs) (hn:n < U64) (hl:(bs ++ encN n).length≤900000) :
 Calls Tryz.prog 96 #[.pointer (some ⟨g,0,none⟩),.int .u64 n] w fun e w'=>e=.returned (.pointer (some ⟨g,0,none⟩))∧WrR (fun k=>R k∨New w w' k) 900000 w' g (bs ++ encN n)∧Mod R w w':=by
 obtain ⟨v,h1,h2,h3,h4⟩:=hW
 exact (Num_any g n v bs w h1 hn (by unfold Room;omega)).mono fun _ _ ⟨he,h⟩=>⟨he,WrTo_R _ h2 h3 h hl⟩
theorem WHash_Q {R:Nat→Prop} {g:Nat} {h bs:List Int} {w:World} (hW:WrR R 900000 w g bs) (hh:HK h) (hl:(bs ++ h).length≤900000) :
 Calls Tryz.prog 130 #[.pointer (some ⟨g,0,none⟩),hv h] w fun e w'=>e=.returned (.pointer (some ⟨g,0,none⟩))∧WrR (fun k=>R k∨New w w' k) 900000 w' g (bs ++ h)∧Mod R w w':=by
 obtain ⟨v,h1,h2,h3,h4⟩:=hW
 exact (WHash_any g v bs h w h1 hh.1 hh.2 (by unfold Room;omega)).mono fun _ _ ⟨he,h⟩=>⟨he,WrTo_R _ h2 h3 h hl⟩
theorem WRow_Q {R R':Nat→Prop} {M g:Nat} {bs:List Int} {v2:Value} {cs:List Int} {w:World} (hW:WrR R 900000 w g bs) (hr:RdR R' M w v2 cs) (hs:∀ k,R' k→R k→False) (hl:(bs ++ (encN cs.length ++ cs)).length≤900000) :
 Calls Tryz.prog 107 #[.pointer (some ⟨g,0,none⟩),v2] w fun e w'=>e=.returned (.pointer (some ⟨g,0,none⟩))∧WrR (fun k=>R k∨New w w' k) 900000 w' g (bs ++ (encN cs.length ++ cs))∧Mod R w w':=by
 obtain ⟨v,h1,h2,h3,h4⟩:=hW
 obtain ⟨ao,cap,rfl⟩:=hr.shape
 have hlc:cs.length≤900000:=by simp only [List.length_append] at hl;omega
 refine (WRow_any g v bs ao cap cs w h1 hr.1 ?_ (by unfold Room;omega)).mono fun _ _ ⟨he,h⟩=>⟨he,WrTo_R _ h2 h3 h hl⟩
 intro h0 k hg hk
 rcases hk with rfl|hk
 ·exact hs _ (hr.2.1 h0 _ hg) h2
 ·exact hs _ (hr.2.1 h0 _ hg) (h3 k hk.symm)
/-- a function that puts things of a kind -/
def Puts {α:Type} (A:Rep α) (F:FuncId) (f:α→List Int):Prop:=∀ (R R2:Nat→Prop) (g:Nat) (bs:List Int) (cs:List Value) (x:α) (w:World),WrR R 900000 w g bs→(∀ k,R k→k < w.heap.size)→A.rd R2 w cs x→(∀ k,R2 k→k < w.heap.size)→(∀ k,R k→R2 k→False)→(bs ++ f x).length≤900000→
 Calls Tryz.prog F #[.pointer (some ⟨g,0,none⟩),.agg cs.toArray] w fun e w'=>e=.returned (.tuple #[])∧WrR (fun k=>R k∨New w w' k) 900000 w' g (bs ++ f x)∧Mod R w w'
/-- one that puts lists of them -/
def PutsL {α:Type} (A:Rep α) (F Fe:FuncId) (f:α→List Int):Prop:=∀ (R R2:Nat→Prop) (g:Nat) (bs:List Int) (v:Value) (l:List α) (w:World),WrR R 900000 w g bs→(∀ k,R k→k < w.heap.size)→RdS A R2 w v l→(∀ k,R2 k→k < w.heap.size)→(∀ k,R k→R2 k→False)→(bs ++ listB f l).length≤900000→
 Calls Tryz.prog F #[.pointer (some ⟨g,0,none⟩),v,.func (.func Fe) #[] #[]] w fun e w'=>e=.returned (.tuple #[])∧WrR (fun k=>R k∨New w w' k) 900000 w' g (bs ++ listB f l)∧Mod R w w'
theorem put_len {α:Type} (f:α→List Int) (bs:List Int) (n:List Int) (l:List α) (k:Nat):(bs ++ (n ++ ((l.take k).map f).flatten)).length≤(bs ++ (n ++ (l.map f).flatten)).length:=by
 have h:(l.map f).flatten=((l.take k).map f).flatten ++ ((l.drop k).map f).flatten:=by rw [← List.flatten_append,← List.map_append,List.take_append_drop]
 rw [h]
 simp only [List.length_append]
 omega
theorem fm5' {P:Prop} (h:P:=by
 have HW:=Lib.hid hW
 have HBR:=Lib.hid hB
 have HL:=hid (show (bs ++ (encI a ++ encI b)).length≤900000 from hl)
 have HA:=Lib.hid ha
 have HB:=Lib.hid hb
 clear hW hB hl ha hb
 change Calls _ _ #[.pointer (some ⟨g,0,none⟩),.agg #[.int .i64 a,.int .i64 b]] _ _
 go_enter va',vb'
 go_upto_region 1 with (fail)
 obtain ⟨w1,hw1⟩:∃ zz,zz=(w.alloc (.cells #[.int .i64 a,.int .i64 b] vc')):=⟨_,rfl⟩
 change Code.wp _ _ _ _ (w.alloc (.cells #[.int .i64 a,.int .i64 b] vc'))
 rw [← hw1]
 have HB3:=hid (show Cs w1 (w.heap.size) #[.int .i64 a,.int .i64 b] vc' by rw [hw1];exact Cs.new _ _ _)
 have hm:Mod (fun _=>False) w w1:=by rw [hw1];exact (Mod.refl _ _).alloc _
 have HM0:=hid (show Mod (fun k=>(R k)) w w1 from hm.mono (fun _ _ h=>h.elim))
 have hs1:w1.heap.size=w.heap.size+1:=by rw [hw1];simp
 have Hx1:=hid (HW.out.mod hm (fun _ _ h=>h))
 clear HW
 clear hw1 hm
 go_upto_region 1 with (fail)
 generalize ha0:Act.mk _ _=a0
 have oe0:a0.eval (.tmp 0)=.pointer (some ⟨g,0,none⟩):=by rw [← ha0];rfl
 have oe3:a0.eval (.tmp 3)=.pointer (some ⟨w.heap.size,0,none⟩):=by rw [← ha0];rfl
 have hsz0:a0.tmps.size=11:=by rw [← ha0];rfl
 have HA0:=hid ha0
 clear ha0
 refine A3 11 hsz0 [4,5,6,7,8,9,10] (fun k=>(R k)) (fun k j=>(k=0∧((R j)))∨(k=1∧((R j)))) (by intro k j h;(try dsimp only at h ⊢);rcases h with ⟨-,h⟩|⟨-,h⟩;(exact h);(exact h)) [qi (.pointer (some ⟨g,0,none⟩)),qi (.pointer (some ⟨w.heap.size,0,none⟩)),qi (.int .i64 a),qi (.pointer (some ⟨g,0,none⟩)),qi (.pointer (some ⟨w.heap.size,1,none⟩)),qi (.int .i64 b),qi (.pointer (some ⟨g,0,none⟩))] ⟨Ab,Ab,Ab,Ab,Ab,Ab,Ab,trivial⟩ [3,6] ⟨?_,?_,?_,?_,?_,?_,?_,trivial⟩ ?_
 ·exact stq (fun E=>Ai rfl (E.v oe0))
 ·exact stq (fun E=>Ad rfl vd' rfl (by kernel_rfl) (E.v oe3))
 ·exact stq (fun E=>Aj rfl Tryz.underlying3 rfl (E.d 1) (Cs.lit1 (HB3.out.mod E.m (by intro h2;rcases h2 with ⟨h0,h2⟩|h2<;>first|(first|omega|(simp only [vc'] at *;omega))|(have hb:=HBR.out _ h2;(first|omega|(simp only [vc'] at *;omega))))) rfl))
 ·exact Ah rfl
 ·exact stq (fun E=>Ad rfl vd' rfl (by kernel_rfl) (E.v oe3))
 ·exact stq (fun E=>Aj rfl Tryz.underlying3 rfl (E.d 4) (Cs.lit1 (HB3.out.mod E.m (by intro h2;rcases h2 with ⟨h0,h2⟩|h2<;>first|(first|omega|(simp only [vc'] at *;omega))|(have hb:=HBR.out _ h2;(first|omega|(simp only [vc'] at *;omega))))) rfl))
 ·exact Ah rfl
 intro u1_0 hr
 have zu1_0:=hr.size
 have Cx2:=hid (hr.new (S:=(fun k=>(R k))))
 have Hx3:=hid (Hx1.out.mod hr (by intro k h1 h2;have hb:=HBR.out k h1;(first|omega|(simp only [vc'] at *;omega))))
 clear Hx1
 clear hr
 refine QChain.go fun Z act E=>?_
 refine Ap (args:=#[.pointer (some ⟨g,0,none⟩),.int .i64 a]) rfl (Ac rfl) rfl Tryz.func67 (Az (E.d 0) (E.d 2)) (Bo Hx3.out HA.out (by have:=HL.out;simp only [List.length_append] at this ⊢; (first|omega|(simp only [vc'] at *;omega)))) ?_
 rintro e u1_1a ⟨rfl,qwr,hm⟩
 have zu1_1a:=hm.size
 refine ⟨_,rfl,hm.mono (by intro k hk h;first|(first|omega|(simp only [vc'] at *;omega))|exact Or.inl ⟨(by have hb:=HBR.out k h;(first|omega|(simp only [vc'] at *;omega))),Or.inl ⟨rfl,h⟩⟩),(fun _=>rfl),?_⟩
 intro u1_1 hr
 have zu1_1:=hr.size
 have Hx4:=hid ((qwr.widen (R':=(fun k=>(R k)∨(New u1_0 u1_1a k))) (fun _ h=>h) (Nat.le_refl _)).mod hr (by intro k h1 h2;rcases h1 with h1|h1<;>first|(first|omega|(simp only [vc'] at *;omega))|(have hb:=HBR.out k h1;(first|omega|(simp only [vc'] at *;omega)))))
 have Cx5:=hid (Cx2.out.goM hm hr (fun _ _ h=>h))
 clear Cx2 hm hr Z act E qwr Hx3
 refine QChain.go fun Z act E=>?_
 refine Ap (args:=#[.pointer (some ⟨g,0,none⟩),.int .i64 b]) rfl (Ac rfl) rfl Tryz.func67 (Az (E.d 3) (E.d 5)) (Bo Hx4.out HB.out (by have:=HL.out;simp only [List.length_append] at this ⊢; (first|omega|(simp only [vc'] at *;omega)))) ?_
 rintro e u1_2a ⟨rfl,qwr,hm⟩
 have zu1_2a:=hm.size
 refine ⟨_,rfl,hm.mono (by intro k hk h;rcases h with h|h<;>first|(first|omega|(simp only [vc'] at *;omega))|exact Or.inl ⟨(by have hb:=HBR.out k h;(first|omega|(simp only [vc'] at *;omega))),Or.inr (⟨rfl,h⟩)⟩),(fun _=>rfl),?_⟩
 intro u1_2 hr
 have zu1_2:=hr.size
 have Hx6:=hid ((qwr.widen (R':=(fun k=>(R k)∨(New u1_0 u1_1a k)∨(New u1_1 u1_2a k))) (by intro k h1;simp only [or_assoc] at h1 ⊢; exact h1) (Nat.le_refl _)).mod hr (by intro k h1 h2;rcases h1 with h1|h1|h1<;>first|(first|omega|(simp only [vc'] at *;omega))|(have hb:=HBR.out k h1;(first|omega|(simp only [vc'] at *;omega)))))
 have Cx7:=hid (Cx5.out.goM hm hr (by intro k h0 h2;rcases h2 with h2|h2<;>first|(first|omega|(simp only [vc'] at *;omega))|exact h2))
 clear Cx5 hm hr Z act E qwr Hx4
 refine QChain.nil fun vs hl hzz hrows hne=>?_
 obtain ⟨Z,hYZ,hZb,hV⟩:=hzz
 have f0:=fvi hV hl 0
 have f3:=fvi hV hl 3
 have f6:=fvi hV hl 6
 rw [show vs=[gw vs 0,gw vs 1,gw vs 2,gw vs 3,gw vs 4,gw vs 5,gw vs 6] from (Be hl).trans rfl]
 have ha0:=HA0.out
 subst ha0
 clear HA0 hV hYZ hZb hsz0 hrows hne oe0 oe3
 simp only [Au,Act.put,sIB,sCZ,sCS,f0,f3,f6]
 clear hl f0 f3 f6
 go_wp2
 go_end0
 have hq:=(Hx6.out.widen (R':=(fun k=>R k∨New w u1_2 k)) (by intro k h1;rcases h1 with h1|h1|h1<;>first|exact Or.inl h1|(right;(first|omega|(simp only [vc'] at *;omega)))) (Nat.le_refl _))
 simp only [List.append_assoc] at hq
 exact ⟨rfl,by simpa only [ve',List.append_assoc] using hq,(HM0.out.trans Cx7.out (fun _ _ h=>h))⟩):P:=h
open Go.Proofs renaming Tryz.func131→va',Tryz.ntmps131→vb',Tryz.underlying27→vd' in
open Go.Gv renaming n'27→vc' in
open Go.Proofs.YtnaoeginonpicaaGreat renaming sigB→ve' in
set_option maxHeartbeats 2000000 in
theorem PutSig_Q {R:Nat→Prop} {g:Nat} {bs:List Int} {a b:Int} {w:World} (hW:WrR R 900000 w g bs) (hB:∀ k,R k→k < w.heap.size) (ha:I64 a) (hb:I64 b) (hl:(bs ++ sigB a b).length≤900000) :
 Calls Tryz.prog 131 #[.pointer (some ⟨g,0,none⟩),.agg #[.int .i64 a,.int .i64 b]] w fun e w'=>e=.returned (.tuple #[])∧WrR (fun k=>R k∨New w w' k) 900000 w' g (bs ++ sigB a b)∧Mod R w w':=
 fm5'
open Go.Proofs renaming Tryz.func129→va',Tryz.ntmps129→vb',Tryz.underlying23→vd' in
open Go.Gv renaming n'23→vc' in
open Go.Proofs.YtnaoeginonpicaaGreat renaming nameB→ve' in
set_option maxHeartbeats 2000000 in
theorem PutName_Q {R:Nat→Prop} {g:Nat} {bs:List Int} {a b:Int} {w:World} (hW:WrR R 900000 w g bs) (hB:∀ k,R k→k < w.heap.size) (ha:I64 a) (hb:I64 b) (hl:(bs ++ nameB a b).length≤900000) :
 Calls Tryz.prog 129 #[.pointer (some ⟨g,0,none⟩),.agg #[.int .i64 a,.int .i64 b]] w fun e w'=>e=.returned (.tuple #[])∧WrR (fun k=>R k∨New w w' k) 900000 w' g (bs ++ nameB a b)∧Mod R w w':=
 fm5'
set_option maxHeartbeats 4000000 in
theorem PutCm_Q:Puts CmR 97 cmB:=by
 intro R R2 g bs cs x w hW hB hx hB2 hD hl
 obtain ⟨rfl,hok⟩:=hx
 have HW:=Lib.hid hW
 have HBR:=Lib.hid hB
 have HBT:=Lib.hid hB2
 have HDJ:=Lib.hid hD
 have HOK:=Lib.hid hok
 have HL:=Lib.hid hl
 clear hW hB hB2 hD hl hok
 unfold cmB at HL
 go_enter Tryz.func97,Tryz.ntmps97
 go_upto_region 1 with (fail)
 obtain ⟨w1,hw1⟩:∃ zz,zz=(w.alloc (.cells (x.cells:List Value).toArray 29)):=⟨_,rfl⟩
 change Code.wp _ _ _ _ (w.alloc (.cells (x.cells:List Value).toArray 29))
 rw [← hw1]
 have HB3:=hid (show Cs w1 (w.heap.size) (x.cells:List Value).toArray 29 by rw [hw1];exact Cs.new _ _ _)
 have hm:Mod (fun _=>False) w w1:=by rw [hw1];exact (Mod.refl _ _).alloc _
 have HM0:=hid (show Mod (fun k=>(R k)) w w1 from hm.mono (fun _ _ h=>h.elim))
 have hs1:w1.heap.size=w.heap.size+1:=by rw [hw1];simp
 have Hx1:=hid (HW.out.mod hm (fun _ _ h=>h))
 clear HW
 clear hw1 hm
 go_upto_region 1 with (fail)
 refine Aa 19 [4,5,6,7] [0,1,2,3] (fun a0 HA0=>?_)
 have oe0:=ev HA0 0 rfl
 have oe3:=ev HA0 3 rfl
 refine QSeq.pure rfl _ (fun E=>Ai rfl (E.v oe0)) ?_
 refine QSeq.pure rfl (.pointer (some ⟨w.heap.size,0,none⟩)) (fun E=>Ad rfl Tryz.underlying29 rfl (by kernel_rfl) (E.v oe3)) ?_
 refine QSeq.pure rfl _ (fun E=>Am rfl Tryz.underlying23 rfl (off:=0) (cs:=[.int .i64 x.cl,.int .i64 x.sq]) (by kernel_rfl) (E.d 1 0) (Cs.preA (pre:=[.int .i64 x.cl,.int .i64 x.sq]) (mid:=x.h.map bv) (post:=[.int .i64 x.ln,.int .i64 x.sb,.int .i64 x.mr]) HB3.out rfl)) ?_
 refine QSeq.call rfl rfl Tryz.func129 (PutName_Q Hx1.out (by intro k h1;have hb:=HBR.out k h1;omega) HOK.out.1.1 HOK.out.1.2.1 (by have:=HL.out;simp only [List.length_append] at this ⊢; omega)) (fun E=>Az (E.d 0 2) (E.d 2 0)) ?_
 rintro e u1_3 ⟨rfl,qwr,hm⟩
 refine ⟨_,rfl,?_⟩
 have Hx2:=hid (qwr.widen (R':=(fun k=>(R k)∨(New w1 u1_3 k))) (fun _ h=>h) (Nat.le_refl _))
 have zu1_3:=hm.size
 have Cx3:=hid (show Mod (fun k=>(R k)) w1 u1_3 from hm)
 clear hm
 clear qwr Hx1
 refine QSeq.nil (t':=[_,_,_,_]) rfl ?_
 obtain rfl:=HA0.out
 clear HA0 oe0 oe3
 simp only [pz,Act.put,sIB,sCZ,sCS]
 go_upto_region 2 with (fail)
 generalize ha0:Act.mk _ _=a0
 have oe0:a0.eval (.tmp 0)=.pointer (some ⟨g,0,none⟩):=by rw [← ha0];rfl
 have oe3:a0.eval (.tmp 3)=.pointer (some ⟨w.heap.size,0,none⟩):=by rw [← ha0];rfl
 have hsz0:a0.tmps.size=19:=by rw [← ha0];rfl
 have HA0:=hid ha0
 clear ha0
 refine A3 19 hsz0 [8,9,10,11,12,13,14] (fun k=>(R k)∨(New w1 u1_3 k)) (fun k j=>(k=0∧((R j)∨(New w1 u1_3 j)))∨(k=1∧((R j)∨(New w1 u1_3 j)))) (by intro k j h;(try dsimp only at h ⊢);rcases h with ⟨-,h|h⟩|⟨-,h|h⟩;(exact Or.inl (h));(exact Or.inr (h));(exact Or.inl (h));(exact Or.inr (h))) [qi (.pointer (some ⟨g,0,none⟩)),qi (.pointer (some ⟨w.heap.size,2,none⟩)),qi (hv x.h),qi (.pointer (some ⟨g,0,none⟩)),qi (.pointer (some ⟨w.heap.size,34,none⟩)),qi (.int .i64 x.ln),qi (.pointer (some ⟨g,0,none⟩))] ⟨Ab,Ab,Ab,Ab,Ab,Ab,Ab,trivial⟩ [3,6] ⟨?_,?_,?_,?_,?_,?_,?_,trivial⟩ ?_
 ·exact stq (fun E=>Ai rfl (E.v oe0))
 ·exact stq (fun E=>Ad rfl Tryz.underlying29 rfl (by kernel_rfl) (E.v oe3))
 ·exact stq (fun E=>Am rfl Tryz.underlying25 rfl (off:=2) (cs:=x.h.map bv) (by rw [List.length_map,HOK.out.2.1];exact size_hash) (E.d 1) (((HB3.out.mod Cx3.out (by intro h2;first|omega|(have hb:=HBR.out _ h2;omega))).mod E.m (by intro h2;rcases h2 with ⟨h0,h2|h2⟩|h2<;>first|omega|(have hb:=HBR.out _ h2;omega))).hash))
 ·exact Ah rfl
 ·exact stq (fun E=>Ad rfl Tryz.underlying29 rfl (by kernel_rfl) (E.v oe3))
 ·exact stq (fun E=>Aj rfl Tryz.underlying3 rfl (E.d 4) (((HB3.out.mod Cx3.out (by intro h2;first|omega|(have hb:=HBR.out _ h2;omega))).mod E.m (by intro h2;rcases h2 with ⟨h0,h2|h2⟩|h2<;>first|omega|(have hb:=HBR.out _ h2;omega))).c34 HOK.out.2.1))
 ·exact Ah rfl
 intro u2_0 hr
 have zu2_0:=hr.size
 have Cx4:=hid (hr.new (S:=(fun k=>(R k)∨(New w1 u1_3 k))))
 have Hx5:=hid (Hx2.out.mod hr (by intro k h1 h2;rcases h1 with h1|h1<;>first|omega|(have hb:=HBR.out k h1;omega)))
 clear Hx2
 clear hr
 refine QChain.go fun Z act E=>?_
 refine Ap (args:=#[.pointer (some ⟨g,0,none⟩),hv x.h]) rfl (Ac rfl) rfl Tryz.func130 (Az (E.d 0) (E.d 2)) (WHash_Q Hx5.out HOK.out.2 (by have:=HL.out;simp only [List.length_append] at this ⊢; omega)) ?_
 rintro e u2_1a ⟨rfl,qwr,hm⟩
 have zu2_1a:=hm.size
 refine ⟨_,rfl,hm.mono (by intro k hk h;rcases h with h|h<;>first|omega|exact Or.inl ⟨(by have hb:=HBR.out k h;omega),Or.inl ⟨rfl,Or.inl h⟩⟩),(fun _=>rfl),?_⟩
 intro u2_1 hr
 have zu2_1:=hr.size
 have Hx6:=hid ((qwr.widen (R':=(fun k=>(R k)∨(New w1 u1_3 k)∨(New u2_0 u2_1a k))) (by intro k h1;simp only [or_assoc] at h1 ⊢; exact h1) (Nat.le_refl _)).mod hr (by intro k h1 h2;rcases h1 with h1|h1|h1<;>first|omega|(have hb:=HBR.out k h1;omega)))
 have Cx7:=hid (Cx4.out.goM hm hr (fun _ _ h=>h))
 clear Cx4 hm hr Z act E qwr Hx5
 refine QChain.go fun Z act E=>?_
 refine Ap (args:=#[.pointer (some ⟨g,0,none⟩),.int .i64 x.ln]) rfl (Ac rfl) rfl Tryz.func67 (Az (E.d 3) (E.d 5)) (Bo Hx6.out HOK.out.1.2.2.1 (by have:=HL.out;simp only [List.length_append] at this ⊢; omega)) ?_
 rintro e u2_2a ⟨rfl,qwr,hm⟩
 have zu2_2a:=hm.size
 refine ⟨_,rfl,hm.mono (by intro k hk h;rcases h with h|h|h<;>first|omega|exact Or.inl ⟨(by have hb:=HBR.out k h;omega),Or.inr (⟨rfl,Or.inl h⟩)⟩),(fun _=>rfl),?_⟩
 intro u2_2 hr
 have zu2_2:=hr.size
 have Hx8:=hid ((qwr.widen (R':=(fun k=>(R k)∨(New w1 u1_3 k)∨(New u2_0 u2_1a k)∨(New u2_1 u2_2a k))) (by intro k h1;simp only [or_assoc] at h1 ⊢; exact h1) (Nat.le_refl _)).mod hr (by intro k h1 h2;rcases h1 with h1|h1|h1|h1<;>first|omega|(have hb:=HBR.out k h1;omega)))
 have Cx9:=hid (Cx7.out.goM hm hr (by intro k h0 h2;rcases h2 with h2|h2|h2<;>first|omega|exact Or.inl h2|exact Or.inr (h2)))
 clear Cx7 hm hr Z act E qwr Hx6
 refine QChain.nil fun vs hl hzz hrows hne=>?_
 obtain ⟨Z,hYZ,hZb,hV⟩:=hzz
 have f0:=fvi hV hl 0
 have f3:=fvi hV hl 3
 have f6:=fvi hV hl 6
 rw [show vs=[gw vs 0,gw vs 1,gw vs 2,gw vs 3,gw vs 4,gw vs 5,gw vs 6] from (Be hl).trans rfl]
 have ha0:=HA0.out
 subst ha0
 clear HA0 hV hYZ hZb hsz0 hrows hne oe0 oe3
 simp only [Au,Act.put,sIB,sCZ,sCS,f0,f3,f6]
 clear hl f0 f3 f6
 go_upto_region 3 with (fail)
 refine Aa 19 [15,16,17,18] [0,1,2,3] (fun a0 HA0=>?_)
 have oe0:=ev HA0 0 rfl
 have oe3:=ev HA0 3 rfl
 refine QSeq.pure rfl _ (fun E=>Ai rfl (E.v oe0)) ?_
 refine QSeq.pure rfl (.pointer (some ⟨w.heap.size,35,none⟩)) (fun E=>Ad rfl Tryz.underlying29 rfl (by kernel_rfl) (E.v oe3)) ?_
 refine QSeq.pure rfl _ (fun E=>Am rfl Tryz.underlying27 rfl (off:=35) (cs:=[.int .i64 x.sb,.int .i64 x.mr]) (by kernel_rfl) (E.d 1 0) (((HB3.out.mod Cx3.out (by intro h2;first|omega|(have hb:=HBR.out _ h2;omega))).mod Cx9.out (by intro h2;rcases h2 with h2|h2<;>first|omega|(have hb:=HBR.out _ h2;omega))).sig HOK.out.2.1)) ?_
 refine QSeq.call rfl rfl Tryz.func131 (PutSig_Q Hx8.out (by intro k h1;rcases h1 with h1|h1|h1|h1<;>first|omega|(have hb:=HBR.out k h1;omega)) HOK.out.1.2.2.2.1 HOK.out.1.2.2.2.2 (by have:=HL.out;simp only [List.length_append] at this ⊢; omega)) (fun E=>Az (E.d 0 2) (E.d 2 0)) ?_
 rintro e u3_3 ⟨rfl,qwr,hm⟩
 refine ⟨_,rfl,?_⟩
 have Hx10:=hid (qwr.widen (R':=(fun k=>(R k)∨(New w1 u1_3 k)∨(New u2_0 u2_1a k)∨(New u2_1 u2_2a k)∨(New u2_2 u3_3 k))) (by intro k h1;simp only [or_assoc] at h1 ⊢; exact h1) (Nat.le_refl _))
 have zu3_3:=hm.size
 have Cx11:=hid (show Mod (fun k=>(R k)∨(New w1 u1_3 k)∨(New u2_0 u2_1a k)∨(New u2_1 u2_2a k)) u2_2 u3_3 from hm)
 clear hm
 clear qwr Hx8
 refine QSeq.nil (t':=[_,_,_,_]) rfl ?_
 obtain rfl:=HA0.out
 clear HA0 oe0 oe3
 simp only [pz,Act.put,sIB,sCZ,sCS]
 go_wp2
 go_end0
 have hq:=(Hx10.out.widen (R':=(fun k=>R k∨New w u3_3 k)) (by intro k h1;rcases h1 with h1|h1|h1|h1|h1<;>first|exact Or.inl h1|(right;omega)) (Nat.le_refl _))
 simp only [List.append_assoc] at hq
 exact ⟨rfl,by simpa only [cmB,List.append_assoc] using hq,(((HM0.out.trans Cx3.out (fun _ _ h=>h)).trans Cx9.out (by intro k h1 h2;rcases h2 with h2|h2<;>first|exact h2|omega|(have hb:=HBR.out k h2;omega))).trans Cx11.out (by intro k h1 h2;rcases h2 with h2|h2|h2|h2<;>first|exact h2|omega|(have hb:=HBR.out k h2;omega)))⟩
theorem fm6' {P:Prop} (h:P:=by
 intro R R2 g bs cs x w hW hB hx hB2 hD hl
 obtain ⟨rfl,hok⟩:=hx
 have HW:=Lib.hid hW
 have HBR:=Lib.hid hB
 have HBT:=Lib.hid hB2
 have HDJ:=Lib.hid hD
 have HOK:=Lib.hid hok
 have HL:=Lib.hid hl
 clear hW hB hB2 hD hl hok
 unfold stB at HL
 go_enter va',vb'
 go_upto_region 1 with (fail)
 obtain ⟨w1,hw1⟩:∃ zz,zz=(w.alloc (.cells (x.cells:List Value).toArray vc')):=⟨_,rfl⟩
 change Code.wp _ _ _ _ (w.alloc (.cells (x.cells:List Value).toArray vc'))
 rw [← hw1]
 have HB3:=hid (show Cs w1 (w.heap.size) (x.cells:List Value).toArray vc' by rw [hw1];exact Cs.new _ _ _)
 have hm:Mod (fun _=>False) w w1:=by rw [hw1];exact (Mod.refl _ _).alloc _
 have HM0:=hid (show Mod (fun k=>(R k)) w w1 from hm.mono (fun _ _ h=>h.elim))
 have hs1:w1.heap.size=w.heap.size+1:=by rw [hw1];simp
 have Hx1:=hid (HW.out.mod hm (fun _ _ h=>h))
 clear HW
 clear hw1 hm
 go_upto_region 1 with (fail)
 refine Aa 23 [4,5,6,7] [0,1,2,3] (fun a0 HA0=>?_)
 have oe0:=ev HA0 0 rfl
 have oe3:=ev HA0 3 rfl
 refine QSeq.pure rfl _ (fun E=>Ai rfl (E.v oe0)) ?_
 refine QSeq.pure rfl (.pointer (some ⟨w.heap.size,0,none⟩)) (fun E=>Ad rfl vd' rfl (by kernel_rfl) (E.v oe3)) ?_
 refine QSeq.pure rfl _ (fun E=>Aj rfl Tryz.underlying3 rfl (E.d 1 0) (Cs.pre1 HB3.out rfl)) ?_
 refine QSeq.call rfl rfl Tryz.func67 (Bo Hx1.out HOK.out.rp (by have:=HL.out;simp only [List.length_append] at this ⊢; (first|omega|(simp only [vc'] at *;omega)))) (fun E=>Az (E.d 0 2) (E.d 2 0)) ?_
 rintro e u1_3 ⟨rfl,qwr,hm⟩
 refine ⟨_,rfl,?_⟩
 have Hx2:=hid (qwr.widen (R':=(fun k=>(R k)∨(New w1 u1_3 k))) (fun _ h=>h) (Nat.le_refl _))
 have zu1_3:=hm.size
 have Cx3:=hid (show Mod (fun k=>(R k)) w1 u1_3 from hm)
 clear hm
 clear qwr Hx1
 refine QSeq.nil (t':=[_,_,_,_]) rfl ?_
 obtain rfl:=HA0.out
 clear HA0 oe0 oe3
 simp only [pz,Act.put,sIB,sCZ,sCS]
 go_upto_region 2 with (fail)
 refine Aa 23 [8,9,10,11] [0,1,2,3] (fun a0 HA0=>?_)
 have oe0:=ev HA0 0 rfl
 have oe3:=ev HA0 3 rfl
 refine QSeq.pure rfl _ (fun E=>Ai rfl (E.v oe0)) ?_
 refine QSeq.pure rfl (.pointer (some ⟨w.heap.size,1,none⟩)) (fun E=>Ad rfl vd' rfl (by kernel_rfl) (E.v oe3)) ?_
 refine QSeq.pure rfl _ (fun E=>Am rfl Tryz.underlying23 rfl (off:=1) (cs:=[.int .i64 x.cl,.int .i64 x.sq]) (by kernel_rfl) (E.d 1 0) (Cs.preA (HB3.out.mod Cx3.out (by intro h2;first|(first|omega|(simp only [vc'] at *;omega))|(have hb:=HBR.out _ h2;(first|omega|(simp only [vc'] at *;omega))))) rfl)) ?_
 refine QSeq.call rfl rfl Tryz.func129 (PutName_Q Hx2.out (by intro k h1;rcases h1 with h1|h1<;>first|(first|omega|(simp only [vc'] at *;omega))|(have hb:=HBR.out k h1;(first|omega|(simp only [vc'] at *;omega)))) HOK.out.cl HOK.out.sq (by have:=HL.out;simp only [List.length_append] at this ⊢; (first|omega|(simp only [vc'] at *;omega)))) (fun E=>Az (E.d 0 2) (E.d 2 0)) ?_
 rintro e u2_3 ⟨rfl,qwr,hm⟩
 refine ⟨_,rfl,?_⟩
 have Hx4:=hid (qwr.widen (R':=(fun k=>(R k)∨(New w1 u1_3 k)∨(New u1_3 u2_3 k))) (by intro k h1;simp only [or_assoc] at h1 ⊢; exact h1) (Nat.le_refl _))
 have zu2_3:=hm.size
 have Cx5:=hid (show Mod (fun k=>(R k)∨(New w1 u1_3 k)) u1_3 u2_3 from hm)
 clear hm
 clear qwr Hx2
 refine QSeq.nil (t':=[_,_,_,_]) rfl ?_
 obtain rfl:=HA0.out
 clear HA0 oe0 oe3
 simp only [pz,Act.put,sIB,sCZ,sCS]
 go_upto_region 3 with (fail)
 generalize ha0:Act.mk _ _=a0
 have oe0:a0.eval (.tmp 0)=.pointer (some ⟨g,0,none⟩):=by rw [← ha0];rfl
 have oe3:a0.eval (.tmp 3)=.pointer (some ⟨w.heap.size,0,none⟩):=by rw [← ha0];rfl
 have hsz0:a0.tmps.size=23:=by rw [← ha0];rfl
 have HA0:=hid ha0
 clear ha0
 refine A3 23 hsz0 [12,13,14,15,16,17,18] (fun k=>(R k)∨(New w1 u1_3 k)∨(New u1_3 u2_3 k)) (fun k j=>(k=0∧((R j)∨(New w1 u1_3 j)∨(New u1_3 u2_3 j)))∨(k=1∧((R j)∨(New w1 u1_3 j)∨(New u1_3 u2_3 j)))) (by intro k j h;(try dsimp only at h ⊢);rcases h with ⟨-,h|h|h⟩|⟨-,h|h|h⟩;(exact Or.inl (h));(exact Or.inr (Or.inl (h)));(exact Or.inr (Or.inr (h)));(exact Or.inl (h));(exact Or.inr (Or.inl (h)));(exact Or.inr (Or.inr (h)))) [qi (.pointer (some ⟨g,0,none⟩)),qi (.pointer (some ⟨w.heap.size,3,none⟩)),qi (hv x.h),qi (.pointer (some ⟨g,0,none⟩)),qi (.pointer (some ⟨w.heap.size,35,none⟩)),qi (.int .u64 (x.tm:Nat)),qi (.pointer (some ⟨g,0,none⟩))] ⟨Ab,Ab,Ab,Ab,Ab,Ab,Ab,trivial⟩ [3,6] ⟨?_,?_,?_,?_,?_,?_,?_,trivial⟩ ?_
 ·exact stq (fun E=>Ai rfl (E.v oe0))
 ·exact stq (fun E=>Ad rfl vd' rfl (by kernel_rfl) (E.v oe3))
 ·exact stq (fun E=>Am rfl Tryz.underlying25 rfl (off:=3) (cs:=x.h.map bv) (by rw [List.length_map,HOK.out.h.1];exact size_hash) (E.d 1) (Cs.midA (((HB3.out.mod Cx3.out (by intro h2;first|(first|omega|(simp only [vc'] at *;omega))|(have hb:=HBR.out _ h2;(first|omega|(simp only [vc'] at *;omega))))).mod Cx5.out (by intro h2;rcases h2 with h2|h2<;>first|(first|omega|(simp only [vc'] at *;omega))|(have hb:=HBR.out _ h2;(first|omega|(simp only [vc'] at *;omega))))).mod E.m (by intro h2;rcases h2 with ⟨h0,h2|h2|h2⟩|h2<;>first|(first|omega|(simp only [vc'] at *;omega))|(have hb:=HBR.out _ h2;(first|omega|(simp only [vc'] at *;omega))))) rfl))
 ·exact Ah rfl
 ·exact stq (fun E=>Ad rfl vd' rfl (by kernel_rfl) (E.v oe3))
 ·exact stq (fun E=>Aj rfl Tryz.underlying30 rfl (E.d 4) (Cs.post1 (m:=32) (k:=0) (((HB3.out.mod Cx3.out (by intro h2;first|(first|omega|(simp only [vc'] at *;omega))|(have hb:=HBR.out _ h2;(first|omega|(simp only [vc'] at *;omega))))).mod Cx5.out (by intro h2;rcases h2 with h2|h2<;>first|(first|omega|(simp only [vc'] at *;omega))|(have hb:=HBR.out _ h2;(first|omega|(simp only [vc'] at *;omega))))).mod E.m (by intro h2;rcases h2 with ⟨h0,h2|h2|h2⟩|h2<;>first|(first|omega|(simp only [vc'] at *;omega))|(have hb:=HBR.out _ h2;(first|omega|(simp only [vc'] at *;omega))))) (by rw [List.length_map];exact HOK.out.h.1) rfl rfl))
 ·exact Ah rfl
 intro u3_0 hr
 have zu3_0:=hr.size
 have Cx6:=hid (hr.new (S:=(fun k=>(R k)∨(New w1 u1_3 k)∨(New u1_3 u2_3 k))))
 have Hx7:=hid (Hx4.out.mod hr (by intro k h1 h2;rcases h1 with h1|h1|h1<;>first|(first|omega|(simp only [vc'] at *;omega))|(have hb:=HBR.out k h1;(first|omega|(simp only [vc'] at *;omega)))))
 clear Hx4
 clear hr
 refine QChain.go fun Z act E=>?_
 refine Ap (args:=#[.pointer (some ⟨g,0,none⟩),hv x.h]) rfl (Ac rfl) rfl Tryz.func130 (Az (E.d 0) (E.d 2)) (WHash_Q Hx7.out HOK.out.h (by have:=HL.out;simp only [List.length_append] at this ⊢; (first|omega|(simp only [vc'] at *;omega)))) ?_
 rintro e u3_1a ⟨rfl,qwr,hm⟩
 have zu3_1a:=hm.size
 refine ⟨_,rfl,hm.mono (by intro k hk h;rcases h with h|h|h<;>first|(first|omega|(simp only [vc'] at *;omega))|exact Or.inl ⟨(by have hb:=HBR.out k h;(first|omega|(simp only [vc'] at *;omega))),Or.inl ⟨rfl,Or.inl h⟩⟩),(fun _=>rfl),?_⟩
 intro u3_1 hr
 have zu3_1:=hr.size
 have Hx8:=hid ((qwr.widen (R':=(fun k=>(R k)∨(New w1 u1_3 k)∨(New u1_3 u2_3 k)∨(New u3_0 u3_1a k))) (by intro k h1;simp only [or_assoc] at h1 ⊢; exact h1) (Nat.le_refl _)).mod hr (by intro k h1 h2;rcases h1 with h1|h1|h1|h1<;>first|(first|omega|(simp only [vc'] at *;omega))|(have hb:=HBR.out k h1;(first|omega|(simp only [vc'] at *;omega)))))
 have Cx9:=hid (Cx6.out.goM hm hr (fun _ _ h=>h))
 clear Cx6 hm hr Z act E qwr Hx7
 refine QChain.go fun Z act E=>?_
 refine Ap (args:=#[.pointer (some ⟨g,0,none⟩),.int .u64 (x.tm:Nat)]) rfl (Ac rfl) rfl Tryz.func96 (Az (E.d 3) (E.d 5)) (WNum_Q Hx8.out HOK.out.tm (by have:=HL.out;simp only [List.length_append] at this ⊢; (first|omega|(simp only [vc'] at *;omega)))) ?_
 rintro e u3_2a ⟨rfl,qwr,hm⟩
 have zu3_2a:=hm.size
 refine ⟨_,rfl,hm.mono (by intro k hk h;rcases h with h|h|h|h<;>first|(first|omega|(simp only [vc'] at *;omega))|exact Or.inl ⟨(by have hb:=HBR.out k h;(first|omega|(simp only [vc'] at *;omega))),Or.inr (⟨rfl,Or.inl h⟩)⟩),(fun _=>rfl),?_⟩
 intro u3_2 hr
 have zu3_2:=hr.size
 have Hx10:=hid ((qwr.widen (R':=(fun k=>(R k)∨(New w1 u1_3 k)∨(New u1_3 u2_3 k)∨(New u3_0 u3_1a k)∨(New u3_1 u3_2a k))) (by intro k h1;simp only [or_assoc] at h1 ⊢; exact h1) (Nat.le_refl _)).mod hr (by intro k h1 h2;rcases h1 with h1|h1|h1|h1|h1<;>first|(first|omega|(simp only [vc'] at *;omega))|(have hb:=HBR.out k h1;(first|omega|(simp only [vc'] at *;omega)))))
 have Cx11:=hid (Cx9.out.goM hm hr (by intro k h0 h2;rcases h2 with h2|h2|h2|h2<;>first|(first|omega|(simp only [vc'] at *;omega))|exact Or.inl h2|exact Or.inr (Or.inl h2)|exact Or.inr (Or.inr (h2))))
 clear Cx9 hm hr Z act E qwr Hx8
 refine QChain.nil fun vs hl hzz hrows hne=>?_
 obtain ⟨Z,hYZ,hZb,hV⟩:=hzz
 have f0:=fvi hV hl 0
 have f3:=fvi hV hl 3
 have f6:=fvi hV hl 6
 rw [show vs=[gw vs 0,gw vs 1,gw vs 2,gw vs 3,gw vs 4,gw vs 5,gw vs 6] from (Be hl).trans rfl]
 have ha0:=HA0.out
 subst ha0
 clear HA0 hV hYZ hZb hsz0 hrows hne oe0 oe3
 simp only [Au,Act.put,sIB,sCZ,sCS,f0,f3,f6]
 clear hl f0 f3 f6
 go_upto_region 4 with (fail)
 refine Aa 23 [19,20,21,22] [0,1,2,3] (fun a0 HA0=>?_)
 have oe0:=ev HA0 0 rfl
 have oe3:=ev HA0 3 rfl
 refine QSeq.pure rfl _ (fun E=>Ai rfl (E.v oe0)) ?_
 refine QSeq.pure rfl (.pointer (some ⟨w.heap.size,36,none⟩)) (fun E=>Ad rfl vd' rfl (by kernel_rfl) (E.v oe3)) ?_
 refine QSeq.pure rfl _ (fun E=>Am rfl Tryz.underlying27 rfl (off:=36) (cs:=[.int .i64 x.sb,.int .i64 x.mr]) (by kernel_rfl) (E.d 1 0) (Cs.postA (m:=32) (k:=1) (((HB3.out.mod Cx3.out (by intro h2;first|(first|omega|(simp only [vc'] at *;omega))|(have hb:=HBR.out _ h2;(first|omega|(simp only [vc'] at *;omega))))).mod Cx5.out (by intro h2;rcases h2 with h2|h2<;>first|(first|omega|(simp only [vc'] at *;omega))|(have hb:=HBR.out _ h2;(first|omega|(simp only [vc'] at *;omega))))).mod Cx11.out (by intro h2;rcases h2 with h2|h2|h2<;>first|(first|omega|(simp only [vc'] at *;omega))|(have hb:=HBR.out _ h2;(first|omega|(simp only [vc'] at *;omega))))) (by rw [List.length_map];exact HOK.out.h.1) rfl rfl)) ?_
 refine QSeq.call rfl rfl Tryz.func131 (PutSig_Q Hx10.out (by intro k h1;rcases h1 with h1|h1|h1|h1|h1<;>first|(first|omega|(simp only [vc'] at *;omega))|(have hb:=HBR.out k h1;(first|omega|(simp only [vc'] at *;omega)))) HOK.out.sb HOK.out.mr (by have:=HL.out;simp only [List.length_append] at this ⊢; (first|omega|(simp only [vc'] at *;omega)))) (fun E=>Az (E.d 0 2) (E.d 2 0)) ?_
 rintro e u4_3 ⟨rfl,qwr,hm⟩
 refine ⟨_,rfl,?_⟩
 have Hx12:=hid (qwr.widen (R':=(fun k=>(R k)∨(New w1 u1_3 k)∨(New u1_3 u2_3 k)∨(New u3_0 u3_1a k)∨(New u3_1 u3_2a k)∨(New u3_2 u4_3 k))) (by intro k h1;simp only [or_assoc] at h1 ⊢; exact h1) (Nat.le_refl _))
 have zu4_3:=hm.size
 have Cx13:=hid (show Mod (fun k=>(R k)∨(New w1 u1_3 k)∨(New u1_3 u2_3 k)∨(New u3_0 u3_1a k)∨(New u3_1 u3_2a k)) u3_2 u4_3 from hm)
 clear hm
 clear qwr Hx10
 refine QSeq.nil (t':=[_,_,_,_]) rfl ?_
 obtain rfl:=HA0.out
 clear HA0 oe0 oe3
 simp only [pz,Act.put,sIB,sCZ,sCS]
 go_wp2
 go_end0
 have hq:=(Hx12.out.widen (R':=(fun k=>R k∨New w u4_3 k)) (by intro k h1;rcases h1 with h1|h1|h1|h1|h1|h1<;>first|exact Or.inl h1|(right;(first|omega|(simp only [vc'] at *;omega)))) (Nat.le_refl _))
 simp only [List.append_assoc] at hq
 exact ⟨rfl,by simpa only [stB,List.append_assoc] using hq,((((HM0.out.trans Cx3.out (fun _ _ h=>h)).trans Cx5.out (by intro k h1 h2;rcases h2 with h2|h2<;>first|exact h2|(first|omega|(simp only [vc'] at *;omega))|(have hb:=HBR.out k h2;(first|omega|(simp only [vc'] at *;omega))))).trans Cx11.out (by intro k h1 h2;rcases h2 with h2|h2|h2<;>first|exact h2|(first|omega|(simp only [vc'] at *;omega))|(have hb:=HBR.out k h2;(first|omega|(simp only [vc'] at *;omega))))).trans Cx13.out (by intro k h1 h2;rcases h2 with h2|h2|h2|h2|h2<;>first|exact h2|(first|omega|(simp only [vc'] at *;omega))|(have hb:=HBR.out k h2;(first|omega|(simp only [vc'] at *;omega)))))⟩):P:=h
open Go.Proofs renaming Tryz.func98→va',Tryz.ntmps98→vb',Tryz.underlying32→vd' in
open Go.Gv renaming n'32→vc' in
set_option maxHeartbeats 4000000 in
theorem PutSt_Q:Puts StR 98 stB:=
 fm6'
theorem fm2' {P:Prop} (h:P:=by
 intro R R2 g bs v l w hW hB hs hB2 hD hl
 obtain ⟨ao,cap,rfl⟩:=hs.shape
 have hb64:l.length≤maxLen:=hs.bd
 rw [Ax] at hb64
 have HI64:=hid (show I64 (l.length:Int) by unfold I64;(first|omega|(simp only [vg',vh'] at *;omega)))
 have HW:=Lib.hid hW
 have HS:=Lib.hid hs
 have HBR:=Lib.hid hB
 have HBT:=Lib.hid hB2
 have HDJ:=Lib.hid hD
 have HL:=Lib.hid hl
 clear hW hB hs hB2 hD hl
 unfold listB at HL
 go_enter va',vb'
 go_upto_region 0 with (fail)
 have HM0:=hid (Mod.refl (fun k=>(R k)) w)
 go_upto_region 0 with (fail)
 refine Aa 23 [8,9,10,11] [0,1,2,3] (fun a0 HA0=>?_)
 have oe0:=ev HA0 0 rfl
 have oe1:=ev HA0 1 rfl
 refine QSeq.pure rfl _ (fun E=>Ai rfl (E.v oe0)) ?_
 refine QSeq.pure rfl _ (fun E=>Ai rfl (E.v oe1)) ?_
 refine QSeq.pure rfl (.int .i64 l.length) (fun E=>A0 rfl (E.d 1 0) vc') ?_
 refine QSeq.call rfl rfl Tryz.func67 (Bo HW.out HI64.out (by have:=HL.out;simp only [List.length_append] at this ⊢; (first|omega|(simp only [vg',vh'] at *;omega)))) (fun E=>Az (E.d 0 2) (E.d 2 0)) ?_
 rintro e u0_3 ⟨rfl,qwr,hm⟩
 refine ⟨_,rfl,?_⟩
 have Hx1:=hid (qwr.widen (R':=(fun k=>(R k)∨(New w u0_3 k))) (fun _ h=>h) (Nat.le_refl _))
 have zu0_3:=hm.size
 have Cx2:=hid (show Mod (fun k=>(R k)) w u0_3 from hm)
 clear hm
 clear qwr HW
 refine QSeq.nil (t':=[_,_,_,_]) rfl ?_
 obtain rfl:=HA0.out
 clear HA0 oe0 oe1
 simp only [pz,Act.put,sIB,sCZ,sCS]
 go_wp2
 go_loopw [14] (fun t wr=>∃ k:Nat,t=.int .i64 (k:Int)∧k≤l.length∧u0_3.heap.size≤wr.heap.size∧WrR (fun b=>R b∨(w.heap.size≤b∧b < wr.heap.size)) 900000 wr g (bs ++ (encI l.length ++ ((l.take k).map vd').flatten))∧RdS ve' R2 wr (.slice ao l.length cap) l∧Mod R w wr) (fun t _=>l.length - (intOf t).toNat)
 case atStart=>exact ⟨0,rfl,Nat.zero_le _,Nat.le_refl _,by have hq:=(Hx1.out.widen (R':=(fun k=>R k∨(w.heap.size≤k∧k < u0_3.heap.size))) (by intro k h1;rcases h1 with h1|h1<;>first|exact Or.inl h1|(right;(first|omega|(simp only [vg',vh'] at *;omega)))) (Nat.le_refl _));simpa only [List.take_zero,List.map_nil,List.flatten_nil,List.append_nil] using hq,(HS.out.mod Cx2.out (by intro k h1 h2;first|(first|omega|(simp only [vg',vh'] at *;omega))|(have hb:=HBT.out k h1;(first|omega|(simp only [vg',vh'] at *;omega)))|(have hb:=HBR.out k h2;(first|omega|(simp only [vg',vh'] at *;omega)))|exact HDJ.out k h1 h2|exact HDJ.out k h2 h1|(have hb:=HBT.out k h1;have hb2:=HBR.out k h2;(first|omega|(simp only [vg',vh'] at *;omega))))),(HM0.out.trans Cx2.out (fun _ _ h=>h))⟩
 case round=>
  obtain ⟨k,rfl,hk,hz,hw,hs,hm⟩:=hrel
  have HW2:=Lib.hid hw
  have HS2:=Lib.hid hs
  have HM2:=Lib.hid hm
  clear hw hs hm Hx1 HS HM0
  obtain ⟨wo,rfl⟩:∃ x,x=wr:=⟨_,rfl⟩
  by_cases hlt:k < l.length
  ·skip
   obtain ⟨g0,o0,cs,rfl,hrg,hrd,hcs⟩:=HS2.out.at hlt
   have hcl:cs.length=38:=ve'.len hrd
   have HCL:=Lib.hid hcl
   have HAT:=hid (show CellsAt R2 wo g0 (o0+k * 38) cs from ⟨hrg,hcs⟩)
   have HRD:=Lib.hid hrd
   have HOC:=hid (ve'.one hrd)
   clear hcl hcs hrd hrg
   have HE:Hid (bs ++ (encI l.length ++ ((l.take k).map vd').flatten) ++ vd' l[k]=bs ++ (encI l.length ++ ((l.take (k+1)).map vd').flatten)):=hid (by rw [List.take_succ_eq_append_getElem hlt,List.map_append,List.flatten_append];simp [List.append_assoc])
   have HLk:=hid (show (bs ++ (encI l.length ++ ((l.take k).map vd').flatten) ++ vd' l[k]).length≤900000 by rw [HE.out];exact Nat.le_trans (put_len _ _ _ _ _) HL.out)
   go_upto_region 3 with (fail)
   refine Aa 23 [16,17,7,26] [0,1,2,3] (fun a0 HA0=>?_)
   have oe12:=ev HA0 12 rfl
   have oe14:=ev HA0 14 rfl
   refine QSeq.pure rfl (.pointer (some ⟨g0,o0+k * 38,none⟩)) (fun E=>Bk (i:=k) (s:=38) rfl vc' (by kernel_rfl) (E.v oe12) (E.v oe14) (by (first|omega|(simp only [vg',vh'] at *;omega)))) ?_
   refine QSeq.pure rfl _ (fun E=>Am rfl vf' rfl (off:=o0+k * 38) (cs:=cs) (by rw [HCL.out];kernel_rfl) (E.d 0 0) (fun j u hu=>(HAT.out).2 j u hu)) ?_
   refine QSeq.go fun act E=>?_
   refine qc_alloc rfl (Ac rfl) rfl (z:=vg') (by kernel_rfl) ?_
   intro u3_2 qq hm
   have zl3_2:=qq.lt
   have Hx3:=hid qq
   have zu3_2:=hm.size
   have Cx4:=hid (show Mod (fun _=>False) wo u3_2 from hm)
   clear hm
   clear act E qq
   refine QSeq.go fun act E=>?_
   have hlz:(cs).length=List.length (vg':List Value):=(by rw [HCL.out];rfl)
   refine Aq rfl (Ac rfl) rfl Hx3.out (off:=0) (vs:=cs) (by rw [hlz];kernel_rfl) HOC.out (by rw [hlz];exact Nat.le_of_eq (Nat.zero_add _)) (E.d 2 0) (ec (E.d 1 1)) ?_
   intro u3_3 qc0 hm
   have qq:=qc0.eqv (b:=(cs:List Value).toArray) (A5 vh' _ (by rw [hlz];rfl))
   clear qc0 hlz
   have Hx5:=hid qq
   have zu3_3:=hm.size
   have HMu3_3:=hid hm
   have Cx6:=hid (Mod.goS (S':=(fun _=>False)) Cx4.out hm (fun _ h=>h) (by intro k h0 h2;(first|omega|(simp only [vg',vh'] at *;omega))))
   clear hm Cx4
   clear act E qq Hx3
   clear HMu3_3
   refine QSeq.nil (t':=[_,_,_,_]) rfl ?_
   obtain rfl:=HA0.out
   clear HA0 oe12 oe14
   simp only [pz,Act.put,sIB,sCZ,sCS,List.set_nil]
   go_upto_region 4 with (fail)
   refine Aa 23 [18,19,20,21] [0,1,2,3] (fun a0 HA0=>?_)
   have oe0:=ev HA0 0 rfl
   have oe2:=ev HA0 2 rfl
   have oe7:=ev HA0 7 rfl
   refine QSeq.pure rfl _ (fun E=>Ai rfl (E.v oe2)) ?_
   refine QSeq.pure rfl _ (fun E=>Ai rfl (E.v oe0)) ?_
   refine QSeq.pure rfl _ (fun E=>Am rfl vf' rfl (off:=0) (cs:=cs) (by rw [HCL.out];kernel_rfl) (E.v oe7) (Cs.whole Hx5.out)) ?_
   refine QSeq.go fun act E=>?_
   have ea19:act.eval (.tmp 19)=.pointer (some ⟨g,0,none⟩):=(E.d 1 1)
   have ea20:act.eval (.tmp 20)=.agg cs.toArray:=(E.d 2 0)
   refine qc_call (args:=#[.pointer (some ⟨g,0,none⟩),.agg cs.toArray]) rfl (Ac rfl) (by rw [ex_callV rfl (E.d 0 2) vi' (by kernel_rfl) (by kernel_rfl)];exact congrArg (fun z=>Result.ok (Next.enter _ z) _) (by simp only [List.map_toArray,List.map_cons,List.map_nil,ea19,ea20];try rfl)) (vj' _ _ _ _ _ _ _ (HW2.out.mod Cx6.out (fun _ _ h=>h)) (by intro k h1;rcases h1 with h1|h1<;>first|(first|omega|(simp only [vg',vh'] at *;omega))|(have hb:=HBR.out k h1;(first|omega|(simp only [vg',vh'] at *;omega)))) (HRD.out.mod Cx6.out (fun _ _ h=>h)) (by intro k h1;have hb:=HBT.out k h1;(first|omega|(simp only [vg',vh'] at *;omega))) (by intro k h1 h2;rcases h1 with h1|h1<;>first|(first|omega|(simp only [vg',vh'] at *;omega))|(have hb:=HBR.out k h1;(first|omega|(simp only [vg',vh'] at *;omega)))|(have hb:=HBT.out k h2;(first|omega|(simp only [vg',vh'] at *;omega)))|exact HDJ.out k h1 h2|exact HDJ.out k h2 h1|(have hb:=HBR.out k h1;have hb2:=HBT.out k h2;(first|omega|(simp only [vg',vh'] at *;omega)))) HLk.out) ?_
   rintro e u4_3 ⟨rfl,qwr,hm⟩
   refine ⟨_,rfl,?_⟩
   have Hx7:=hid (qwr.widen (R':=(fun k=>(R k)∨(New w wo k)∨(New u3_3 u4_3 k))) (by intro k h1;simp only [or_assoc] at h1 ⊢; exact h1) (Nat.le_refl _))
   have zu4_3:=hm.size
   have Cx8:=hid (show Mod (fun k=>(R k)∨(New w wo k)) u3_3 u4_3 from hm)
   clear hm
   clear act E qwr HW2 ea19 ea20
   refine QSeq.nil (t':=[_,_,_,_]) rfl ?_
   obtain rfl:=HA0.out
   clear HA0 oe0 oe2 oe7
   simp only [pz,Act.put,sIB,sCZ,sCS]
   have hq:=Hx7.out
   rw [HE.out] at hq
   have HQ:=Lib.hid hq
   clear hq
   go_wp2
   go_roundw
   case rel=>exact ⟨k+1,by go_num,by (first|omega|(simp only [vg',vh'] at *;omega)),by (first|omega|(simp only [vg',vh'] at *;omega)),(HQ.out.widen (by intro b h1;rcases h1 with h1|h1|h1<;>first|exact Or.inl h1|(right;(first|omega|(simp only [vg',vh'] at *;omega)))) (Nat.le_refl _)),((HS2.out.mod Cx6.out (fun _ _ h=>h)).mod Cx8.out (by intro k h1 h2;rcases h2 with h2|h2<;>first|(first|omega|(simp only [vg',vh'] at *;omega))|(have hb:=HBT.out k h1;(first|omega|(simp only [vg',vh'] at *;omega)))|(have hb:=HBR.out k h2;(first|omega|(simp only [vg',vh'] at *;omega)))|exact HDJ.out k h1 h2|exact HDJ.out k h2 h1|(have hb:=HBT.out k h1;have hb2:=HBR.out k h2;(first|omega|(simp only [vg',vh'] at *;omega))))),((HM2.out.trans Cx6.out (fun _ _ h=>h.elim)).trans Cx8.out (by intro k h1 h2;rcases h2 with h2|h2<;>first|exact h2|(first|omega|(simp only [vg',vh'] at *;omega))|(have hb:=HBR.out k h2;(first|omega|(simp only [vg',vh'] at *;omega)))))⟩
   case measure=>simp [intOf];(first|omega|(simp only [vg',vh'] at *;omega))
  ·have hkk:k=l.length:=by (first|omega|(simp only [vg',vh'] at *;omega))
   subst hkk
   go_wp2
   go_end0
   have hq:=HW2.out
   rw [List.take_length] at hq
   exact ⟨rfl,hq,HM2.out⟩):P:=h
open Go.Proofs renaming Tryz.func132→va',Tryz.ntmps132→vb',Tryz.underlying33→vc',Tryz.underlying32→vf',Tryz.func98→vi' in
open Go.Proofs.YtnaoeginonpicaaGreat renaming stB→vd',StR→ve',PutSt_Q→vj' in
open Go.Gv renaming z'0→vg',z'1→vh' in
set_option maxHeartbeats 4000000 in
theorem PutList_St:PutsL StR 132 98 stB:=
 fm2'
set_option maxHeartbeats 4000000 in
theorem PutCe_Q:Puts CeR 99 ceB:=by
 intro R R2 g bs cs x w hW hB hx hB2 hD hl
 obtain ⟨v_l,rfl,hok,hs0⟩:=hx
 have HS0:=Lib.hid hs0
 clear hs0
 have HW:=Lib.hid hW
 have HBR:=Lib.hid hB
 have HBT:=Lib.hid hB2
 have HDJ:=Lib.hid hD
 have HOK:=Lib.hid hok
 have HL:=Lib.hid hl
 clear hW hB hB2 hD hl hok
 unfold ceB at HL
 go_enter Tryz.func99,Tryz.ntmps99
 go_upto_region 1 with (fail)
 obtain ⟨w1,hw1⟩:∃ zz,zz=(w.alloc (.cells (x.cells v_l:List Value).toArray 35)):=⟨_,rfl⟩
 change Code.wp _ _ _ _ (w.alloc (.cells (x.cells v_l:List Value).toArray 35))
 rw [← hw1]
 have HB3:=hid (show Cs w1 (w.heap.size) (x.cells v_l:List Value).toArray 35 by rw [hw1];exact Cs.new _ _ _)
 have hm:Mod (fun _=>False) w w1:=by rw [hw1];exact (Mod.refl _ _).alloc _
 have HM0:=hid (show Mod (fun k=>(R k)) w w1 from hm.mono (fun _ _ h=>h.elim))
 have hs1:w1.heap.size=w.heap.size+1:=by rw [hw1];simp
 have Hx1:=hid (HW.out.mod hm (fun _ _ h=>h))
 clear HW
 have Hx2:=hid (HS0.out.mod hm (fun _ _ h=>h))
 clear HS0
 clear hw1 hm
 go_upto_region 1 with (fail)
 refine Aa 12 [4,5,6,7] [0,1,2,3] (fun a0 HA0=>?_)
 have oe0:=ev HA0 0 rfl
 have oe3:=ev HA0 3 rfl
 refine QSeq.pure rfl _ (fun E=>Ai rfl (E.v oe0)) ?_
 refine QSeq.pure rfl (.pointer (some ⟨w.heap.size,0,none⟩)) (fun E=>Ad rfl Tryz.underlying35 rfl (by kernel_rfl) (E.v oe3)) ?_
 refine QSeq.pure rfl _ (fun E=>Am rfl Tryz.underlying29 rfl (off:=0) (cs:=x.c.cells) (by rw [Cm.len HOK.out.2.1];exact size_commit) (E.d 1 0) (Cs.midA (pre:=[]) (mid:=x.c.cells) (post:=[v_l]) HB3.out rfl)) ?_
 refine QSeq.call rfl rfl Tryz.func97 (PutCm_Q _ (fun _=>False) _ _ _ _ _ Hx1.out (by intro k h1;have hb:=HBR.out k h1;omega) ⟨rfl,HOK.out⟩ (fun _ h=>h.elim) (fun _ _ h=>h.elim) (by have:=HL.out;simp only [List.length_append] at this ⊢; omega)) (fun E=>Az (E.d 0 2) (E.d 2 0)) ?_
 rintro e u1_3 ⟨rfl,qwr,hm⟩
 refine ⟨_,rfl,?_⟩
 have Hx3:=hid (qwr.widen (R':=(fun k=>(R k)∨(New w1 u1_3 k))) (fun _ h=>h) (Nat.le_refl _))
 have zu1_3:=hm.size
 have Cx4:=hid (show Mod (fun k=>(R k)) w1 u1_3 from hm)
 clear hm
 clear qwr Hx1
 refine QSeq.nil (t':=[_,_,_,_]) rfl ?_
 obtain rfl:=HA0.out
 clear HA0 oe0 oe3
 simp only [pz,Act.put,sIB,sCZ,sCS]
 go_upto_region 2 with (fail)
 refine Aa 12 [8,9,10,11] [0,1,2,3] (fun a0 HA0=>?_)
 have oe0:=ev HA0 0 rfl
 have oe3:=ev HA0 3 rfl
 refine QSeq.pure rfl _ (fun E=>Ai rfl (E.v oe0)) ?_
 refine QSeq.pure rfl (.pointer (some ⟨w.heap.size,37,none⟩)) (fun E=>Ad rfl Tryz.underlying35 rfl (by kernel_rfl) (E.v oe3)) ?_
 refine QSeq.pure rfl _ (fun E=>Aj rfl Tryz.underlying33 rfl (E.d 1 0) (Cs.post1 (pre:=[]) (mid:=x.c.cells) (post:=[v_l]) (m:=37) (k:=0) (HB3.out.mod Cx4.out (by intro h2;first|omega|(have hb:=HBR.out _ h2;omega))) (Cm.len HOK.out.2.1) rfl rfl)) ?_
 refine QSeq.call rfl rfl Tryz.func132 (PutList_St _ _ _ _ _ _ _ Hx3.out (by intro k h1;rcases h1 with h1|h1<;>first|omega|(have hb:=HBR.out k h1;omega)) (Hx2.out.mod Cx4.out (by intro k h1 h2;first|omega|(have hb:=HBT.out k h1;omega)|(have hb:=HBR.out k h2;omega)|exact HDJ.out k h1 h2|exact HDJ.out k h2 h1|(have hb:=HBT.out k h1;have hb2:=HBR.out k h2;omega))) (by intro k h1;have hb:=HBT.out k h1;omega) (by intro k h1 h2;rcases h1 with h1|h1<;>first|omega|(have hb:=HBR.out k h1;omega)|(have hb:=HBT.out k h2;omega)|exact HDJ.out k h1 h2|exact HDJ.out k h2 h1|(have hb:=HBR.out k h1;have hb2:=HBT.out k h2;omega)) (by have:=HL.out;simp only [List.length_append] at this ⊢; omega)) (fun E=>args3 (E.d 0 2) (E.d 2 0) rfl) ?_
 rintro e u2_3 ⟨rfl,qwr,hm⟩
 refine ⟨_,rfl,?_⟩
 have Hx5:=hid (qwr.widen (R':=(fun k=>(R k)∨(New w1 u1_3 k)∨(New u1_3 u2_3 k))) (by intro k h1;simp only [or_assoc] at h1 ⊢; exact h1) (Nat.le_refl _))
 have zu2_3:=hm.size
 have Cx6:=hid (show Mod (fun k=>(R k)∨(New w1 u1_3 k)) u1_3 u2_3 from hm)
 clear hm
 clear qwr Hx3
 refine QSeq.nil (t':=[_,_,_,_]) rfl ?_
 obtain rfl:=HA0.out
 clear HA0 oe0 oe3
 simp only [pz,Act.put,sIB,sCZ,sCS]
 go_wp2
 go_end0
 have hq:=(Hx5.out.widen (R':=(fun k=>R k∨New w u2_3 k)) (by intro k h1;rcases h1 with h1|h1|h1<;>first|exact Or.inl h1|(right;omega)) (Nat.le_refl _))
 simp only [List.append_assoc] at hq
 exact ⟨rfl,by simpa only [ceB,List.append_assoc] using hq,((HM0.out.trans Cx4.out (fun _ _ h=>h)).trans Cx6.out (by intro k h1 h2;rcases h2 with h2|h2<;>first|exact h2|omega|(have hb:=HBR.out k h2;omega)))⟩
end Go.Proofs.YtnaoeginonpicaaGreat

/- Parts of messages, put as bytes. -/
namespace Go.Proofs.YtnaoeginonpicaaGreat
open Go Go.RowKit Go.Gv
set_option maxHeartbeats 4000000 in
theorem PutDn_Q:Puts DnR 106 dnB:=by
 intro R R2 g bs cs x w hW hB hx hB2 hD hl
 obtain ⟨rfl,hok⟩:=hx
 have HW:=Lib.hid hW
 have HBR:=Lib.hid hB
 have HBT:=Lib.hid hB2
 have HDJ:=Lib.hid hD
 have HOK:=Lib.hid hok
 have HL:=Lib.hid hl
 clear hW hB hB2 hD hl hok
 unfold dnB at HL
 go_enter Tryz.func106,Tryz.ntmps106
 go_upto_region 1 with (fail)
 obtain ⟨w1,hw1⟩:∃ zz,zz=(w.alloc (.cells (x.cells:List Value).toArray 56)):=⟨_,rfl⟩
 change Code.wp _ _ _ _ (w.alloc (.cells (x.cells:List Value).toArray 56))
 rw [← hw1]
 have HB3:=hid (show Cs w1 (w.heap.size) (x.cells:List Value).toArray 56 by rw [hw1];exact Cs.new _ _ _)
 have hm:Mod (fun _=>False) w w1:=by rw [hw1];exact (Mod.refl _ _).alloc _
 have HM0:=hid (show Mod (fun k=>(R k)) w w1 from hm.mono (fun _ _ h=>h.elim))
 have hs1:w1.heap.size=w.heap.size+1:=by rw [hw1];simp
 have Hx1:=hid (HW.out.mod hm (fun _ _ h=>h))
 clear HW
 clear hw1 hm
 go_upto_region 1 with (fail)
 generalize ha0:Act.mk _ _=a0
 have oe0:a0.eval (.tmp 0)=.pointer (some ⟨g,0,none⟩):=by rw [← ha0];rfl
 have oe3:a0.eval (.tmp 3)=.pointer (some ⟨w.heap.size,0,none⟩):=by rw [← ha0];rfl
 have hsz0:a0.tmps.size=15:=by rw [← ha0];rfl
 have HA0:=hid ha0
 clear ha0
 refine A3 15 hsz0 [4,5,6,7,8,9,10] (fun k=>(R k)) (fun k j=>(k=0∧((R j)))∨(k=1∧((R j)))) (by intro k j h;(try dsimp only at h ⊢);rcases h with ⟨-,h⟩|⟨-,h⟩;(exact h);(exact h)) [qi (.pointer (some ⟨g,0,none⟩)),qi (.pointer (some ⟨w.heap.size,0,none⟩)),qi (.int .i64 x.rp),qi (.pointer (some ⟨g,0,none⟩)),qi (.pointer (some ⟨w.heap.size,1,none⟩)),qi (.int .i64 x.ix),qi (.pointer (some ⟨g,0,none⟩))] ⟨Ab,Ab,Ab,Ab,Ab,Ab,Ab,trivial⟩ [3,6] ⟨?_,?_,?_,?_,?_,?_,?_,trivial⟩ ?_
 ·exact stq (fun E=>Ai rfl (E.v oe0))
 ·exact stq (fun E=>Ad rfl Tryz.underlying56 rfl (by kernel_rfl) (E.v oe3))
 ·exact stq (fun E=>Aj rfl Tryz.underlying3 rfl (E.d 1) (Cs.lit1 (HB3.out.mod E.m (by intro h2;rcases h2 with ⟨h0,h2⟩|h2<;>first|omega|(have hb:=HBR.out _ h2;omega))) rfl))
 ·exact Ah rfl
 ·exact stq (fun E=>Ad rfl Tryz.underlying56 rfl (by kernel_rfl) (E.v oe3))
 ·exact stq (fun E=>Aj rfl Tryz.underlying3 rfl (E.d 4) (Cs.lit1 (HB3.out.mod E.m (by intro h2;rcases h2 with ⟨h0,h2⟩|h2<;>first|omega|(have hb:=HBR.out _ h2;omega))) rfl))
 ·exact Ah rfl
 intro u1_0 hr
 have zu1_0:=hr.size
 have Cx2:=hid (hr.new (S:=(fun k=>(R k))))
 have Hx3:=hid (Hx1.out.mod hr (by intro k h1 h2;have hb:=HBR.out k h1;omega))
 clear Hx1
 clear hr
 refine QChain.go fun Z act E=>?_
 refine Ap (args:=#[.pointer (some ⟨g,0,none⟩),.int .i64 x.rp]) rfl (Ac rfl) rfl Tryz.func67 (Az (E.d 0) (E.d 2)) (Bo Hx3.out HOK.out.rp (by have:=HL.out;simp only [List.length_append] at this ⊢; omega)) ?_
 rintro e u1_1a ⟨rfl,qwr,hm⟩
 have zu1_1a:=hm.size
 refine ⟨_,rfl,hm.mono (by intro k hk h;first|omega|exact Or.inl ⟨(by have hb:=HBR.out k h;omega),Or.inl ⟨rfl,h⟩⟩),(fun _=>rfl),?_⟩
 intro u1_1 hr
 have zu1_1:=hr.size
 have Hx4:=hid ((qwr.widen (R':=(fun k=>(R k)∨(New u1_0 u1_1a k))) (fun _ h=>h) (Nat.le_refl _)).mod hr (by intro k h1 h2;rcases h1 with h1|h1<;>first|omega|(have hb:=HBR.out k h1;omega)))
 have Cx5:=hid (Cx2.out.goM hm hr (fun _ _ h=>h))
 clear Cx2 hm hr Z act E qwr Hx3
 refine QChain.go fun Z act E=>?_
 refine Ap (args:=#[.pointer (some ⟨g,0,none⟩),.int .i64 x.ix]) rfl (Ac rfl) rfl Tryz.func67 (Az (E.d 3) (E.d 5)) (Bo Hx4.out HOK.out.ix (by have:=HL.out;simp only [List.length_append] at this ⊢; omega)) ?_
 rintro e u1_2a ⟨rfl,qwr,hm⟩
 have zu1_2a:=hm.size
 refine ⟨_,rfl,hm.mono (by intro k hk h;rcases h with h|h<;>first|omega|exact Or.inl ⟨(by have hb:=HBR.out k h;omega),Or.inr (⟨rfl,h⟩)⟩),(fun _=>rfl),?_⟩
 intro u1_2 hr
 have zu1_2:=hr.size
 have Hx6:=hid ((qwr.widen (R':=(fun k=>(R k)∨(New u1_0 u1_1a k)∨(New u1_1 u1_2a k))) (by intro k h1;simp only [or_assoc] at h1 ⊢; exact h1) (Nat.le_refl _)).mod hr (by intro k h1 h2;rcases h1 with h1|h1|h1<;>first|omega|(have hb:=HBR.out k h1;omega)))
 have Cx7:=hid (Cx5.out.goM hm hr (by intro k h0 h2;rcases h2 with h2|h2<;>first|omega|exact h2))
 clear Cx5 hm hr Z act E qwr Hx4
 refine QChain.nil fun vs hl hzz hrows hne=>?_
 obtain ⟨Z,hYZ,hZb,hV⟩:=hzz
 have f0:=fvi hV hl 0
 have f3:=fvi hV hl 3
 have f6:=fvi hV hl 6
 rw [show vs=[gw vs 0,gw vs 1,gw vs 2,gw vs 3,gw vs 4,gw vs 5,gw vs 6] from (Be hl).trans rfl]
 have ha0:=HA0.out
 subst ha0
 clear HA0 hV hYZ hZb hsz0 hrows hne oe0 oe3
 simp only [Au,Act.put,sIB,sCZ,sCS,f0,f3,f6]
 clear hl f0 f3 f6
 go_upto_region 2 with (fail)
 refine Aa 15 [11,12,13,14] [0,1,2,3] (fun a0 HA0=>?_)
 have oe0:=ev HA0 0 rfl
 have oe3:=ev HA0 3 rfl
 refine QSeq.pure rfl _ (fun E=>Ai rfl (E.v oe0)) ?_
 refine QSeq.pure rfl (.pointer (some ⟨w.heap.size,2,none⟩)) (fun E=>Ad rfl Tryz.underlying56 rfl (by kernel_rfl) (E.v oe3)) ?_
 refine QSeq.pure rfl _ (fun E=>Am rfl Tryz.underlying27 rfl (off:=2) (cs:=[.int .i64 x.sb,.int .i64 x.mr]) (by kernel_rfl) (E.d 1 0) (Cs.litA (HB3.out.mod Cx7.out (by intro h2;first|omega|(have hb:=HBR.out _ h2;omega))) rfl)) ?_
 refine QSeq.call rfl rfl Tryz.func131 (PutSig_Q Hx6.out (by intro k h1;rcases h1 with h1|h1|h1<;>first|omega|(have hb:=HBR.out k h1;omega)) HOK.out.sb HOK.out.mr (by have:=HL.out;simp only [List.length_append] at this ⊢; omega)) (fun E=>Az (E.d 0 2) (E.d 2 0)) ?_
 rintro e u2_3 ⟨rfl,qwr,hm⟩
 refine ⟨_,rfl,?_⟩
 have Hx8:=hid (qwr.widen (R':=(fun k=>(R k)∨(New u1_0 u1_1a k)∨(New u1_1 u1_2a k)∨(New u1_2 u2_3 k))) (by intro k h1;simp only [or_assoc] at h1 ⊢; exact h1) (Nat.le_refl _))
 have zu2_3:=hm.size
 have Cx9:=hid (show Mod (fun k=>(R k)∨(New u1_0 u1_1a k)∨(New u1_1 u1_2a k)) u1_2 u2_3 from hm)
 clear hm
 clear qwr Hx6
 refine QSeq.nil (t':=[_,_,_,_]) rfl ?_
 obtain rfl:=HA0.out
 clear HA0 oe0 oe3
 simp only [pz,Act.put,sIB,sCZ,sCS]
 go_wp2
 go_end0
 have hq:=(Hx8.out.widen (R':=(fun k=>R k∨New w u2_3 k)) (by intro k h1;rcases h1 with h1|h1|h1|h1<;>first|exact Or.inl h1|(right;omega)) (Nat.le_refl _))
 simp only [List.append_assoc] at hq
 exact ⟨rfl,by simpa only [dnB,List.append_assoc] using hq,((HM0.out.trans Cx7.out (fun _ _ h=>h)).trans Cx9.out (by intro k h1 h2;rcases h2 with h2|h2|h2<;>first|exact h2|omega|(have hb:=HBR.out k h2;omega)))⟩
theorem fm7' {P:Prop} (h:P:=by
 intro R R2 g bs v l w hW hB hs hB2 hD hl
 obtain ⟨ao,cap,rfl⟩:=hs.shape
 have hb64:l.length≤maxLen:=hs.bd
 rw [Ax] at hb64
 have HI64:=hid (show I64 (l.length:Int) by unfold I64;(first|omega|(simp only [vf',vh',vi'] at *;omega)))
 have HW:=Lib.hid hW
 have HS:=Lib.hid hs
 have HBR:=Lib.hid hB
 have HBT:=Lib.hid hB2
 have HDJ:=Lib.hid hD
 have HL:=Lib.hid hl
 clear hW hB hs hB2 hD hl
 unfold listB at HL
 go_enter va',vb'
 go_upto_region 0 with (fail)
 have HM0:=hid (Mod.refl (fun k=>(R k)) w)
 go_upto_region 0 with (fail)
 refine Aa 23 [8,9,10,11] [0,1,2,3] (fun a0 HA0=>?_)
 have oe0:=ev HA0 0 rfl
 have oe1:=ev HA0 1 rfl
 refine QSeq.pure rfl _ (fun E=>Ai rfl (E.v oe0)) ?_
 refine QSeq.pure rfl _ (fun E=>Ai rfl (E.v oe1)) ?_
 refine QSeq.pure rfl (.int .i64 l.length) (fun E=>A0 rfl (E.d 1 0) vc') ?_
 refine QSeq.call rfl rfl Tryz.func67 (Bo HW.out HI64.out (by have:=HL.out;simp only [List.length_append] at this ⊢; (first|omega|(simp only [vf',vh',vi'] at *;omega)))) (fun E=>Az (E.d 0 2) (E.d 2 0)) ?_
 rintro e u0_3 ⟨rfl,qwr,hm⟩
 refine ⟨_,rfl,?_⟩
 have Hx1:=hid (qwr.widen (R':=(fun k=>(R k)∨(New w u0_3 k))) (fun _ h=>h) (Nat.le_refl _))
 have zu0_3:=hm.size
 have Cx2:=hid (show Mod (fun k=>(R k)) w u0_3 from hm)
 clear hm
 clear qwr HW
 refine QSeq.nil (t':=[_,_,_,_]) rfl ?_
 obtain rfl:=HA0.out
 clear HA0 oe0 oe1
 simp only [pz,Act.put,sIB,sCZ,sCS]
 go_wp2
 go_loopw [14] (fun t wr=>∃ k:Nat,t=.int .i64 (k:Int)∧k≤l.length∧u0_3.heap.size≤wr.heap.size∧WrR (fun b=>R b∨(w.heap.size≤b∧b < wr.heap.size)) 900000 wr g (bs ++ (encI l.length ++ ((l.take k).map vd').flatten))∧RdS ve' R2 wr (.slice ao l.length cap) l∧Mod R w wr) (fun t _=>l.length - (intOf t).toNat)
 case atStart=>exact ⟨0,rfl,Nat.zero_le _,Nat.le_refl _,by have hq:=(Hx1.out.widen (R':=(fun k=>R k∨(w.heap.size≤k∧k < u0_3.heap.size))) (by intro k h1;rcases h1 with h1|h1<;>first|exact Or.inl h1|(right;(first|omega|(simp only [vf',vh',vi'] at *;omega)))) (Nat.le_refl _));simpa only [List.take_zero,List.map_nil,List.flatten_nil,List.append_nil] using hq,(HS.out.mod Cx2.out (by intro k h1 h2;first|(first|omega|(simp only [vf',vh',vi'] at *;omega))|(have hb:=HBT.out k h1;(first|omega|(simp only [vf',vh',vi'] at *;omega)))|(have hb:=HBR.out k h2;(first|omega|(simp only [vf',vh',vi'] at *;omega)))|exact HDJ.out k h1 h2|exact HDJ.out k h2 h1|(have hb:=HBT.out k h1;have hb2:=HBR.out k h2;(first|omega|(simp only [vf',vh',vi'] at *;omega))))),(HM0.out.trans Cx2.out (fun _ _ h=>h))⟩
 case round=>
  obtain ⟨k,rfl,hk,hz,hw,hs,hm⟩:=hrel
  have HW2:=Lib.hid hw
  have HS2:=Lib.hid hs
  have HM2:=Lib.hid hm
  clear hw hs hm Hx1 HS HM0
  obtain ⟨wo,rfl⟩:∃ x,x=wr:=⟨_,rfl⟩
  by_cases hlt:k < l.length
  ·skip
   obtain ⟨g0,o0,cs,rfl,hrg,hrd,hcs⟩:=HS2.out.at hlt
   have hcl:cs.length=vf':=ve'.len hrd
   have HCL:=Lib.hid hcl
   have HAT:=hid (show CellsAt R2 wo g0 (o0+k * vf') cs from ⟨hrg,hcs⟩)
   have HRD:=Lib.hid hrd
   have HOC:=hid (ve'.one hrd)
   clear hcl hcs hrd hrg
   have HE:Hid (bs ++ (encI l.length ++ ((l.take k).map vd').flatten) ++ vd' l[k]=bs ++ (encI l.length ++ ((l.take (k+1)).map vd').flatten)):=hid (by rw [List.take_succ_eq_append_getElem hlt,List.map_append,List.flatten_append];simp [List.append_assoc])
   have HLk:=hid (show (bs ++ (encI l.length ++ ((l.take k).map vd').flatten) ++ vd' l[k]).length≤900000 by rw [HE.out];exact Nat.le_trans (put_len _ _ _ _ _) HL.out)
   go_upto_region 3 with (fail)
   refine Aa 23 [16,17,7,26] [0,1,2,3] (fun a0 HA0=>?_)
   have oe12:=ev HA0 12 rfl
   have oe14:=ev HA0 14 rfl
   refine QSeq.pure rfl (.pointer (some ⟨g0,o0+k * vf',none⟩)) (fun E=>Bk (i:=k) (s:=vf') rfl vc' (by kernel_rfl) (E.v oe12) (E.v oe14) (by (first|omega|(simp only [vf',vh',vi'] at *;omega)))) ?_
   refine QSeq.pure rfl _ (fun E=>Am rfl vg' rfl (off:=o0+k * vf') (cs:=cs) (by rw [HCL.out];kernel_rfl) (E.d 0 0) (fun j u hu=>(HAT.out).2 j u hu)) ?_
   refine QSeq.go fun act E=>?_
   refine qc_alloc rfl (Ac rfl) rfl (z:=vh') (by kernel_rfl) ?_
   intro u3_2 qq hm
   have zl3_2:=qq.lt
   have Hx3:=hid qq
   have zu3_2:=hm.size
   have Cx4:=hid (show Mod (fun _=>False) wo u3_2 from hm)
   clear hm
   clear act E qq
   refine QSeq.go fun act E=>?_
   have hlz:(cs).length=List.length (vh':List Value):=(by rw [HCL.out];rfl)
   refine Aq rfl (Ac rfl) rfl Hx3.out (off:=0) (vs:=cs) (by rw [hlz];kernel_rfl) HOC.out (by rw [hlz];exact Nat.le_of_eq (Nat.zero_add _)) (E.d 2 0) (ec (E.d 1 1)) ?_
   intro u3_3 qc0 hm
   have qq:=qc0.eqv (b:=(cs:List Value).toArray) (A5 vi' _ (by rw [hlz];rfl))
   clear qc0 hlz
   have Hx5:=hid qq
   have zu3_3:=hm.size
   have HMu3_3:=hid hm
   have Cx6:=hid (Mod.goS (S':=(fun _=>False)) Cx4.out hm (fun _ h=>h) (by intro k h0 h2;(first|omega|(simp only [vf',vh',vi'] at *;omega))))
   clear hm Cx4
   clear act E qq Hx3
   clear HMu3_3
   refine QSeq.nil (t':=[_,_,_,_]) rfl ?_
   obtain rfl:=HA0.out
   clear HA0 oe12 oe14
   simp only [pz,Act.put,sIB,sCZ,sCS,List.set_nil]
   go_upto_region 4 with (fail)
   refine Aa 23 [18,19,20,21] [0,1,2,3] (fun a0 HA0=>?_)
   have oe0:=ev HA0 0 rfl
   have oe2:=ev HA0 2 rfl
   have oe7:=ev HA0 7 rfl
   refine QSeq.pure rfl _ (fun E=>Ai rfl (E.v oe2)) ?_
   refine QSeq.pure rfl _ (fun E=>Ai rfl (E.v oe0)) ?_
   refine QSeq.pure rfl _ (fun E=>Am rfl vg' rfl (off:=0) (cs:=cs) (by rw [HCL.out];kernel_rfl) (E.v oe7) (Cs.whole Hx5.out)) ?_
   refine QSeq.go fun act E=>?_
   have ea19:act.eval (.tmp 19)=.pointer (some ⟨g,0,none⟩):=(E.d 1 1)
   have ea20:act.eval (.tmp 20)=.agg cs.toArray:=(E.d 2 0)
   refine qc_call (args:=#[.pointer (some ⟨g,0,none⟩),.agg cs.toArray]) rfl (Ac rfl) (by rw [ex_callV rfl (E.d 0 2) vj' (by kernel_rfl) (by kernel_rfl)];exact congrArg (fun z=>Result.ok (Next.enter _ z) _) (by simp only [List.map_toArray,List.map_cons,List.map_nil,ea19,ea20];try rfl)) (vk' _ _ _ _ _ _ _ (HW2.out.mod Cx6.out (fun _ _ h=>h)) (by intro k h1;rcases h1 with h1|h1<;>first|(first|omega|(simp only [vf',vh',vi'] at *;omega))|(have hb:=HBR.out k h1;(first|omega|(simp only [vf',vh',vi'] at *;omega)))) (HRD.out.mod Cx6.out (fun _ _ h=>h)) (by intro k h1;have hb:=HBT.out k h1;(first|omega|(simp only [vf',vh',vi'] at *;omega))) (by intro k h1 h2;rcases h1 with h1|h1<;>first|(first|omega|(simp only [vf',vh',vi'] at *;omega))|(have hb:=HBR.out k h1;(first|omega|(simp only [vf',vh',vi'] at *;omega)))|(have hb:=HBT.out k h2;(first|omega|(simp only [vf',vh',vi'] at *;omega)))|exact HDJ.out k h1 h2|exact HDJ.out k h2 h1|(have hb:=HBR.out k h1;have hb2:=HBT.out k h2;(first|omega|(simp only [vf',vh',vi'] at *;omega)))) HLk.out) ?_
   rintro e u4_3 ⟨rfl,qwr,hm⟩
   refine ⟨_,rfl,?_⟩
   have Hx7:=hid (qwr.widen (R':=(fun k=>(R k)∨(New w wo k)∨(New u3_3 u4_3 k))) (by intro k h1;simp only [or_assoc] at h1 ⊢; exact h1) (Nat.le_refl _))
   have zu4_3:=hm.size
   have Cx8:=hid (show Mod (fun k=>(R k)∨(New w wo k)) u3_3 u4_3 from hm)
   clear hm
   clear act E qwr HW2 ea19 ea20
   refine QSeq.nil (t':=[_,_,_,_]) rfl ?_
   obtain rfl:=HA0.out
   clear HA0 oe0 oe2 oe7
   simp only [pz,Act.put,sIB,sCZ,sCS]
   have hq:=Hx7.out
   rw [HE.out] at hq
   have HQ:=Lib.hid hq
   clear hq
   go_wp2
   go_roundw
   case rel=>exact ⟨k+1,by go_num,by (first|omega|(simp only [vf',vh',vi'] at *;omega)),by (first|omega|(simp only [vf',vh',vi'] at *;omega)),(HQ.out.widen (by intro b h1;rcases h1 with h1|h1|h1<;>first|exact Or.inl h1|(right;(first|omega|(simp only [vf',vh',vi'] at *;omega)))) (Nat.le_refl _)),((HS2.out.mod Cx6.out (fun _ _ h=>h)).mod Cx8.out (by intro k h1 h2;rcases h2 with h2|h2<;>first|(first|omega|(simp only [vf',vh',vi'] at *;omega))|(have hb:=HBT.out k h1;(first|omega|(simp only [vf',vh',vi'] at *;omega)))|(have hb:=HBR.out k h2;(first|omega|(simp only [vf',vh',vi'] at *;omega)))|exact HDJ.out k h1 h2|exact HDJ.out k h2 h1|(have hb:=HBT.out k h1;have hb2:=HBR.out k h2;(first|omega|(simp only [vf',vh',vi'] at *;omega))))),((HM2.out.trans Cx6.out (fun _ _ h=>h.elim)).trans Cx8.out (by intro k h1 h2;rcases h2 with h2|h2<;>first|exact h2|(first|omega|(simp only [vf',vh',vi'] at *;omega))|(have hb:=HBR.out k h2;(first|omega|(simp only [vf',vh',vi'] at *;omega)))))⟩
   case measure=>simp [intOf];(first|omega|(simp only [vf',vh',vi'] at *;omega))
  ·have hkk:k=l.length:=by (first|omega|(simp only [vf',vh',vi'] at *;omega))
   subst hkk
   go_wp2
   go_end0
   have hq:=HW2.out
   rw [List.take_length] at hq
   exact ⟨rfl,hq,HM2.out⟩):P:=h
open Go.Proofs renaming Tryz.func146→va',Tryz.ntmps146→vb',Tryz.underlying125→vc',Tryz.underlying56→vg',Tryz.func106→vj' in
open Go.Proofs.YtnaoeginonpicaaGreat renaming dnB→vd',DnR→ve',PutDn_Q→vk' in
open Go.Gv renaming n'4→vf',z'15→vh',z'9→vi' in
set_option maxHeartbeats 4000000 in
theorem PutList_Dn:PutsL DnR 146 106 dnB:=
 fm7'
set_option maxHeartbeats 4000000 in
theorem PutTb_Q:Puts TbR 137 tbB:=by
 intro R R2 g bs cs x w hW hB hx hB2 hD hl
 obtain ⟨v_l,rfl,hok,hs0⟩:=hx
 have HS0:=Lib.hid hs0
 clear hs0
 have HW:=Lib.hid hW
 have HBR:=Lib.hid hB
 have HBT:=Lib.hid hB2
 have HDJ:=Lib.hid hD
 have HOK:=Lib.hid hok
 have HL:=Lib.hid hl
 clear hW hB hB2 hD hl hok
 unfold tbB at HL
 go_enter Tryz.func137,Tryz.ntmps137
 go_upto_region 1 with (fail)
 obtain ⟨w1,hw1⟩:∃ zz,zz=(w.alloc (.cells (x.cells v_l:List Value).toArray 127)):=⟨_,rfl⟩
 change Code.wp _ _ _ _ (w.alloc (.cells (x.cells v_l:List Value).toArray 127))
 rw [← hw1]
 have HB3:=hid (show Cs w1 (w.heap.size) (x.cells v_l:List Value).toArray 127 by rw [hw1];exact Cs.new _ _ _)
 have hm:Mod (fun _=>False) w w1:=by rw [hw1];exact (Mod.refl _ _).alloc _
 have HM0:=hid (show Mod (fun k=>(R k)) w w1 from hm.mono (fun _ _ h=>h.elim))
 have hs1:w1.heap.size=w.heap.size+1:=by rw [hw1];simp
 have Hx1:=hid (HW.out.mod hm (fun _ _ h=>h))
 clear HW
 have Hx2:=hid (HS0.out.mod hm (fun _ _ h=>h))
 clear HS0
 clear hw1 hm
 go_upto_region 1 with (fail)
 refine Aa 12 [4,5,6,7] [0,1,2,3] (fun a0 HA0=>?_)
 have oe0:=ev HA0 0 rfl
 have oe3:=ev HA0 3 rfl
 refine QSeq.pure rfl _ (fun E=>Ai rfl (E.v oe0)) ?_
 refine QSeq.pure rfl (.pointer (some ⟨w.heap.size,0,none⟩)) (fun E=>Ad rfl Tryz.underlying127 rfl (by kernel_rfl) (E.v oe3)) ?_
 refine QSeq.pure rfl _ (fun E=>Aj rfl Tryz.underlying3 rfl (E.d 1 0) (Cs.lit1 HB3.out rfl)) ?_
 refine QSeq.call rfl rfl Tryz.func67 (Bo Hx1.out HOK.out (by have:=HL.out;simp only [List.length_append] at this ⊢; omega)) (fun E=>Az (E.d 0 2) (E.d 2 0)) ?_
 rintro e u1_3 ⟨rfl,qwr,hm⟩
 refine ⟨_,rfl,?_⟩
 have Hx3:=hid (qwr.widen (R':=(fun k=>(R k)∨(New w1 u1_3 k))) (fun _ h=>h) (Nat.le_refl _))
 have zu1_3:=hm.size
 have Cx4:=hid (show Mod (fun k=>(R k)) w1 u1_3 from hm)
 clear hm
 clear qwr Hx1
 refine QSeq.nil (t':=[_,_,_,_]) rfl ?_
 obtain rfl:=HA0.out
 clear HA0 oe0 oe3
 simp only [pz,Act.put,sIB,sCZ,sCS]
 go_upto_region 2 with (fail)
 refine Aa 12 [8,9,10,11] [0,1,2,3] (fun a0 HA0=>?_)
 have oe0:=ev HA0 0 rfl
 have oe3:=ev HA0 3 rfl
 refine QSeq.pure rfl _ (fun E=>Ai rfl (E.v oe0)) ?_
 refine QSeq.pure rfl (.pointer (some ⟨w.heap.size,1,none⟩)) (fun E=>Ad rfl Tryz.underlying127 rfl (by kernel_rfl) (E.v oe3)) ?_
 refine QSeq.pure rfl _ (fun E=>Aj rfl Tryz.underlying125 rfl (E.d 1 0) (Cs.lit1 (HB3.out.mod Cx4.out (by intro h2;first|omega|(have hb:=HBR.out _ h2;omega))) rfl)) ?_
 refine QSeq.call rfl rfl Tryz.func146 (PutList_Dn _ _ _ _ _ _ _ Hx3.out (by intro k h1;rcases h1 with h1|h1<;>first|omega|(have hb:=HBR.out k h1;omega)) (Hx2.out.mod Cx4.out (by intro k h1 h2;first|omega|(have hb:=HBT.out k h1;omega)|(have hb:=HBR.out k h2;omega)|exact HDJ.out k h1 h2|exact HDJ.out k h2 h1|(have hb:=HBT.out k h1;have hb2:=HBR.out k h2;omega))) (by intro k h1;have hb:=HBT.out k h1;omega) (by intro k h1 h2;rcases h1 with h1|h1<;>first|omega|(have hb:=HBR.out k h1;omega)|(have hb:=HBT.out k h2;omega)|exact HDJ.out k h1 h2|exact HDJ.out k h2 h1|(have hb:=HBR.out k h1;have hb2:=HBT.out k h2;omega)) (by have:=HL.out;simp only [List.length_append] at this ⊢; omega)) (fun E=>args3 (E.d 0 2) (E.d 2 0) rfl) ?_
 rintro e u2_3 ⟨rfl,qwr,hm⟩
 refine ⟨_,rfl,?_⟩
 have Hx5:=hid (qwr.widen (R':=(fun k=>(R k)∨(New w1 u1_3 k)∨(New u1_3 u2_3 k))) (by intro k h1;simp only [or_assoc] at h1 ⊢; exact h1) (Nat.le_refl _))
 have zu2_3:=hm.size
 have Cx6:=hid (show Mod (fun k=>(R k)∨(New w1 u1_3 k)) u1_3 u2_3 from hm)
 clear hm
 clear qwr Hx3
 refine QSeq.nil (t':=[_,_,_,_]) rfl ?_
 obtain rfl:=HA0.out
 clear HA0 oe0 oe3
 simp only [pz,Act.put,sIB,sCZ,sCS]
 go_wp2
 go_end0
 have hq:=(Hx5.out.widen (R':=(fun k=>R k∨New w u2_3 k)) (by intro k h1;rcases h1 with h1|h1|h1<;>first|exact Or.inl h1|(right;omega)) (Nat.le_refl _))
 simp only [List.append_assoc] at hq
 exact ⟨rfl,by simpa only [tbB,List.append_assoc] using hq,((HM0.out.trans Cx4.out (fun _ _ h=>h)).trans Cx6.out (by intro k h1 h2;rcases h2 with h2|h2<;>first|exact h2|omega|(have hb:=HBR.out k h2;omega)))⟩
set_option maxHeartbeats 4000000 in
theorem PutList_Tb:PutsL TbR 136 137 tbB:=by
 intro R R2 g bs v l w hW hB hs hB2 hD hl
 obtain ⟨ao,cap,rfl⟩:=hs.shape
 have hb64:l.length≤maxLen:=hs.bd
 rw [Ax] at hb64
 have HI64:=hid (show I64 (l.length:Int) by unfold I64;omega)
 have HW:=Lib.hid hW
 have HS:=Lib.hid hs
 have HBR:=Lib.hid hB
 have HBT:=Lib.hid hB2
 have HDJ:=Lib.hid hD
 have HL:=Lib.hid hl
 clear hW hB hs hB2 hD hl
 unfold listB at HL
 go_enter Tryz.func136,Tryz.ntmps136
 go_upto_region 0 with (fail)
 have HM0:=hid (Mod.refl (fun k=>(R k)) w)
 go_upto_region 0 with (fail)
 refine Aa 23 [8,9,10,11] [0,1,2,3] (fun a0 HA0=>?_)
 have oe0:=ev HA0 0 rfl
 have oe1:=ev HA0 1 rfl
 refine QSeq.pure rfl _ (fun E=>Ai rfl (E.v oe0)) ?_
 refine QSeq.pure rfl _ (fun E=>Ai rfl (E.v oe1)) ?_
 refine QSeq.pure rfl (.int .i64 l.length) (fun E=>A0 rfl (E.d 1 0) Tryz.underlying43) ?_
 refine QSeq.call rfl rfl Tryz.func67 (Bo HW.out HI64.out (by have:=HL.out;simp only [List.length_append] at this ⊢; omega)) (fun E=>Az (E.d 0 2) (E.d 2 0)) ?_
 rintro e u0_3 ⟨rfl,qwr,hm⟩
 refine ⟨_,rfl,?_⟩
 have Hx1:=hid (qwr.widen (R':=(fun k=>(R k)∨(New w u0_3 k))) (fun _ h=>h) (Nat.le_refl _))
 have zu0_3:=hm.size
 have Cx2:=hid (show Mod (fun k=>(R k)) w u0_3 from hm)
 clear hm
 clear qwr HW
 refine QSeq.nil (t':=[_,_,_,_]) rfl ?_
 obtain rfl:=HA0.out
 clear HA0 oe0 oe1
 simp only [pz,Act.put,sIB,sCZ,sCS]
 go_wp2
 go_loopw [14] (fun t wr=>∃ k:Nat,t=.int .i64 (k:Int)∧k≤l.length∧u0_3.heap.size≤wr.heap.size∧WrR (fun b=>R b∨(w.heap.size≤b∧b < wr.heap.size)) 900000 wr g (bs ++ (encI l.length ++ ((l.take k).map tbB).flatten))∧RdS TbR R2 wr (.slice ao l.length cap) l∧Mod R w wr) (fun t _=>l.length - (intOf t).toNat)
 case atStart=>exact ⟨0,rfl,Nat.zero_le _,Nat.le_refl _,by have hq:=(Hx1.out.widen (R':=(fun k=>R k∨(w.heap.size≤k∧k < u0_3.heap.size))) (by intro k h1;rcases h1 with h1|h1<;>first|exact Or.inl h1|(right;omega)) (Nat.le_refl _));simpa only [List.take_zero,List.map_nil,List.flatten_nil,List.append_nil] using hq,(HS.out.mod Cx2.out (by intro k h1 h2;first|omega|(have hb:=HBT.out k h1;omega)|(have hb:=HBR.out k h2;omega)|exact HDJ.out k h1 h2|exact HDJ.out k h2 h1|(have hb:=HBT.out k h1;have hb2:=HBR.out k h2;omega))),(HM0.out.trans Cx2.out (fun _ _ h=>h))⟩
 case round=>
  obtain ⟨k,rfl,hk,hz,hw,hs,hm⟩:=hrel
  have HW2:=Lib.hid hw
  have HS2:=Lib.hid hs
  have HM2:=Lib.hid hm
  clear hw hs hm Hx1 HS HM0
  obtain ⟨wo,rfl⟩:∃ x,x=wr:=⟨_,rfl⟩
  by_cases hlt:k < l.length
  ·skip
   obtain ⟨g0,o0,cs,rfl,hrg,hrd,hcs⟩:=HS2.out.at hlt
   have hcl:cs.length=2:=TbR.len hrd
   have HCL:=Lib.hid hcl
   have HAT:=hid (show CellsAt R2 wo g0 (o0+k * 2) cs from ⟨hrg,hcs⟩)
   have HRD:=Lib.hid hrd
   have HOC:=hid (TbR.one hrd)
   clear hcl hcs hrd hrg
   have HE:Hid (bs ++ (encI l.length ++ ((l.take k).map tbB).flatten) ++ tbB l[k]=bs ++ (encI l.length ++ ((l.take (k+1)).map tbB).flatten)):=hid (by rw [List.take_succ_eq_append_getElem hlt,List.map_append,List.flatten_append];simp [List.append_assoc])
   have HLk:=hid (show (bs ++ (encI l.length ++ ((l.take k).map tbB).flatten) ++ tbB l[k]).length≤900000 by rw [HE.out];exact Nat.le_trans (put_len _ _ _ _ _) HL.out)
   go_upto_region 3 with (fail)
   refine Aa 23 [16,17,7,26] [0,1,2,3] (fun a0 HA0=>?_)
   have oe12:=ev HA0 12 rfl
   have oe14:=ev HA0 14 rfl
   refine QSeq.pure rfl (.pointer (some ⟨g0,o0+k * 2,none⟩)) (fun E=>Bk (i:=k) (s:=2) rfl Tryz.underlying43 (by kernel_rfl) (E.v oe12) (E.v oe14) (by omega)) ?_
   refine QSeq.pure rfl _ (fun E=>Am rfl Tryz.underlying127 rfl (off:=o0+k * 2) (cs:=cs) (by rw [HCL.out];kernel_rfl) (E.d 0 0) (fun j u hu=>(HAT.out).2 j u hu)) ?_
   refine QSeq.go fun act E=>?_
   refine qc_alloc rfl (Ac rfl) rfl (z:=[.int .i64 0,.slice none 0 0]) (by kernel_rfl) ?_
   intro u3_2 qq hm
   have zl3_2:=qq.lt
   have Hx3:=hid qq
   have zu3_2:=hm.size
   have Cx4:=hid (show Mod (fun _=>False) wo u3_2 from hm)
   clear hm
   clear act E qq
   refine QSeq.go fun act E=>?_
   have hlz:(cs).length=List.length ([.int .i64 0,.slice none 0 0]:List Value):=(by rw [HCL.out];rfl)
   refine Aq rfl (Ac rfl) rfl Hx3.out (off:=0) (vs:=cs) (by rw [hlz];kernel_rfl) HOC.out (by rw [hlz];exact Nat.le_of_eq (Nat.zero_add _)) (E.d 2 0) (ec (E.d 1 1)) ?_
   intro u3_3 qc0 hm
   have qq:=qc0.eqv (b:=(cs:List Value).toArray) (A5 #[.int .i64 0,.slice none 0 0] _ (by rw [hlz];rfl))
   clear qc0 hlz
   have Hx5:=hid qq
   have zu3_3:=hm.size
   have HMu3_3:=hid hm
   have Cx6:=hid (Mod.goS (S':=(fun _=>False)) Cx4.out hm (fun _ h=>h) (by intro k h0 h2;omega))
   clear hm Cx4
   clear act E qq Hx3
   clear HMu3_3
   refine QSeq.nil (t':=[_,_,_,_]) rfl ?_
   obtain rfl:=HA0.out
   clear HA0 oe12 oe14
   simp only [pz,Act.put,sIB,sCZ,sCS,List.set_nil]
   go_upto_region 4 with (fail)
   refine Aa 23 [18,19,20,21] [0,1,2,3] (fun a0 HA0=>?_)
   have oe0:=ev HA0 0 rfl
   have oe2:=ev HA0 2 rfl
   have oe7:=ev HA0 7 rfl
   refine QSeq.pure rfl _ (fun E=>Ai rfl (E.v oe2)) ?_
   refine QSeq.pure rfl _ (fun E=>Ai rfl (E.v oe0)) ?_
   refine QSeq.pure rfl _ (fun E=>Am rfl Tryz.underlying127 rfl (off:=0) (cs:=cs) (by rw [HCL.out];kernel_rfl) (E.v oe7) (Cs.whole Hx5.out)) ?_
   refine QSeq.go fun act E=>?_
   have ea19:act.eval (.tmp 19)=.pointer (some ⟨g,0,none⟩):=(E.d 1 1)
   have ea20:act.eval (.tmp 20)=.agg cs.toArray:=(E.d 2 0)
   refine qc_call (args:=#[.pointer (some ⟨g,0,none⟩),.agg cs.toArray]) rfl (Ac rfl) (by rw [ex_callV rfl (E.d 0 2) Tryz.func137 (by kernel_rfl) (by kernel_rfl)];exact congrArg (fun z=>Result.ok (Next.enter _ z) _) (by simp only [List.map_toArray,List.map_cons,List.map_nil,ea19,ea20];try rfl)) (PutTb_Q _ _ _ _ _ _ _ (HW2.out.mod Cx6.out (fun _ _ h=>h)) (by intro k h1;rcases h1 with h1|h1<;>first|omega|(have hb:=HBR.out k h1;omega)) (HRD.out.mod Cx6.out (fun _ _ h=>h)) (by intro k h1;have hb:=HBT.out k h1;omega) (by intro k h1 h2;rcases h1 with h1|h1<;>first|omega|(have hb:=HBR.out k h1;omega)|(have hb:=HBT.out k h2;omega)|exact HDJ.out k h1 h2|exact HDJ.out k h2 h1|(have hb:=HBR.out k h1;have hb2:=HBT.out k h2;omega)) HLk.out) ?_
   rintro e u4_3 ⟨rfl,qwr,hm⟩
   refine ⟨_,rfl,?_⟩
   have Hx7:=hid (qwr.widen (R':=(fun k=>(R k)∨(New w wo k)∨(New u3_3 u4_3 k))) (by intro k h1;simp only [or_assoc] at h1 ⊢; exact h1) (Nat.le_refl _))
   have zu4_3:=hm.size
   have Cx8:=hid (show Mod (fun k=>(R k)∨(New w wo k)) u3_3 u4_3 from hm)
   clear hm
   clear act E qwr HW2 ea19 ea20
   refine QSeq.nil (t':=[_,_,_,_]) rfl ?_
   obtain rfl:=HA0.out
   clear HA0 oe0 oe2 oe7
   simp only [pz,Act.put,sIB,sCZ,sCS]
   have hq:=Hx7.out
   rw [HE.out] at hq
   have HQ:=Lib.hid hq
   clear hq
   go_wp2
   go_roundw
   case rel=>exact ⟨k+1,by go_num,by omega,by omega,(HQ.out.widen (by intro b h1;rcases h1 with h1|h1|h1<;>first|exact Or.inl h1|(right;omega)) (Nat.le_refl _)),((HS2.out.mod Cx6.out (fun _ _ h=>h)).mod Cx8.out (by intro k h1 h2;rcases h2 with h2|h2<;>first|omega|(have hb:=HBT.out k h1;omega)|(have hb:=HBR.out k h2;omega)|exact HDJ.out k h1 h2|exact HDJ.out k h2 h1|(have hb:=HBT.out k h1;have hb2:=HBR.out k h2;omega))),((HM2.out.trans Cx6.out (fun _ _ h=>h.elim)).trans Cx8.out (by intro k h1 h2;rcases h2 with h2|h2<;>first|exact h2|omega|(have hb:=HBR.out k h2;omega)))⟩
   case measure=>simp [intOf];omega
  ·have hkk:k=l.length:=by omega
   subst hkk
   go_wp2
   go_end0
   have hq:=HW2.out
   rw [List.take_length] at hq
   exact ⟨rfl,hq,HM2.out⟩
set_option maxHeartbeats 4000000 in
theorem PutOp_Q:Puts OpR 105 opB:=by
 intro R R2 g bs cs x w hW hB hx hB2 hD hl
 obtain ⟨v_pl,rfl,hok,hs0⟩:=hx
 have HS0:=Lib.hid hs0
 clear hs0
 have HW:=Lib.hid hW
 have HBR:=Lib.hid hB
 have HBT:=Lib.hid hB2
 have HDJ:=Lib.hid hD
 have HOK:=Lib.hid hok
 have HL:=Lib.hid hl
 clear hW hB hB2 hD hl hok
 unfold opB at HL
 go_enter Tryz.func105,Tryz.ntmps105
 go_upto_region 1 with (fail)
 obtain ⟨w1,hw1⟩:∃ zz,zz=(w.alloc (.cells (x.cells v_pl:List Value).toArray 54)):=⟨_,rfl⟩
 change Code.wp _ _ _ _ (w.alloc (.cells (x.cells v_pl:List Value).toArray 54))
 rw [← hw1]
 have HB3:=hid (show Cs w1 (w.heap.size) (x.cells v_pl:List Value).toArray 54 by rw [hw1];exact Cs.new _ _ _)
 have hm:Mod (fun _=>False) w w1:=by rw [hw1];exact (Mod.refl _ _).alloc _
 have HM0:=hid (show Mod (fun k=>(R k)) w w1 from hm.mono (fun _ _ h=>h.elim))
 have hs1:w1.heap.size=w.heap.size+1:=by rw [hw1];simp
 have Hx1:=hid (HW.out.mod hm (fun _ _ h=>h))
 clear HW
 have Hx2:=hid (HS0.out.mod hm (fun _ _ h=>h))
 clear HS0
 clear hw1 hm
 go_upto_region 1 with (fail)
 generalize ha0:Act.mk _ _=a0
 have oe0:a0.eval (.tmp 0)=.pointer (some ⟨g,0,none⟩):=by rw [← ha0];rfl
 have oe3:a0.eval (.tmp 3)=.pointer (some ⟨w.heap.size,0,none⟩):=by rw [← ha0];rfl
 have hsz0:a0.tmps.size=14:=by rw [← ha0];rfl
 have HA0:=hid ha0
 clear ha0
 refine A3 14 hsz0 [4,5,6,7,8,9,10,11,12,13] (fun k=>(R k)) (fun k j=>(k=0∧((R j)))∨(k=1∧((R j)))∨(k=2∧((R j)))) (by intro k j h;(try dsimp only at h ⊢);rcases h with ⟨-,h⟩|⟨-,h⟩|⟨-,h⟩;(exact h);(exact h);(exact h)) [qi (.pointer (some ⟨g,0,none⟩)),qi (.pointer (some ⟨w.heap.size,0,none⟩)),qi (.int .i64 x.ix),qi (.pointer (some ⟨g,0,none⟩)),qi (.pointer (some ⟨w.heap.size,1,none⟩)),qi (v_pl),qi (.pointer (some ⟨g,0,none⟩)),qi (.pointer (some ⟨w.heap.size,2,none⟩)),qi (hv x.nc),qi (.pointer (some ⟨g,0,none⟩))] ⟨Ab,Ab,Ab,Ab,Ab,Ab,Ab,Ab,Ab,Ab,trivial⟩ [3,6,9] ⟨?_,?_,?_,?_,?_,?_,?_,?_,?_,?_,trivial⟩ ?_
 ·exact stq (fun E=>Ai rfl (E.v oe0))
 ·exact stq (fun E=>Ad rfl Tryz.underlying54 rfl (by kernel_rfl) (E.v oe3))
 ·exact stq (fun E=>Aj rfl Tryz.underlying3 rfl (E.d 1) (Cs.hd1 (HB3.out.mod E.m (by intro h2;rcases h2 with ⟨h0,h2⟩|h2<;>first|omega|(have hb:=HBR.out _ h2;omega))) rfl))
 ·exact Ah rfl
 ·exact stq (fun E=>Ad rfl Tryz.underlying54 rfl (by kernel_rfl) (E.v oe3))
 ·exact stq (fun E=>Aj rfl Tryz.underlying52 rfl (E.d 4) (Cs.hd1 (HB3.out.mod E.m (by intro h2;rcases h2 with ⟨h0,h2⟩|h2<;>first|omega|(have hb:=HBR.out _ h2;omega))) rfl))
 ·exact Ah rfl
 ·exact stq (fun E=>Ad rfl Tryz.underlying54 rfl (by kernel_rfl) (E.v oe3))
 ·exact stq (fun E=>Am rfl Tryz.underlying25 rfl (off:=2) (cs:=x.nc.map bv) (by rw [List.length_map,HOK.out.2.1];exact size_hash) (E.d 7) (Cs.tlA (HB3.out.mod E.m (by intro h2;rcases h2 with ⟨h0,h2⟩|h2<;>first|omega|(have hb:=HBR.out _ h2;omega))) rfl))
 ·exact Ah rfl
 intro u1_0 hr
 have zu1_0:=hr.size
 have Cx3:=hid (hr.new (S:=(fun k=>(R k))))
 have Hx4:=hid (Hx1.out.mod hr (by intro k h1 h2;have hb:=HBR.out k h1;omega))
 clear Hx1
 clear hr
 refine QChain.go fun Z act E=>?_
 refine Ap (args:=#[.pointer (some ⟨g,0,none⟩),.int .i64 x.ix]) rfl (Ac rfl) rfl Tryz.func67 (Az (E.d 0) (E.d 2)) (Bo Hx4.out HOK.out.1 (by have:=HL.out;simp only [List.length_append] at this ⊢; omega)) ?_
 rintro e u1_1a ⟨rfl,qwr,hm⟩
 have zu1_1a:=hm.size
 refine ⟨_,rfl,hm.mono (by intro k hk h;first|omega|exact Or.inl ⟨(by have hb:=HBR.out k h;omega),Or.inl ⟨rfl,h⟩⟩),(fun _=>rfl),?_⟩
 intro u1_1 hr
 have zu1_1:=hr.size
 have Hx5:=hid ((qwr.widen (R':=(fun k=>(R k)∨(New u1_0 u1_1a k))) (fun _ h=>h) (Nat.le_refl _)).mod hr (by intro k h1 h2;rcases h1 with h1|h1<;>first|omega|(have hb:=HBR.out k h1;omega)))
 have Cx6:=hid (Cx3.out.goM hm hr (fun _ _ h=>h))
 clear Cx3 hm hr Z act E qwr Hx4
 refine QChain.go fun Z act E=>?_
 refine Ap (args:=#[.pointer (some ⟨g,0,none⟩),v_pl]) rfl (Ac rfl) rfl Tryz.func107 (Az (E.d 3) (E.d 5)) (WRow_Q Hx5.out (Hx2.out.mod Cx6.out (by intro k h1 h2;first|omega|(have hb:=HBT.out k h1;omega)|(have hb:=HBR.out k h2;omega)|exact HDJ.out k h1 h2|exact HDJ.out k h2 h1|(have hb:=HBT.out k h1;have hb2:=HBR.out k h2;omega))) (by intro k h1 h2;rcases h2 with h2|h2<;>first|omega|(have hb:=HBT.out k h1;omega)|(have hb:=HBR.out k h2;omega)|exact HDJ.out k h1 h2|exact HDJ.out k h2 h1|(have hb:=HBT.out k h1;have hb2:=HBR.out k h2;omega)) (by have:=HL.out;simp only [List.length_append] at this ⊢; omega)) ?_
 rintro e u1_2a ⟨rfl,qwr,hm⟩
 have zu1_2a:=hm.size
 refine ⟨_,rfl,hm.mono (by intro k hk h;rcases h with h|h<;>first|omega|exact Or.inl ⟨(by have hb:=HBR.out k h;omega),Or.inr (Or.inl ⟨rfl,h⟩)⟩),(fun _=>rfl),?_⟩
 intro u1_2 hr
 have zu1_2:=hr.size
 have Hx7:=hid ((qwr.widen (R':=(fun k=>(R k)∨(New u1_0 u1_1a k)∨(New u1_1 u1_2a k))) (by intro k h1;simp only [or_assoc] at h1 ⊢; exact h1) (Nat.le_refl _)).mod hr (by intro k h1 h2;rcases h1 with h1|h1|h1<;>first|omega|(have hb:=HBR.out k h1;omega)))
 have Cx8:=hid (Cx6.out.goM hm hr (by intro k h0 h2;rcases h2 with h2|h2<;>first|omega|exact h2))
 clear Cx6 hm hr Z act E qwr Hx5
 refine QChain.go fun Z act E=>?_
 refine Ap (args:=#[.pointer (some ⟨g,0,none⟩),hv x.nc]) rfl (Ac rfl) rfl Tryz.func130 (Az (E.d 6) (E.d 8)) (WHash_Q Hx7.out HOK.out.2 (by have:=HL.out;simp only [List.length_append] at this ⊢; omega)) ?_
 rintro e u1_3a ⟨rfl,qwr,hm⟩
 have zu1_3a:=hm.size
 refine ⟨_,rfl,hm.mono (by intro k hk h;rcases h with h|h|h<;>first|omega|exact Or.inl ⟨(by have hb:=HBR.out k h;omega),Or.inr (Or.inr (⟨rfl,h⟩))⟩),(fun _=>rfl),?_⟩
 intro u1_3 hr
 have zu1_3:=hr.size
 have Hx9:=hid ((qwr.widen (R':=(fun k=>(R k)∨(New u1_0 u1_1a k)∨(New u1_1 u1_2a k)∨(New u1_2 u1_3a k))) (by intro k h1;simp only [or_assoc] at h1 ⊢; exact h1) (Nat.le_refl _)).mod hr (by intro k h1 h2;rcases h1 with h1|h1|h1|h1<;>first|omega|(have hb:=HBR.out k h1;omega)))
 have Cx10:=hid (Cx8.out.goM hm hr (by intro k h0 h2;rcases h2 with h2|h2|h2<;>first|omega|exact h2))
 clear Cx8 hm hr Z act E qwr Hx7
 refine QChain.nil fun vs hl hzz hrows hne=>?_
 obtain ⟨Z,hYZ,hZb,hV⟩:=hzz
 have f0:=fvi hV hl 0
 have f3:=fvi hV hl 3
 have f6:=fvi hV hl 6
 have f9:=fvi hV hl 9
 rw [show vs=[gw vs 0,gw vs 1,gw vs 2,gw vs 3,gw vs 4,gw vs 5,gw vs 6,gw vs 7,gw vs 8,gw vs 9] from (Be hl).trans rfl]
 have ha0:=HA0.out
 subst ha0
 clear HA0 hV hYZ hZb hsz0 hrows hne oe0 oe3
 simp only [Au,Act.put,sIB,sCZ,sCS,f0,f3,f6,f9]
 clear hl f0 f3 f6 f9
 go_wp2
 go_end0
 have hq:=(Hx9.out.widen (R':=(fun k=>R k∨New w u1_3 k)) (by intro k h1;rcases h1 with h1|h1|h1|h1<;>first|exact Or.inl h1|(right;omega)) (Nat.le_refl _))
 simp only [List.append_assoc] at hq
 exact ⟨rfl,by simpa only [opB,List.append_assoc] using hq,(HM0.out.trans Cx10.out (fun _ _ h=>h))⟩
open Go.Proofs renaming Tryz.func135→va',Tryz.ntmps135→vb',Tryz.underlying42→vc',Tryz.underlying54→vg',Tryz.func105→vj' in
open Go.Proofs.YtnaoeginonpicaaGreat renaming opB→vd',OpR→ve',PutOp_Q→vk' in
open Go.Gv renaming n'34→vf',z'17→vh',z'18→vi' in
set_option maxHeartbeats 4000000 in
theorem PutList_Op:PutsL OpR 135 105 opB:=
 fm7'
open Go.Proofs renaming Tryz.func133→va',Tryz.ntmps133→vb',Tryz.underlying38→vc',Tryz.underlying35→vf',Tryz.func99→vi' in
open Go.Proofs.YtnaoeginonpicaaGreat renaming ceB→vd',CeR→ve',PutCe_Q→vj' in
open Go.Gv renaming z'2→vg',z'3→vh' in
set_option maxHeartbeats 4000000 in
theorem PutList_Ce:PutsL CeR 133 99 ceB:=
 fm2'
set_option maxHeartbeats 4000000 in
theorem PutPm_Q:Puts PmR 101 pmB:=by
 intro R R2 g bs cs x w hW hB hx hB2 hD hl
 obtain ⟨v_l,rfl,hok,hs0⟩:=hx
 have HS0:=Lib.hid hs0
 clear hs0
 have HW:=Lib.hid hW
 have HBR:=Lib.hid hB
 have HBT:=Lib.hid hB2
 have HDJ:=Lib.hid hD
 have HOK:=Lib.hid hok
 have HL:=Lib.hid hl
 clear hW hB hB2 hD hl hok
 unfold pmB at HL
 go_enter Tryz.func101,Tryz.ntmps101
 go_upto_region 1 with (fail)
 obtain ⟨w1,hw1⟩:∃ zz,zz=(w.alloc (.cells (x.cells v_l:List Value).toArray 40)):=⟨_,rfl⟩
 change Code.wp _ _ _ _ (w.alloc (.cells (x.cells v_l:List Value).toArray 40))
 rw [← hw1]
 have HB3:=hid (show Cs w1 (w.heap.size) (x.cells v_l:List Value).toArray 40 by rw [hw1];exact Cs.new _ _ _)
 have hm:Mod (fun _=>False) w w1:=by rw [hw1];exact (Mod.refl _ _).alloc _
 have HM0:=hid (show Mod (fun k=>(R k)) w w1 from hm.mono (fun _ _ h=>h.elim))
 have hs1:w1.heap.size=w.heap.size+1:=by rw [hw1];simp
 have Hx1:=hid (HW.out.mod hm (fun _ _ h=>h))
 clear HW
 have Hx2:=hid (HS0.out.mod hm (fun _ _ h=>h))
 clear HS0
 clear hw1 hm
 go_upto_region 1 with (fail)
 generalize ha0:Act.mk _ _=a0
 have oe0:a0.eval (.tmp 0)=.pointer (some ⟨g,0,none⟩):=by rw [← ha0];rfl
 have oe3:a0.eval (.tmp 3)=.pointer (some ⟨w.heap.size,0,none⟩):=by rw [← ha0];rfl
 have hsz0:a0.tmps.size=22:=by rw [← ha0];rfl
 have HA0:=hid ha0
 clear ha0
 refine A3 22 hsz0 [4,5,6,7,8,9,10,11,12,13] (fun k=>(R k)) (fun k j=>(k=0∧((R j)))∨(k=1∧((R j)))∨(k=2∧((R j)))) (by intro k j h;(try dsimp only at h ⊢);rcases h with ⟨-,h⟩|⟨-,h⟩|⟨-,h⟩;(exact h);(exact h);(exact h)) [qi (.pointer (some ⟨g,0,none⟩)),qi (.pointer (some ⟨w.heap.size,0,none⟩)),qi (.int .i64 x.rp),qi (.pointer (some ⟨g,0,none⟩)),qi (.pointer (some ⟨w.heap.size,1,none⟩)),qi (.int .i64 x.ep),qi (.pointer (some ⟨g,0,none⟩)),qi (.pointer (some ⟨w.heap.size,2,none⟩)),qi (.int .u64 (x.fl:Nat)),qi (.pointer (some ⟨g,0,none⟩))] ⟨Ab,Ab,Ab,Ab,Ab,Ab,Ab,Ab,Ab,Ab,trivial⟩ [3,6,9] ⟨?_,?_,?_,?_,?_,?_,?_,?_,?_,?_,trivial⟩ ?_
 ·exact stq (fun E=>Ai rfl (E.v oe0))
 ·exact stq (fun E=>Ad rfl Tryz.underlying40 rfl (by kernel_rfl) (E.v oe3))
 ·exact stq (fun E=>Aj rfl Tryz.underlying3 rfl (E.d 1) (Cs.lit1 (HB3.out.mod E.m (by intro h2;rcases h2 with ⟨h0,h2⟩|h2<;>first|omega|(have hb:=HBR.out _ h2;omega))) rfl))
 ·exact Ah rfl
 ·exact stq (fun E=>Ad rfl Tryz.underlying40 rfl (by kernel_rfl) (E.v oe3))
 ·exact stq (fun E=>Aj rfl Tryz.underlying3 rfl (E.d 4) (Cs.lit1 (HB3.out.mod E.m (by intro h2;rcases h2 with ⟨h0,h2⟩|h2<;>first|omega|(have hb:=HBR.out _ h2;omega))) rfl))
 ·exact Ah rfl
 ·exact stq (fun E=>Ad rfl Tryz.underlying40 rfl (by kernel_rfl) (E.v oe3))
 ·exact stq (fun E=>Aj rfl Tryz.underlying30 rfl (E.d 7) (Cs.lit1 (HB3.out.mod E.m (by intro h2;rcases h2 with ⟨h0,h2⟩|h2<;>first|omega|(have hb:=HBR.out _ h2;omega))) rfl))
 ·exact Ah rfl
 intro u1_0 hr
 have zu1_0:=hr.size
 have Cx3:=hid (hr.new (S:=(fun k=>(R k))))
 have Hx4:=hid (Hx1.out.mod hr (by intro k h1 h2;have hb:=HBR.out k h1;omega))
 clear Hx1
 clear hr
 refine QChain.go fun Z act E=>?_
 refine Ap (args:=#[.pointer (some ⟨g,0,none⟩),.int .i64 x.rp]) rfl (Ac rfl) rfl Tryz.func67 (Az (E.d 0) (E.d 2)) (Bo Hx4.out HOK.out.1 (by have:=HL.out;simp only [List.length_append] at this ⊢; omega)) ?_
 rintro e u1_1a ⟨rfl,qwr,hm⟩
 have zu1_1a:=hm.size
 refine ⟨_,rfl,hm.mono (by intro k hk h;first|omega|exact Or.inl ⟨(by have hb:=HBR.out k h;omega),Or.inl ⟨rfl,h⟩⟩),(fun _=>rfl),?_⟩
 intro u1_1 hr
 have zu1_1:=hr.size
 have Hx5:=hid ((qwr.widen (R':=(fun k=>(R k)∨(New u1_0 u1_1a k))) (fun _ h=>h) (Nat.le_refl _)).mod hr (by intro k h1 h2;rcases h1 with h1|h1<;>first|omega|(have hb:=HBR.out k h1;omega)))
 have Cx6:=hid (Cx3.out.goM hm hr (fun _ _ h=>h))
 clear Cx3 hm hr Z act E qwr Hx4
 refine QChain.go fun Z act E=>?_
 refine Ap (args:=#[.pointer (some ⟨g,0,none⟩),.int .i64 x.ep]) rfl (Ac rfl) rfl Tryz.func67 (Az (E.d 3) (E.d 5)) (Bo Hx5.out HOK.out.2.1 (by have:=HL.out;simp only [List.length_append] at this ⊢; omega)) ?_
 rintro e u1_2a ⟨rfl,qwr,hm⟩
 have zu1_2a:=hm.size
 refine ⟨_,rfl,hm.mono (by intro k hk h;rcases h with h|h<;>first|omega|exact Or.inl ⟨(by have hb:=HBR.out k h;omega),Or.inr (Or.inl ⟨rfl,h⟩)⟩),(fun _=>rfl),?_⟩
 intro u1_2 hr
 have zu1_2:=hr.size
 have Hx7:=hid ((qwr.widen (R':=(fun k=>(R k)∨(New u1_0 u1_1a k)∨(New u1_1 u1_2a k))) (by intro k h1;simp only [or_assoc] at h1 ⊢; exact h1) (Nat.le_refl _)).mod hr (by intro k h1 h2;rcases h1 with h1|h1|h1<;>first|omega|(have hb:=HBR.out k h1;omega)))
 have Cx8:=hid (Cx6.out.goM hm hr (by intro k h0 h2;rcases h2 with h2|h2<;>first|omega|exact h2))
 clear Cx6 hm hr Z act E qwr Hx5
 refine QChain.go fun Z act E=>?_
 refine Ap (args:=#[.pointer (some ⟨g,0,none⟩),.int .u64 (x.fl:Nat)]) rfl (Ac rfl) rfl Tryz.func96 (Az (E.d 6) (E.d 8)) (WNum_Q Hx7.out HOK.out.2.2.1 (by have:=HL.out;simp only [List.length_append] at this ⊢; omega)) ?_
 rintro e u1_3a ⟨rfl,qwr,hm⟩
 have zu1_3a:=hm.size
 refine ⟨_,rfl,hm.mono (by intro k hk h;rcases h with h|h|h<;>first|omega|exact Or.inl ⟨(by have hb:=HBR.out k h;omega),Or.inr (Or.inr (⟨rfl,h⟩))⟩),(fun _=>rfl),?_⟩
 intro u1_3 hr
 have zu1_3:=hr.size
 have Hx9:=hid ((qwr.widen (R':=(fun k=>(R k)∨(New u1_0 u1_1a k)∨(New u1_1 u1_2a k)∨(New u1_2 u1_3a k))) (by intro k h1;simp only [or_assoc] at h1 ⊢; exact h1) (Nat.le_refl _)).mod hr (by intro k h1 h2;rcases h1 with h1|h1|h1|h1<;>first|omega|(have hb:=HBR.out k h1;omega)))
 have Cx10:=hid (Cx8.out.goM hm hr (by intro k h0 h2;rcases h2 with h2|h2|h2<;>first|omega|exact h2))
 clear Cx8 hm hr Z act E qwr Hx7
 refine QChain.nil fun vs hl hzz hrows hne=>?_
 obtain ⟨Z,hYZ,hZb,hV⟩:=hzz
 have f0:=fvi hV hl 0
 have f3:=fvi hV hl 3
 have f6:=fvi hV hl 6
 have f9:=fvi hV hl 9
 rw [show vs=[gw vs 0,gw vs 1,gw vs 2,gw vs 3,gw vs 4,gw vs 5,gw vs 6,gw vs 7,gw vs 8,gw vs 9] from (Be hl).trans rfl]
 have ha0:=HA0.out
 subst ha0
 clear HA0 hV hYZ hZb hsz0 hrows hne oe0 oe3
 simp only [Au,Act.put,sIB,sCZ,sCS,f0,f3,f6,f9]
 clear hl f0 f3 f6 f9
 go_upto_region 2 with (fail)
 refine Aa 22 [14,15,16,17] [0,1,2,3] (fun a0 HA0=>?_)
 have oe0:=ev HA0 0 rfl
 have oe3:=ev HA0 3 rfl
 refine QSeq.pure rfl _ (fun E=>Ai rfl (E.v oe0)) ?_
 refine QSeq.pure rfl (.pointer (some ⟨w.heap.size,3,none⟩)) (fun E=>Ad rfl Tryz.underlying40 rfl (by kernel_rfl) (E.v oe3)) ?_
 refine QSeq.pure rfl _ (fun E=>Aj rfl Tryz.underlying38 rfl (E.d 1 0) (Cs.lit1 (HB3.out.mod Cx10.out (by intro h2;first|omega|(have hb:=HBR.out _ h2;omega))) rfl)) ?_
 refine QSeq.call rfl rfl Tryz.func133 (PutList_Ce _ _ _ _ _ _ _ Hx9.out (by intro k h1;rcases h1 with h1|h1|h1|h1<;>first|omega|(have hb:=HBR.out k h1;omega)) (Hx2.out.mod Cx10.out (by intro k h1 h2;first|omega|(have hb:=HBT.out k h1;omega)|(have hb:=HBR.out k h2;omega)|exact HDJ.out k h1 h2|exact HDJ.out k h2 h1|(have hb:=HBT.out k h1;have hb2:=HBR.out k h2;omega))) (by intro k h1;have hb:=HBT.out k h1;omega) (by intro k h1 h2;rcases h1 with h1|h1|h1|h1<;>first|omega|(have hb:=HBR.out k h1;omega)|(have hb:=HBT.out k h2;omega)|exact HDJ.out k h1 h2|exact HDJ.out k h2 h1|(have hb:=HBR.out k h1;have hb2:=HBT.out k h2;omega)) (by have:=HL.out;simp only [List.length_append] at this ⊢; omega)) (fun E=>args3 (E.d 0 2) (E.d 2 0) rfl) ?_
 rintro e u2_3 ⟨rfl,qwr,hm⟩
 refine ⟨_,rfl,?_⟩
 have Hx11:=hid (qwr.widen (R':=(fun k=>(R k)∨(New u1_0 u1_1a k)∨(New u1_1 u1_2a k)∨(New u1_2 u1_3a k)∨(New u1_3 u2_3 k))) (by intro k h1;simp only [or_assoc] at h1 ⊢; exact h1) (Nat.le_refl _))
 have zu2_3:=hm.size
 have Cx12:=hid (show Mod (fun k=>(R k)∨(New u1_0 u1_1a k)∨(New u1_1 u1_2a k)∨(New u1_2 u1_3a k)) u1_3 u2_3 from hm)
 clear hm
 clear qwr Hx9
 refine QSeq.nil (t':=[_,_,_,_]) rfl ?_
 obtain rfl:=HA0.out
 clear HA0 oe0 oe3
 simp only [pz,Act.put,sIB,sCZ,sCS]
 go_upto_region 3 with (fail)
 refine Aa 22 [18,19,20,21] [0,1,2,3] (fun a0 HA0=>?_)
 have oe0:=ev HA0 0 rfl
 have oe3:=ev HA0 3 rfl
 refine QSeq.pure rfl _ (fun E=>Ai rfl (E.v oe0)) ?_
 refine QSeq.pure rfl (.pointer (some ⟨w.heap.size,4,none⟩)) (fun E=>Ad rfl Tryz.underlying40 rfl (by kernel_rfl) (E.v oe3)) ?_
 refine QSeq.pure rfl _ (fun E=>Am rfl Tryz.underlying27 rfl (off:=4) (cs:=[.int .i64 x.sb,.int .i64 x.mr]) (by kernel_rfl) (E.d 1 0) (Cs.litA ((HB3.out.mod Cx10.out (by intro h2;first|omega|(have hb:=HBR.out _ h2;omega))).mod Cx12.out (by intro h2;rcases h2 with h2|h2|h2|h2<;>first|omega|(have hb:=HBR.out _ h2;omega))) rfl)) ?_
 refine QSeq.call rfl rfl Tryz.func131 (PutSig_Q Hx11.out (by intro k h1;rcases h1 with h1|h1|h1|h1|h1<;>first|omega|(have hb:=HBR.out k h1;omega)) HOK.out.2.2.2.1 HOK.out.2.2.2.2 (by have:=HL.out;simp only [List.length_append] at this ⊢; omega)) (fun E=>Az (E.d 0 2) (E.d 2 0)) ?_
 rintro e u3_3 ⟨rfl,qwr,hm⟩
 refine ⟨_,rfl,?_⟩
 have Hx13:=hid (qwr.widen (R':=(fun k=>(R k)∨(New u1_0 u1_1a k)∨(New u1_1 u1_2a k)∨(New u1_2 u1_3a k)∨(New u1_3 u2_3 k)∨(New u2_3 u3_3 k))) (by intro k h1;simp only [or_assoc] at h1 ⊢; exact h1) (Nat.le_refl _))
 have zu3_3:=hm.size
 have Cx14:=hid (show Mod (fun k=>(R k)∨(New u1_0 u1_1a k)∨(New u1_1 u1_2a k)∨(New u1_2 u1_3a k)∨(New u1_3 u2_3 k)) u2_3 u3_3 from hm)
 clear hm
 clear qwr Hx11
 refine QSeq.nil (t':=[_,_,_,_]) rfl ?_
 obtain rfl:=HA0.out
 clear HA0 oe0 oe3
 simp only [pz,Act.put,sIB,sCZ,sCS]
 go_wp2
 go_end0
 have hq:=(Hx13.out.widen (R':=(fun k=>R k∨New w u3_3 k)) (by intro k h1;rcases h1 with h1|h1|h1|h1|h1|h1<;>first|exact Or.inl h1|(right;omega)) (Nat.le_refl _))
 simp only [List.append_assoc] at hq
 exact ⟨rfl,by simpa only [pmB,List.append_assoc] using hq,(((HM0.out.trans Cx10.out (fun _ _ h=>h)).trans Cx12.out (by intro k h1 h2;rcases h2 with h2|h2|h2|h2<;>first|exact h2|omega|(have hb:=HBR.out k h2;omega))).trans Cx14.out (by intro k h1 h2;rcases h2 with h2|h2|h2|h2|h2<;>first|exact h2|omega|(have hb:=HBR.out k h2;omega)))⟩
open Go.Proofs renaming Tryz.func134→va',Tryz.ntmps134→vb',Tryz.underlying41→vc',Tryz.underlying40→vg',Tryz.func101→vj' in
open Go.Proofs.YtnaoeginonpicaaGreat renaming pmB→vd',PmR→ve',PutPm_Q→vk' in
open Go.Gv renaming n'6→vf',z'20→vh',z'21→vi' in
set_option maxHeartbeats 4000000 in
theorem PutList_Pm:PutsL PmR 134 101 pmB:=
 fm7'
set_option maxHeartbeats 4000000 in
theorem PutBa_Q:Puts BaR 108 baB:=by
 intro R R2 g bs cs x w hW hB hx hB2 hD hl
 obtain ⟨v_ps,v_os,v_ts,rfl,hok,hs0,hs1,hs2⟩:=hx
 have HS0:=Lib.hid hs0
 clear hs0
 have HS1:=Lib.hid hs1
 clear hs1
 have HS2:=Lib.hid hs2
 clear hs2
 have HW:=Lib.hid hW
 have HBR:=Lib.hid hB
 have HBT:=Lib.hid hB2
 have HDJ:=Lib.hid hD
 have HOK:=Lib.hid hok
 have HL:=Lib.hid hl
 clear hW hB hB2 hD hl hok
 unfold baB at HL
 go_enter Tryz.func108,Tryz.ntmps108
 go_upto_region 1 with (fail)
 obtain ⟨w1,hw1⟩:∃ zz,zz=(w.alloc (.cells (x.cells v_ps v_os v_ts:List Value).toArray 45)):=⟨_,rfl⟩
 change Code.wp _ _ _ _ (w.alloc (.cells (x.cells v_ps v_os v_ts:List Value).toArray 45))
 rw [← hw1]
 have HB3:=hid (show Cs w1 (w.heap.size) (x.cells v_ps v_os v_ts:List Value).toArray 45 by rw [hw1];exact Cs.new _ _ _)
 have hm:Mod (fun _=>False) w w1:=by rw [hw1];exact (Mod.refl _ _).alloc _
 have HM0:=hid (show Mod (fun k=>(R k)) w w1 from hm.mono (fun _ _ h=>h.elim))
 have hs1:w1.heap.size=w.heap.size+1:=by rw [hw1];simp
 have Hx1:=hid (HW.out.mod hm (fun _ _ h=>h))
 clear HW
 have Hx2:=hid (HS0.out.mod hm (fun _ _ h=>h))
 clear HS0
 have Hx3:=hid (HS1.out.mod hm (fun _ _ h=>h))
 clear HS1
 have Hx4:=hid (HS2.out.mod hm (fun _ _ h=>h))
 clear HS2
 clear hw1 hm
 go_upto_region 1 with (fail)
 generalize ha0:Act.mk _ _=a0
 have oe0:a0.eval (.tmp 0)=.pointer (some ⟨g,0,none⟩):=by rw [← ha0];rfl
 have oe3:a0.eval (.tmp 3)=.pointer (some ⟨w.heap.size,0,none⟩):=by rw [← ha0];rfl
 have hsz0:a0.tmps.size=23:=by rw [← ha0];rfl
 have HA0:=hid ha0
 clear ha0
 refine A3 23 hsz0 [4,5,6,7,8,9,10] (fun k=>(R k)) (fun k j=>(k=0∧((R j)))∨(k=1∧((R j)))) (by intro k j h;(try dsimp only at h ⊢);rcases h with ⟨-,h⟩|⟨-,h⟩;(exact h);(exact h)) [qi (.pointer (some ⟨g,0,none⟩)),qi (.pointer (some ⟨w.heap.size,0,none⟩)),qi (.int .i64 x.ep),qi (.pointer (some ⟨g,0,none⟩)),qi (.pointer (some ⟨w.heap.size,1,none⟩)),qi (.int .u64 (x.tm:Nat)),qi (.pointer (some ⟨g,0,none⟩))] ⟨Ab,Ab,Ab,Ab,Ab,Ab,Ab,trivial⟩ [3,6] ⟨?_,?_,?_,?_,?_,?_,?_,trivial⟩ ?_
 ·exact stq (fun E=>Ai rfl (E.v oe0))
 ·exact stq (fun E=>Ad rfl Tryz.underlying45 rfl (by kernel_rfl) (E.v oe3))
 ·exact stq (fun E=>Aj rfl Tryz.underlying3 rfl (E.d 1) (Cs.lit1 (HB3.out.mod E.m (by intro h2;rcases h2 with ⟨h0,h2⟩|h2<;>first|omega|(have hb:=HBR.out _ h2;omega))) rfl))
 ·exact Ah rfl
 ·exact stq (fun E=>Ad rfl Tryz.underlying45 rfl (by kernel_rfl) (E.v oe3))
 ·exact stq (fun E=>Aj rfl Tryz.underlying30 rfl (E.d 4) (Cs.lit1 (HB3.out.mod E.m (by intro h2;rcases h2 with ⟨h0,h2⟩|h2<;>first|omega|(have hb:=HBR.out _ h2;omega))) rfl))
 ·exact Ah rfl
 intro u1_0 hr
 have zu1_0:=hr.size
 have Cx5:=hid (hr.new (S:=(fun k=>(R k))))
 have Hx6:=hid (Hx1.out.mod hr (by intro k h1 h2;have hb:=HBR.out k h1;omega))
 clear Hx1
 clear hr
 refine QChain.go fun Z act E=>?_
 refine Ap (args:=#[.pointer (some ⟨g,0,none⟩),.int .i64 x.ep]) rfl (Ac rfl) rfl Tryz.func67 (Az (E.d 0) (E.d 2)) (Bo Hx6.out HOK.out.1 (by have:=HL.out;simp only [List.length_append] at this ⊢; omega)) ?_
 rintro e u1_1a ⟨rfl,qwr,hm⟩
 have zu1_1a:=hm.size
 refine ⟨_,rfl,hm.mono (by intro k hk h;first|omega|exact Or.inl ⟨(by have hb:=HBR.out k h;omega),Or.inl ⟨rfl,h⟩⟩),(fun _=>rfl),?_⟩
 intro u1_1 hr
 have zu1_1:=hr.size
 have Hx7:=hid ((qwr.widen (R':=(fun k=>(R k)∨(New u1_0 u1_1a k))) (fun _ h=>h) (Nat.le_refl _)).mod hr (by intro k h1 h2;rcases h1 with h1|h1<;>first|omega|(have hb:=HBR.out k h1;omega)))
 have Cx8:=hid (Cx5.out.goM hm hr (fun _ _ h=>h))
 clear Cx5 hm hr Z act E qwr Hx6
 refine QChain.go fun Z act E=>?_
 refine Ap (args:=#[.pointer (some ⟨g,0,none⟩),.int .u64 (x.tm:Nat)]) rfl (Ac rfl) rfl Tryz.func96 (Az (E.d 3) (E.d 5)) (WNum_Q Hx7.out HOK.out.2 (by have:=HL.out;simp only [List.length_append] at this ⊢; omega)) ?_
 rintro e u1_2a ⟨rfl,qwr,hm⟩
 have zu1_2a:=hm.size
 refine ⟨_,rfl,hm.mono (by intro k hk h;rcases h with h|h<;>first|omega|exact Or.inl ⟨(by have hb:=HBR.out k h;omega),Or.inr (⟨rfl,h⟩)⟩),(fun _=>rfl),?_⟩
 intro u1_2 hr
 have zu1_2:=hr.size
 have Hx9:=hid ((qwr.widen (R':=(fun k=>(R k)∨(New u1_0 u1_1a k)∨(New u1_1 u1_2a k))) (by intro k h1;simp only [or_assoc] at h1 ⊢; exact h1) (Nat.le_refl _)).mod hr (by intro k h1 h2;rcases h1 with h1|h1|h1<;>first|omega|(have hb:=HBR.out k h1;omega)))
 have Cx10:=hid (Cx8.out.goM hm hr (by intro k h0 h2;rcases h2 with h2|h2<;>first|omega|exact h2))
 clear Cx8 hm hr Z act E qwr Hx7
 refine QChain.nil fun vs hl hzz hrows hne=>?_
 obtain ⟨Z,hYZ,hZb,hV⟩:=hzz
 have f0:=fvi hV hl 0
 have f3:=fvi hV hl 3
 have f6:=fvi hV hl 6
 rw [show vs=[gw vs 0,gw vs 1,gw vs 2,gw vs 3,gw vs 4,gw vs 5,gw vs 6] from (Be hl).trans rfl]
 have ha0:=HA0.out
 subst ha0
 clear HA0 hV hYZ hZb hsz0 hrows hne oe0 oe3
 simp only [Au,Act.put,sIB,sCZ,sCS,f0,f3,f6]
 clear hl f0 f3 f6
 go_upto_region 2 with (fail)
 refine Aa 23 [11,12,13,14] [0,1,2,3] (fun a0 HA0=>?_)
 have oe0:=ev HA0 0 rfl
 have oe3:=ev HA0 3 rfl
 refine QSeq.pure rfl _ (fun E=>Ai rfl (E.v oe0)) ?_
 refine QSeq.pure rfl (.pointer (some ⟨w.heap.size,2,none⟩)) (fun E=>Ad rfl Tryz.underlying45 rfl (by kernel_rfl) (E.v oe3)) ?_
 refine QSeq.pure rfl _ (fun E=>Aj rfl Tryz.underlying41 rfl (E.d 1 0) (Cs.lit1 (HB3.out.mod Cx10.out (by intro h2;first|omega|(have hb:=HBR.out _ h2;omega))) rfl)) ?_
 refine QSeq.call rfl rfl Tryz.func134 (PutList_Pm _ _ _ _ _ _ _ Hx9.out (by intro k h1;rcases h1 with h1|h1|h1<;>first|omega|(have hb:=HBR.out k h1;omega)) (Hx2.out.mod Cx10.out (by intro k h1 h2;first|omega|(have hb:=HBT.out k h1;omega)|(have hb:=HBR.out k h2;omega)|exact HDJ.out k h1 h2|exact HDJ.out k h2 h1|(have hb:=HBT.out k h1;have hb2:=HBR.out k h2;omega))) (by intro k h1;have hb:=HBT.out k h1;omega) (by intro k h1 h2;rcases h1 with h1|h1|h1<;>first|omega|(have hb:=HBR.out k h1;omega)|(have hb:=HBT.out k h2;omega)|exact HDJ.out k h1 h2|exact HDJ.out k h2 h1|(have hb:=HBR.out k h1;have hb2:=HBT.out k h2;omega)) (by have:=HL.out;simp only [List.length_append] at this ⊢; omega)) (fun E=>args3 (E.d 0 2) (E.d 2 0) rfl) ?_
 rintro e u2_3 ⟨rfl,qwr,hm⟩
 refine ⟨_,rfl,?_⟩
 have Hx11:=hid (qwr.widen (R':=(fun k=>(R k)∨(New u1_0 u1_1a k)∨(New u1_1 u1_2a k)∨(New u1_2 u2_3 k))) (by intro k h1;simp only [or_assoc] at h1 ⊢; exact h1) (Nat.le_refl _))
 have zu2_3:=hm.size
 have Cx12:=hid (show Mod (fun k=>(R k)∨(New u1_0 u1_1a k)∨(New u1_1 u1_2a k)) u1_2 u2_3 from hm)
 clear hm
 clear qwr Hx9
 refine QSeq.nil (t':=[_,_,_,_]) rfl ?_
 obtain rfl:=HA0.out
 clear HA0 oe0 oe3
 simp only [pz,Act.put,sIB,sCZ,sCS]
 go_upto_region 3 with (fail)
 refine Aa 23 [15,16,17,18] [0,1,2,3] (fun a0 HA0=>?_)
 have oe0:=ev HA0 0 rfl
 have oe3:=ev HA0 3 rfl
 refine QSeq.pure rfl _ (fun E=>Ai rfl (E.v oe0)) ?_
 refine QSeq.pure rfl (.pointer (some ⟨w.heap.size,3,none⟩)) (fun E=>Ad rfl Tryz.underlying45 rfl (by kernel_rfl) (E.v oe3)) ?_
 refine QSeq.pure rfl _ (fun E=>Aj rfl Tryz.underlying42 rfl (E.d 1 0) (Cs.lit1 ((HB3.out.mod Cx10.out (by intro h2;first|omega|(have hb:=HBR.out _ h2;omega))).mod Cx12.out (by intro h2;rcases h2 with h2|h2|h2<;>first|omega|(have hb:=HBR.out _ h2;omega))) rfl)) ?_
 refine QSeq.call rfl rfl Tryz.func135 (PutList_Op _ _ _ _ _ _ _ Hx11.out (by intro k h1;rcases h1 with h1|h1|h1|h1<;>first|omega|(have hb:=HBR.out k h1;omega)) ((Hx3.out.mod Cx10.out (by intro k h1 h2;first|omega|(have hb:=HBT.out k h1;omega)|(have hb:=HBR.out k h2;omega)|exact HDJ.out k h1 h2|exact HDJ.out k h2 h1|(have hb:=HBT.out k h1;have hb2:=HBR.out k h2;omega))).mod Cx12.out (by intro k h1 h2;rcases h2 with h2|h2|h2<;>first|omega|(have hb:=HBT.out k h1;omega)|(have hb:=HBR.out k h2;omega)|exact HDJ.out k h1 h2|exact HDJ.out k h2 h1|(have hb:=HBT.out k h1;have hb2:=HBR.out k h2;omega))) (by intro k h1;have hb:=HBT.out k h1;omega) (by intro k h1 h2;rcases h1 with h1|h1|h1|h1<;>first|omega|(have hb:=HBR.out k h1;omega)|(have hb:=HBT.out k h2;omega)|exact HDJ.out k h1 h2|exact HDJ.out k h2 h1|(have hb:=HBR.out k h1;have hb2:=HBT.out k h2;omega)) (by have:=HL.out;simp only [List.length_append] at this ⊢; omega)) (fun E=>args3 (E.d 0 2) (E.d 2 0) rfl) ?_
 rintro e u3_3 ⟨rfl,qwr,hm⟩
 refine ⟨_,rfl,?_⟩
 have Hx13:=hid (qwr.widen (R':=(fun k=>(R k)∨(New u1_0 u1_1a k)∨(New u1_1 u1_2a k)∨(New u1_2 u2_3 k)∨(New u2_3 u3_3 k))) (by intro k h1;simp only [or_assoc] at h1 ⊢; exact h1) (Nat.le_refl _))
 have zu3_3:=hm.size
 have Cx14:=hid (show Mod (fun k=>(R k)∨(New u1_0 u1_1a k)∨(New u1_1 u1_2a k)∨(New u1_2 u2_3 k)) u2_3 u3_3 from hm)
 clear hm
 clear qwr Hx11
 refine QSeq.nil (t':=[_,_,_,_]) rfl ?_
 obtain rfl:=HA0.out
 clear HA0 oe0 oe3
 simp only [pz,Act.put,sIB,sCZ,sCS]
 go_upto_region 4 with (fail)
 refine Aa 23 [19,20,21,22] [0,1,2,3] (fun a0 HA0=>?_)
 have oe0:=ev HA0 0 rfl
 have oe3:=ev HA0 3 rfl
 refine QSeq.pure rfl _ (fun E=>Ai rfl (E.v oe0)) ?_
 refine QSeq.pure rfl (.pointer (some ⟨w.heap.size,4,none⟩)) (fun E=>Ad rfl Tryz.underlying45 rfl (by kernel_rfl) (E.v oe3)) ?_
 refine QSeq.pure rfl _ (fun E=>Aj rfl Tryz.underlying43 rfl (E.d 1 0) (Cs.lit1 (((HB3.out.mod Cx10.out (by intro h2;first|omega|(have hb:=HBR.out _ h2;omega))).mod Cx12.out (by intro h2;rcases h2 with h2|h2|h2<;>first|omega|(have hb:=HBR.out _ h2;omega))).mod Cx14.out (by intro h2;rcases h2 with h2|h2|h2|h2<;>first|omega|(have hb:=HBR.out _ h2;omega))) rfl)) ?_
 refine QSeq.call rfl rfl Tryz.func136 (PutList_Tb _ _ _ _ _ _ _ Hx13.out (by intro k h1;rcases h1 with h1|h1|h1|h1|h1<;>first|omega|(have hb:=HBR.out k h1;omega)) (((Hx4.out.mod Cx10.out (by intro k h1 h2;first|omega|(have hb:=HBT.out k h1;omega)|(have hb:=HBR.out k h2;omega)|exact HDJ.out k h1 h2|exact HDJ.out k h2 h1|(have hb:=HBT.out k h1;have hb2:=HBR.out k h2;omega))).mod Cx12.out (by intro k h1 h2;rcases h2 with h2|h2|h2<;>first|omega|(have hb:=HBT.out k h1;omega)|(have hb:=HBR.out k h2;omega)|exact HDJ.out k h1 h2|exact HDJ.out k h2 h1|(have hb:=HBT.out k h1;have hb2:=HBR.out k h2;omega))).mod Cx14.out (by intro k h1 h2;rcases h2 with h2|h2|h2|h2<;>first|omega|(have hb:=HBT.out k h1;omega)|(have hb:=HBR.out k h2;omega)|exact HDJ.out k h1 h2|exact HDJ.out k h2 h1|(have hb:=HBT.out k h1;have hb2:=HBR.out k h2;omega))) (by intro k h1;have hb:=HBT.out k h1;omega) (by intro k h1 h2;rcases h1 with h1|h1|h1|h1|h1<;>first|omega|(have hb:=HBR.out k h1;omega)|(have hb:=HBT.out k h2;omega)|exact HDJ.out k h1 h2|exact HDJ.out k h2 h1|(have hb:=HBR.out k h1;have hb2:=HBT.out k h2;omega)) (by have:=HL.out;simp only [List.length_append] at this ⊢; omega)) (fun E=>args3 (E.d 0 2) (E.d 2 0) rfl) ?_
 rintro e u4_3 ⟨rfl,qwr,hm⟩
 refine ⟨_,rfl,?_⟩
 have Hx15:=hid (qwr.widen (R':=(fun k=>(R k)∨(New u1_0 u1_1a k)∨(New u1_1 u1_2a k)∨(New u1_2 u2_3 k)∨(New u2_3 u3_3 k)∨(New u3_3 u4_3 k))) (by intro k h1;simp only [or_assoc] at h1 ⊢; exact h1) (Nat.le_refl _))
 have zu4_3:=hm.size
 have Cx16:=hid (show Mod (fun k=>(R k)∨(New u1_0 u1_1a k)∨(New u1_1 u1_2a k)∨(New u1_2 u2_3 k)∨(New u2_3 u3_3 k)) u3_3 u4_3 from hm)
 clear hm
 clear qwr Hx13
 refine QSeq.nil (t':=[_,_,_,_]) rfl ?_
 obtain rfl:=HA0.out
 clear HA0 oe0 oe3
 simp only [pz,Act.put,sIB,sCZ,sCS]
 go_wp2
 go_end0
 have hq:=(Hx15.out.widen (R':=(fun k=>R k∨New w u4_3 k)) (by intro k h1;rcases h1 with h1|h1|h1|h1|h1|h1<;>first|exact Or.inl h1|(right;omega)) (Nat.le_refl _))
 simp only [List.append_assoc] at hq
 exact ⟨rfl,by simpa only [baB,List.append_assoc] using hq,((((HM0.out.trans Cx10.out (fun _ _ h=>h)).trans Cx12.out (by intro k h1 h2;rcases h2 with h2|h2|h2<;>first|exact h2|omega|(have hb:=HBR.out k h2;omega))).trans Cx14.out (by intro k h1 h2;rcases h2 with h2|h2|h2|h2<;>first|exact h2|omega|(have hb:=HBR.out k h2;omega))).trans Cx16.out (by intro k h1 h2;rcases h2 with h2|h2|h2|h2|h2<;>first|exact h2|omega|(have hb:=HBR.out k h2;omega)))⟩
end Go.Proofs.YtnaoeginonpicaaGreat

/- Package wire: the texts that are signed, a batch's hash. -/
namespace Go.Proofs.YtnaoeginonpicaaGreat
open Go Go.RowKit Go.Gv
/-- a function from a thing to bytes; to a hash -/
def Makes {α:Type} (A:Rep α) (F:FuncId) (f:α→List Int):Prop:=∀ (R2:Nat→Prop) (cs:List Value) (x:α) (w:World),A.rd R2 w cs x→(∀ k,R2 k→k < w.heap.size)→(f x).length≤900000→
 Calls Tryz.prog F #[.agg cs.toArray] w fun e w'=>∃ v',e=.returned v'∧OwR (New w w') 900000 w' v' (f x)∧Mod (fun _=>False) w w'
def Hashes {α:Type} (A:Rep α) (F:FuncId) (f:α→List Int):Prop:=∀ (R2:Nat→Prop) (cs:List Value) (x:α) (w:World),A.rd R2 w cs x→(∀ k,R2 k→k < w.heap.size)→(f x).length≤900000→
 Calls Tryz.prog F #[.agg cs.toArray] w fun e w'=>e=.returned (hv (shaF (f x)))∧Mod (fun _=>False) w w'
end Go.Proofs.YtnaoeginonpicaaGreat

/- The reference's bytes of small things. -/
namespace Go.Proofs.YtnaoeginonpicaaGreat
open Go Go.RowKit Go.Gv
theorem A9 (n:Int) (hn:I64 n) (w:World):Calls Tryz.prog 22 #[.int .i64 n] w fun e w'=>∃ v',e=.returned v'∧OwR (New w w') 900000 w' v' (encI n)∧Mod (fun _=>False) w w':=
 (RefInt_R n hn w).mono fun e w' ⟨v',he,ho,hm⟩=>⟨v',he,ho.widen (fun _ h=>h) (by omega),hm⟩
theorem RefNum_Q (n:Nat) (hn:n < U64) (w:World):Calls Tryz.prog 28 #[.int .u64 n] w fun e w'=>∃ v',e=.returned v'∧OwR (New w w') 900000 w' v' (encN n)∧Mod (fun _=>False) w w':=
 (RefNum_R n hn w).mono fun e w' ⟨v',he,ho,hm⟩=>⟨v',he,ho.widen (fun _ h=>h) (by omega),hm⟩
theorem RefRow_Q {R:Nat→Prop} {N:Nat} {v:Value} {bs:List Int} {w:World} (hr:RdR R N w v bs) (hl:(encN bs.length ++ bs).length≤900000):Calls Tryz.prog 35 #[v] w fun e w'=>∃ v',e=.returned v'∧OwR (New w w') 900000 w' v' (encN bs.length ++ bs)∧Mod (fun _=>False) w w':=by
 have h1:bs.length≤900000:=by simp only [List.length_append] at hl;omega
 exact (RefRow_R (N:=bs.length) ⟨hr.1,hr.2.1,Nat.le_refl _⟩ h1).mono fun e w' ⟨v',he,ho,hm⟩=>⟨v',he,⟨ho.1,ho.2.1,hl⟩,hm⟩
theorem RdB_arr3 {w:World} {g off:Nat} {h:List Int} (hc:∀ j u,(h.map bv)[j]? = some u→w.cell? ⟨g,off+j,none⟩=some u) (hk:HK h):RdB w (.slice (some ⟨g,off,none⟩) 32 32) h:=by
 refine ⟨hk.2,?_⟩
 rw [hk.1]
 exact Rd.mk (Nat.le_refl _) (by rw [Ax];omega) (by simp [hk.1]) fun j y hy=>hc j y hy
def bareT (x:St):List Int:=encI x.rp ++ (nameB x.cl x.sq ++ (x.h ++ encN x.tm))
def bareP (x:Pm):List Int:=encI x.rp ++ (encI x.ep ++ (encN x.fl ++ listB ceB x.l))
def bareV (x:Vt):List Int:=encI x.kd ++ (encI x.ep ++ (encI x.rd ++ (encI x.rp ++ x.h)))
theorem acc_len {α:Type} (f:α→List Int) (bs:List Int) (l:List α) (k:Nat) {n:Nat} (h:(bs ++ (l.map f).flatten).length≤n):(bs ++ ((l.take k).map f).flatten).length≤n:=by
 have e:(l.map f).flatten=((l.take k).map f).flatten ++ ((l.drop k).map f).flatten:=by rw [← List.flatten_append,← List.map_append,List.take_append_drop]
 rw [e] at h
 simp only [List.length_append] at h ⊢
 omega
theorem Ay (n:Int) (h:I64 n):(encI n).length≤10:=(encI_len n h.2).2
theorem fm8' {P:Prop} (h:P:=by
 have HA:=Lib.hid ha
 have HB:=Lib.hid hb
 have HL:=hid (show (encI a ++ encI b).length≤900000 by have:=encI_len a ha.2;have:=encI_len b hb.2;simp only [List.length_append];(first|omega|(simp only [vc'] at *;omega)))
 clear ha hb
 change Calls _ _ #[.agg #[.int .i64 a,.int .i64 b]] _ _
 go_enter va',vb'
 go_upto_region 1 with (fail)
 obtain ⟨w1,hw1⟩:∃ zz,zz=(w.alloc (.cells #[.int .i64 a,.int .i64 b] vc')):=⟨_,rfl⟩
 change Code.wp _ _ _ _ (w.alloc (.cells #[.int .i64 a,.int .i64 b] vc'))
 rw [← hw1]
 have HB1:=hid (show Cs w1 (w.heap.size) #[.int .i64 a,.int .i64 b] vc' by rw [hw1];exact Cs.new _ _ _)
 have hm:Mod (fun _=>False) w w1:=by rw [hw1];exact (Mod.refl _ _).alloc _
 have HM0:=hid (show Mod (fun _=>False) w w1 from hm.mono (fun _ _ h=>h.elim))
 have hs1:w1.heap.size=w.heap.size+1:=by rw [hw1];simp
 clear hw1 hm
 go_upto_region 1 with (fail)
 generalize ha0:Act.mk _ _=a0
 have oe1:a0.eval (.tmp 1)=.pointer (some ⟨w.heap.size,0,none⟩):=by rw [← ha0];rfl
 have hsz0:a0.tmps.size=11:=by rw [← ha0];rfl
 have HA0:=hid ha0
 clear ha0
 refine A1 11 hsz0 [3,4,5,6,7,8,9,10,2] [qi (.pointer (some ⟨w.heap.size,0,none⟩)),qi (.int .i64 a),qv 0,qi (.pointer (some ⟨w.heap.size,1,none⟩)),qi (.int .i64 b),qv 1,qv 2,qv 3,qv 3] ⟨Ab,Ab,Ak,Ab,Ab,Ak,Ak,Ak,Ak,trivial⟩ [2,5,6,7] ⟨?_,?_,?_,?_,?_,?_,?_,?_,?_,trivial⟩ ?_
 ·exact stq (fun E=>Ad rfl vd' rfl (by kernel_rfl) (E.v oe1))
 ·exact stq (fun E=>Aj rfl Tryz.underlying3 rfl (E.d 0) (Cs.lit1 (HB1.out.mod E.m.old (by intro h2;(first|omega|(simp only [vc'] at *;omega)))) rfl))
 ·exact Ah rfl
 ·exact stq (fun E=>Ad rfl vd' rfl (by kernel_rfl) (E.v oe1))
 ·exact stq (fun E=>Aj rfl Tryz.underlying3 rfl (E.d 3) (Cs.lit1 (HB1.out.mod E.m.old (by intro h2;(first|omega|(simp only [vc'] at *;omega)))) rfl))
 ·exact Ah rfl
 ·exact Ah rfl
 ·exact Ah rfl
 ·refine Av rfl rfl rfl fun _ _ _ _ _ _ _ _ _ hd _ _=>?_
  have h7:=hd ⟨7,.data⟩ (by simp) rfl _ rfl
  exact Bd rfl (Ac rfl) (Af rfl rfl) QE.refl h7
 intro u1_0 hr
 have zu1_0:=hr.size
 have Cx1:=hid (hr.new (S:=(fun _=>False)))
 clear hr
 refine QChain.go fun Z act E=>?_
 refine Ap (args:=#[.int .i64 a]) rfl (Ac rfl) rfl Tryz.func22 (Aw (E.d 1)) (A9 _ HA.out _) ?_
 rintro e u1_1a ⟨v_a1,rfl,qa1,hm⟩
 obtain ⟨ao_a1,cap_a1,rfl⟩:=qa1.shape
 have zu1_1a:=hm.size
 refine ⟨_,rfl,hm.mono (fun _ _ h=>h.elim),(fun _=>rfl),?_⟩
 intro u1_1 hr
 have zu1_1:=hr.size
 have Hx2:=hid ((qa1.widen (R':=(fun k=>(New u1_0 u1_1a k))) (fun _ h=>h) (Nat.le_refl _)).mod hr (by intro k h1 h2;(first|omega|(simp only [vc'] at *;omega))))
 have Cx3:=hid (Cx1.out.go hm hr)
 clear Cx1 hm hr Z act E qa1
 refine QChain.go fun Z act E=>?_
 refine Ap (args:=#[.int .i64 b]) rfl (Ac rfl) rfl Tryz.func22 (Aw (E.d 4)) (A9 _ HB.out _) ?_
 rintro e u1_2a ⟨v_a2,rfl,qa2,hm⟩
 obtain ⟨ao_a2,cap_a2,rfl⟩:=qa2.shape
 have zu1_2a:=hm.size
 refine ⟨_,rfl,hm.mono (fun _ _ h=>h.elim),(fun _=>rfl),?_⟩
 intro u1_2 hr
 have zu1_2:=hr.size
 have Hx4:=hid ((qa2.widen (R':=(fun k=>(New u1_1 u1_2a k))) (fun _ h=>h) (Nat.le_refl _)).mod hr (by intro k h1 h2;(first|omega|(simp only [vc'] at *;omega))))
 have hmr:=Mod.after hm hr
 have Hx5:=hid (Hx2.out.mod hmr (by intro k h1 h2;(first|omega|(simp only [vc'] at *;omega))))
 clear Hx2
 clear hmr
 have Cx6:=hid (Cx3.out.go hm hr)
 clear Cx3 hm hr Z act E qa2
 refine QChain.go fun Z act E=>?_
 have ea5:act.eval (.tmp 5)=.slice ao_a1 ((encI a).length) cap_a1:=(chv (v:=.slice ao_a1 ((encI a).length) cap_a1) (E.d 2))
 have ea8:act.eval (.tmp 8)=.slice ao_a2 ((encI b).length) cap_a2:=(chv (v:=.slice ao_a2 ((encI b).length) cap_a2) (E.d 5))
 refine Bl rfl (Ac rfl) rfl Tryz.underlying124 (by decide) (C:=#[.slice ao_a1 ((encI a).length) cap_a1,.slice ao_a2 ((encI b).length) cap_a2]) (by simp only [List.map_toArray,List.map_cons,List.map_nil,ea5,ea8];kernel_rfl) ?_
 intro u1_3a qrow6 hm
 have zl1_6:=qrow6.lt
 have zu1_3a:=hm.size
 refine ⟨hm.mono (fun _ _ h=>h.elim),(fun _=>rfl),?_⟩
 intro u1_3 hr
 have zu1_3:=hr.size
 have Hx7:=hid (qrow6.mod hr (by intro h2;(first|omega|(simp only [vc'] at *;omega))))
 have hmr:=Mod.after hm hr
 have Hx8:=hid (Hx5.out.mod hmr (by intro k h1 h2;(first|omega|(simp only [vc'] at *;omega))))
 have Hx9:=hid (Hx4.out.mod hmr (by intro k h1 h2;(first|omega|(simp only [vc'] at *;omega))))
 clear Hx5 Hx4
 clear hmr
 have Cx10:=hid (Cx6.out.go hm hr)
 clear Cx6 hm hr Z act E qrow6 ea5 ea8
 refine QChain.go fun Z act E=>?_
 refine Ap (args:=#[.slice (some ⟨u1_2.heap.size,0,none⟩) 2 2]) rfl (Ac rfl) rfl Tryz.func21 (Aw (chv (v:=.slice (some ⟨u1_2.heap.size,0,none⟩) 2 2) (E.d 6))) (Join_Q (n:=2)  Hx7.out [(.slice ao_a1 ((encI a).length) cap_a1,encI a),(.slice ao_a2 ((encI b).length) cap_a2,encI b)] rfl rfl (by intro p hp;simp only [List.mem_cons,List.not_mem_nil,or_false] at hp;rcases hp with rfl|rfl<;>first|exact Hx8.out.rd.1|exact Hx9.out.rd.1) (by simp) (show flat _=encI a ++ encI b from by simp only [flat,List.map_cons,List.map_nil,List.flatten_cons,List.flatten_nil,List.append_nil]) (by have:=HL.out;simp only [List.length_append] at this ⊢; (first|omega|(simp only [vc'] at *;omega)))) ?_
 rintro e u1_4a ⟨v_join1,rfl,qjoin1,hm⟩
 have zu1_4a:=hm.size
 refine ⟨_,rfl,hm.mono (fun _ _ h=>h.elim),(fun _=>rfl),?_⟩
 intro u1_4 hr
 have zu1_4:=hr.size
 have Hx11:=hid ((qjoin1.widen (R':=(fun k=>(New u1_3 u1_4a k))) (fun _ h=>h) (Nat.le_refl _)).mod hr (by intro k h1 h2;(first|omega|(simp only [vc'] at *;omega))))
 have hmr:=Mod.after hm hr
 have Hx12:=hid (Hx8.out.mod hmr (by intro k h1 h2;(first|omega|(simp only [vc'] at *;omega))))
 have Hx13:=hid (Hx9.out.mod hmr (by intro k h1 h2;(first|omega|(simp only [vc'] at *;omega))))
 have Hx14:=hid (Hx7.out.mod hmr (by intro h2;(first|omega|(simp only [vc'] at *;omega))))
 clear Hx8 Hx9 Hx7
 clear hmr
 have Cx15:=hid (Cx10.out.go hm hr)
 clear Cx10 hm hr Z act E qjoin1
 refine QChain.nil fun vs hl hzz hrows hne=>?_
 obtain ⟨Z,hYZ,hZb,hV⟩:=hzz
 have f2:=fvc hV hl 2
 have f5:=fvc hV hl 5
 have f6:=fvc hV hl 6
 have f7:=fvc hV hl 7
 have f8:=fvc hV hl 8
 rw [show vs=[gw vs 0,gw vs 1,gw vs 2,gw vs 3,gw vs 4,gw vs 5,gw vs 6,gw vs 7,gw vs 8] from (Be hl).trans rfl]
 have ha0:=HA0.out
 subst ha0
 clear HA0 hV hYZ hZb hsz0 hrows hne oe1
 simp only [Au,Act.put,sIB,sCZ,sCS,f2,f5,f6,f7,f8]
 clear hl f2 f5 f6 f7 f8
 go_wp2
 go_ret
 exact ⟨v_join1,rfl,(Hx11.out.widen (R':=(fun k=>New w u1_4 k)) (by intro k h1;(first|omega|(simp only [vc'] at *;omega))) (Nat.le_refl _)),(HM0.out.trans Cx15.out (fun _ _ h=>h.elim))⟩):P:=h
open Go.Proofs renaming Tryz.func27→va',Tryz.ntmps27→vb',Tryz.underlying27→vd' in
open Go.Gv renaming n'27→vc' in
set_option maxHeartbeats 2000000 in
theorem RefSig_Q {a b:Int} (ha:I64 a) (hb:I64 b) (w:World):Calls Tryz.prog 27 #[.agg #[.int .i64 a,.int .i64 b]] w fun e w'=>∃ v',e=.returned v'∧OwR (New w w') 900000 w' v' (sigB a b)∧Mod (fun _=>False) w w':=
 fm8'
open Go.Proofs renaming Tryz.func32→va',Tryz.ntmps32→vb',Tryz.underlying23→vd' in
open Go.Gv renaming n'23→vc' in
set_option maxHeartbeats 2000000 in
theorem RefName_Q {a b:Int} (ha:I64 a) (hb:I64 b) (w:World):Calls Tryz.prog 32 #[.agg #[.int .i64 a,.int .i64 b]] w fun e w'=>∃ v',e=.returned v'∧OwR (New w w') 900000 w' v' (nameB a b)∧Mod (fun _=>False) w w':=
 fm8'
set_option maxHeartbeats 4000000 in
theorem RefCm_Q:Makes CmR 23 cmB:=by
 intro R2 cs x w hx hB2 hl
 obtain ⟨rfl,hok⟩:=hx
 have HBT:=Lib.hid hB2
 have HOK:=Lib.hid hok
 have HL:=Lib.hid hl
 clear hB2 hl hok
 unfold cmB at HL
 go_enter Tryz.func23,Tryz.ntmps23
 go_upto_region 1 with (fail)
 obtain ⟨w1,hw1⟩:∃ zz,zz=(w.alloc (.cells (x.cells:List Value).toArray 29)):=⟨_,rfl⟩
 change Code.wp _ _ _ _ (w.alloc (.cells (x.cells:List Value).toArray 29))
 rw [← hw1]
 have HB1:=hid (show Cs w1 (w.heap.size) (x.cells:List Value).toArray 29 by rw [hw1];exact Cs.new _ _ _)
 have hm:Mod (fun _=>False) w w1:=by rw [hw1];exact (Mod.refl _ _).alloc _
 have HM0:=hid (show Mod (fun _=>False) w w1 from hm.mono (fun _ _ h=>h.elim))
 have hs1:w1.heap.size=w.heap.size+1:=by rw [hw1];simp
 clear hw1 hm
 go_upto_region 1 with (fail)
 generalize ha0:Act.mk _ _=a0
 have oe1:a0.eval (.tmp 1)=.pointer (some ⟨w.heap.size,0,none⟩):=by rw [← ha0];rfl
 have hsz0:a0.tmps.size=16:=by rw [← ha0];rfl
 have HA0:=hid ha0
 clear ha0
 refine A1 16 hsz0 [3,4,5,6,7,8,9,10,11,12,13,14,15,2] [qi (.pointer (some ⟨w.heap.size,0,none⟩)),qi (.agg #[.int .i64 x.cl,.int .i64 x.sq]),qv 0,qi (.pointer (some ⟨w.heap.size,2,none⟩)),qi (.slice (some ⟨w.heap.size,2,none⟩) 32 32),qi (.pointer (some ⟨w.heap.size,34,none⟩)),qi (.int .i64 x.ln),qv 1,qi (.pointer (some ⟨w.heap.size,35,none⟩)),qi (.agg #[.int .i64 x.sb,.int .i64 x.mr]),qv 2,qv 3,qv 4,qv 4] ⟨Ab,Ab,Ak,Ab,Ab,Ab,Ab,Ak,Ab,Ab,Ak,Ak,Ak,Ak,trivial⟩ [2,7,10,11,12] ⟨?_,?_,?_,?_,?_,?_,?_,?_,?_,?_,?_,?_,?_,?_,trivial⟩ ?_
 ·exact stq (fun E=>Ad rfl Tryz.underlying29 rfl (by kernel_rfl) (E.v oe1))
 ·exact stq (fun E=>Am rfl Tryz.underlying23 rfl (off:=0) (cs:=[.int .i64 x.cl,.int .i64 x.sq]) (by kernel_rfl) (E.d 0) (Cs.preA (pre:=[.int .i64 x.cl,.int .i64 x.sq]) (mid:=x.h.map bv) (post:=[.int .i64 x.ln,.int .i64 x.sb,.int .i64 x.mr]) (HB1.out.mod E.m.old (by intro h2;omega)) rfl))
 ·exact Ah rfl
 ·exact stq (fun E=>Ad rfl Tryz.underlying29 rfl (by kernel_rfl) (E.v oe1))
 ·exact stq (fun E=>ex_sliceArr rfl Tryz.underlying25 (by kernel_rfl) (E.d 3) (by decide))
 ·exact stq (fun E=>Ad rfl Tryz.underlying29 rfl (by kernel_rfl) (E.v oe1))
 ·exact stq (fun E=>Aj rfl Tryz.underlying3 rfl (E.d 5) ((HB1.out.mod E.m.old (by intro h2;omega)).c34 HOK.out.2.1))
 ·exact Ah rfl
 ·exact stq (fun E=>Ad rfl Tryz.underlying29 rfl (by kernel_rfl) (E.v oe1))
 ·exact stq (fun E=>Am rfl Tryz.underlying27 rfl (off:=35) (cs:=[.int .i64 x.sb,.int .i64 x.mr]) (by kernel_rfl) (E.d 8) ((HB1.out.mod E.m.old (by intro h2;omega)).sig HOK.out.2.1))
 ·exact Ah rfl
 ·exact Ah rfl
 ·exact Ah rfl
 ·refine Av rfl rfl rfl fun _ _ _ _ _ _ _ _ _ hd _ _=>?_
  have h12:=hd ⟨12,.data⟩ (by simp) rfl _ rfl
  exact Bd rfl (Ac rfl) (Af rfl rfl) QE.refl h12
 intro u1_0 hr
 have zu1_0:=hr.size
 have Cx1:=hid (hr.new (S:=(fun _=>False)))
 clear hr
 refine QChain.go fun Z act E=>?_
 refine Ap (args:=#[.agg #[.int .i64 x.cl,.int .i64 x.sq]]) rfl (Ac rfl) rfl Tryz.func32 (Aw (E.d 1)) (RefName_Q HOK.out.1.1 HOK.out.1.2.1 _) ?_
 rintro e u1_1a ⟨v_a1,rfl,qa1,hm⟩
 obtain ⟨ao_a1,cap_a1,rfl⟩:=qa1.shape
 have zu1_1a:=hm.size
 refine ⟨_,rfl,hm.mono (fun _ _ h=>h.elim),(fun _=>rfl),?_⟩
 intro u1_1 hr
 have zu1_1:=hr.size
 have Hx2:=hid ((qa1.widen (R':=(fun k=>(New u1_0 u1_1a k))) (fun _ h=>h) (Nat.le_refl _)).mod hr (by intro k h1 h2;omega))
 have Cx3:=hid (Cx1.out.go hm hr)
 clear Cx1 hm hr Z act E qa1
 refine QChain.go fun Z act E=>?_
 refine Ap (args:=#[.int .i64 x.ln]) rfl (Ac rfl) rfl Tryz.func22 (Aw (E.d 6)) (A9 _ HOK.out.1.2.2.1 _) ?_
 rintro e u1_2a ⟨v_a2,rfl,qa2,hm⟩
 obtain ⟨ao_a2,cap_a2,rfl⟩:=qa2.shape
 have zu1_2a:=hm.size
 refine ⟨_,rfl,hm.mono (fun _ _ h=>h.elim),(fun _=>rfl),?_⟩
 intro u1_2 hr
 have zu1_2:=hr.size
 have Hx4:=hid ((qa2.widen (R':=(fun k=>(New u1_1 u1_2a k))) (fun _ h=>h) (Nat.le_refl _)).mod hr (by intro k h1 h2;omega))
 have hmr:=Mod.after hm hr
 have Hx5:=hid (Hx2.out.mod hmr (by intro k h1 h2;omega))
 clear Hx2
 clear hmr
 have Cx6:=hid (Cx3.out.go hm hr)
 clear Cx3 hm hr Z act E qa2
 refine QChain.go fun Z act E=>?_
 refine Ap (args:=#[.agg #[.int .i64 x.sb,.int .i64 x.mr]]) rfl (Ac rfl) rfl Tryz.func27 (Aw (E.d 9)) (RefSig_Q HOK.out.1.2.2.2.1 HOK.out.1.2.2.2.2 _) ?_
 rintro e u1_3a ⟨v_a3,rfl,qa3,hm⟩
 obtain ⟨ao_a3,cap_a3,rfl⟩:=qa3.shape
 have zu1_3a:=hm.size
 refine ⟨_,rfl,hm.mono (fun _ _ h=>h.elim),(fun _=>rfl),?_⟩
 intro u1_3 hr
 have zu1_3:=hr.size
 have Hx7:=hid ((qa3.widen (R':=(fun k=>(New u1_2 u1_3a k))) (fun _ h=>h) (Nat.le_refl _)).mod hr (by intro k h1 h2;omega))
 have hmr:=Mod.after hm hr
 have Hx8:=hid (Hx5.out.mod hmr (by intro k h1 h2;omega))
 have Hx9:=hid (Hx4.out.mod hmr (by intro k h1 h2;omega))
 clear Hx5 Hx4
 clear hmr
 have Cx10:=hid (Cx6.out.go hm hr)
 clear Cx6 hm hr Z act E qa3
 refine QChain.go fun Z act E=>?_
 have ea5:act.eval (.tmp 5)=.slice ao_a1 ((nameB x.cl x.sq).length) cap_a1:=(chv (v:=.slice ao_a1 ((nameB x.cl x.sq).length) cap_a1) (E.d 2))
 have ea7:act.eval (.tmp 7)=.slice (some ⟨w.heap.size,2,none⟩) 32 32:=(E.d 4)
 have ea10:act.eval (.tmp 10)=.slice ao_a2 ((encI x.ln).length) cap_a2:=(chv (v:=.slice ao_a2 ((encI x.ln).length) cap_a2) (E.d 7))
 have ea13:act.eval (.tmp 13)=.slice ao_a3 ((sigB x.sb x.mr).length) cap_a3:=(chv (v:=.slice ao_a3 ((sigB x.sb x.mr).length) cap_a3) (E.d 10))
 refine Bl rfl (Ac rfl) rfl Tryz.underlying124 (by decide) (C:=#[.slice ao_a1 ((nameB x.cl x.sq).length) cap_a1,.slice (some ⟨w.heap.size,2,none⟩) 32 32,.slice ao_a2 ((encI x.ln).length) cap_a2,.slice ao_a3 ((sigB x.sb x.mr).length) cap_a3]) (by simp only [List.map_toArray,List.map_cons,List.map_nil,ea5,ea7,ea10,ea13];kernel_rfl) ?_
 intro u1_4a qrow11 hm
 have zl1_11:=qrow11.lt
 have zu1_4a:=hm.size
 refine ⟨hm.mono (fun _ _ h=>h.elim),(fun _=>rfl),?_⟩
 intro u1_4 hr
 have zu1_4:=hr.size
 have Hx11:=hid (qrow11.mod hr (by intro h2;omega))
 have hmr:=Mod.after hm hr
 have Hx12:=hid (Hx8.out.mod hmr (by intro k h1 h2;omega))
 have Hx13:=hid (Hx9.out.mod hmr (by intro k h1 h2;omega))
 have Hx14:=hid (Hx7.out.mod hmr (by intro k h1 h2;omega))
 clear Hx8 Hx9 Hx7
 clear hmr
 have Cx15:=hid (Cx10.out.go hm hr)
 clear Cx10 hm hr Z act E qrow11 ea5 ea7 ea10 ea13
 refine QChain.go fun Z act E=>?_
 refine Ap (args:=#[.slice (some ⟨u1_3.heap.size,0,none⟩) 4 4]) rfl (Ac rfl) rfl Tryz.func21 (Aw (chv (v:=.slice (some ⟨u1_3.heap.size,0,none⟩) 4 4) (E.d 11))) (Join_Q (n:=4)  Hx11.out [(.slice ao_a1 ((nameB x.cl x.sq).length) cap_a1,nameB x.cl x.sq),(.slice (some ⟨w.heap.size,2,none⟩) 32 32,x.h),(.slice ao_a2 ((encI x.ln).length) cap_a2,encI x.ln),(.slice ao_a3 ((sigB x.sb x.mr).length) cap_a3,sigB x.sb x.mr)] rfl rfl (by intro p hp;simp only [List.mem_cons,List.not_mem_nil,or_false] at hp;rcases hp with rfl|rfl|rfl|rfl<;>first|exact Hx12.out.rd.1|exact RdB_arr3 ((HB1.out.mod Cx15.out (fun h=>h)).hash) HOK.out.2|exact Hx13.out.rd.1|exact Hx14.out.rd.1) (by simp) (show flat _=nameB x.cl x.sq ++ (x.h ++ (encI x.ln ++ sigB x.sb x.mr)) from by simp only [flat,List.map_cons,List.map_nil,List.flatten_cons,List.flatten_nil,List.append_nil]) (by have:=HL.out;simp only [List.length_append] at this ⊢; omega)) ?_
 rintro e u1_5a ⟨v_join1,rfl,qjoin1,hm⟩
 have zu1_5a:=hm.size
 refine ⟨_,rfl,hm.mono (fun _ _ h=>h.elim),(fun _=>rfl),?_⟩
 intro u1_5 hr
 have zu1_5:=hr.size
 have Hx16:=hid ((qjoin1.widen (R':=(fun k=>(New u1_4 u1_5a k))) (fun _ h=>h) (Nat.le_refl _)).mod hr (by intro k h1 h2;omega))
 have hmr:=Mod.after hm hr
 have Hx17:=hid (Hx12.out.mod hmr (by intro k h1 h2;omega))
 have Hx18:=hid (Hx13.out.mod hmr (by intro k h1 h2;omega))
 have Hx19:=hid (Hx14.out.mod hmr (by intro k h1 h2;omega))
 have Hx20:=hid (Hx11.out.mod hmr (by intro h2;omega))
 clear Hx12 Hx13 Hx14 Hx11
 clear hmr
 have Cx21:=hid (Cx15.out.go hm hr)
 clear Cx15 hm hr Z act E qjoin1
 refine QChain.nil fun vs hl hzz hrows hne=>?_
 obtain ⟨Z,hYZ,hZb,hV⟩:=hzz
 have f2:=fvc hV hl 2
 have f7:=fvc hV hl 7
 have f10:=fvc hV hl 10
 have f11:=fvc hV hl 11
 have f12:=fvc hV hl 12
 have f13:=fvc hV hl 13
 rw [show vs=[gw vs 0,gw vs 1,gw vs 2,gw vs 3,gw vs 4,gw vs 5,gw vs 6,gw vs 7,gw vs 8,gw vs 9,gw vs 10,gw vs 11,gw vs 12,gw vs 13] from (Be hl).trans rfl]
 have ha0:=HA0.out
 subst ha0
 clear HA0 hV hYZ hZb hsz0 hrows hne oe1
 simp only [Au,Act.put,sIB,sCZ,sCS,f2,f7,f10,f11,f12,f13]
 clear hl f2 f7 f10 f11 f12 f13
 go_wp2
 go_ret
 have hq:=(Hx16.out.widen (R':=(fun k=>New w u1_5 k)) (by intro k h1;omega) (Nat.le_refl _))
 (try simp only [List.append_assoc] at hq)
 exact ⟨v_join1,rfl,by simpa only [cmB,List.append_assoc] using hq,(HM0.out.trans Cx21.out (fun _ _ h=>h.elim))⟩
theorem fm9' {P:Prop} (h:P:=by
 intro R2 cs x w hx hB2 hl
 obtain ⟨rfl,hok⟩:=hx
 have HBT:=Lib.hid hB2
 have HOK:=Lib.hid hok
 have HL:=Lib.hid hl
 clear hB2 hl hok
 unfold bareT at HL
 go_enter va',vb'
 go_upto_region 1 with (fail)
 obtain ⟨w1,hw1⟩:∃ zz,zz=(w.alloc (.cells (x.cells:List Value).toArray vc')):=⟨_,rfl⟩
 change Code.wp _ _ _ _ (w.alloc (.cells (x.cells:List Value).toArray vc'))
 rw [← hw1]
 have HB1:=hid (show Cs w1 (w.heap.size) (x.cells:List Value).toArray vc' by rw [hw1];exact Cs.new _ _ _)
 have hm:Mod (fun _=>False) w w1:=by rw [hw1];exact (Mod.refl _ _).alloc _
 have HM0:=hid (show Mod (fun _=>False) w w1 from hm.mono (fun _ _ h=>h.elim))
 have hs1:w1.heap.size=w.heap.size+1:=by rw [hw1];simp
 clear hw1 hm
 go_upto_region 1 with (fail)
 generalize ha0:Act.mk _ _=a0
 have oe1:a0.eval (.tmp 1)=.pointer (some ⟨w.heap.size,0,none⟩):=by rw [← ha0];rfl
 have hsz0:a0.tmps.size=16:=by rw [← ha0];rfl
 have HA0:=hid ha0
 clear ha0
 refine A1 16 hsz0 [3,4,5,6,7,8,9,10,11,12,13,14,15,2] [qi (.pointer (some ⟨w.heap.size,0,none⟩)),qi (.int .i64 x.rp),qv 0,qi (.pointer (some ⟨w.heap.size,1,none⟩)),qi (.agg #[.int .i64 x.cl,.int .i64 x.sq]),qv 1,qi (.pointer (some ⟨w.heap.size,3,none⟩)),qi (.slice (some ⟨w.heap.size,3,none⟩) 32 32),qi (.pointer (some ⟨w.heap.size,35,none⟩)),qi (.int .u64 (x.tm:Nat)),qv 2,qv 3,qv 4,qv 4] ⟨Ab,Ab,Ak,Ab,Ab,Ak,Ab,Ab,Ab,Ab,Ak,Ak,Ak,Ak,trivial⟩ [2,5,10,11,12] ⟨?_,?_,?_,?_,?_,?_,?_,?_,?_,?_,?_,?_,?_,?_,trivial⟩ ?_
 ·exact stq (fun E=>Ad rfl vd' rfl (by kernel_rfl) (E.v oe1))
 ·exact stq (fun E=>Aj rfl Tryz.underlying3 rfl (E.d 0) (Cs.pre1 (HB1.out.mod E.m.old (by intro h2;(first|omega|(simp only [vc'] at *;omega)))) rfl))
 ·exact Ah rfl
 ·exact stq (fun E=>Ad rfl vd' rfl (by kernel_rfl) (E.v oe1))
 ·exact stq (fun E=>Am rfl Tryz.underlying23 rfl (off:=1) (cs:=[.int .i64 x.cl,.int .i64 x.sq]) (by kernel_rfl) (E.d 3) (Cs.preA (HB1.out.mod E.m.old (by intro h2;(first|omega|(simp only [vc'] at *;omega)))) rfl))
 ·exact Ah rfl
 ·exact stq (fun E=>Ad rfl vd' rfl (by kernel_rfl) (E.v oe1))
 ·exact stq (fun E=>ex_sliceArr rfl Tryz.underlying25 (by kernel_rfl) (E.d 6) (by decide))
 ·exact stq (fun E=>Ad rfl vd' rfl (by kernel_rfl) (E.v oe1))
 ·exact stq (fun E=>Aj rfl Tryz.underlying30 rfl (E.d 8) (Cs.post1 (m:=32) (k:=0) (HB1.out.mod E.m.old (by intro h2;(first|omega|(simp only [vc'] at *;omega)))) (by rw [List.length_map];exact HOK.out.h.1) rfl rfl))
 ·exact Ah rfl
 ·exact Ah rfl
 ·exact Ah rfl
 ·refine Av rfl rfl rfl fun _ _ _ _ _ _ _ _ _ hd _ _=>?_
  have h12:=hd ⟨12,.data⟩ (by simp) rfl _ rfl
  exact Bd rfl (Ac rfl) (Af rfl rfl) QE.refl h12
 intro u1_0 hr
 have zu1_0:=hr.size
 have Cx1:=hid (hr.new (S:=(fun _=>False)))
 clear hr
 refine QChain.go fun Z act E=>?_
 refine Ap (args:=#[.int .i64 x.rp]) rfl (Ac rfl) rfl Tryz.func22 (Aw (E.d 1)) (A9 _ HOK.out.rp _) ?_
 rintro e u1_1a ⟨v_a1,rfl,qa1,hm⟩
 obtain ⟨ao_a1,cap_a1,rfl⟩:=qa1.shape
 have zu1_1a:=hm.size
 refine ⟨_,rfl,hm.mono (fun _ _ h=>h.elim),(fun _=>rfl),?_⟩
 intro u1_1 hr
 have zu1_1:=hr.size
 have Hx2:=hid ((qa1.widen (R':=(fun k=>(New u1_0 u1_1a k))) (fun _ h=>h) (Nat.le_refl _)).mod hr (by intro k h1 h2;(first|omega|(simp only [vc'] at *;omega))))
 have Cx3:=hid (Cx1.out.go hm hr)
 clear Cx1 hm hr Z act E qa1
 refine QChain.go fun Z act E=>?_
 refine Ap (args:=#[.agg #[.int .i64 x.cl,.int .i64 x.sq]]) rfl (Ac rfl) rfl Tryz.func32 (Aw (E.d 4)) (RefName_Q HOK.out.cl HOK.out.sq _) ?_
 rintro e u1_2a ⟨v_a2,rfl,qa2,hm⟩
 obtain ⟨ao_a2,cap_a2,rfl⟩:=qa2.shape
 have zu1_2a:=hm.size
 refine ⟨_,rfl,hm.mono (fun _ _ h=>h.elim),(fun _=>rfl),?_⟩
 intro u1_2 hr
 have zu1_2:=hr.size
 have Hx4:=hid ((qa2.widen (R':=(fun k=>(New u1_1 u1_2a k))) (fun _ h=>h) (Nat.le_refl _)).mod hr (by intro k h1 h2;(first|omega|(simp only [vc'] at *;omega))))
 have hmr:=Mod.after hm hr
 have Hx5:=hid (Hx2.out.mod hmr (by intro k h1 h2;(first|omega|(simp only [vc'] at *;omega))))
 clear Hx2
 clear hmr
 have Cx6:=hid (Cx3.out.go hm hr)
 clear Cx3 hm hr Z act E qa2
 refine QChain.go fun Z act E=>?_
 refine Ap (args:=#[.int .u64 (x.tm:Nat)]) rfl (Ac rfl) rfl Tryz.func28 (Aw (E.d 9)) (RefNum_Q _ HOK.out.tm _) ?_
 rintro e u1_3a ⟨v_a3,rfl,qa3,hm⟩
 obtain ⟨ao_a3,cap_a3,rfl⟩:=qa3.shape
 have zu1_3a:=hm.size
 refine ⟨_,rfl,hm.mono (fun _ _ h=>h.elim),(fun _=>rfl),?_⟩
 intro u1_3 hr
 have zu1_3:=hr.size
 have Hx7:=hid ((qa3.widen (R':=(fun k=>(New u1_2 u1_3a k))) (fun _ h=>h) (Nat.le_refl _)).mod hr (by intro k h1 h2;(first|omega|(simp only [vc'] at *;omega))))
 have hmr:=Mod.after hm hr
 have Hx8:=hid (Hx5.out.mod hmr (by intro k h1 h2;(first|omega|(simp only [vc'] at *;omega))))
 have Hx9:=hid (Hx4.out.mod hmr (by intro k h1 h2;(first|omega|(simp only [vc'] at *;omega))))
 clear Hx5 Hx4
 clear hmr
 have Cx10:=hid (Cx6.out.go hm hr)
 clear Cx6 hm hr Z act E qa3
 refine QChain.go fun Z act E=>?_
 have ea5:act.eval (.tmp 5)=.slice ao_a1 ((encI x.rp).length) cap_a1:=(chv (v:=.slice ao_a1 ((encI x.rp).length) cap_a1) (E.d 2))
 have ea8:act.eval (.tmp 8)=.slice ao_a2 ((nameB x.cl x.sq).length) cap_a2:=(chv (v:=.slice ao_a2 ((nameB x.cl x.sq).length) cap_a2) (E.d 5))
 have ea10:act.eval (.tmp 10)=.slice (some ⟨w.heap.size,3,none⟩) 32 32:=(E.d 7)
 have ea13:act.eval (.tmp 13)=.slice ao_a3 ((encN x.tm).length) cap_a3:=(chv (v:=.slice ao_a3 ((encN x.tm).length) cap_a3) (E.d 10))
 refine Bl rfl (Ac rfl) rfl Tryz.underlying124 (by decide) (C:=#[.slice ao_a1 ((encI x.rp).length) cap_a1,.slice ao_a2 ((nameB x.cl x.sq).length) cap_a2,.slice (some ⟨w.heap.size,3,none⟩) 32 32,.slice ao_a3 ((encN x.tm).length) cap_a3]) (by simp only [List.map_toArray,List.map_cons,List.map_nil,ea5,ea8,ea10,ea13];kernel_rfl) ?_
 intro u1_4a qrow11 hm
 have zl1_11:=qrow11.lt
 have zu1_4a:=hm.size
 refine ⟨hm.mono (fun _ _ h=>h.elim),(fun _=>rfl),?_⟩
 intro u1_4 hr
 have zu1_4:=hr.size
 have Hx11:=hid (qrow11.mod hr (by intro h2;(first|omega|(simp only [vc'] at *;omega))))
 have hmr:=Mod.after hm hr
 have Hx12:=hid (Hx8.out.mod hmr (by intro k h1 h2;(first|omega|(simp only [vc'] at *;omega))))
 have Hx13:=hid (Hx9.out.mod hmr (by intro k h1 h2;(first|omega|(simp only [vc'] at *;omega))))
 have Hx14:=hid (Hx7.out.mod hmr (by intro k h1 h2;(first|omega|(simp only [vc'] at *;omega))))
 clear Hx8 Hx9 Hx7
 clear hmr
 have Cx15:=hid (Cx10.out.go hm hr)
 clear Cx10 hm hr Z act E qrow11 ea5 ea8 ea10 ea13
 refine QChain.go fun Z act E=>?_
 refine Ap (args:=#[.slice (some ⟨u1_3.heap.size,0,none⟩) 4 4]) rfl (Ac rfl) rfl Tryz.func21 (Aw (chv (v:=.slice (some ⟨u1_3.heap.size,0,none⟩) 4 4) (E.d 11))) (Join_Q (n:=4)  Hx11.out [(.slice ao_a1 ((encI x.rp).length) cap_a1,encI x.rp),(.slice ao_a2 ((nameB x.cl x.sq).length) cap_a2,nameB x.cl x.sq),(.slice (some ⟨w.heap.size,3,none⟩) 32 32,x.h),(.slice ao_a3 ((encN x.tm).length) cap_a3,encN x.tm)] rfl rfl (by intro p hp;simp only [List.mem_cons,List.not_mem_nil,or_false] at hp;rcases hp with rfl|rfl|rfl|rfl<;>first|exact Hx12.out.rd.1|exact Hx13.out.rd.1|exact RdB_arr3 (Cs.midA (HB1.out.mod Cx15.out (fun h=>h)) rfl) HOK.out.h|exact Hx14.out.rd.1) (by simp) (show flat _=encI x.rp ++ (nameB x.cl x.sq ++ (x.h ++ encN x.tm)) from by simp only [flat,List.map_cons,List.map_nil,List.flatten_cons,List.flatten_nil,List.append_nil]) (by have:=HL.out;simp only [List.length_append] at this ⊢; (first|omega|(simp only [vc'] at *;omega)))) ?_
 rintro e u1_5a ⟨v_join1,rfl,qjoin1,hm⟩
 have zu1_5a:=hm.size
 refine ⟨_,rfl,hm.mono (fun _ _ h=>h.elim),(fun _=>rfl),?_⟩
 intro u1_5 hr
 have zu1_5:=hr.size
 have Hx16:=hid ((qjoin1.widen (R':=(fun k=>(New u1_4 u1_5a k))) (fun _ h=>h) (Nat.le_refl _)).mod hr (by intro k h1 h2;(first|omega|(simp only [vc'] at *;omega))))
 have hmr:=Mod.after hm hr
 have Hx17:=hid (Hx12.out.mod hmr (by intro k h1 h2;(first|omega|(simp only [vc'] at *;omega))))
 have Hx18:=hid (Hx13.out.mod hmr (by intro k h1 h2;(first|omega|(simp only [vc'] at *;omega))))
 have Hx19:=hid (Hx14.out.mod hmr (by intro k h1 h2;(first|omega|(simp only [vc'] at *;omega))))
 have Hx20:=hid (Hx11.out.mod hmr (by intro h2;(first|omega|(simp only [vc'] at *;omega))))
 clear Hx12 Hx13 Hx14 Hx11
 clear hmr
 have Cx21:=hid (Cx15.out.go hm hr)
 clear Cx15 hm hr Z act E qjoin1
 refine QChain.nil fun vs hl hzz hrows hne=>?_
 obtain ⟨Z,hYZ,hZb,hV⟩:=hzz
 have f2:=fvc hV hl 2
 have f5:=fvc hV hl 5
 have f10:=fvc hV hl 10
 have f11:=fvc hV hl 11
 have f12:=fvc hV hl 12
 have f13:=fvc hV hl 13
 rw [show vs=[gw vs 0,gw vs 1,gw vs 2,gw vs 3,gw vs 4,gw vs 5,gw vs 6,gw vs 7,gw vs 8,gw vs 9,gw vs 10,gw vs 11,gw vs 12,gw vs 13] from (Be hl).trans rfl]
 have ha0:=HA0.out
 subst ha0
 clear HA0 hV hYZ hZb hsz0 hrows hne oe1
 simp only [Au,Act.put,sIB,sCZ,sCS,f2,f5,f10,f11,f12,f13]
 clear hl f2 f5 f10 f11 f12 f13
 go_wp2
 go_ret
 have hq:=(Hx16.out.widen (R':=(fun k=>New w u1_5 k)) (by intro k h1;(first|omega|(simp only [vc'] at *;omega))) (Nat.le_refl _))
 (try simp only [List.append_assoc] at hq)
 exact ⟨v_join1,rfl,by simpa only [bareT,List.append_assoc] using hq,(HM0.out.trans Cx21.out (fun _ _ h=>h.elim))⟩):P:=h
open Go.Proofs renaming Tryz.func71→va',Tryz.ntmps71→vb',Tryz.underlying32→vd' in
open Go.Gv renaming n'32→vc' in
set_option maxHeartbeats 4000000 in
theorem RefBare_Q:Makes StR 71 bareT:=
 fm9'
open Go.Proofs renaming Tryz.func26→va',Tryz.ntmps26→vb',Tryz.underlying37→vd' in
open Go.Gv renaming n'37→vc' in
set_option maxHeartbeats 4000000 in
theorem RefBareA_Q:Makes StR 26 bareT:=
 fm9'
set_option maxHeartbeats 4000000 in
theorem RefBareV_Q:Makes VtR 31 bareV:=by
 intro R2 cs x w hx hB2 hl
 obtain ⟨rfl,hok⟩:=hx
 have HBT:=Lib.hid hB2
 have HOK:=Lib.hid hok
 have HL:=Lib.hid hl
 clear hB2 hl hok
 unfold bareV at HL
 go_enter Tryz.func31,Tryz.ntmps31
 go_upto_region 1 with (fail)
 obtain ⟨w1,hw1⟩:∃ zz,zz=(w.alloc (.cells (x.cells:List Value).toArray 49)):=⟨_,rfl⟩
 change Code.wp _ _ _ _ (w.alloc (.cells (x.cells:List Value).toArray 49))
 rw [← hw1]
 have HB1:=hid (show Cs w1 (w.heap.size) (x.cells:List Value).toArray 49 by rw [hw1];exact Cs.new _ _ _)
 have hm:Mod (fun _=>False) w w1:=by rw [hw1];exact (Mod.refl _ _).alloc _
 have HM0:=hid (show Mod (fun _=>False) w w1 from hm.mono (fun _ _ h=>h.elim))
 have hs1:w1.heap.size=w.heap.size+1:=by rw [hw1];simp
 clear hw1 hm
 go_upto_region 1 with (fail)
 generalize ha0:Act.mk _ _=a0
 have oe1:a0.eval (.tmp 1)=.pointer (some ⟨w.heap.size,0,none⟩):=by rw [← ha0];rfl
 have hsz0:a0.tmps.size=19:=by rw [← ha0];rfl
 have HA0:=hid ha0
 clear ha0
 refine A1 19 hsz0 [3,4,5,6,7,8,9,10,11,12,13,14,15,16,17,18,2] [qi (.pointer (some ⟨w.heap.size,0,none⟩)),qi (.int .i64 x.kd),qv 0,qi (.pointer (some ⟨w.heap.size,1,none⟩)),qi (.int .i64 x.ep),qv 1,qi (.pointer (some ⟨w.heap.size,2,none⟩)),qi (.int .i64 x.rd),qv 2,qi (.pointer (some ⟨w.heap.size,3,none⟩)),qi (.int .i64 x.rp),qv 3,qi (.pointer (some ⟨w.heap.size,4,none⟩)),qi (.slice (some ⟨w.heap.size,4,none⟩) 32 32),qv 4,qv 5,qv 5] ⟨Ab,Ab,Ak,Ab,Ab,Ak,Ab,Ab,Ak,Ab,Ab,Ak,Ab,Ab,Ak,Ak,Ak,trivial⟩ [2,5,8,11,14,15] ⟨?_,?_,?_,?_,?_,?_,?_,?_,?_,?_,?_,?_,?_,?_,?_,?_,?_,trivial⟩ ?_
 ·exact stq (fun E=>Ad rfl Tryz.underlying49 rfl (by kernel_rfl) (E.v oe1))
 ·exact stq (fun E=>Aj rfl Tryz.underlying3 rfl (E.d 0) (Cs.pre1 (HB1.out.mod E.m.old (by intro h2;omega)) rfl))
 ·exact Ah rfl
 ·exact stq (fun E=>Ad rfl Tryz.underlying49 rfl (by kernel_rfl) (E.v oe1))
 ·exact stq (fun E=>Aj rfl Tryz.underlying3 rfl (E.d 3) (Cs.pre1 (HB1.out.mod E.m.old (by intro h2;omega)) rfl))
 ·exact Ah rfl
 ·exact stq (fun E=>Ad rfl Tryz.underlying49 rfl (by kernel_rfl) (E.v oe1))
 ·exact stq (fun E=>Aj rfl Tryz.underlying3 rfl (E.d 6) (Cs.pre1 (HB1.out.mod E.m.old (by intro h2;omega)) rfl))
 ·exact Ah rfl
 ·exact stq (fun E=>Ad rfl Tryz.underlying49 rfl (by kernel_rfl) (E.v oe1))
 ·exact stq (fun E=>Aj rfl Tryz.underlying3 rfl (E.d 9) (Cs.pre1 (HB1.out.mod E.m.old (by intro h2;omega)) rfl))
 ·exact Ah rfl
 ·exact stq (fun E=>Ad rfl Tryz.underlying49 rfl (by kernel_rfl) (E.v oe1))
 ·exact stq (fun E=>ex_sliceArr rfl Tryz.underlying25 (by kernel_rfl) (E.d 12) (by decide))
 ·exact Ah rfl
 ·exact Ah rfl
 ·refine Av rfl rfl rfl fun _ _ _ _ _ _ _ _ _ hd _ _=>?_
  have h15:=hd ⟨15,.data⟩ (by simp) rfl _ rfl
  exact Bd rfl (Ac rfl) (Af rfl rfl) QE.refl h15
 intro u1_0 hr
 have zu1_0:=hr.size
 have Cx1:=hid (hr.new (S:=(fun _=>False)))
 clear hr
 refine QChain.go fun Z act E=>?_
 refine Ap (args:=#[.int .i64 x.kd]) rfl (Ac rfl) rfl Tryz.func22 (Aw (E.d 1)) (A9 _ HOK.out.kd _) ?_
 rintro e u1_1a ⟨v_a1,rfl,qa1,hm⟩
 obtain ⟨ao_a1,cap_a1,rfl⟩:=qa1.shape
 have zu1_1a:=hm.size
 refine ⟨_,rfl,hm.mono (fun _ _ h=>h.elim),(fun _=>rfl),?_⟩
 intro u1_1 hr
 have zu1_1:=hr.size
 have Hx2:=hid ((qa1.widen (R':=(fun k=>(New u1_0 u1_1a k))) (fun _ h=>h) (Nat.le_refl _)).mod hr (by intro k h1 h2;omega))
 have Cx3:=hid (Cx1.out.go hm hr)
 clear Cx1 hm hr Z act E qa1
 refine QChain.go fun Z act E=>?_
 refine Ap (args:=#[.int .i64 x.ep]) rfl (Ac rfl) rfl Tryz.func22 (Aw (E.d 4)) (A9 _ HOK.out.ep _) ?_
 rintro e u1_2a ⟨v_a2,rfl,qa2,hm⟩
 obtain ⟨ao_a2,cap_a2,rfl⟩:=qa2.shape
 have zu1_2a:=hm.size
 refine ⟨_,rfl,hm.mono (fun _ _ h=>h.elim),(fun _=>rfl),?_⟩
 intro u1_2 hr
 have zu1_2:=hr.size
 have Hx4:=hid ((qa2.widen (R':=(fun k=>(New u1_1 u1_2a k))) (fun _ h=>h) (Nat.le_refl _)).mod hr (by intro k h1 h2;omega))
 have hmr:=Mod.after hm hr
 have Hx5:=hid (Hx2.out.mod hmr (by intro k h1 h2;omega))
 clear Hx2
 clear hmr
 have Cx6:=hid (Cx3.out.go hm hr)
 clear Cx3 hm hr Z act E qa2
 refine QChain.go fun Z act E=>?_
 refine Ap (args:=#[.int .i64 x.rd]) rfl (Ac rfl) rfl Tryz.func22 (Aw (E.d 7)) (A9 _ HOK.out.rd _) ?_
 rintro e u1_3a ⟨v_a3,rfl,qa3,hm⟩
 obtain ⟨ao_a3,cap_a3,rfl⟩:=qa3.shape
 have zu1_3a:=hm.size
 refine ⟨_,rfl,hm.mono (fun _ _ h=>h.elim),(fun _=>rfl),?_⟩
 intro u1_3 hr
 have zu1_3:=hr.size
 have Hx7:=hid ((qa3.widen (R':=(fun k=>(New u1_2 u1_3a k))) (fun _ h=>h) (Nat.le_refl _)).mod hr (by intro k h1 h2;omega))
 have hmr:=Mod.after hm hr
 have Hx8:=hid (Hx5.out.mod hmr (by intro k h1 h2;omega))
 have Hx9:=hid (Hx4.out.mod hmr (by intro k h1 h2;omega))
 clear Hx5 Hx4
 clear hmr
 have Cx10:=hid (Cx6.out.go hm hr)
 clear Cx6 hm hr Z act E qa3
 refine QChain.go fun Z act E=>?_
 refine Ap (args:=#[.int .i64 x.rp]) rfl (Ac rfl) rfl Tryz.func22 (Aw (E.d 10)) (A9 _ HOK.out.rp _) ?_
 rintro e u1_4a ⟨v_a4,rfl,qa4,hm⟩
 obtain ⟨ao_a4,cap_a4,rfl⟩:=qa4.shape
 have zu1_4a:=hm.size
 refine ⟨_,rfl,hm.mono (fun _ _ h=>h.elim),(fun _=>rfl),?_⟩
 intro u1_4 hr
 have zu1_4:=hr.size
 have Hx11:=hid ((qa4.widen (R':=(fun k=>(New u1_3 u1_4a k))) (fun _ h=>h) (Nat.le_refl _)).mod hr (by intro k h1 h2;omega))
 have hmr:=Mod.after hm hr
 have Hx12:=hid (Hx8.out.mod hmr (by intro k h1 h2;omega))
 have Hx13:=hid (Hx9.out.mod hmr (by intro k h1 h2;omega))
 have Hx14:=hid (Hx7.out.mod hmr (by intro k h1 h2;omega))
 clear Hx8 Hx9 Hx7
 clear hmr
 have Cx15:=hid (Cx10.out.go hm hr)
 clear Cx10 hm hr Z act E qa4
 refine QChain.go fun Z act E=>?_
 have ea5:act.eval (.tmp 5)=.slice ao_a1 ((encI x.kd).length) cap_a1:=(chv (v:=.slice ao_a1 ((encI x.kd).length) cap_a1) (E.d 2))
 have ea8:act.eval (.tmp 8)=.slice ao_a2 ((encI x.ep).length) cap_a2:=(chv (v:=.slice ao_a2 ((encI x.ep).length) cap_a2) (E.d 5))
 have ea11:act.eval (.tmp 11)=.slice ao_a3 ((encI x.rd).length) cap_a3:=(chv (v:=.slice ao_a3 ((encI x.rd).length) cap_a3) (E.d 8))
 have ea14:act.eval (.tmp 14)=.slice ao_a4 ((encI x.rp).length) cap_a4:=(chv (v:=.slice ao_a4 ((encI x.rp).length) cap_a4) (E.d 11))
 have ea16:act.eval (.tmp 16)=.slice (some ⟨w.heap.size,4,none⟩) 32 32:=(E.d 13)
 refine Bl rfl (Ac rfl) rfl Tryz.underlying124 (by decide) (C:=#[.slice ao_a1 ((encI x.kd).length) cap_a1,.slice ao_a2 ((encI x.ep).length) cap_a2,.slice ao_a3 ((encI x.rd).length) cap_a3,.slice ao_a4 ((encI x.rp).length) cap_a4,.slice (some ⟨w.heap.size,4,none⟩) 32 32]) (by simp only [List.map_toArray,List.map_cons,List.map_nil,ea5,ea8,ea11,ea14,ea16];kernel_rfl) ?_
 intro u1_5a qrow14 hm
 have zl1_14:=qrow14.lt
 have zu1_5a:=hm.size
 refine ⟨hm.mono (fun _ _ h=>h.elim),(fun _=>rfl),?_⟩
 intro u1_5 hr
 have zu1_5:=hr.size
 have Hx16:=hid (qrow14.mod hr (by intro h2;omega))
 have hmr:=Mod.after hm hr
 have Hx17:=hid (Hx12.out.mod hmr (by intro k h1 h2;omega))
 have Hx18:=hid (Hx13.out.mod hmr (by intro k h1 h2;omega))
 have Hx19:=hid (Hx14.out.mod hmr (by intro k h1 h2;omega))
 have Hx20:=hid (Hx11.out.mod hmr (by intro k h1 h2;omega))
 clear Hx12 Hx13 Hx14 Hx11
 clear hmr
 have Cx21:=hid (Cx15.out.go hm hr)
 clear Cx15 hm hr Z act E qrow14 ea5 ea8 ea11 ea14 ea16
 refine QChain.go fun Z act E=>?_
 refine Ap (args:=#[.slice (some ⟨u1_4.heap.size,0,none⟩) 5 5]) rfl (Ac rfl) rfl Tryz.func21 (Aw (chv (v:=.slice (some ⟨u1_4.heap.size,0,none⟩) 5 5) (E.d 14))) (Join_Q (n:=5)  Hx16.out [(.slice ao_a1 ((encI x.kd).length) cap_a1,encI x.kd),(.slice ao_a2 ((encI x.ep).length) cap_a2,encI x.ep),(.slice ao_a3 ((encI x.rd).length) cap_a3,encI x.rd),(.slice ao_a4 ((encI x.rp).length) cap_a4,encI x.rp),(.slice (some ⟨w.heap.size,4,none⟩) 32 32,x.h)] rfl rfl (by intro p hp;simp only [List.mem_cons,List.not_mem_nil,or_false] at hp;rcases hp with rfl|rfl|rfl|rfl|rfl<;>first|exact Hx17.out.rd.1|exact Hx18.out.rd.1|exact Hx19.out.rd.1|exact Hx20.out.rd.1|exact RdB_arr3 (Cs.midA (HB1.out.mod Cx21.out (fun h=>h)) rfl) HOK.out.h) (by simp) (show flat _=encI x.kd ++ (encI x.ep ++ (encI x.rd ++ (encI x.rp ++ x.h))) from by simp only [flat,List.map_cons,List.map_nil,List.flatten_cons,List.flatten_nil,List.append_nil]) (by have:=HL.out;simp only [List.length_append] at this ⊢; omega)) ?_
 rintro e u1_6a ⟨v_join1,rfl,qjoin1,hm⟩
 have zu1_6a:=hm.size
 refine ⟨_,rfl,hm.mono (fun _ _ h=>h.elim),(fun _=>rfl),?_⟩
 intro u1_6 hr
 have zu1_6:=hr.size
 have Hx22:=hid ((qjoin1.widen (R':=(fun k=>(New u1_5 u1_6a k))) (fun _ h=>h) (Nat.le_refl _)).mod hr (by intro k h1 h2;omega))
 have hmr:=Mod.after hm hr
 have Hx23:=hid (Hx17.out.mod hmr (by intro k h1 h2;omega))
 have Hx24:=hid (Hx18.out.mod hmr (by intro k h1 h2;omega))
 have Hx25:=hid (Hx19.out.mod hmr (by intro k h1 h2;omega))
 have Hx26:=hid (Hx20.out.mod hmr (by intro k h1 h2;omega))
 have Hx27:=hid (Hx16.out.mod hmr (by intro h2;omega))
 clear Hx17 Hx18 Hx19 Hx20 Hx16
 clear hmr
 have Cx28:=hid (Cx21.out.go hm hr)
 clear Cx21 hm hr Z act E qjoin1
 refine QChain.nil fun vs hl hzz hrows hne=>?_
 obtain ⟨Z,hYZ,hZb,hV⟩:=hzz
 have f2:=fvc hV hl 2
 have f5:=fvc hV hl 5
 have f8:=fvc hV hl 8
 have f11:=fvc hV hl 11
 have f14:=fvc hV hl 14
 have f15:=fvc hV hl 15
 have f16:=fvc hV hl 16
 rw [show vs=[gw vs 0,gw vs 1,gw vs 2,gw vs 3,gw vs 4,gw vs 5,gw vs 6,gw vs 7,gw vs 8,gw vs 9,gw vs 10,gw vs 11,gw vs 12,gw vs 13,gw vs 14,gw vs 15,gw vs 16] from (Be hl).trans rfl]
 have ha0:=HA0.out
 subst ha0
 clear HA0 hV hYZ hZb hsz0 hrows hne oe1
 simp only [Au,Act.put,sIB,sCZ,sCS,f2,f5,f8,f11,f14,f15,f16]
 clear hl f2 f5 f8 f11 f14 f15 f16
 go_wp2
 go_ret
 have hq:=(Hx22.out.widen (R':=(fun k=>New w u1_6 k)) (by intro k h1;omega) (Nat.le_refl _))
 (try simp only [List.append_assoc] at hq)
 exact ⟨v_join1,rfl,by simpa only [bareV,List.append_assoc] using hq,(HM0.out.trans Cx28.out (fun _ _ h=>h.elim))⟩
set_option maxHeartbeats 4000000 in
theorem RefDn_Q:Makes DnR 34 dnB:=by
 intro R2 cs x w hx hB2 hl
 obtain ⟨rfl,hok⟩:=hx
 have HBT:=Lib.hid hB2
 have HOK:=Lib.hid hok
 have HL:=Lib.hid hl
 clear hB2 hl hok
 unfold dnB at HL
 go_enter Tryz.func34,Tryz.ntmps34
 go_upto_region 1 with (fail)
 obtain ⟨w1,hw1⟩:∃ zz,zz=(w.alloc (.cells (x.cells:List Value).toArray 56)):=⟨_,rfl⟩
 change Code.wp _ _ _ _ (w.alloc (.cells (x.cells:List Value).toArray 56))
 rw [← hw1]
 have HB1:=hid (show Cs w1 (w.heap.size) (x.cells:List Value).toArray 56 by rw [hw1];exact Cs.new _ _ _)
 have hm:Mod (fun _=>False) w w1:=by rw [hw1];exact (Mod.refl _ _).alloc _
 have HM0:=hid (show Mod (fun _=>False) w w1 from hm.mono (fun _ _ h=>h.elim))
 have hs1:w1.heap.size=w.heap.size+1:=by rw [hw1];simp
 clear hw1 hm
 go_upto_region 1 with (fail)
 generalize ha0:Act.mk _ _=a0
 have oe1:a0.eval (.tmp 1)=.pointer (some ⟨w.heap.size,0,none⟩):=by rw [← ha0];rfl
 have hsz0:a0.tmps.size=14:=by rw [← ha0];rfl
 have HA0:=hid ha0
 clear ha0
 refine A1 14 hsz0 [3,4,5,6,7,8,9,10,11,12,13,2] [qi (.pointer (some ⟨w.heap.size,0,none⟩)),qi (.int .i64 x.rp),qv 0,qi (.pointer (some ⟨w.heap.size,1,none⟩)),qi (.int .i64 x.ix),qv 1,qi (.pointer (some ⟨w.heap.size,2,none⟩)),qi (.agg #[.int .i64 x.sb,.int .i64 x.mr]),qv 2,qv 3,qv 4,qv 4] ⟨Ab,Ab,Ak,Ab,Ab,Ak,Ab,Ab,Ak,Ak,Ak,Ak,trivial⟩ [2,5,8,9,10] ⟨?_,?_,?_,?_,?_,?_,?_,?_,?_,?_,?_,?_,trivial⟩ ?_
 ·exact stq (fun E=>Ad rfl Tryz.underlying56 rfl (by kernel_rfl) (E.v oe1))
 ·exact stq (fun E=>Aj rfl Tryz.underlying3 rfl (E.d 0) (Cs.lit1 (HB1.out.mod E.m.old (by intro h2;omega)) rfl))
 ·exact Ah rfl
 ·exact stq (fun E=>Ad rfl Tryz.underlying56 rfl (by kernel_rfl) (E.v oe1))
 ·exact stq (fun E=>Aj rfl Tryz.underlying3 rfl (E.d 3) (Cs.lit1 (HB1.out.mod E.m.old (by intro h2;omega)) rfl))
 ·exact Ah rfl
 ·exact stq (fun E=>Ad rfl Tryz.underlying56 rfl (by kernel_rfl) (E.v oe1))
 ·exact stq (fun E=>Am rfl Tryz.underlying27 rfl (off:=2) (cs:=[.int .i64 x.sb,.int .i64 x.mr]) (by kernel_rfl) (E.d 6) (Cs.litA (HB1.out.mod E.m.old (by intro h2;omega)) rfl))
 ·exact Ah rfl
 ·exact Ah rfl
 ·exact Ah rfl
 ·refine Av rfl rfl rfl fun _ _ _ _ _ _ _ _ _ hd _ _=>?_
  have h10:=hd ⟨10,.data⟩ (by simp) rfl _ rfl
  exact Bd rfl (Ac rfl) (Af rfl rfl) QE.refl h10
 intro u1_0 hr
 have zu1_0:=hr.size
 have Cx1:=hid (hr.new (S:=(fun _=>False)))
 clear hr
 refine QChain.go fun Z act E=>?_
 refine Ap (args:=#[.int .i64 x.rp]) rfl (Ac rfl) rfl Tryz.func22 (Aw (E.d 1)) (A9 _ HOK.out.rp _) ?_
 rintro e u1_1a ⟨v_a1,rfl,qa1,hm⟩
 obtain ⟨ao_a1,cap_a1,rfl⟩:=qa1.shape
 have zu1_1a:=hm.size
 refine ⟨_,rfl,hm.mono (fun _ _ h=>h.elim),(fun _=>rfl),?_⟩
 intro u1_1 hr
 have zu1_1:=hr.size
 have Hx2:=hid ((qa1.widen (R':=(fun k=>(New u1_0 u1_1a k))) (fun _ h=>h) (Nat.le_refl _)).mod hr (by intro k h1 h2;omega))
 have Cx3:=hid (Cx1.out.go hm hr)
 clear Cx1 hm hr Z act E qa1
 refine QChain.go fun Z act E=>?_
 refine Ap (args:=#[.int .i64 x.ix]) rfl (Ac rfl) rfl Tryz.func22 (Aw (E.d 4)) (A9 _ HOK.out.ix _) ?_
 rintro e u1_2a ⟨v_a2,rfl,qa2,hm⟩
 obtain ⟨ao_a2,cap_a2,rfl⟩:=qa2.shape
 have zu1_2a:=hm.size
 refine ⟨_,rfl,hm.mono (fun _ _ h=>h.elim),(fun _=>rfl),?_⟩
 intro u1_2 hr
 have zu1_2:=hr.size
 have Hx4:=hid ((qa2.widen (R':=(fun k=>(New u1_1 u1_2a k))) (fun _ h=>h) (Nat.le_refl _)).mod hr (by intro k h1 h2;omega))
 have hmr:=Mod.after hm hr
 have Hx5:=hid (Hx2.out.mod hmr (by intro k h1 h2;omega))
 clear Hx2
 clear hmr
 have Cx6:=hid (Cx3.out.go hm hr)
 clear Cx3 hm hr Z act E qa2
 refine QChain.go fun Z act E=>?_
 refine Ap (args:=#[.agg #[.int .i64 x.sb,.int .i64 x.mr]]) rfl (Ac rfl) rfl Tryz.func27 (Aw (E.d 7)) (RefSig_Q HOK.out.sb HOK.out.mr _) ?_
 rintro e u1_3a ⟨v_a3,rfl,qa3,hm⟩
 obtain ⟨ao_a3,cap_a3,rfl⟩:=qa3.shape
 have zu1_3a:=hm.size
 refine ⟨_,rfl,hm.mono (fun _ _ h=>h.elim),(fun _=>rfl),?_⟩
 intro u1_3 hr
 have zu1_3:=hr.size
 have Hx7:=hid ((qa3.widen (R':=(fun k=>(New u1_2 u1_3a k))) (fun _ h=>h) (Nat.le_refl _)).mod hr (by intro k h1 h2;omega))
 have hmr:=Mod.after hm hr
 have Hx8:=hid (Hx5.out.mod hmr (by intro k h1 h2;omega))
 have Hx9:=hid (Hx4.out.mod hmr (by intro k h1 h2;omega))
 clear Hx5 Hx4
 clear hmr
 have Cx10:=hid (Cx6.out.go hm hr)
 clear Cx6 hm hr Z act E qa3
 refine QChain.go fun Z act E=>?_
 have ea5:act.eval (.tmp 5)=.slice ao_a1 ((encI x.rp).length) cap_a1:=(chv (v:=.slice ao_a1 ((encI x.rp).length) cap_a1) (E.d 2))
 have ea8:act.eval (.tmp 8)=.slice ao_a2 ((encI x.ix).length) cap_a2:=(chv (v:=.slice ao_a2 ((encI x.ix).length) cap_a2) (E.d 5))
 have ea11:act.eval (.tmp 11)=.slice ao_a3 ((sigB x.sb x.mr).length) cap_a3:=(chv (v:=.slice ao_a3 ((sigB x.sb x.mr).length) cap_a3) (E.d 8))
 refine Bl rfl (Ac rfl) rfl Tryz.underlying124 (by decide) (C:=#[.slice ao_a1 ((encI x.rp).length) cap_a1,.slice ao_a2 ((encI x.ix).length) cap_a2,.slice ao_a3 ((sigB x.sb x.mr).length) cap_a3]) (by simp only [List.map_toArray,List.map_cons,List.map_nil,ea5,ea8,ea11];kernel_rfl) ?_
 intro u1_4a qrow9 hm
 have zl1_9:=qrow9.lt
 have zu1_4a:=hm.size
 refine ⟨hm.mono (fun _ _ h=>h.elim),(fun _=>rfl),?_⟩
 intro u1_4 hr
 have zu1_4:=hr.size
 have Hx11:=hid (qrow9.mod hr (by intro h2;omega))
 have hmr:=Mod.after hm hr
 have Hx12:=hid (Hx8.out.mod hmr (by intro k h1 h2;omega))
 have Hx13:=hid (Hx9.out.mod hmr (by intro k h1 h2;omega))
 have Hx14:=hid (Hx7.out.mod hmr (by intro k h1 h2;omega))
 clear Hx8 Hx9 Hx7
 clear hmr
 have Cx15:=hid (Cx10.out.go hm hr)
 clear Cx10 hm hr Z act E qrow9 ea5 ea8 ea11
 refine QChain.go fun Z act E=>?_
 refine Ap (args:=#[.slice (some ⟨u1_3.heap.size,0,none⟩) 3 3]) rfl (Ac rfl) rfl Tryz.func21 (Aw (chv (v:=.slice (some ⟨u1_3.heap.size,0,none⟩) 3 3) (E.d 9))) (Join_Q (n:=3)  Hx11.out [(.slice ao_a1 ((encI x.rp).length) cap_a1,encI x.rp),(.slice ao_a2 ((encI x.ix).length) cap_a2,encI x.ix),(.slice ao_a3 ((sigB x.sb x.mr).length) cap_a3,sigB x.sb x.mr)] rfl rfl (by intro p hp;simp only [List.mem_cons,List.not_mem_nil,or_false] at hp;rcases hp with rfl|rfl|rfl<;>first|exact Hx12.out.rd.1|exact Hx13.out.rd.1|exact Hx14.out.rd.1) (by simp) (show flat _=encI x.rp ++ (encI x.ix ++ sigB x.sb x.mr) from by simp only [flat,List.map_cons,List.map_nil,List.flatten_cons,List.flatten_nil,List.append_nil]) (by have:=HL.out;simp only [List.length_append] at this ⊢; omega)) ?_
 rintro e u1_5a ⟨v_join1,rfl,qjoin1,hm⟩
 have zu1_5a:=hm.size
 refine ⟨_,rfl,hm.mono (fun _ _ h=>h.elim),(fun _=>rfl),?_⟩
 intro u1_5 hr
 have zu1_5:=hr.size
 have Hx16:=hid ((qjoin1.widen (R':=(fun k=>(New u1_4 u1_5a k))) (fun _ h=>h) (Nat.le_refl _)).mod hr (by intro k h1 h2;omega))
 have hmr:=Mod.after hm hr
 have Hx17:=hid (Hx12.out.mod hmr (by intro k h1 h2;omega))
 have Hx18:=hid (Hx13.out.mod hmr (by intro k h1 h2;omega))
 have Hx19:=hid (Hx14.out.mod hmr (by intro k h1 h2;omega))
 have Hx20:=hid (Hx11.out.mod hmr (by intro h2;omega))
 clear Hx12 Hx13 Hx14 Hx11
 clear hmr
 have Cx21:=hid (Cx15.out.go hm hr)
 clear Cx15 hm hr Z act E qjoin1
 refine QChain.nil fun vs hl hzz hrows hne=>?_
 obtain ⟨Z,hYZ,hZb,hV⟩:=hzz
 have f2:=fvc hV hl 2
 have f5:=fvc hV hl 5
 have f8:=fvc hV hl 8
 have f9:=fvc hV hl 9
 have f10:=fvc hV hl 10
 have f11:=fvc hV hl 11
 rw [show vs=[gw vs 0,gw vs 1,gw vs 2,gw vs 3,gw vs 4,gw vs 5,gw vs 6,gw vs 7,gw vs 8,gw vs 9,gw vs 10,gw vs 11] from (Be hl).trans rfl]
 have ha0:=HA0.out
 subst ha0
 clear HA0 hV hYZ hZb hsz0 hrows hne oe1
 simp only [Au,Act.put,sIB,sCZ,sCS,f2,f5,f8,f9,f10,f11]
 clear hl f2 f5 f8 f9 f10 f11
 go_wp2
 go_ret
 have hq:=(Hx16.out.widen (R':=(fun k=>New w u1_5 k)) (by intro k h1;omega) (Nat.le_refl _))
 (try simp only [List.append_assoc] at hq)
 exact ⟨v_join1,rfl,by simpa only [dnB,List.append_assoc] using hq,(HM0.out.trans Cx21.out (fun _ _ h=>h.elim))⟩
set_option maxHeartbeats 4000000 in
theorem RefOp_Q:Makes OpR 33 opB:=by
 intro R2 cs x w hx hB2 hl
 obtain ⟨v_pl,rfl,hok,hs0⟩:=hx
 have HS0:=Lib.hid hs0
 clear hs0
 have HBT:=Lib.hid hB2
 have HOK:=Lib.hid hok
 have HL:=Lib.hid hl
 clear hB2 hl hok
 unfold opB at HL
 go_enter Tryz.func33,Tryz.ntmps33
 go_upto_region 1 with (fail)
 obtain ⟨w1,hw1⟩:∃ zz,zz=(w.alloc (.cells (x.cells v_pl:List Value).toArray 54)):=⟨_,rfl⟩
 change Code.wp _ _ _ _ (w.alloc (.cells (x.cells v_pl:List Value).toArray 54))
 rw [← hw1]
 have HB1:=hid (show Cs w1 (w.heap.size) (x.cells v_pl:List Value).toArray 54 by rw [hw1];exact Cs.new _ _ _)
 have hm:Mod (fun _=>False) w w1:=by rw [hw1];exact (Mod.refl _ _).alloc _
 have HM0:=hid (show Mod (fun _=>False) w w1 from hm.mono (fun _ _ h=>h.elim))
 have hs1:w1.heap.size=w.heap.size+1:=by rw [hw1];simp
 have Hx1:=hid (HS0.out.mod hm (fun _ _ h=>h))
 clear HS0
 clear hw1 hm
 go_upto_region 1 with (fail)
 generalize ha0:Act.mk _ _=a0
 have oe1:a0.eval (.tmp 1)=.pointer (some ⟨w.heap.size,0,none⟩):=by rw [← ha0];rfl
 have hsz0:a0.tmps.size=13:=by rw [← ha0];rfl
 have HA0:=hid ha0
 clear ha0
 refine A1 13 hsz0 [3,4,5,6,7,8,9,10,11,12,2] [qi (.pointer (some ⟨w.heap.size,0,none⟩)),qi (.int .i64 x.ix),qv 0,qi (.pointer (some ⟨w.heap.size,1,none⟩)),qi (v_pl),qv 1,qi (.pointer (some ⟨w.heap.size,2,none⟩)),qi (.slice (some ⟨w.heap.size,2,none⟩) 32 32),qv 2,qv 3,qv 3] ⟨Ab,Ab,Ak,Ab,Ab,Ak,Ab,Ab,Ak,Ak,Ak,trivial⟩ [2,5,8,9] ⟨?_,?_,?_,?_,?_,?_,?_,?_,?_,?_,?_,trivial⟩ ?_
 ·exact stq (fun E=>Ad rfl Tryz.underlying54 rfl (by kernel_rfl) (E.v oe1))
 ·exact stq (fun E=>Aj rfl Tryz.underlying3 rfl (E.d 0) (Cs.hd1 (HB1.out.mod E.m.old (by intro h2;omega)) rfl))
 ·exact Ah rfl
 ·exact stq (fun E=>Ad rfl Tryz.underlying54 rfl (by kernel_rfl) (E.v oe1))
 ·exact stq (fun E=>Aj rfl Tryz.underlying52 rfl (E.d 3) (Cs.hd1 (HB1.out.mod E.m.old (by intro h2;omega)) rfl))
 ·exact Ah rfl
 ·exact stq (fun E=>Ad rfl Tryz.underlying54 rfl (by kernel_rfl) (E.v oe1))
 ·exact stq (fun E=>ex_sliceArr rfl Tryz.underlying25 (by kernel_rfl) (E.d 6) (by decide))
 ·exact Ah rfl
 ·exact Ah rfl
 ·refine Av rfl rfl rfl fun _ _ _ _ _ _ _ _ _ hd _ _=>?_
  have h9:=hd ⟨9,.data⟩ (by simp) rfl _ rfl
  exact Bd rfl (Ac rfl) (Af rfl rfl) QE.refl h9
 intro u1_0 hr
 have zu1_0:=hr.size
 have Cx2:=hid (hr.new (S:=(fun _=>False)))
 clear hr
 refine QChain.go fun Z act E=>?_
 refine Ap (args:=#[.int .i64 x.ix]) rfl (Ac rfl) rfl Tryz.func22 (Aw (E.d 1)) (A9 _ HOK.out.1 _) ?_
 rintro e u1_1a ⟨v_a1,rfl,qa1,hm⟩
 obtain ⟨ao_a1,cap_a1,rfl⟩:=qa1.shape
 have zu1_1a:=hm.size
 refine ⟨_,rfl,hm.mono (fun _ _ h=>h.elim),(fun _=>rfl),?_⟩
 intro u1_1 hr
 have zu1_1:=hr.size
 have Hx3:=hid ((qa1.widen (R':=(fun k=>(New u1_0 u1_1a k))) (fun _ h=>h) (Nat.le_refl _)).mod hr (by intro k h1 h2;omega))
 have Cx4:=hid (Cx2.out.go hm hr)
 clear Cx2 hm hr Z act E qa1
 refine QChain.go fun Z act E=>?_
 refine Ap (args:=#[v_pl]) rfl (Ac rfl) rfl Tryz.func35 (Aw (E.d 4)) (RefRow_Q (Hx1.out.mod Cx4.out (fun _ _ h=>h)) (by have:=HL.out;simp only [List.length_append] at this ⊢; omega)) ?_
 rintro e u1_2a ⟨v_a2,rfl,qa2,hm⟩
 obtain ⟨ao_a2,cap_a2,rfl⟩:=qa2.shape
 have zu1_2a:=hm.size
 refine ⟨_,rfl,hm.mono (fun _ _ h=>h.elim),(fun _=>rfl),?_⟩
 intro u1_2 hr
 have zu1_2:=hr.size
 have Hx5:=hid ((qa2.widen (R':=(fun k=>(New u1_1 u1_2a k))) (fun _ h=>h) (Nat.le_refl _)).mod hr (by intro k h1 h2;omega))
 have hmr:=Mod.after hm hr
 have Hx6:=hid (Hx3.out.mod hmr (by intro k h1 h2;omega))
 clear Hx3
 clear hmr
 have Cx7:=hid (Cx4.out.go hm hr)
 clear Cx4 hm hr Z act E qa2
 refine QChain.go fun Z act E=>?_
 have ea5:act.eval (.tmp 5)=.slice ao_a1 ((encI x.ix).length) cap_a1:=(chv (v:=.slice ao_a1 ((encI x.ix).length) cap_a1) (E.d 2))
 have ea8:act.eval (.tmp 8)=.slice ao_a2 (((encN x.pl.length ++ x.pl)).length) cap_a2:=(chv (v:=.slice ao_a2 (((encN x.pl.length ++ x.pl)).length) cap_a2) (E.d 5))
 have ea10:act.eval (.tmp 10)=.slice (some ⟨w.heap.size,2,none⟩) 32 32:=(E.d 7)
 refine Bl rfl (Ac rfl) rfl Tryz.underlying124 (by decide) (C:=#[.slice ao_a1 ((encI x.ix).length) cap_a1,.slice ao_a2 (((encN x.pl.length ++ x.pl)).length) cap_a2,.slice (some ⟨w.heap.size,2,none⟩) 32 32]) (by simp only [List.map_toArray,List.map_cons,List.map_nil,ea5,ea8,ea10];kernel_rfl) ?_
 intro u1_3a qrow8 hm
 have zl1_8:=qrow8.lt
 have zu1_3a:=hm.size
 refine ⟨hm.mono (fun _ _ h=>h.elim),(fun _=>rfl),?_⟩
 intro u1_3 hr
 have zu1_3:=hr.size
 have Hx8:=hid (qrow8.mod hr (by intro h2;omega))
 have hmr:=Mod.after hm hr
 have Hx9:=hid (Hx6.out.mod hmr (by intro k h1 h2;omega))
 have Hx10:=hid (Hx5.out.mod hmr (by intro k h1 h2;omega))
 clear Hx6 Hx5
 clear hmr
 have Cx11:=hid (Cx7.out.go hm hr)
 clear Cx7 hm hr Z act E qrow8 ea5 ea8 ea10
 refine QChain.go fun Z act E=>?_
 refine Ap (args:=#[.slice (some ⟨u1_2.heap.size,0,none⟩) 3 3]) rfl (Ac rfl) rfl Tryz.func21 (Aw (chv (v:=.slice (some ⟨u1_2.heap.size,0,none⟩) 3 3) (E.d 8))) (Join_Q (n:=3)  Hx8.out [(.slice ao_a1 ((encI x.ix).length) cap_a1,encI x.ix),(.slice ao_a2 (((encN x.pl.length ++ x.pl)).length) cap_a2,(encN x.pl.length ++ x.pl)),(.slice (some ⟨w.heap.size,2,none⟩) 32 32,x.nc)] rfl rfl (by intro p hp;simp only [List.mem_cons,List.not_mem_nil,or_false] at hp;rcases hp with rfl|rfl|rfl<;>first|exact Hx9.out.rd.1|exact Hx10.out.rd.1|exact RdB_arr3 (Cs.tlA (HB1.out.mod Cx11.out (fun h=>h)) rfl) HOK.out.2) (by simp) (show flat _=encI x.ix ++ (((encN x.pl.length ++ x.pl)) ++ x.nc) from by simp only [flat,List.map_cons,List.map_nil,List.flatten_cons,List.flatten_nil,List.append_nil]) (by have:=HL.out;simp only [List.length_append] at this ⊢; omega)) ?_
 rintro e u1_4a ⟨v_join1,rfl,qjoin1,hm⟩
 have zu1_4a:=hm.size
 refine ⟨_,rfl,hm.mono (fun _ _ h=>h.elim),(fun _=>rfl),?_⟩
 intro u1_4 hr
 have zu1_4:=hr.size
 have Hx12:=hid ((qjoin1.widen (R':=(fun k=>(New u1_3 u1_4a k))) (fun _ h=>h) (Nat.le_refl _)).mod hr (by intro k h1 h2;omega))
 have hmr:=Mod.after hm hr
 have Hx13:=hid (Hx9.out.mod hmr (by intro k h1 h2;omega))
 have Hx14:=hid (Hx10.out.mod hmr (by intro k h1 h2;omega))
 have Hx15:=hid (Hx8.out.mod hmr (by intro h2;omega))
 clear Hx9 Hx10 Hx8
 clear hmr
 have Cx16:=hid (Cx11.out.go hm hr)
 clear Cx11 hm hr Z act E qjoin1
 refine QChain.nil fun vs hl hzz hrows hne=>?_
 obtain ⟨Z,hYZ,hZb,hV⟩:=hzz
 have f2:=fvc hV hl 2
 have f5:=fvc hV hl 5
 have f8:=fvc hV hl 8
 have f9:=fvc hV hl 9
 have f10:=fvc hV hl 10
 rw [show vs=[gw vs 0,gw vs 1,gw vs 2,gw vs 3,gw vs 4,gw vs 5,gw vs 6,gw vs 7,gw vs 8,gw vs 9,gw vs 10] from (Be hl).trans rfl]
 have ha0:=HA0.out
 subst ha0
 clear HA0 hV hYZ hZb hsz0 hrows hne oe1
 simp only [Au,Act.put,sIB,sCZ,sCS,f2,f5,f8,f9,f10]
 clear hl f2 f5 f8 f9 f10
 go_wp2
 go_ret
 have hq:=(Hx12.out.widen (R':=(fun k=>New w u1_4 k)) (by intro k h1;omega) (Nat.le_refl _))
 (try simp only [List.append_assoc] at hq)
 exact ⟨v_join1,rfl,by simpa only [opB,List.append_assoc] using hq,(HM0.out.trans Cx16.out (fun _ _ h=>h.elim))⟩
set_option maxHeartbeats 4000000 in
theorem RefSt_Q:Makes StR 24 stB:=by
 intro R2 cs x w hx hB2 hl
 obtain ⟨rfl,hok⟩:=hx
 have HBT:=Lib.hid hB2
 have HOK:=Lib.hid hok
 have HL:=Lib.hid hl
 clear hB2 hl hok
 unfold stB at HL
 go_enter Tryz.func24,Tryz.ntmps24
 go_upto_region 1 with (fail)
 obtain ⟨w1,hw1⟩:∃ zz,zz=(w.alloc (.cells (x.cells:List Value).toArray 32)):=⟨_,rfl⟩
 change Code.wp _ _ _ _ (w.alloc (.cells (x.cells:List Value).toArray 32))
 rw [← hw1]
 have HB1:=hid (show Cs w1 (w.heap.size) (x.cells:List Value).toArray 32 by rw [hw1];exact Cs.new _ _ _)
 have hm:Mod (fun _=>False) w w1:=by rw [hw1];exact (Mod.refl _ _).alloc _
 have HM0:=hid (show Mod (fun _=>False) w w1 from hm.mono (fun _ _ h=>h.elim))
 have hs1:w1.heap.size=w.heap.size+1:=by rw [hw1];simp
 clear hw1 hm
 go_upto_region 1 with (fail)
 generalize ha0:Act.mk _ _=a0
 have oe1:a0.eval (.tmp 1)=.pointer (some ⟨w.heap.size,0,none⟩):=by rw [← ha0];rfl
 have hsz0:a0.tmps.size=10:=by rw [← ha0];rfl
 have HA0:=hid ha0
 clear ha0
 refine A1 10 hsz0 [3,4,5,6,7,8,9,2] [qi (.agg (x.cells).toArray),qv 0,qi (.pointer (some ⟨w.heap.size,36,none⟩)),qi (.agg #[.int .i64 x.sb,.int .i64 x.mr]),qv 1,qv 2,qv 3,qv 3] ⟨Ab,Ak,Ab,Ab,Ak,Ak,Ak,Ak,trivial⟩ [1,4,5,6] ⟨?_,?_,?_,?_,?_,?_,?_,?_,trivial⟩ ?_
 ·exact stq (fun E=>Am rfl Tryz.underlying32 rfl (off:=0) (cs:=x.cells) (by rw [St.len HOK.out];kernel_rfl) (E.v oe1) (Cs.whole (HB1.out.mod E.m.old (by intro h2;omega))))
 ·exact Ah rfl
 ·exact stq (fun E=>Ad rfl Tryz.underlying32 rfl (by kernel_rfl) (E.v oe1))
 ·exact stq (fun E=>Am rfl Tryz.underlying27 rfl (off:=36) (cs:=[.int .i64 x.sb,.int .i64 x.mr]) (by kernel_rfl) (E.d 2) (Cs.postA (m:=32) (k:=1) (HB1.out.mod E.m.old (by intro h2;omega)) (by rw [List.length_map];exact HOK.out.h.1) rfl rfl))
 ·exact Ah rfl
 ·exact Ah rfl
 ·exact Ah rfl
 ·refine Av rfl rfl rfl fun _ _ _ _ _ _ _ _ _ hd _ _=>?_
  have h6:=hd ⟨6,.data⟩ (by simp) rfl _ rfl
  exact Bd rfl (Ac rfl) (Af rfl rfl) QE.refl h6
 intro u1_0 hr
 have zu1_0:=hr.size
 have Cx1:=hid (hr.new (S:=(fun _=>False)))
 clear hr
 refine QChain.go fun Z act E=>?_
 refine Ap (args:=#[.agg (x.cells).toArray]) rfl (Ac rfl) rfl Tryz.func71 (Aw (E.d 0)) (RefBare_Q (fun _=>False) _ x _ ⟨rfl,HOK.out⟩ (fun _ h=>h.elim) (by have:=HL.out;unfold bareT;simp only [List.length_append] at this ⊢; omega)) ?_
 rintro e u1_1a ⟨v_a1,rfl,qa1,hm⟩
 obtain ⟨ao_a1,cap_a1,rfl⟩:=qa1.shape
 have zu1_1a:=hm.size
 refine ⟨_,rfl,hm.mono (fun _ _ h=>h.elim),(fun _=>rfl),?_⟩
 intro u1_1 hr
 have zu1_1:=hr.size
 have Hx2:=hid ((qa1.widen (R':=(fun k=>(New u1_0 u1_1a k))) (fun _ h=>h) (Nat.le_refl _)).mod hr (by intro k h1 h2;omega))
 have Cx3:=hid (Cx1.out.go hm hr)
 clear Cx1 hm hr Z act E qa1
 refine QChain.go fun Z act E=>?_
 refine Ap (args:=#[.agg #[.int .i64 x.sb,.int .i64 x.mr]]) rfl (Ac rfl) rfl Tryz.func27 (Aw (E.d 3)) (RefSig_Q HOK.out.sb HOK.out.mr _) ?_
 rintro e u1_2a ⟨v_a2,rfl,qa2,hm⟩
 obtain ⟨ao_a2,cap_a2,rfl⟩:=qa2.shape
 have zu1_2a:=hm.size
 refine ⟨_,rfl,hm.mono (fun _ _ h=>h.elim),(fun _=>rfl),?_⟩
 intro u1_2 hr
 have zu1_2:=hr.size
 have Hx4:=hid ((qa2.widen (R':=(fun k=>(New u1_1 u1_2a k))) (fun _ h=>h) (Nat.le_refl _)).mod hr (by intro k h1 h2;omega))
 have hmr:=Mod.after hm hr
 have Hx5:=hid (Hx2.out.mod hmr (by intro k h1 h2;omega))
 clear Hx2
 clear hmr
 have Cx6:=hid (Cx3.out.go hm hr)
 clear Cx3 hm hr Z act E qa2
 refine QChain.go fun Z act E=>?_
 have ea4:act.eval (.tmp 4)=.slice ao_a1 ((bareT x).length) cap_a1:=(chv (v:=.slice ao_a1 ((bareT x).length) cap_a1) (E.d 1))
 have ea7:act.eval (.tmp 7)=.slice ao_a2 ((sigB x.sb x.mr).length) cap_a2:=(chv (v:=.slice ao_a2 ((sigB x.sb x.mr).length) cap_a2) (E.d 4))
 refine Bl rfl (Ac rfl) rfl Tryz.underlying124 (by decide) (C:=#[.slice ao_a1 ((bareT x).length) cap_a1,.slice ao_a2 ((sigB x.sb x.mr).length) cap_a2]) (by simp only [List.map_toArray,List.map_cons,List.map_nil,ea4,ea7];kernel_rfl) ?_
 intro u1_3a qrow5 hm
 have zl1_5:=qrow5.lt
 have zu1_3a:=hm.size
 refine ⟨hm.mono (fun _ _ h=>h.elim),(fun _=>rfl),?_⟩
 intro u1_3 hr
 have zu1_3:=hr.size
 have Hx7:=hid (qrow5.mod hr (by intro h2;omega))
 have hmr:=Mod.after hm hr
 have Hx8:=hid (Hx5.out.mod hmr (by intro k h1 h2;omega))
 have Hx9:=hid (Hx4.out.mod hmr (by intro k h1 h2;omega))
 clear Hx5 Hx4
 clear hmr
 have Cx10:=hid (Cx6.out.go hm hr)
 clear Cx6 hm hr Z act E qrow5 ea4 ea7
 refine QChain.go fun Z act E=>?_
 refine Ap (args:=#[.slice (some ⟨u1_2.heap.size,0,none⟩) 2 2]) rfl (Ac rfl) rfl Tryz.func21 (Aw (chv (v:=.slice (some ⟨u1_2.heap.size,0,none⟩) 2 2) (E.d 5))) (Join_Q (n:=2)  Hx7.out [(.slice ao_a1 ((bareT x).length) cap_a1,bareT x),(.slice ao_a2 ((sigB x.sb x.mr).length) cap_a2,sigB x.sb x.mr)] rfl rfl (by intro p hp;simp only [List.mem_cons,List.not_mem_nil,or_false] at hp;rcases hp with rfl|rfl<;>first|exact Hx8.out.rd.1|exact Hx9.out.rd.1) (by simp) (show flat _=bareT x ++ sigB x.sb x.mr from by simp only [flat,List.map_cons,List.map_nil,List.flatten_cons,List.flatten_nil,List.append_nil]) (by have:=HL.out;simp only [bareT,List.length_append] at this ⊢; omega)) ?_
 rintro e u1_4a ⟨v_join1,rfl,qjoin1,hm⟩
 have zu1_4a:=hm.size
 refine ⟨_,rfl,hm.mono (fun _ _ h=>h.elim),(fun _=>rfl),?_⟩
 intro u1_4 hr
 have zu1_4:=hr.size
 have Hx11:=hid ((qjoin1.widen (R':=(fun k=>(New u1_3 u1_4a k))) (fun _ h=>h) (Nat.le_refl _)).mod hr (by intro k h1 h2;omega))
 have hmr:=Mod.after hm hr
 have Hx12:=hid (Hx8.out.mod hmr (by intro k h1 h2;omega))
 have Hx13:=hid (Hx9.out.mod hmr (by intro k h1 h2;omega))
 have Hx14:=hid (Hx7.out.mod hmr (by intro h2;omega))
 clear Hx8 Hx9 Hx7
 clear hmr
 have Cx15:=hid (Cx10.out.go hm hr)
 clear Cx10 hm hr Z act E qjoin1
 refine QChain.nil fun vs hl hzz hrows hne=>?_
 obtain ⟨Z,hYZ,hZb,hV⟩:=hzz
 have f1:=fvc hV hl 1
 have f4:=fvc hV hl 4
 have f5:=fvc hV hl 5
 have f6:=fvc hV hl 6
 have f7:=fvc hV hl 7
 rw [show vs=[gw vs 0,gw vs 1,gw vs 2,gw vs 3,gw vs 4,gw vs 5,gw vs 6,gw vs 7] from (Be hl).trans rfl]
 have ha0:=HA0.out
 subst ha0
 clear HA0 hV hYZ hZb hsz0 hrows hne oe1
 simp only [Au,Act.put,sIB,sCZ,sCS,f1,f4,f5,f6,f7]
 clear hl f1 f4 f5 f6 f7
 go_wp2
 go_ret
 have hq:=(Hx11.out.widen (R':=(fun k=>New w u1_4 k)) (by intro k h1;omega) (Nat.le_refl _))
 (try simp only [List.append_assoc] at hq)
 exact ⟨v_join1,rfl,by simpa only [stB,bareT,List.append_assoc] using hq,(HM0.out.trans Cx15.out (fun _ _ h=>h.elim))⟩
end Go.Proofs.YtnaoeginonpicaaGreat

/- The reference's bytes of certificates, promises, batches; its texts. -/
namespace Go.Proofs.YtnaoeginonpicaaGreat
open Go Go.RowKit Go.Gv
set_option maxHeartbeats 4000000 in
theorem RefCe_Q:Makes CeR 25 ceB:=by
 intro R2 cs x w hx hB2 hl
 obtain ⟨v_l,rfl,hok,hs0⟩:=hx
 obtain ⟨ao_sl_l,cap_sl_l,rfl⟩:=hs0.shape
 have hb0:x.l.length≤maxLen:=hs0.bd
 rw [Ax] at hb0
 have HI0:=hid (show I64 (x.l.length:Int) by unfold I64;omega)
 have HS0:=Lib.hid hs0
 clear hs0
 have HBT:=Lib.hid hB2
 have HOK:=Lib.hid hok
 have HL:=Lib.hid hl
 clear hB2 hl hok
 unfold ceB at HL
 go_enter Tryz.func25,Tryz.ntmps25
 go_upto_region 1 with (fail)
 obtain ⟨w1,hw1⟩:∃ zz,zz=(w.alloc (.cells (x.cells (.slice ao_sl_l x.l.length cap_sl_l):List Value).toArray 35)):=⟨_,rfl⟩
 change Code.wp _ _ _ _ (w.alloc (.cells (x.cells (.slice ao_sl_l x.l.length cap_sl_l):List Value).toArray 35))
 rw [← hw1]
 have HB1:=hid (show Cs w1 (w.heap.size) (x.cells (.slice ao_sl_l x.l.length cap_sl_l):List Value).toArray 35 by rw [hw1];exact Cs.new _ _ _)
 have hm:Mod (fun _=>False) w w1:=by rw [hw1];exact (Mod.refl _ _).alloc _
 have HM0:=hid (show Mod (fun _=>False) w w1 from hm.mono (fun _ _ h=>h.elim))
 have hs1:w1.heap.size=w.heap.size+1:=by rw [hw1];simp
 have Hx1:=hid (HS0.out.mod hm (fun _ _ h=>h))
 clear HS0
 clear hw1 hm
 go_upto_region 1 with (fail)
 generalize ha0:Act.mk _ _=a0
 have oe1:a0.eval (.tmp 1)=.pointer (some ⟨w.heap.size,0,none⟩):=by rw [← ha0];rfl
 have hsz0:a0.tmps.size=30:=by rw [← ha0];rfl
 have HA0:=hid ha0
 clear ha0
 refine A1 30 hsz0 [5,6,7,8,9,10,11,12,13,3] [qi (.pointer (some ⟨w.heap.size,0,none⟩)),qi (x.c.val),qv 0,qi (.pointer (some ⟨w.heap.size,37,none⟩)),qi (.slice ao_sl_l x.l.length cap_sl_l),qi (.int .i64 x.l.length),qv 1,qv 2,qv 3,qv 3] ⟨Ab,Ab,Ak,Ab,Ab,Ab,Ak,Ak,Ak,Ak,trivial⟩ [2,6,7,8] ⟨?_,?_,?_,?_,?_,?_,?_,?_,?_,?_,trivial⟩ ?_
 ·exact stq (fun E=>Ad rfl Tryz.underlying35 rfl (by kernel_rfl) (E.v oe1))
 ·exact stq (fun E=>Am rfl Tryz.underlying29 rfl (off:=0) (cs:=x.c.cells) (by rw [Cm.len HOK.out.2.1];exact size_commit) (E.d 0) (Cs.midA (pre:=[]) (mid:=x.c.cells) (post:=[.slice ao_sl_l x.l.length cap_sl_l]) (HB1.out.mod E.m.old (by intro h2;omega)) rfl))
 ·exact Ah rfl
 ·exact stq (fun E=>Ad rfl Tryz.underlying35 rfl (by kernel_rfl) (E.v oe1))
 ·exact stq (fun E=>Aj rfl Tryz.underlying33 rfl (E.d 3) (Cs.post1 (pre:=[]) (mid:=x.c.cells) (post:=[.slice ao_sl_l x.l.length cap_sl_l]) (m:=37) (k:=0) (HB1.out.mod E.m.old (by intro h2;omega)) (Cm.len HOK.out.2.1) rfl rfl))
 ·exact stq (fun E=>A0 rfl (E.d 4) Tryz.underlying33)
 ·exact Ah rfl
 ·exact Ah rfl
 ·exact Ah rfl
 ·refine Av rfl rfl rfl fun _ _ _ _ _ _ _ _ _ hd _ _=>?_
  have h8:=hd ⟨8,.data⟩ (by simp) rfl _ rfl
  exact Bd rfl (Ac rfl) (Af rfl rfl) QE.refl h8
 intro u1_0 hr
 have zu1_0:=hr.size
 have Cx2:=hid (hr.new (S:=(fun _=>False)))
 clear hr
 refine QChain.go fun Z act E=>?_
 refine Ap (args:=#[x.c.val]) rfl (Ac rfl) rfl Tryz.func23 (Aw (E.d 1)) (RefCm_Q (fun _=>False) _ x.c _ ⟨rfl,HOK.out⟩ (fun _ h=>h.elim) (by have:=HL.out;simp only [List.length_append] at this ⊢; omega)) ?_
 rintro e u1_1a ⟨v_a1,rfl,qa1,hm⟩
 obtain ⟨ao_a1,cap_a1,rfl⟩:=qa1.shape
 have zu1_1a:=hm.size
 refine ⟨_,rfl,hm.mono (fun _ _ h=>h.elim),(fun _=>rfl),?_⟩
 intro u1_1 hr
 have zu1_1:=hr.size
 have Hx3:=hid ((qa1.widen (R':=(fun k=>(New u1_0 u1_1a k))) (fun _ h=>h) (Nat.le_refl _)).mod hr (by intro k h1 h2;omega))
 have Cx4:=hid (Cx2.out.go hm hr)
 clear Cx2 hm hr Z act E qa1
 refine QChain.go fun Z act E=>?_
 refine Ap (args:=#[.int .i64 x.l.length]) rfl (Ac rfl) rfl Tryz.func22 (Aw (E.d 5)) (A9 _ HI0.out _) ?_
 rintro e u1_2a ⟨v_a2,rfl,qa2,hm⟩
 obtain ⟨ao_a2,cap_a2,rfl⟩:=qa2.shape
 have zu1_2a:=hm.size
 refine ⟨_,rfl,hm.mono (fun _ _ h=>h.elim),(fun _=>rfl),?_⟩
 intro u1_2 hr
 have zu1_2:=hr.size
 have Hx5:=hid ((qa2.widen (R':=(fun k=>(New u1_1 u1_2a k))) (fun _ h=>h) (Nat.le_refl _)).mod hr (by intro k h1 h2;omega))
 have hmr:=Mod.after hm hr
 have Hx6:=hid (Hx3.out.mod hmr (by intro k h1 h2;omega))
 clear Hx3
 clear hmr
 have Cx7:=hid (Cx4.out.go hm hr)
 clear Cx4 hm hr Z act E qa2
 refine QChain.go fun Z act E=>?_
 have ea7:act.eval (.tmp 7)=.slice ao_a1 ((cmB x.c).length) cap_a1:=(chv (v:=.slice ao_a1 ((cmB x.c).length) cap_a1) (E.d 2))
 have ea11:act.eval (.tmp 11)=.slice ao_a2 ((encI x.l.length).length) cap_a2:=(chv (v:=.slice ao_a2 ((encI x.l.length).length) cap_a2) (E.d 6))
 refine Bl rfl (Ac rfl) rfl Tryz.underlying124 (by decide) (C:=#[.slice ao_a1 ((cmB x.c).length) cap_a1,.slice ao_a2 ((encI x.l.length).length) cap_a2]) (by simp only [List.map_toArray,List.map_cons,List.map_nil,ea7,ea11];kernel_rfl) ?_
 intro u1_3a qrow7 hm
 have zl1_7:=qrow7.lt
 have zu1_3a:=hm.size
 refine ⟨hm.mono (fun _ _ h=>h.elim),(fun _=>rfl),?_⟩
 intro u1_3 hr
 have zu1_3:=hr.size
 have Hx8:=hid (qrow7.mod hr (by intro h2;omega))
 have hmr:=Mod.after hm hr
 have Hx9:=hid (Hx6.out.mod hmr (by intro k h1 h2;omega))
 have Hx10:=hid (Hx5.out.mod hmr (by intro k h1 h2;omega))
 clear Hx6 Hx5
 clear hmr
 have Cx11:=hid (Cx7.out.go hm hr)
 clear Cx7 hm hr Z act E qrow7 ea7 ea11
 refine QChain.go fun Z act E=>?_
 refine Ap (args:=#[.slice (some ⟨u1_2.heap.size,0,none⟩) 2 2]) rfl (Ac rfl) rfl Tryz.func21 (Aw (chv (v:=.slice (some ⟨u1_2.heap.size,0,none⟩) 2 2) (E.d 7))) (Join_Q (n:=2)  Hx8.out [(.slice ao_a1 ((cmB x.c).length) cap_a1,cmB x.c),(.slice ao_a2 ((encI x.l.length).length) cap_a2,encI x.l.length)] rfl rfl (by intro p hp;simp only [List.mem_cons,List.not_mem_nil,or_false] at hp;rcases hp with rfl|rfl<;>first|exact Hx9.out.rd.1|exact Hx10.out.rd.1) (by simp) (show flat _=cmB x.c ++ encI x.l.length from by simp only [flat,List.map_cons,List.map_nil,List.flatten_cons,List.flatten_nil,List.append_nil]) (by have:=HL.out;simp only [listB,List.length_append] at this ⊢; omega)) ?_
 rintro e u1_4a ⟨v_join1,rfl,qjoin1,hm⟩
 have zu1_4a:=hm.size
 refine ⟨_,rfl,hm.mono (fun _ _ h=>h.elim),(fun _=>rfl),?_⟩
 intro u1_4 hr
 have zu1_4:=hr.size
 have Hx12:=hid ((qjoin1.widen (R':=(fun k=>(New u1_3 u1_4a k))) (fun _ h=>h) (Nat.le_refl _)).mod hr (by intro k h1 h2;omega))
 have hmr:=Mod.after hm hr
 have Hx13:=hid (Hx9.out.mod hmr (by intro k h1 h2;omega))
 have Hx14:=hid (Hx10.out.mod hmr (by intro k h1 h2;omega))
 have Hx15:=hid (Hx8.out.mod hmr (by intro h2;omega))
 clear Hx9 Hx10 Hx8
 clear hmr
 have Cx16:=hid (Cx11.out.go hm hr)
 clear Cx11 hm hr Z act E qjoin1
 refine QChain.nil fun vs hl hzz hrows hne=>?_
 obtain ⟨Z,hYZ,hZb,hV⟩:=hzz
 have f2:=fvc hV hl 2
 have f5:=fvi hV hl 5
 have f6:=fvc hV hl 6
 have f7:=fvc hV hl 7
 have f8:=fvc hV hl 8
 have f9:=fvc hV hl 9
 rw [show vs=[gw vs 0,gw vs 1,gw vs 2,gw vs 3,gw vs 4,gw vs 5,gw vs 6,gw vs 7,gw vs 8,gw vs 9] from (Be hl).trans rfl]
 have ha0:=HA0.out
 subst ha0
 clear HA0 hV hYZ hZb hsz0 hrows hne oe1
 simp only [Au,Act.put,sIB,sCZ,sCS,f2,f5,f6,f7,f8,f9]
 clear hl f2 f5 f6 f7 f8 f9
 go_upto_region 2 with (fail)
 refine Aa 30 [14,15,16,17] [0,1,2,3] (fun a0 HA0=>?_)
 have oe1:=ev HA0 1 rfl
 refine QSeq.pure rfl (.pointer (some ⟨w.heap.size,37,none⟩)) (fun E=>Ad rfl Tryz.underlying35 rfl (by kernel_rfl) (E.v oe1)) ?_
 refine QSeq.pure rfl _ (fun E=>Aj rfl Tryz.underlying33 rfl (E.d 0 0) (Cs.post1 (pre:=[]) (mid:=x.c.cells) (post:=[.slice ao_sl_l x.l.length cap_sl_l]) (m:=37) (k:=0) (HB1.out.mod Cx16.out (fun h=>h)) (Cm.len HOK.out.2.1) rfl rfl)) ?_
 refine QSeq.pure rfl (.int .i64 x.l.length) (fun E=>A0 rfl (E.d 1 0) Tryz.underlying33) ?_
 refine QSeq.pure rfl (.int .i64 0) (fun E=>Ai rfl rfl) ?_
 refine QSeq.nil (t':=[_,_,_,_]) rfl ?_
 obtain rfl:=HA0.out
 clear HA0 oe1
 simp only [pz,Act.put,sIB,sCZ,sCS]
 go_wp2
 go_loopw [3,17] (fun ta ti wr=>∃ k:Nat,ti=.int .i64 (k:Int)∧k≤x.l.length∧u1_4.heap.size≤wr.heap.size∧OwR (fun b=>w1.heap.size≤b∧b < wr.heap.size) 900000 wr ta ((cmB x.c ++ encI x.l.length) ++ ((x.l.take k).map stB).flatten)∧RdS StR R2 wr (.slice ao_sl_l x.l.length cap_sl_l) x.l∧Cs wr (w.heap.size) (x.cells (.slice ao_sl_l x.l.length cap_sl_l):List Value).toArray 35∧Mod (fun _=>False) w wr) (fun _ ti _=>x.l.length - (intOf ti).toNat)
 case atStart=>exact ⟨0,rfl,Nat.zero_le _,Nat.le_refl _,by have hq:=(Hx12.out.widen (R':=(fun b=>w1.heap.size≤b∧b < u1_4.heap.size)) (by intro k h1;omega) (Nat.le_refl _));simpa only [List.take_zero,List.map_nil,List.flatten_nil,List.append_nil,List.append_assoc] using hq,(Hx1.out.mod Cx16.out (fun _ _ h=>h)),(HB1.out.mod Cx16.out (fun h=>h)),(HM0.out.trans Cx16.out (fun _ _ h=>h.elim))⟩
 case round=>
  obtain ⟨k1,rfl,hk,hz,ha,hk_0,hk_1,hm⟩:=hrel
  obtain ⟨wl1,rfl⟩:∃ x,x=wr:=⟨_,rfl⟩
  obtain ⟨aol1,capl1,rfl⟩:=ha.shape
  have HAL1:=Lib.hid ha
  have HKL1_0:=Lib.hid hk_0
  have HKL1_1:=Lib.hid hk_1
  have HML1:=Lib.hid hm
  clear ha hm hk_0 hk_1 Hx1 HB1 HM0 Hx13 Hx14 Hx15 Hx12
  by_cases hlt1:k1 < x.l.length
  ·skip
   have hat:=HKL1_0.out.at hlt1
   obtain ⟨g1,o1,cs1,eao,hrg,hrd,hcs⟩:=hat
   subst eao
   have hcl:cs1.length=38:=StR.len hrd
   have HCL1:=Lib.hid hcl
   have HAT1:=hid (show CellsAt R2 wl1 g1 (o1+k1 * 38) cs1 from ⟨hrg,hcs⟩)
   have HRD1:=Lib.hid hrd
   clear hcl hcs hrd hrg
   have HE1:Hid (((cmB x.c ++ encI x.l.length) ++ ((x.l.take k1).map stB).flatten) ++ stB x.l[k1]=(cmB x.c ++ encI x.l.length) ++ ((x.l.take (k1+1)).map stB).flatten):=hid (by rw [List.take_succ_eq_append_getElem hlt1,List.map_append,List.flatten_append];simp [List.append_assoc])
   have HB1':=hid (show (((cmB x.c ++ encI x.l.length) ++ ((x.l.take k1).map stB).flatten) ++ stB x.l[k1]).length≤900000 by rw [HE1.out];exact acc_len _ _ _ _ (by have:=HL.out;simp only [listB,List.length_append] at this ⊢; omega))
   have HBE1:=hid (show (stB x.l[k1]).length≤900000 by have:=HB1'.out;simp only [List.length_append] at this ⊢; omega)
   go_upto_region 4 with (fail)
   refine Aa 30 [19,4] [0,1] (fun a0 HA0=>?_)
   have oe17:=ev HA0 17 rfl
   refine QSeq.pure rfl _ (fun E=>Ai rfl (E.v oe17)) ?_
   refine QSeq.pure rfl _ (fun E=>Af rfl (E.d 0 0)) ?_
   refine QSeq.nil (t':=[_,_]) rfl ?_
   obtain rfl:=HA0.out
   clear HA0 oe17
   simp only [pz,Act.put,sIB,sCZ,sCS]
   go_upto_region 5 with (fail)
   refine Aa 30 [20,21,22,23,24,25,26,27,3] [0,1,2,3,4,5,6,7,8] (fun a0 HA0=>?_)
   have oe1:=ev HA0 1 rfl
   have oe3:=ev HA0 3 rfl
   have oe4:=ev HA0 4 rfl
   refine QSeq.pure rfl _ (fun E=>Ai rfl (E.y 8 oe3)) ?_
   refine QSeq.pure rfl (.pointer (some ⟨w.heap.size,37,none⟩)) (fun E=>Ad rfl Tryz.underlying35 rfl (by kernel_rfl) (E.v oe1)) ?_
   refine QSeq.pure rfl _ (fun E=>Aj rfl Tryz.underlying33 rfl (E.d 1 0) (Cs.post1 (pre:=[]) (mid:=x.c.cells) (post:=[.slice (some ⟨g1,o1,none⟩) x.l.length cap_sl_l]) (m:=37) (k:=0) HKL1_1.out (Cm.len HOK.out.2.1) rfl rfl)) ?_
   refine QSeq.pure rfl _ (fun E=>Ai rfl (E.v oe4)) ?_
   refine QSeq.pure rfl (.pointer (some ⟨g1,o1+k1 * 38,none⟩)) (fun E=>Bk (i:=k1) (s:=38) rfl Tryz.underlying33 (by kernel_rfl) (E.d 2 1) (E.d 3 0) hlt1) ?_
   refine QSeq.pure rfl _ (fun E=>Am rfl Tryz.underlying32 rfl (off:=o1+k1 * 38) (cs:=cs1) (by rw [HCL1.out];kernel_rfl) (E.d 4 0) (fun j u hu=>(HAT1.out).2 j u hu)) ?_
   refine QSeq.call rfl rfl Tryz.func24 (RefSt_Q _ _ (x.l[k1]) _ HRD1.out (by intro k h1;have hb:=HBT.out k h1;omega) HBE1.out) (fun E=>Aw (E.d 5 0)) ?_
   rintro e u5_6 ⟨v_a3,rfl,qa3,hm⟩
   obtain ⟨ao_a3,cap_a3,rfl⟩:=qa3.shape
   refine ⟨_,rfl,?_⟩
   have Hx17:=hid qa3
   have zu5_6:=hm.size
   have Cx18:=hid (show Mod (fun _=>False) wl1 u5_6 from hm)
   clear hm
   clear qa3
   refine QSeq.go fun act E=>?_
   refine qc_appR rfl (Ac rfl) rfl (E.d 0 6) (E.d 6 0) (HAL1.out.mod Cx18.out (fun _ _ h=>h)) Hx17.out.rd HB1'.out ?_
   intro ao12 cap12 u5_7 qjoin1 hm
   have Hx19:=hid (qjoin1.widen (R':=(fun k=>(New w1 wl1 k)∨(New u5_6 u5_7 k))) (fun _ h=>h) (Nat.le_refl _))
   have zu5_7:=hm.size
   have HMu5_7:=hid hm
   have Cx20:=hid (Mod.goS (S':=(fun k=>(New w1 wl1 k))) Cx18.out hm (fun _ h=>h.elim) (by intro k h0 h2;exact h2))
   clear hm Cx18
   clear act E qjoin1 HAL1
   refine QSeq.pure rfl _ (fun E=>Af rfl (E.d 7 0)) ?_
   have Hx21:=hid (Hx17.out.mod HMu5_7.out (by intro k h1 h2;omega))
   clear Hx17 HMu5_7
   refine QSeq.nil (t':=[_,_,_,_,_,_,_,_,_]) rfl ?_
   obtain rfl:=HA0.out
   clear HA0 oe1 oe3 oe4
   simp only [pz,Act.put,sIB,sCZ,sCS]
   have hq:=Hx19.out
   rw [HE1.out] at hq
   have HQ1:=Lib.hid hq
   clear hq
   go_wp2
   go_roundw
   case rel=>exact ⟨k1+1,by go_num,by omega,by omega,(HQ1.out.widen (by intro b h1;omega) (Nat.le_refl _)),(HKL1_0.out.mod Cx20.out (sN HBT)),(HKL1_1.out.mod Cx20.out (by intro h2;omega)),(HML1.out.trans Cx20.out (by intro k h1 h2;omega))⟩
   case measure=>simp [intOf];omega
  ·obtain rfl:k1=x.l.length:=by omega
   have hq:=HAL1.out
   rw [List.take_length] at hq
   have HAF1:=Lib.hid hq
   clear hq
   rw [List.take_length]
   go_wp2
   go_ret
   have hq:=(HAF1.out.widen (R':=(fun k=>New w wl1 k)) (by intro k h1;omega) (Nat.le_refl _))
   have hb:((cmB x.c ++ encI x.l.length) ++ (x.l.map stB).flatten)=ceB x:=by simp only [ceB,listB,List.append_assoc]
   rw [hb] at hq
   try rw [hb]
   exact ⟨_,rfl,hq,HML1.out⟩
end Go.Proofs.YtnaoeginonpicaaGreat
