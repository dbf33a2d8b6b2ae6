/- Texts that are built one behind the other: XRk0, XRp0, XRp1, XRp2, XRk1, XRk2, XSha6, XSha7, XVal5. No condition. -/
import Derived.Test.YtbifincepglilaaSpP4
import Derived.Lib.BytesEntry
import Derived.Laws.Externs
import Derived.Deep.Cut
set_option maxRecDepth 100000
set_option linter.unusedVariables false
open List renaming setIfInBounds_toArray → sIB, set_cons_zero → sCZ, set_cons_succ → sCS
/- The reference's book for any list: the plain law of its search; the object. -/
namespace Go.Proofs.Ytbifincepglilaa
open Go Go.RowKit Go.Gv
theorem marks_first:∀ (L:List (Int × List Int)) (n k:Nat) (key:Int × List Int),(∀ j,j < k→L[j]?≠some key)→L[k]? = some key→Bs (Bn n L) key=some (n+k+1)
 | [],n,k,key,_,h=>by simp at h
 | x :: L,n,0,key,_,h=>by
  simp at h
  subst h
  simp only [Bn,mlook_cons,if_pos]
  try rfl
 | x :: L,n,k+1,key,hj,h=>by
  have h0:¬ x=key:=fun e=>hj 0 (by omega) (by simp [e])
  simp only [Bn,mlook_cons,if_neg h0]
  rw [marks_first L (n+1) k key (fun j hjk=>by have:=hj (j+1) (by omega);simpa using this) (by simpa using h)]
  congr 1
  omega
theorem mkN_first {L:List (Int × List Int)} {k:Nat} {key:Int × List Int} (hj:∀ j,j < k→L[j]?≠some key) (h:L[k]? = some key):mkN L key=k+1:=by
 unfold mkN
 rw [marks_first L 0 k key hj h]
 simp
theorem marks_absent:∀ (L:List (Int × List Int)) (n:Nat) (key:Int × List Int),(∀ j,j < L.length→L[j]?≠some key)→Bs (Bn n L) key=none
 | [],n,key,_=>rfl
 | x :: L,n,key,hj=>by
  have h0:¬ x=key:=fun e=>hj 0 (by simp) (by simp [e])
  simp only [Bn,mlook_cons,if_neg h0]
  exact marks_absent L (n+1) key (fun j hjk=>by have:=hj (j+1) (by simp;omega);simpa using this)
theorem mkN_absent {L:List (Int × List Int)} {key:Int × List Int} (hj:∀ j,j < L.length→L[j]?≠some key):mkN L key=0:=by
 unfold mkN
 rw [marks_absent L 0 key hj]
 rfl
/-- a book whose texts are apart: the mark of the i-th is i + 1 -/
def Apart_ (L:List (Int × List Int)):Prop:=L.Pairwise (·≠·)
theorem apart_sign {L:List (Int × List Int)} (h:Apart_ L) (key:Int × List Int):Apart_ (B7 L key):=by
 unfold B7
 by_cases hk:mkN L key=0
 ·rw [if_pos hk]
  unfold Apart_ at h ⊢
  rw [List.pairwise_append]
  refine ⟨h,List.pairwise_singleton _ _,fun p hp q hq=>?_⟩
  simp at hq
  subst hq
  rintro rfl
  obtain ⟨j,hj⟩:=List.getElem?_of_mem hp
  have hf:∀ i,i < j→L[i]?≠some p:=by
   intro i hij e
   have hi:=(List.getElem?_eq_some_iff.1 e)
   have hjj:=(List.getElem?_eq_some_iff.1 hj)
   obtain ⟨hi1,hi2⟩:=hi
   obtain ⟨hj1,hj2⟩:=hjj
   exact List.pairwise_iff_getElem.1 h i j hi1 hj1 hij (hi2.trans hj2.symm)
  have:=mkN_first hf hj
  omega
 ·rw [if_neg hk]
  exact h
theorem mkN_apart {L:List (Int × List Int)} (h:Apart_ L) {j:Nat} {key:Int × List Int} (hj:L[j]? = some key):mkN L key=j+1:=
 mkN_first (fun i hij e=>by
  obtain ⟨hi1,hi2⟩:=List.getElem?_eq_some_iff.1 e
  obtain ⟨hj1,hj2⟩:=List.getElem?_eq_some_iff.1 hj
  exact List.pairwise_iff_getElem.1 h i j hi1 hj1 hij (hi2.trans hj2.symm)) hj
/-- the document's answer whether a text was signed so is the program's -/
theorem rightF_at {L:List (Int × List Int)} (h:Apart_ L) (key:Int × List Int) (m:Int):rightF L key m=(decide (1≤m) && decide (m≤L.length) && decide (L[(m - 1).toNat]? = some key)):=by
 unfold rightF
 by_cases h1:1≤m∧m≤L.length
 ·rw [decide_eq_true h1.1,decide_eq_true h1.2]
  by_cases h2:L[(m - 1).toNat]? = some key
  ·rw [decide_eq_true h2,mkN_apart h h2]
   simp
   omega
  ·rw [decide_eq_false h2]
   simp only [Bool.and_false,Bool.and_eq_false_iff,decide_eq_false_iff_not,beq_eq_false_iff_ne,ne_eq]
   by_cases h3:mkN L key=0
   ·left;simp [h3]
   ·right
    intro e
    have hab:¬ ∀ j,j < L.length→L[j]?≠some key:=fun ha=>h3 (mkN_absent ha)
    have:∃ j,j < L.length∧L[j]? = some key:=by
     by_cases hx:∃ j,j < L.length∧L[j]? = some key
     ·exact hx
     ·exact absurd (fun j hj e=>hx ⟨j,hj,e⟩) hab
    obtain ⟨j,hj,hj2⟩:=this
    have hm:=mkN_apart h hj2
    have:(m - 1).toNat=j:=by omega
    rw [this] at h2
    exact h2 hj2
 ·have hb:(decide (1≤m) && decide (m≤L.length))=false:=by
   by_cases h2:1≤m
   ·rw [decide_eq_false (show ¬ m≤L.length by omega),Bool.and_false]
   ·rw [decide_eq_false h2,Bool.false_and]
  rw [hb,Bool.false_and]
  simp only [Bool.and_eq_false_iff,decide_eq_false_iff_not,beq_eq_false_iff_ne,ne_eq]
  by_cases h3:mkN L key=0
  ·left;simp [h3]
  ·right
   intro e
   have:=mkN_le L key
   omega
end Go.Proofs.Ytbifincepglilaa

/- The document's stamper: the object, Tick, Raise. -/
namespace Go.Proofs.Ytbifincepglilaa
open Go Go.RowKit Go.Gv
/-- a name and what it was stamped with -/
def gvC (q:(Int × Int) × St):List Value:=[.int .i64 q.1.1,.int .i64 q.1.2] ++ q.2.cells
def GvR:Rep ((Int × Int) × St):=Rep.flat 40 (by decide) gvC (fun q=>NmK q.1∧q.2.OK) (fun a h=>by unfold gvC;rw [List.length_append,St.len h.2];rfl) (fun a h u hu=>by
 rcases List.mem_append.1 hu with hu|hu
 ·simp at hu;rcases hu with rfl|rfl<;>rfl
 ·exact St.one _ u hu)
def RpC (f k rep:Int) (s:SS) (v:Value):List Value:=[.int .i64 f,.int .i64 k,.int .i64 rep,.int .u64 (s.now:Nat),.int .u64 (s.floor:Nat),.int .u64 (s.last:Nat),v]
/-- the document's stamper -/
def RpR (R:Nat→Prop) (w:World) (p:Nat) (f k rep:Int) (s:SS):Prop:=
 ∃ v,Cs w p (RpC f k rep s v).toArray 77∧R p∧RdS GvR (fun k=>R k∧k≠p) w v s.m∧s.now < U64∧s.floor+1 < U64∧s.last+1 < U64
section
variable {R R' S:Nat→Prop} {w w':World} {p:Nat} {f k rep:Int} {s:SS}
theorem RpR.mod (h:RpR R w p f k rep s) (hm:Mod S w w') (hs:∀ k,R k→S k→False):RpR R w' p f k rep s:=by
 obtain ⟨v,h1,h2,h3,h4⟩:=h
 exact ⟨v,h1.mod hm (hs p h2),h2,h3.mod hm (fun k hk=>hs k hk.1),h4⟩
theorem RpR.widen (h:RpR R w p f k rep s) (hs:∀ k,R k→R' k):RpR R' w p f k rep s:=by
 obtain ⟨v,h1,h2,h3,h4⟩:=h
 exact ⟨v,h1,hs p h2,h3.widen (fun k hk=>⟨hs k hk.1,hk.2⟩),h4⟩
end
set_option maxHeartbeats 4000000 in
theorem RTick_N {R:Nat→Prop} {w:World} {p:Nat} {f k rep:Int} {s:SS} {n:Nat} (h:RpR R w p f k rep s) (hB:∀ k,R k→k < w.heap.size) (hn:n < U64) (hf:n≤U64 - 1 - s.now) :
 Calls Try.prog 36 #[.pointer (some ⟨p,0,none⟩),.int .u64 (n:Nat)] w fun e w'=>e=.returned (.tuple #[])∧RpR R w' p f k rep (tickS s n)∧Mod R w w':=by
 obtain ⟨v0,hc,hp,hl0,hnw,hfl,hla⟩:=h
 obtain ⟨Q,hQ,hl⟩:∃ Q:Nat→Prop,(∀ k,Q k→R k∧k≠p)∧RdS GvR Q w v0 s.m:=⟨_,fun _ h=>h,hl0⟩
 obtain ⟨ao,cap,rfl⟩:=hl.shape
 have hpl:=hc.lt
 have hU:U64=18446744073709551616:=rfl
 have HC:=hid (show Cs w p #[.int .i64 f,.int .i64 k,.int .i64 rep,.int .u64 (s.now:Nat),.int .u64 (s.floor:Nat),.int .u64 (s.last:Nat),.slice ao s.m.length cap] 77 from hc)
 have HLS:=Lib.hid hl
 have HQ:=Lib.hid hQ
 have HPR:=Lib.hid hp
 have HBQ:=hid (fun k (h:Q k)=>hB k (hQ k h).1)
 have HXQ:=hid (fun (h:Q p)=>(hQ p h).2 rfl)
 clear hc hp hl0 hl hQ hB
 obtain ⟨d,hd⟩:∃ d,d=U64 - 1 - s.now:=⟨_,rfl⟩
 obtain ⟨t,ht⟩:∃ t,t=s.now+min n d:=⟨_,rfl⟩
 go_enter Try.func36,Try.ntmps36
 go_upto_region 0 with (fail)
 have HM0:=hid (Mod.refl (fun k=>(k=p)) w)
 go_upto_region 0 with (fail)
 refine Al 22 [4,5,6,7,8,9,10] [0,1,2,3,4,5,6] (fun a0 HA0=>?_)
 have oe0:=ev HA0 0 rfl
 have oe1:=ev HA0 1 rfl
 refine QSeq.pure rfl _ (fun E=>Ah rfl (E.v oe1)) ?_
 refine QSeq.pure rfl _ (fun E=>Ah rfl (E.v oe0)) ?_
 refine QSeq.pure rfl (.pointer (some ⟨p,0,none⟩)) (fun E=>A1 rfl (E.d 1 0)) ?_
 refine QSeq.pure rfl (.pointer (some ⟨p,3,none⟩)) (fun E=>Ai rfl Try.underlying77 rfl (by kernel_rfl) (E.d 2 0)) ?_
 refine QSeq.pure rfl _ (fun E=>Am rfl Try.underlying45 rfl (E.d 3 0) (Cs.lit1 HC.out rfl)) ?_
 refine QSeq.pure rfl (.int .u64 ((d:Nat):Int)) (fun E=>Av rfl rfl (E.d 4 0) (Ak _ _ _ _ _ _) (run_sub_i _ _ Try.underlying45) (congrArg (Value.int .u64) (u64_eq (b:=((d:Nat):Int)) (by omega) (by omega) (by omega)))) ?_
 refine QSeq.pure rfl (.bool false) (fun E=>Av rfl (E.d 0 5) (E.d 5 0) (Ak _ _ _ _ _ _) (run_gtr_i _ _ _ Try.underlying45) (congrArg Value.bool (decide_eq_false (by omega)))) ?_
 refine QSeq.nil (t':=[_,_,_,_,_,_,_]) rfl ?_
 obtain rfl:=HA0.out
 clear HA0 oe0 oe1
 simp only [pz,Act.put,sIB,sCZ,sCS]
 go_upto_region 2 with (fail)
 refine Al 22 [14,15,16,17,18,19,20,21,30] [0,1,2,3,4,5,6,7,8] (fun a0 HA0=>?_)
 have oe0:=ev HA0 0 rfl
 have oe1:=ev HA0 1 rfl
 refine QSeq.pure rfl _ (fun E=>Ah rfl (E.v oe0)) ?_
 refine QSeq.pure rfl (.pointer (some ⟨p,0,none⟩)) (fun E=>A1 rfl (E.d 0 0)) ?_
 refine QSeq.pure rfl (.pointer (some ⟨p,3,none⟩)) (fun E=>Ai rfl Try.underlying77 rfl (by kernel_rfl) (E.d 1 0)) ?_
 refine QSeq.pure rfl _ (fun E=>Am rfl Try.underlying45 rfl (E.d 2 0) (Cs.lit1 HC.out rfl)) ?_
 refine QSeq.pure rfl _ (fun E=>Ah rfl (E.v oe1)) ?_
 refine QSeq.pure rfl (.int .u64 ((t:Nat):Int)) (fun E=>Av rfl (E.d 3 1) (E.d 4 0) (Ak _ _ _ _ _ _) (Be _ _ Try.underlying45) (congrArg (Value.int .u64) (u64_eq (b:=((t:Nat):Int)) (by omega) (by omega) (by omega)))) ?_
 refine QSeq.pure rfl (.pointer (some ⟨p,0,none⟩)) (fun E=>A1 rfl (E.d 0 5)) ?_
 refine QSeq.pure rfl (.pointer (some ⟨p,3,none⟩)) (fun E=>Ai rfl Try.underlying77 rfl (by kernel_rfl) (E.d 6 0)) ?_
 refine QSeq.go fun act E=>?_
 refine Bc rfl (Ab rfl) rfl HC.out (off:=3) (vs:=[Value.int .u64 ((t:Nat):Int)]) (by kernel_rfl) one1 (by simp) (E.d 7 0) (ec (E.d 5 2)) ?_
 intro u2_8 qc0 hm
 have qrd:=qc0.eqv (b:=#[.int .i64 f,.int .i64 k,.int .i64 rep,.int .u64 ((t:Nat):Int),.int .u64 (s.floor:Nat),.int .u64 (s.last:Nat),.slice ao s.m.length cap]) rfl
 clear qc0
 have Hx1:=hid qrd
 have zu2_8:=hm.size
 have Cx2:=hid (show Mod (fun k=>(k=p)) w u2_8 from hm)
 clear hm
 clear act E qrd HC
 refine QSeq.nil (t':=[_,_,_,_,_,_,_,_,_]) rfl ?_
 obtain rfl:=HA0.out
 clear HA0 oe0 oe1
 simp only [pz,Act.put,sIB,sCZ,sCS,List.set_nil]
 go_wp2
 refine bodyPost_end (results_none rfl _ _ _) rfl ?_
 have ht2:s.now+min n (U64 - 1 - s.now)=t:=by rw [ht,hd]
 unfold tickS
 rw [ht2]
 exact ⟨rfl,⟨_,Hx1.out,HPR.out,(HLS.out.mod Cx2.out (by intro k h1 h2;first|omega|(have hb:=HBQ.out k h1;omega)|exact HXQ.out (h2▸h1)|exact HXQ.out (h1▸h2))).widen (fun k h=>HQ.out k h),(show t < U64 by omega),hfl,hla⟩,(HM0.out.trans Cx2.out (fun _ _ h=>h)).mono (fun k _ h=>h▸HPR.out)⟩
set_option maxHeartbeats 4000000 in
theorem RTick_F {R:Nat→Prop} {w:World} {p:Nat} {f k rep:Int} {s:SS} {n:Nat} (h:RpR R w p f k rep s) (hB:∀ k,R k→k < w.heap.size) (hn:n < U64) (hf:U64 - 1 - s.now < n) :
 Calls Try.prog 36 #[.pointer (some ⟨p,0,none⟩),.int .u64 (n:Nat)] w fun e w'=>e=.returned (.tuple #[])∧RpR R w' p f k rep (tickS s n)∧Mod R w w':=by
 obtain ⟨v0,hc,hp,hl0,hnw,hfl,hla⟩:=h
 obtain ⟨Q,hQ,hl⟩:∃ Q:Nat→Prop,(∀ k,Q k→R k∧k≠p)∧RdS GvR Q w v0 s.m:=⟨_,fun _ h=>h,hl0⟩
 obtain ⟨ao,cap,rfl⟩:=hl.shape
 have hpl:=hc.lt
 have hU:U64=18446744073709551616:=rfl
 have HC:=hid (show Cs w p #[.int .i64 f,.int .i64 k,.int .i64 rep,.int .u64 (s.now:Nat),.int .u64 (s.floor:Nat),.int .u64 (s.last:Nat),.slice ao s.m.length cap] 77 from hc)
 have HLS:=Lib.hid hl
 have HQ:=Lib.hid hQ
 have HPR:=Lib.hid hp
 have HBQ:=hid (fun k (h:Q k)=>hB k (hQ k h).1)
 have HXQ:=hid (fun (h:Q p)=>(hQ p h).2 rfl)
 clear hc hp hl0 hl hQ hB
 obtain ⟨d,hd⟩:∃ d,d=U64 - 1 - s.now:=⟨_,rfl⟩
 obtain ⟨t,ht⟩:∃ t,t=s.now+min n d:=⟨_,rfl⟩
 go_enter Try.func36,Try.ntmps36
 go_upto_region 0 with (fail)
 have HM0:=hid (Mod.refl (fun k=>(k=p)) w)
 go_upto_region 0 with (fail)
 refine Al 22 [4,5,6,7,8,9,10] [0,1,2,3,4,5,6] (fun a0 HA0=>?_)
 have oe0:=ev HA0 0 rfl
 have oe1:=ev HA0 1 rfl
 refine QSeq.pure rfl _ (fun E=>Ah rfl (E.v oe1)) ?_
 refine QSeq.pure rfl _ (fun E=>Ah rfl (E.v oe0)) ?_
 refine QSeq.pure rfl (.pointer (some ⟨p,0,none⟩)) (fun E=>A1 rfl (E.d 1 0)) ?_
 refine QSeq.pure rfl (.pointer (some ⟨p,3,none⟩)) (fun E=>Ai rfl Try.underlying77 rfl (by kernel_rfl) (E.d 2 0)) ?_
 refine QSeq.pure rfl _ (fun E=>Am rfl Try.underlying45 rfl (E.d 3 0) (Cs.lit1 HC.out rfl)) ?_
 refine QSeq.pure rfl (.int .u64 ((d:Nat):Int)) (fun E=>Av rfl rfl (E.d 4 0) (Ak _ _ _ _ _ _) (run_sub_i _ _ Try.underlying45) (congrArg (Value.int .u64) (u64_eq (b:=((d:Nat):Int)) (by omega) (by omega) (by omega)))) ?_
 refine QSeq.pure rfl (.bool true) (fun E=>Av rfl (E.d 0 5) (E.d 5 0) (Ak _ _ _ _ _ _) (run_gtr_i _ _ _ Try.underlying45) (congrArg Value.bool (decide_eq_true (by omega)))) ?_
 refine QSeq.nil (t':=[_,_,_,_,_,_,_]) rfl ?_
 obtain rfl:=HA0.out
 clear HA0 oe0 oe1
 simp only [pz,Act.put,sIB,sCZ,sCS]
 go_upto_region 1 with (fail)
 refine Al 22 [11,12,13,25] [0,1,2,3] (fun a0 HA0=>?_)
 have oe0:=ev HA0 0 rfl
 refine QSeq.pure rfl _ (fun E=>Ah rfl (E.v oe0)) ?_
 refine QSeq.pure rfl (.pointer (some ⟨p,0,none⟩)) (fun E=>A1 rfl (E.d 0 0)) ?_
 refine QSeq.pure rfl (.pointer (some ⟨p,3,none⟩)) (fun E=>Ai rfl Try.underlying77 rfl (by kernel_rfl) (E.d 1 0)) ?_
 refine QSeq.go fun act E=>?_
 refine Bc rfl (Ab rfl) rfl HC.out (off:=3) (vs:=[Value.int .u64 18446744073709551615]) (by kernel_rfl) one1 (by simp) (E.d 2 0) (ec rfl) ?_
 intro u1_3 qc0 hm
 have qrd:=qc0.eqv (b:=#[.int .i64 f,.int .i64 k,.int .i64 rep,.int .u64 18446744073709551615,.int .u64 (s.floor:Nat),.int .u64 (s.last:Nat),.slice ao s.m.length cap]) rfl
 clear qc0
 have Hx1:=hid qrd
 have zu1_3:=hm.size
 have Cx2:=hid (show Mod (fun k=>(k=p)) w u1_3 from hm)
 clear hm
 clear act E qrd HC
 refine QSeq.nil (t':=[_,_,_,_]) rfl ?_
 obtain rfl:=HA0.out
 clear HA0 oe0
 simp only [pz,Act.put,sIB,sCZ,sCS,List.set_nil]
 go_wp2
 refine bodyPost_ret (results_none rfl _ _ _) rfl ?_
 have ht2:s.now+min n (U64 - 1 - s.now)=t:=by rw [ht,hd]
 unfold tickS
 rw [ht2]
 have ht3:t=18446744073709551615:=by omega
 subst ht3
 exact ⟨rfl,⟨_,Hx1.out,HPR.out,(HLS.out.mod Cx2.out (by intro k h1 h2;first|omega|(have hb:=HBQ.out k h1;omega)|exact HXQ.out (h2▸h1)|exact HXQ.out (h1▸h2))).widen (fun k h=>HQ.out k h),(show 18446744073709551615 < U64 by omega),hfl,hla⟩,(HM0.out.trans Cx2.out (fun _ _ h=>h)).mono (fun k _ h=>h▸HPR.out)⟩
set_option maxHeartbeats 4000000 in
theorem RRaise_Q {R:Nat→Prop} {w:World} {p:Nat} {f k rep:Int} {s:SS} {n:Nat} (h:RpR R w p f k rep s) (hB:∀ k,R k→k < w.heap.size) (hn:n+1 < U64) :
 Calls Try.prog 37 #[.pointer (some ⟨p,0,none⟩),.int .u64 (n:Nat)] w fun e w'=>e=.returned (.int .i64 0)∧RpR R w' p f k rep (raiseS s n)∧Mod R w w':=by
 obtain ⟨v0,hc,hp,hl0,hnw,hfl,hla⟩:=h
 obtain ⟨Q,hQ,hl⟩:∃ Q:Nat→Prop,(∀ k,Q k→R k∧k≠p)∧RdS GvR Q w v0 s.m:=⟨_,fun _ h=>h,hl0⟩
 obtain ⟨ao,cap,rfl⟩:=hl.shape
 have hpl:=hc.lt
 have hU:U64=18446744073709551616:=rfl
 have HC:=hid (show Cs w p #[.int .i64 f,.int .i64 k,.int .i64 rep,.int .u64 (s.now:Nat),.int .u64 (s.floor:Nat),.int .u64 (s.last:Nat),.slice ao s.m.length cap] 77 from hc)
 have HLS:=Lib.hid hl
 have HQ:=Lib.hid hQ
 have HPR:=Lib.hid hp
 have HBQ:=hid (fun k (h:Q k)=>hB k (hQ k h).1)
 have HXQ:=hid (fun (h:Q p)=>(hQ p h).2 rfl)
 clear hc hp hl0 hl hQ hB
 go_enter Try.func37,Try.ntmps37
 go_upto_region 1 with (fail)
 have HM0:=hid (Mod.refl (fun k=>(k=p)) w)
 go_upto_region 1 with (fail)
 refine Al 16 [5,6] [0,1] (fun a0 HA0=>?_)
 have oe1:=ev HA0 1 rfl
 refine QSeq.pure rfl _ (fun E=>Ah rfl (E.v oe1)) ?_
 refine QSeq.pure rfl (.bool false) (fun E=>Av rfl (E.d 0 0) rfl (Ak _ _ _ _ _ _) (Bg _ _ _ Try.underlying45) (congrArg Value.bool (eq_ff (by omega)))) ?_
 refine QSeq.nil (t':=[_,_]) rfl ?_
 obtain rfl:=HA0.out
 clear HA0 oe1
 simp only [pz,Act.put,sIB,sCZ,sCS]
 obtain ⟨t,ht⟩:∃ t,t=max s.floor n:=⟨_,rfl⟩
 go_upto_region 3 with (fail)
 refine Al 16 [7,8,9,10,11,12,13,14,15,25] [0,1,2,3,4,5,6,7,8,9] (fun a0 HA0=>?_)
 have oe0:=ev HA0 0 rfl
 have oe1:=ev HA0 1 rfl
 refine QSeq.pure rfl _ (fun E=>Ah rfl (E.v oe0)) ?_
 refine QSeq.pure rfl _ (fun E=>Ah rfl (E.v oe0)) ?_
 refine QSeq.pure rfl (.pointer (some ⟨p,0,none⟩)) (fun E=>A1 rfl (E.d 1 0)) ?_
 refine QSeq.pure rfl (.pointer (some ⟨p,4,none⟩)) (fun E=>Ai rfl Try.underlying77 rfl (by kernel_rfl) (E.d 2 0)) ?_
 refine QSeq.pure rfl _ (fun E=>Am rfl Try.underlying45 rfl (E.d 3 0) (Cs.lit1 HC.out rfl)) ?_
 refine QSeq.pure rfl _ (fun E=>Ah rfl (E.v oe1)) ?_
 refine QSeq.pure rfl (.int .u64 ((t:Nat):Int)) (fun E=>ex_max (r:=((t:Nat):Int)) rfl (E.d 4 1) (E.d 5 0) (by split<;>omega)) ?_
 refine QSeq.pure rfl (.pointer (some ⟨p,0,none⟩)) (fun E=>A1 rfl (E.d 0 6)) ?_
 refine QSeq.pure rfl (.pointer (some ⟨p,4,none⟩)) (fun E=>Ai rfl Try.underlying77 rfl (by kernel_rfl) (E.d 7 0)) ?_
 refine QSeq.go fun act E=>?_
 refine Bc rfl (Ab rfl) rfl HC.out (off:=4) (vs:=[Value.int .u64 ((t:Nat):Int)]) (by kernel_rfl) one1 (by simp) (E.d 8 0) (ec (E.d 6 2)) ?_
 intro u3_9 qc0 hm
 have qrd:=qc0.eqv (b:=#[.int .i64 f,.int .i64 k,.int .i64 rep,.int .u64 (s.now:Nat),.int .u64 ((t:Nat):Int),.int .u64 (s.last:Nat),.slice ao s.m.length cap]) rfl
 clear qc0
 have Hx1:=hid qrd
 have zu3_9:=hm.size
 have Cx2:=hid (show Mod (fun k=>(k=p)) w u3_9 from hm)
 clear hm
 clear act E qrd HC
 refine QSeq.nil (t':=[_,_,_,_,_,_,_,_,_,_]) rfl ?_
 obtain rfl:=HA0.out
 clear HA0 oe0 oe1
 simp only [pz,Act.put,sIB,sCZ,sCS,List.set_nil]
 go_upto_region 4 with (fail)
 refine Al 16 [4] [0] (fun a0 HA0=>?_)
 refine QSeq.pure rfl (.int .i64 0) (fun E=>An rfl rfl) ?_
 refine QSeq.nil (t':=[_]) rfl ?_
 obtain rfl:=HA0.out
 clear HA0
 simp only [pz,Act.put,sIB,sCZ,sCS]
 go_wp2
 go_ret
 unfold raiseS
 rw [← ht]
 exact ⟨rfl,⟨_,Hx1.out,HPR.out,(HLS.out.mod Cx2.out (by intro k h1 h2;first|omega|(have hb:=HBQ.out k h1;omega)|exact HXQ.out (h2▸h1)|exact HXQ.out (h1▸h2))).widen (fun k h=>HQ.out k h),hnw,(show t+1 < U64 by omega),hla⟩,(HM0.out.trans Cx2.out (fun _ _ h=>h)).mono (fun k _ h=>h▸HPR.out)⟩
set_option maxHeartbeats 4000000 in
theorem RRaise_N {R:Nat→Prop} {w:World} {p:Nat} {f k rep:Int} {s:SS} {n:Nat} (h:RpR R w p f k rep s) (hB:∀ k,R k→k < w.heap.size) (hn:n+1=U64) :
 Calls Try.prog 37 #[.pointer (some ⟨p,0,none⟩),.int .u64 (n:Nat)] w fun e w'=>e=.returned (.int .i64 4)∧RpR R w' p f k rep s∧Mod R w w':=by
 obtain ⟨v0,hc,hp,hl0,hnw,hfl,hla⟩:=h
 obtain ⟨Q,hQ,hl⟩:∃ Q:Nat→Prop,(∀ k,Q k→R k∧k≠p)∧RdS GvR Q w v0 s.m:=⟨_,fun _ h=>h,hl0⟩
 obtain ⟨ao,cap,rfl⟩:=hl.shape
 have hpl:=hc.lt
 have hU:U64=18446744073709551616:=rfl
 have HC:=hid (show Cs w p #[.int .i64 f,.int .i64 k,.int .i64 rep,.int .u64 (s.now:Nat),.int .u64 (s.floor:Nat),.int .u64 (s.last:Nat),.slice ao s.m.length cap] 77 from hc)
 have HLS:=Lib.hid hl
 have HQ:=Lib.hid hQ
 have HPR:=Lib.hid hp
 have HBQ:=hid (fun k (h:Q k)=>hB k (hQ k h).1)
 have HXQ:=hid (fun (h:Q p)=>(hQ p h).2 rfl)
 clear hc hp hl0 hl hQ hB
 go_enter Try.func37,Try.ntmps37
 go_upto_region 1 with (fail)
 have HM0:=hid (Mod.refl (fun k=>(k=p)) w)
 go_upto_region 1 with (fail)
 refine Al 16 [5,6] [0,1] (fun a0 HA0=>?_)
 have oe1:=ev HA0 1 rfl
 refine QSeq.pure rfl _ (fun E=>Ah rfl (E.v oe1)) ?_
 refine QSeq.pure rfl (.bool true) (fun E=>Av rfl (E.d 0 0) rfl (Ak _ _ _ _ _ _) (Bg _ _ _ Try.underlying45) (congrArg Value.bool (eq_tt (by omega)))) ?_
 refine QSeq.nil (t':=[_,_]) rfl ?_
 obtain rfl:=HA0.out
 clear HA0 oe1
 simp only [pz,Act.put,sIB,sCZ,sCS]
 go_upto_region 2 with (fail)
 refine Al 16 [4] [0] (fun a0 HA0=>?_)
 refine QSeq.pure rfl (.int .i64 4) (fun E=>An rfl rfl) ?_
 refine QSeq.nil (t':=[_]) rfl ?_
 obtain rfl:=HA0.out
 clear HA0
 simp only [pz,Act.put,sIB,sCZ,sCS]
 go_wp2
 go_ret
 exact ⟨rfl,⟨_,HC.out,HPR.out,HLS.out.widen (fun k h=>HQ.out k h),hnw,hfl,hla⟩,HM0.out.mono (fun k _ h=>h▸HPR.out)⟩
end Go.Proofs.Ytbifincepglilaa

/- The document's stamper: Of. -/
namespace Go.Proofs.Ytbifincepglilaa
open Go Go.RowKit Go.Gv
theorem mlook_first:∀ (l:NMap) (k:Nat) (n:Int × Int) (q:(Int × Int) × St),(∀ j,j < k→∀ z,l[j]? = some z→z.1≠n)→l[k]? = some q→q.1=n→Bs l n=some q.2
 | [],k,n,q,_,h,_=>by simp at h
 | (x,y) :: l,0,n,q,_,h,hq=>by
  simp at h
  subst h
  simp only at hq
  rw [mlook_cons,if_pos hq]
 | (x,y) :: l,k+1,n,q,hj,h,hq=>by
  have h0:¬ x=n:=hj 0 (by omega) (x,y) (by simp)
  rw [mlook_cons,if_neg h0]
  exact mlook_first l k n q (fun j hjk z hz=>hj (j+1) (by omega) z (by simpa using hz)) (by simpa using h) hq
theorem mlook_absent:∀ (l:NMap) (n:Int × Int),(∀ j,j < l.length→∀ z,l[j]? = some z→z.1≠n)→Bs l n=none
 | [],n,_=>rfl
 | (x,y) :: l,n,hj=>by
  have h0:¬ x=n:=hj 0 (by simp) (x,y) (by simp)
  rw [mlook_cons,if_neg h0]
  exact mlook_absent l n (fun j hjk z hz=>hj (j+1) (by simp;omega) z (by simpa using hz))
theorem gv_name {q:(Int × Int) × St} {j:Nat} {u:Value} (h:([.int .i64 q.1.1,.int .i64 q.1.2]:List Value)[j]? = some u):(gvC q)[j]? = some u:=by
 have hj:=(List.getElem?_eq_some_iff.1 h).1
 unfold gvC
 rw [List.getElem?_append_left hj]
 exact h
theorem gv_st {q:(Int × Int) × St} {j:Nat} {u:Value} (h:q.2.cells[j]? = some u):(gvC q)[2+j]? = some u:=by
 unfold gvC
 rw [List.getElem?_append_right (by simp)]
 simpa using h
set_option maxHeartbeats 3000000 in
theorem ROf_Q {R:Nat→Prop} {w:World} {p:Nat} {f k rep:Int} {s:SS} {n:Int × Int} (h:RpR R w p f k rep s) (hB:∀ k,R k→k < w.heap.size) (hmb:s.m.length≤100000) :
 Calls Try.prog 40 #[.pointer (some ⟨p,0,none⟩),.agg #[.int .i64 n.1,.int .i64 n.2]] w fun e w'=>e=.returned (lookV s.m n)∧Mod (fun _=>False) w w':=by
 obtain ⟨v0,hc,hp,hl0,hnw,hfl,hla⟩:=h
 obtain ⟨Q,hQ,hl⟩:∃ Q:Nat→Prop,(∀ k,Q k→R k∧k≠p)∧RdS GvR Q w v0 s.m:=⟨_,fun _ h=>h,hl0⟩
 obtain ⟨ao,cap,rfl⟩:=hl.shape
 have hpl:=hc.lt
 have hU:U64=18446744073709551616:=rfl
 have HC:=hid (show Cs w p #[.int .i64 f,.int .i64 k,.int .i64 rep,.int .u64 (s.now:Nat),.int .u64 (s.floor:Nat),.int .u64 (s.last:Nat),.slice ao s.m.length cap] 77 from hc)
 have HLS:=Lib.hid hl
 have HQ:=Lib.hid hQ
 have HPR:=Lib.hid hp
 have HBQ:=hid (fun k (h:Q k)=>hB k (hQ k h).1)
 have HXQ:=hid (fun (h:Q p)=>(hQ p h).2 rfl)
 clear hc hp hl0 hl hQ hB
 change Calls _ _ #[.pointer (some ⟨p,0,none⟩),.agg #[.int .i64 n.1,.int .i64 n.2]] _ _
 go_enter Try.func40,Try.ntmps40
 go_upto_region 1 with (fail)
 obtain ⟨w1,hw1⟩:∃ zz,zz=((w.alloc (.cells #[.int .i64 n.1,.int .i64 n.2] 30)).alloc (.cells #[.int .i64 0,.int .i64 0,.int .i64 0,.int .u8 0,.int .u8 0,.int .u8 0,.int .u8 0,.int .u8 0,.int .u8 0,.int .u8 0,.int .u8 0,.int .u8 0,.int .u8 0,.int .u8 0,.int .u8 0,.int .u8 0,.int .u8 0,.int .u8 0,.int .u8 0,.int .u8 0,.int .u8 0,.int .u8 0,.int .u8 0,.int .u8 0,.int .u8 0,.int .u8 0,.int .u8 0,.int .u8 0,.int .u8 0,.int .u8 0,.int .u8 0,.int .u8 0,.int .u8 0,.int .u8 0,.int .u8 0,.int .u64 0,.int .i64 0,.int .i64 0] 47)):=⟨_,rfl⟩
 change Code.wp _ _ _ _ ((w.alloc (.cells #[.int .i64 n.1,.int .i64 n.2] 30)).alloc (.cells #[.int .i64 0,.int .i64 0,.int .i64 0,.int .u8 0,.int .u8 0,.int .u8 0,.int .u8 0,.int .u8 0,.int .u8 0,.int .u8 0,.int .u8 0,.int .u8 0,.int .u8 0,.int .u8 0,.int .u8 0,.int .u8 0,.int .u8 0,.int .u8 0,.int .u8 0,.int .u8 0,.int .u8 0,.int .u8 0,.int .u8 0,.int .u8 0,.int .u8 0,.int .u8 0,.int .u8 0,.int .u8 0,.int .u8 0,.int .u8 0,.int .u8 0,.int .u8 0,.int .u8 0,.int .u8 0,.int .u8 0,.int .u64 0,.int .i64 0,.int .i64 0] 47))
 rw [← hw1]
 have HB3:=hid (show Cs w1 (w.heap.size) #[.int .i64 n.1,.int .i64 n.2] 30 by rw [hw1];exact (Cs.new _ _ _).alloc _)
 have HB4:=hid (show Cs w1 (w.heap.size+1) #[.int .i64 0,.int .i64 0,.int .i64 0,.int .u8 0,.int .u8 0,.int .u8 0,.int .u8 0,.int .u8 0,.int .u8 0,.int .u8 0,.int .u8 0,.int .u8 0,.int .u8 0,.int .u8 0,.int .u8 0,.int .u8 0,.int .u8 0,.int .u8 0,.int .u8 0,.int .u8 0,.int .u8 0,.int .u8 0,.int .u8 0,.int .u8 0,.int .u8 0,.int .u8 0,.int .u8 0,.int .u8 0,.int .u8 0,.int .u8 0,.int .u8 0,.int .u8 0,.int .u8 0,.int .u8 0,.int .u8 0,.int .u64 0,.int .i64 0,.int .i64 0] 47 by rw [hw1];exact Cs_newN _ _ _ (by simp))
 have hm:Mod (fun _=>False) w w1:=by rw [hw1];exact ((Mod.refl _ _).alloc _).alloc _
 have HM0:=hid (show Mod (fun _=>False) w w1 from hm.mono (fun _ _ h=>h.elim))
 have hs1:w1.heap.size=w.heap.size+2:=by rw [hw1];simp
 have Hx1:=hid (HC.out.mod hm (fun h=>h))
 clear HC
 have Hx2:=hid (HLS.out.mod hm (fun _ _ h=>h))
 clear HLS
 clear hw1 hm
 go_upto_region 1 with (fail)
 refine Al 35 [7,8,9,10,11,12] [0,1,2,3,4,5] (fun a0 HA0=>?_)
 have oe0:=ev HA0 0 rfl
 refine QSeq.pure rfl _ (fun E=>Ah rfl (E.v oe0)) ?_
 refine QSeq.pure rfl (.pointer (some ⟨p,0,none⟩)) (fun E=>A1 rfl (E.d 0 0)) ?_
 refine QSeq.pure rfl (.pointer (some ⟨p,6,none⟩)) (fun E=>Ai rfl Try.underlying77 rfl (by kernel_rfl) (E.d 1 0)) ?_
 refine QSeq.pure rfl _ (fun E=>Am rfl Try.underlying75 rfl (E.d 2 0) (Cs.lit1 Hx1.out rfl)) ?_
 refine QSeq.pure rfl (.int .i64 s.m.length) (fun E=>ex_lenS rfl (E.d 3 0) Try.underlying75) ?_
 refine QSeq.pure rfl (.int .i64 0) (fun E=>Ah rfl rfl) ?_
 refine QSeq.nil (t':=[_,_,_,_,_,_]) rfl ?_
 obtain rfl:=HA0.out
 clear HA0 oe0
 simp only [pz,Act.put,sIB,sCZ,sCS]
 go_wp2
 go_loopw [12] (fun t wr=>∃ ix:Nat,t=.int .i64 (ix:Nat)∧ix≤s.m.length∧(∀ j,j < ix→∀ z,s.m[j]? = some z→z.1≠n)∧w1.heap.size≤wr.heap.size∧Cs wr p #[.int .i64 f,.int .i64 k,.int .i64 rep,.int .u64 (s.now:Nat),.int .u64 (s.floor:Nat),.int .u64 (s.last:Nat),.slice ao s.m.length cap] 77∧RdS GvR Q wr (.slice ao s.m.length cap) s.m∧Cs wr (w.heap.size) #[.int .i64 n.1,.int .i64 n.2] 30∧Cs wr (w.heap.size+1) zSt.cells.toArray 47∧Mod (fun _=>False) w wr) (fun t _=>s.m.length - (intOf t).toNat)
 case atStart=>exact ⟨0,rfl,Nat.zero_le _,(fun j hj=>absurd hj (Nat.not_lt_zero j)),Nat.le_refl _,Hx1.out,Hx2.out,HB3.out,HB4.out,HM0.out⟩
 case round=>
  obtain ⟨ix,rfl,hkl,hab,hz,k1,k2,k3,k4,k5⟩:=hrel
  obtain ⟨wl,rfl⟩:∃ x,x=wr:=⟨_,rfl⟩
  have K1:=Lib.hid k1
  have K2:=Lib.hid k2
  have K3:=Lib.hid k3
  have K4:=Lib.hid k4
  have K5:=Lib.hid k5
  have HAB:=Lib.hid hab
  clear k1 k2 k3 k4 k5 hab Hx1 Hx2 HB3 HB4 HM0
  by_cases hlt:ix < s.m.length
  ·skip
   go_upto_region 2 with (fail)
   refine Al 35 [13] [0] (fun a0 HA0=>?_)
   have oe11:=ev HA0 11 rfl
   have oe12:=ev HA0 12 rfl
   refine QSeq.pure rfl (.bool true) (fun E=>Av rfl (E.v oe12) (E.v oe11) (Ak _ _ _ _ _ _) (run_lss_i _ _ _ Try.underlying3) (congrArg Value.bool (decide_eq_true (by omega)))) ?_
   refine QSeq.nil (t':=[_]) rfl ?_
   obtain rfl:=HA0.out
   clear HA0 oe11 oe12
   simp only [pz,Act.put,sIB,sCZ,sCS]
   go_upto_region 3 with (fail)
   refine Al 35 [14,6] [0,1] (fun a0 HA0=>?_)
   have oe12:=ev HA0 12 rfl
   refine QSeq.pure rfl _ (fun E=>Ah rfl (E.v oe12)) ?_
   refine QSeq.pure rfl _ (fun E=>An rfl (E.d 0 0)) ?_
   refine QSeq.nil (t':=[_,_]) rfl ?_
   obtain rfl:=HA0.out
   clear HA0 oe12
   simp only [pz,Act.put,sIB,sCZ,sCS]
   obtain ⟨g1,o1,cs1,ea,hrg,hrd,hcs⟩:=K2.out.at hlt
   obtain ⟨rfl,hok⟩:=hrd
   have hz:=List.getElem?_eq_getElem hlt
   generalize s.m[ix]=q at hcs hok hz
   subst ea
   have HAT:=hid (show CellsAt Q wl g1 (o1+ix * 40) (gvC q) from ⟨hrg,hcs⟩)
   have HOK:=Lib.hid hok
   have HZ:=Lib.hid hz
   clear hrg hcs hok hz
   by_cases h1:q.1=n
   ·skip
    go_upto_region 4 with (fail)
    generalize ha0:Act.mk _ _=a0
    have oe0:a0.eval (.tmp 0)=.pointer (some ⟨p,0,none⟩):=by rw [← ha0];rfl
    have oe3:a0.eval (.tmp 3)=.pointer (some ⟨w.heap.size,0,none⟩):=by rw [← ha0];rfl
    have oe6:a0.eval (.tmp 6)=.int .i64 ((ix:Nat):Int):=by rw [← ha0];rfl
    have hsz0:a0.tmps.size=35:=by rw [← ha0];rfl
    have HA0:=hid ha0
    clear ha0
    refine Az 35 hsz0 [15,16,17,18,19,20,21,22,23,24] [qi (.pointer (some ⟨p,0,none⟩)),qi (.pointer (some ⟨p,0,none⟩)),qi (.pointer (some ⟨p,6,none⟩)),qi (.slice (some ⟨g1,o1,none⟩) s.m.length cap),qi (.int .i64 ((ix:Nat):Int)),qi (.pointer (some ⟨g1,o1+ix * 40,none⟩)),qi (.pointer (some ⟨g1,o1+ix * 40,none⟩)),qi (.agg #[.int .i64 q.1.1,.int .i64 q.1.2]),qi (.agg #[.int .i64 n.1,.int .i64 n.2]),qi (.bool true)] ⟨Aa,Aa,Aa,Aa,Aa,Aa,Aa,Aa,Aa,Aa,trivial⟩ [] ⟨?_,?_,?_,?_,?_,?_,?_,?_,?_,?_,trivial⟩ ?_
    ·exact stq (fun E=>Ah rfl (E.v oe0))
    ·exact stq (fun E=>A1 rfl (E.d 0))
    ·exact stq (fun E=>Ai rfl Try.underlying77 rfl (by kernel_rfl) (E.d 1))
    ·exact stq (fun E=>Am rfl Try.underlying75 rfl (E.d 2) (Cs.lit1 (K1.out.mod E.m.old (by intro h2;omega)) rfl))
    ·exact stq (fun E=>Ah rfl (E.v oe6))
    ·exact stq (fun E=>ex_idxS (i:=ix) (s:=40) rfl Try.underlying75 (by kernel_rfl) (E.d 3) (E.d 4) hlt)
    ·exact stq (fun E=>Ai rfl Try.underlying115 rfl (by kernel_rfl) (E.d 5))
    ·exact stq (fun E=>Ap rfl Try.underlying30 rfl (off:=o1+ix * 40) (cs:=[.int .i64 q.1.1,.int .i64 q.1.2]) (by kernel_rfl) (E.d 6) (fun j u hu=>((HAT.out.mod E.m.old (by intro k h1 h2;have hb:=HBQ.out k h1;omega))).2 j u (gv_name hu)))
    ·exact stq (fun E=>Ap rfl Try.underlying30 rfl (off:=0) (cs:=[.int .i64 n.1,.int .i64 n.2]) (by kernel_rfl) (E.v oe3) (Cs.litA (K3.out.mod E.m.old (by intro h2;omega)) rfl))
    ·exact stq (fun E=>Av rfl (E.d 7) (E.d 8) (agg_guardE _ _ _ _ _ _ (by kernel_rfl) _) (EqW.run eqW_name (ki_2 q.1.1 q.1.2) (ki_2 n.1 n.2) (c:=true) (by rw [h1];simp) _) rfl)
    intro u4_0 hr
    have zu4_0:=hr.size
    have Cx3:=hid (hr.new (S:=(fun _=>False)))
    clear hr
    refine QChain.nil fun vs hl hzz hrows hne=>?_
    obtain ⟨Z,hYZ,hZb,hV⟩:=hzz
    have f0:=fvi hV hl 0
    have f4:=fvi hV hl 4
    have f9:=fvi hV hl 9
    rw [show vs=[gw vs 0,gw vs 1,gw vs 2,gw vs 3,gw vs 4,gw vs 5,gw vs 6,gw vs 7,gw vs 8,gw vs 9] from (Bh hl).trans rfl]
    have ha0:=HA0.out
    subst ha0
    clear HA0 hV hYZ hZb hsz0 hrows hne oe0 oe3 oe6
    simp only [Ar,Act.put,sIB,sCZ,sCS,f0,f4,f9]
    clear hl f0 f4 f9
    go_upto_region 5 with (fail)
    refine Al 35 [25,26,27,28,29,30,31,32,43,5] [0,1,2,3,4,5,6,7,8,9] (fun a0 HA0=>?_)
    have oe0:=ev HA0 0 rfl
    have oe4:=ev HA0 4 rfl
    have oe6:=ev HA0 6 rfl
    refine QSeq.pure rfl _ (fun E=>Ah rfl (E.v oe0)) ?_
    refine QSeq.pure rfl (.pointer (some ⟨p,0,none⟩)) (fun E=>A1 rfl (E.d 0 0)) ?_
    refine QSeq.pure rfl (.pointer (some ⟨p,6,none⟩)) (fun E=>Ai rfl Try.underlying77 rfl (by kernel_rfl) (E.d 1 0)) ?_
    refine QSeq.pure rfl _ (fun E=>Am rfl Try.underlying75 rfl (E.d 2 0) (Cs.lit1 (K1.out.mod Cx3.out (fun h=>h)) rfl)) ?_
    refine QSeq.pure rfl _ (fun E=>Ah rfl (E.v oe6)) ?_
    refine QSeq.pure rfl (.pointer (some ⟨g1,o1+ix * 40,none⟩)) (fun E=>ex_idxS (i:=ix) (s:=40) rfl Try.underlying75 (by kernel_rfl) (E.d 3 1) (E.d 4 0) hlt) ?_
    refine QSeq.pure rfl (.pointer (some ⟨g1,o1+ix * 40+2,none⟩)) (fun E=>Ai rfl Try.underlying115 rfl (by kernel_rfl) (E.d 5 0)) ?_
    refine QSeq.pure rfl _ (fun E=>Ap rfl Try.underlying47 rfl (off:=o1+ix * 40+2) (cs:=q.2.cells) (by rw [St.len HOK.out.2];exact Bb) (E.d 6 0) (fun j u hu=>by have h9:=((HAT.out.mod Cx3.out (fun _ _ h=>h))).2 (2+j) u (gv_st hu);rwa [← Nat.add_assoc] at h9)) ?_
    refine QSeq.go fun act E=>?_
    refine Bc rfl (Ab rfl) rfl (K4.out.mod Cx3.out (fun h=>h)) (off:=0) (vs:=q.2.cells) (by rw [St.len HOK.out.2];exact Bb) (St.one q.2) (by rw [List.size_toArray];have e1:=St.len Bt;have e2:=St.len HOK.out.2;omega) (E.v oe4) (ec (E.d 7 0)) ?_
    intro u5_8 qc0 hm
    have qB4:=qc0.eqv (b:=(q.2.cells:List Value).toArray) (A0 _ _ (show zSt.cells.toArray.size=_ from List.size_toArray.trans ((St.len Bt).trans (St.len HOK.out.2).symm)))
    clear qc0
    have Hx4:=hid qB4
    have zu5_8:=hm.size
    have Cx5:=hid (show Mod (fun k=>(k=w.heap.size+1)) u4_0 u5_8 from hm)
    clear hm
    clear act E qB4 K4
    refine QSeq.pure rfl (.bool true) (fun E=>An rfl rfl) ?_
    refine QSeq.nil (t':=[_,_,_,_,_,_,_,_,_,_]) rfl ?_
    obtain rfl:=HA0.out
    clear HA0 oe0 oe4 oe6
    simp only [pz,Act.put,sIB,sCZ,sCS,List.set_nil]
    have hlk:lookV s.m n=.tuple #[q.2.val,.bool true]:=lookV_some (mlook_first s.m ix n q HAB.out HZ.out h1)
    clear HAT
    go_wp2
    refine bodyPost_ret (Bm rfl _ _ (w.heap.size+1) (q.2.cells) rfl (fun ix u hu=>by rw [Hx4.out.cell];simpa using hu) Try.underlying47 rfl (by rw [St.len HOK.out.2];exact Bb)) rfl ?_
    rw [hlk]
    exact ⟨rfl,((K5.out.trans Cx3.out (fun _ _ h=>h.elim)).trans Cx5.out (by intro k h1 h2;omega))⟩
   ·skip
    go_upto_region 4 with (fail)
    generalize ha0:Act.mk _ _=a0
    have oe0:a0.eval (.tmp 0)=.pointer (some ⟨p,0,none⟩):=by rw [← ha0];rfl
    have oe3:a0.eval (.tmp 3)=.pointer (some ⟨w.heap.size,0,none⟩):=by rw [← ha0];rfl
    have oe6:a0.eval (.tmp 6)=.int .i64 ((ix:Nat):Int):=by rw [← ha0];rfl
    have hsz0:a0.tmps.size=35:=by rw [← ha0];rfl
    have HA0:=hid ha0
    clear ha0
    refine Az 35 hsz0 [15,16,17,18,19,20,21,22,23,24] [qi (.pointer (some ⟨p,0,none⟩)),qi (.pointer (some ⟨p,0,none⟩)),qi (.pointer (some ⟨p,6,none⟩)),qi (.slice (some ⟨g1,o1,none⟩) s.m.length cap),qi (.int .i64 ((ix:Nat):Int)),qi (.pointer (some ⟨g1,o1+ix * 40,none⟩)),qi (.pointer (some ⟨g1,o1+ix * 40,none⟩)),qi (.agg #[.int .i64 q.1.1,.int .i64 q.1.2]),qi (.agg #[.int .i64 n.1,.int .i64 n.2]),qi (.bool false)] ⟨Aa,Aa,Aa,Aa,Aa,Aa,Aa,Aa,Aa,Aa,trivial⟩ [] ⟨?_,?_,?_,?_,?_,?_,?_,?_,?_,?_,trivial⟩ ?_
    ·exact stq (fun E=>Ah rfl (E.v oe0))
    ·exact stq (fun E=>A1 rfl (E.d 0))
    ·exact stq (fun E=>Ai rfl Try.underlying77 rfl (by kernel_rfl) (E.d 1))
    ·exact stq (fun E=>Am rfl Try.underlying75 rfl (E.d 2) (Cs.lit1 (K1.out.mod E.m.old (by intro h2;omega)) rfl))
    ·exact stq (fun E=>Ah rfl (E.v oe6))
    ·exact stq (fun E=>ex_idxS (i:=ix) (s:=40) rfl Try.underlying75 (by kernel_rfl) (E.d 3) (E.d 4) hlt)
    ·exact stq (fun E=>Ai rfl Try.underlying115 rfl (by kernel_rfl) (E.d 5))
    ·exact stq (fun E=>Ap rfl Try.underlying30 rfl (off:=o1+ix * 40) (cs:=[.int .i64 q.1.1,.int .i64 q.1.2]) (by kernel_rfl) (E.d 6) (fun j u hu=>((HAT.out.mod E.m.old (by intro k h1 h2;have hb:=HBQ.out k h1;omega))).2 j u (gv_name hu)))
    ·exact stq (fun E=>Ap rfl Try.underlying30 rfl (off:=0) (cs:=[.int .i64 n.1,.int .i64 n.2]) (by kernel_rfl) (E.v oe3) (Cs.litA (K3.out.mod E.m.old (by intro h2;omega)) rfl))
    ·exact stq (fun E=>Av rfl (E.d 7) (E.d 8) (agg_guardE _ _ _ _ _ _ (by kernel_rfl) _) (EqW.run eqW_name (ki_2 q.1.1 q.1.2) (ki_2 n.1 n.2) (c:=false) ⟨(fun h=>by cases h),(fun e=>by simp at e;exact absurd (Prod.ext e.1 e.2) h1)⟩ _) rfl)
    intro u4_0 hr
    have zu4_0:=hr.size
    have Cx6:=hid (hr.new (S:=(fun _=>False)))
    clear hr
    refine QChain.nil fun vs hl hzz hrows hne=>?_
    obtain ⟨Z,hYZ,hZb,hV⟩:=hzz
    have f0:=fvi hV hl 0
    have f4:=fvi hV hl 4
    have f9:=fvi hV hl 9
    rw [show vs=[gw vs 0,gw vs 1,gw vs 2,gw vs 3,gw vs 4,gw vs 5,gw vs 6,gw vs 7,gw vs 8,gw vs 9] from (Bh hl).trans rfl]
    have ha0:=HA0.out
    subst ha0
    clear HA0 hV hYZ hZb hsz0 hrows hne oe0 oe3 oe6
    simp only [Ar,Act.put,sIB,sCZ,sCS,f0,f4,f9]
    clear hl f0 f4 f9
    clear HAT
    go_upto_region 6 with (fail)
    refine Al 35 [33,12] [0,1] (fun a0 HA0=>?_)
    have oe12:=ev HA0 12 rfl
    refine QSeq.pure rfl (.int .i64 (((ix+1):Nat):Int)) (fun E=>Av rfl (E.y 1 oe12) rfl (Ak _ _ _ _ _ _) (Be _ _ Try.underlying3) (congrArg (Value.int .i64) (i64_eq (b:=(((ix+1):Nat):Int)) (by omega) (by omega) (by omega)))) ?_
    refine QSeq.pure rfl _ (fun E=>Ah rfl (E.d 0 0)) ?_
    refine QSeq.nil (t':=[_,_]) rfl ?_
    obtain rfl:=HA0.out
    clear HA0 oe12
    simp only [pz,Act.put,sIB,sCZ,sCS]
    go_wp2
    go_roundw
    case rel=>exact ⟨ix+1,rfl,by omega,(fun j hj z hz2=>by by_cases hjk:j < ix;exact HAB.out j hjk z hz2;(obtain rfl:j=ix:=by omega);rw [HZ.out] at hz2;have e2:=Option.some.inj hz2;subst e2;exact h1),by omega,(K1.out.mod Cx6.out (fun h=>h)),(K2.out.mod Cx6.out (fun _ _ h=>h)),(K3.out.mod Cx6.out (fun h=>h)),(K4.out.mod Cx6.out (fun h=>h)),(K5.out.trans Cx6.out (fun _ _ h=>h.elim))⟩
    case measure=>simp [intOf];omega
  ·obtain rfl:ix=s.m.length:=by omega
   go_upto_region 2 with (fail)
   refine Al 35 [13] [0] (fun a0 HA0=>?_)
   have oe11:=ev HA0 11 rfl
   have oe12:=ev HA0 12 rfl
   refine QSeq.pure rfl (.bool false) (fun E=>Av rfl (E.v oe12) (E.v oe11) (Ak _ _ _ _ _ _) (run_lss_i _ _ _ Try.underlying3) (congrArg Value.bool (decide_eq_false (by omega)))) ?_
   refine QSeq.nil (t':=[_]) rfl ?_
   obtain rfl:=HA0.out
   clear HA0 oe11 oe12
   simp only [pz,Act.put,sIB,sCZ,sCS]
   go_upto_region 7 with (fail)
   refine Al 35 [34,36,5] [0,1,2] (fun a0 HA0=>?_)
   have oe4:=ev HA0 4 rfl
   refine QSeq.pure rfl (.agg (zSt.cells:List Value).toArray) (fun E=>ex_build0 rfl (r:=(zSt.cells:List Value).toArray) (by kernel_rfl)) ?_
   refine QSeq.go fun act E=>?_
   refine Bc rfl (Ab rfl) rfl K4.out (off:=0) (vs:=zSt.cells) (by rw [St.len Bt];exact Bb) (St.one zSt) (by rw [List.size_toArray];have e1:=St.len Bt;have e2:=St.len Bt;omega) (E.v oe4) (ec (E.d 0 0)) ?_
   intro u7_1 qc0 hm
   have qB4:=qc0.eqv (b:=(zSt.cells:List Value).toArray) (A0 _ _ (show zSt.cells.toArray.size=_ from List.size_toArray.trans ((St.len Bt).trans (St.len Bt).symm)))
   clear qc0
   have Hx7:=hid qB4
   have zu7_1:=hm.size
   have Cx8:=hid (show Mod (fun k=>(k=w.heap.size+1)) wl u7_1 from hm)
   clear hm
   clear act E qB4 K4
   refine QSeq.pure rfl (.bool false) (fun E=>An rfl rfl) ?_
   refine QSeq.nil (t':=[_,_,_]) rfl ?_
   obtain rfl:=HA0.out
   clear HA0 oe4
   simp only [pz,Act.put,sIB,sCZ,sCS,List.set_nil]
   have hlk:lookV s.m n=.tuple #[zSt.val,.bool false]:=lookV_none (mlook_absent s.m n HAB.out)
   go_wp2
   refine bodyPost_ret (Bm rfl _ _ (w.heap.size+1) (zSt.cells) rfl (fun ix u hu=>by rw [Hx7.out.cell];simpa using hu) Try.underlying47 rfl (by rw [St.len Bt];exact Bb)) rfl ?_
   rw [hlk]
   exact ⟨rfl,(K5.out.trans Cx8.out (by intro k h1 h2;omega))⟩
end Go.Proofs.Ytbifincepglilaa

/- Where a replica may not be: wire.In, stamp.New, gavelref09.MayReplica. -/
namespace Go.Proofs.Ytbifincepglilaa
open Go Go.RowKit Go.Gv
theorem RefN_any9 (F C:Int) (h:-1000≤F∧F≤1000) (w:World):Calls Try.prog 12 #[.agg #[.int .i64 F,.int .i64 C]] w fun e w'=>e=.returned (.int .i64 (3 * F+1))∧Mod (fun _=>False) w w':=by
 change Calls _ _ #[.agg #[.int .i64 F,.int .i64 C]] _ _
 go_enter Try.func12,Try.ntmps12
 go_upto_region 1 with (fail)
 obtain ⟨w1,hw1⟩:∃ zz,zz=(w.alloc (.cells #[.int .i64 F,.int .i64 C] 26)):=⟨_,rfl⟩
 change Code.wp _ _ _ _ (w.alloc (.cells #[.int .i64 F,.int .i64 C] 26))
 rw [← hw1]
 have HB1:=hid (show Cs w1 (w.heap.size) #[.int .i64 F,.int .i64 C] 26 by rw [hw1];exact Cs.new _ _ _)
 have hm:Mod (fun _=>False) w w1:=by rw [hw1];exact (Mod.refl _ _).alloc _
 have HM0:=hid (show Mod (fun _=>False) w w1 from hm.mono (fun _ _ h=>h.elim))
 have hs1:w1.heap.size=w.heap.size+1:=by rw [hw1];simp
 clear hw1 hm
 go_upto_region 1 with (fail)
 refine Al 7 [3,4,5,6,2] [0,1,2,3,4] (fun a0 HA0=>?_)
 have oe1:=ev HA0 1 rfl
 refine QSeq.pure rfl (.pointer (some ⟨w.heap.size,0,none⟩)) (fun E=>Ai rfl Try.underlying26 rfl (by kernel_rfl) (E.v oe1)) ?_
 refine QSeq.pure rfl _ (fun E=>Am rfl Try.underlying3 rfl (E.d 0 0) (Cs.lit1 HB1.out rfl)) ?_
 refine QSeq.pure rfl (.int .i64 (3 * F)) (fun E=>Av rfl rfl (E.d 1 0) (Ak _ _ _ _ _ _) (run_mul_i _ _) (congrArg (Value.int .i64) (i64_eq (b:=3 * F) rfl (by omega) (by omega)))) ?_
 refine QSeq.pure rfl (.int .i64 (3 * F+1)) (fun E=>Av rfl (E.d 2 0) rfl (Ak _ _ _ _ _ _) (Be _ _ Try.underlying3) (congrArg (Value.int .i64) (i64_eq (b:=3 * F+1) rfl (by omega) (by omega)))) ?_
 refine QSeq.pure rfl _ (fun E=>An rfl (E.d 3 0)) ?_
 refine QSeq.nil (t':=[_,_,_,_,_]) rfl ?_
 obtain rfl:=HA0.out
 clear HA0 oe1
 simp only [pz,Act.put,sIB,sCZ,sCS]
 go_wp2
 go_ret
 exact ⟨rfl,HM0.out⟩
theorem RefValidConf_any (F C:Int) (w:World):Calls Try.prog 35 #[.agg #[.int .i64 F,.int .i64 C]] w fun e w'=>e=.returned (.bool (okConf F C))∧Mod (fun _=>False) w w':=by
 unfold okConf
 rcases Int.lt_or_le F 1 with h1|h1
 ·have hd:(decide ((1:Int)≤F))=false:=by simp;omega
  go_enter Try.func35,Try.ntmps35
  go_wp2
  go_ret
  exact ⟨ret_bool (by simp;omega),(Mod.refl _ _).alloc _⟩
 rcases Int.lt_or_le 21 F with h2|h2
 ·have hd:(decide (F≤(21:Int)))=false:=by simp;omega
  go_enter Try.func35,Try.ntmps35
  go_wp2
  go_ret
  exact ⟨ret_bool (by simp;omega),(Mod.refl _ _).alloc _⟩
 rcases Int.lt_or_le C 1 with h3|h3
 ·have hd:(decide ((1:Int)≤C))=false:=by simp;omega
  go_enter Try.func35,Try.ntmps35
  go_wp2
  go_ret
  exact ⟨ret_bool (by simp;omega),(Mod.refl _ _).alloc _⟩
 rcases Int.lt_or_le 100 C with h4|h4
 ·have hd:(decide (C≤(100:Int)))=false:=by simp;omega
  go_enter Try.func35,Try.ntmps35
  go_wp2
  go_ret
  exact ⟨ret_bool (by simp;omega),(Mod.refl _ _).alloc _⟩
 ·go_enter Try.func35,Try.ntmps35
  go_wp2
  go_ret
  exact ⟨ret_bool (by simp;omega),(Mod.refl _ _).alloc _⟩
set_option maxHeartbeats 4000000 in
theorem In_lo {F C r:Int} (hF:1≤F∧F≤21) (hr:r < 0) (w:World):Calls Try.prog 31 #[.agg #[.int .i64 F,.int .i64 C],.int .i64 r] w fun e w'=>e=.returned (.bool false)∧Mod (fun _=>False) w w':=by
 change Calls _ _ #[.agg #[.int .i64 F,.int .i64 C],.int .i64 r] _ _
 go_enter Try.func31,Try.ntmps31
 go_upto_region 1 with (fail)
 obtain ⟨w1,hw1⟩:∃ zz,zz=(w.alloc (.cells #[.int .i64 F,.int .i64 C] 26)):=⟨_,rfl⟩
 change Code.wp _ _ _ _ (w.alloc (.cells #[.int .i64 F,.int .i64 C] 26))
 rw [← hw1]
 have HB2:=hid (show Cs w1 (w.heap.size) #[.int .i64 F,.int .i64 C] 26 by rw [hw1];exact Cs.new _ _ _)
 have hm:Mod (fun _=>False) w w1:=by rw [hw1];exact (Mod.refl _ _).alloc _
 have HM0:=hid (show Mod (fun _=>False) w w1 from hm.mono (fun _ _ h=>h.elim))
 have hs1:w1.heap.size=w.heap.size+1:=by rw [hw1];simp
 clear hw1 hm
 go_upto_region 1 with (fail)
 refine Al 13 [5,6,7,8,9,10,11,12,4] [0,1,2,3,4,5,6,7,8] (fun a0 HA0=>?_)
 have oe1:=ev HA0 1 rfl
 refine QSeq.pure rfl _ (fun E=>Ah rfl (E.v oe1)) ?_
 refine QSeq.pure rfl (.bool false) (fun E=>Av rfl (E.d 0 0) rfl (Ak _ _ _ _ _ _) (B3 _ _ _ Try.underlying3) (congrArg Value.bool (decide_eq_false (by omega)))) ?_
 refine QSeq.pure rfl _ (fun E=>Ah rfl (E.d 1 0)) ?_
 refine QSeq.skip rfl (fun E=>((Ad rfl rfl (E.sz 7 (by decide)) (E.d 2 0)).trans rfl)) ?_
 refine QSeq.skip rfl (fun E=>((Ad rfl rfl (E.sz 7 (by decide)) (E.d 2 1)).trans rfl)) ?_
 refine QSeq.skip rfl (fun E=>((Ad rfl rfl (E.sz 7 (by decide)) (E.d 2 2)).trans rfl)) ?_
 refine QSeq.skip rfl (fun E=>((Ad rfl rfl (E.sz 7 (by decide)) (E.d 2 3)).trans rfl)) ?_
 refine QSeq.pure rfl (.bool false) (fun E=>A5 rfl (E.d 2 4) (E.d 6 0) rfl) ?_
 refine QSeq.pure rfl _ (fun E=>An rfl (E.d 7 0)) ?_
 refine QSeq.nil (t':=[_,_,_,_,_,_,_,_,_]) rfl ?_
 obtain rfl:=HA0.out
 clear HA0 oe1
 simp only [pz,Act.put,sIB,sCZ,sCS]
 go_wp2
 go_ret
 exact ⟨rfl,HM0.out⟩
set_option maxHeartbeats 4000000 in
theorem In_hi {F C r:Int} (hF:1≤F∧F≤21) (hr:3 * F+1≤r) (w:World):Calls Try.prog 31 #[.agg #[.int .i64 F,.int .i64 C],.int .i64 r] w fun e w'=>e=.returned (.bool false)∧Mod (fun _=>False) w w':=by
 change Calls _ _ #[.agg #[.int .i64 F,.int .i64 C],.int .i64 r] _ _
 go_enter Try.func31,Try.ntmps31
 go_upto_region 1 with (fail)
 obtain ⟨w1,hw1⟩:∃ zz,zz=(w.alloc (.cells #[.int .i64 F,.int .i64 C] 26)):=⟨_,rfl⟩
 change Code.wp _ _ _ _ (w.alloc (.cells #[.int .i64 F,.int .i64 C] 26))
 rw [← hw1]
 have HB2:=hid (show Cs w1 (w.heap.size) #[.int .i64 F,.int .i64 C] 26 by rw [hw1];exact Cs.new _ _ _)
 have hm:Mod (fun _=>False) w w1:=by rw [hw1];exact (Mod.refl _ _).alloc _
 have HM0:=hid (show Mod (fun _=>False) w w1 from hm.mono (fun _ _ h=>h.elim))
 have hs1:w1.heap.size=w.heap.size+1:=by rw [hw1];simp
 clear hw1 hm
 go_upto_region 1 with (fail)
 refine Al 13 [5,6,7,8,9,10,11,12,4] [0,1,2,3,4,5,6,7,8] (fun a0 HA0=>?_)
 have oe1:=ev HA0 1 rfl
 have oe2:=ev HA0 2 rfl
 refine QSeq.pure rfl _ (fun E=>Ah rfl (E.v oe1)) ?_
 refine QSeq.pure rfl (.bool true) (fun E=>Av rfl (E.d 0 0) rfl (Ak _ _ _ _ _ _) (B3 _ _ _ Try.underlying3) (congrArg Value.bool (decide_eq_true (by omega)))) ?_
 refine QSeq.pure rfl _ (fun E=>Ah rfl (E.d 1 0)) ?_
 refine QSeq.pureG rfl (.int .i64 r) (fun E=>((Ad rfl rfl (E.sz 7 (by decide)) (E.d 2 0)).trans rfl)) (fun E=>Ah rfl (E.v oe1)) ?_
 refine QSeq.pureG rfl (.agg #[.int .i64 F,.int .i64 C]) (fun E=>((Ad rfl rfl (E.sz 7 (by decide)) (E.d 2 1)).trans rfl)) (fun E=>Ap rfl Try.underlying26 rfl (off:=0) (cs:=[.int .i64 F,.int .i64 C]) (by kernel_rfl) (E.v oe2) (Cs.litA HB2.out rfl)) ?_
 refine QSeq.go fun act E=>?_
 refine Ax (args:=#[.agg #[.int .i64 F,.int .i64 C]]) rfl ((Ad rfl rfl (E.sz 7 (by decide)) (E.d 2 2)).trans rfl) rfl Try.func49 (Ca (E.d 4 0)) (N_any F C (by omega) _) ?_
 rintro e u1_5 ⟨rfl,hm⟩
 refine ⟨_,rfl,?_⟩
 have zu1_5:=hm.size
 have Cx1:=hid (show Mod (fun _=>False) w1 u1_5 from hm)
 clear hm
 clear act E
 refine QSeq.pureG rfl (.bool false) (fun E=>((Ad rfl rfl (E.sz 7 (by decide)) (E.d 2 3)).trans rfl)) (fun E=>Av rfl (E.d 3 2) (E.d 5 0) (Ak _ _ _ _ _ _) (run_lss_i _ _ _ Try.underlying3) (congrArg Value.bool (decide_eq_false (by omega)))) ?_
 refine QSeq.pure rfl (.bool false) (fun E=>A5 rfl (E.d 2 4) (E.d 6 0) rfl) ?_
 refine QSeq.pure rfl _ (fun E=>An rfl (E.d 7 0)) ?_
 refine QSeq.nil (t':=[_,_,_,_,_,_,_,_,_]) rfl ?_
 obtain rfl:=HA0.out
 clear HA0 oe1 oe2
 simp only [pz,Act.put,sIB,sCZ,sCS]
 go_wp2
 go_ret
 exact ⟨rfl,(HM0.out.trans Cx1.out (fun _ _ h=>h.elim))⟩
set_option maxHeartbeats 4000000 in
theorem New_no_conf {F C r:Int} (hV:okConf F C=false) (w:World):Calls Try.prog 11 #[.agg #[.int .i64 F,.int .i64 C],.int .i64 r] w fun e w'=>e=.returned (.tuple #[.pointer none,.int .i64 1])∧Mod (fun _=>False) w w':=by
 have HV:=Lib.hid hV
 clear hV
 change Calls _ _ #[.agg #[.int .i64 F,.int .i64 C],.int .i64 r] _ _
 go_enter Try.func11,Try.ntmps11
 go_upto_region 1 with (fail)
 obtain ⟨w1,hw1⟩:∃ zz,zz=(w.alloc (.cells #[.int .i64 F,.int .i64 C] 26)):=⟨_,rfl⟩
 change Code.wp _ _ _ _ (w.alloc (.cells #[.int .i64 F,.int .i64 C] 26))
 rw [← hw1]
 have HB2:=hid (show Cs w1 (w.heap.size) #[.int .i64 F,.int .i64 C] 26 by rw [hw1];exact Cs.new _ _ _)
 have hm:Mod (fun _=>False) w w1:=by rw [hw1];exact (Mod.refl _ _).alloc _
 have HM0:=hid (show Mod (fun _=>False) w w1 from hm.mono (fun _ _ h=>h.elim))
 have hs1:w1.heap.size=w.heap.size+1:=by rw [hw1];simp
 clear hw1 hm
 go_upto_region 1 with (fail)
 refine Al 20 [6,7,8,9,10,11,12,13,14] [0,1,2,3,4,5,6,7,8] (fun a0 HA0=>?_)
 have oe2:=ev HA0 2 rfl
 refine QSeq.pure rfl _ (fun E=>Ap rfl Try.underlying26 rfl (off:=0) (cs:=[.int .i64 F,.int .i64 C]) (by kernel_rfl) (E.v oe2) (Cs.litA HB2.out rfl)) ?_
 refine QSeq.call rfl rfl Try.func30 ((HV.out▸ValidConf_any F C _)) (fun E=>Ca (E.d 0 0)) ?_
 rintro e u1_1 ⟨rfl,hm⟩
 refine ⟨_,rfl,?_⟩
 have zu1_1:=hm.size
 have Cx1:=hid (show Mod (fun _=>False) w1 u1_1 from hm)
 clear hm
 refine QSeq.pure rfl (.bool true) (fun E=>ex_not rfl (E.d 1 0)) ?_
 refine QSeq.pure rfl _ (fun E=>Ah rfl (E.d 2 0)) ?_
 refine QSeq.skip rfl (fun E=>((Ad rfl rfl (E.sz 9 (by decide)) (E.d 3 0)).trans rfl)) ?_
 refine QSeq.skip rfl (fun E=>((Ad rfl rfl (E.sz 9 (by decide)) (E.d 3 1)).trans rfl)) ?_
 refine QSeq.skip rfl (fun E=>((Ad rfl rfl (E.sz 9 (by decide)) (E.d 3 2)).trans rfl)) ?_
 refine QSeq.skip rfl (fun E=>((Ad rfl rfl (E.sz 9 (by decide)) (E.d 3 3)).trans rfl)) ?_
 refine QSeq.pure rfl (.bool true) (fun E=>A5 rfl (E.d 3 4) rfl (E.d 7 0)) ?_
 refine QSeq.nil (t':=[_,_,_,_,_,_,_,_,_]) rfl ?_
 obtain rfl:=HA0.out
 clear HA0 oe2
 simp only [pz,Act.put,sIB,sCZ,sCS]
 go_upto_region 2 with (fail)
 refine Al 20 [4,5] [0,1] (fun a0 HA0=>?_)
 refine QSeq.pure rfl (.pointer none) (fun E=>An rfl rfl) ?_
 refine QSeq.pure rfl (.int .i64 1) (fun E=>An rfl rfl) ?_
 refine QSeq.nil (t':=[_,_]) rfl ?_
 obtain rfl:=HA0.out
 clear HA0
 simp only [pz,Act.put,sIB,sCZ,sCS]
 go_wp2
 refine bodyPost_ret (results_tmp2 rfl _ _ _) rfl ⟨rfl,(HM0.out.trans Cx1.out (fun _ _ h=>h.elim))⟩
set_option maxHeartbeats 4000000 in
theorem New_no_lo {F C r:Int} (hV:okConf F C=true) (hF:1≤F∧F≤21) (hr:r < 0) (w:World):Calls Try.prog 11 #[.agg #[.int .i64 F,.int .i64 C],.int .i64 r] w fun e w'=>e=.returned (.tuple #[.pointer none,.int .i64 1])∧Mod (fun _=>False) w w':=by
 have HV:=Lib.hid hV
 clear hV
 change Calls _ _ #[.agg #[.int .i64 F,.int .i64 C],.int .i64 r] _ _
 go_enter Try.func11,Try.ntmps11
 go_upto_region 1 with (fail)
 obtain ⟨w1,hw1⟩:∃ zz,zz=(w.alloc (.cells #[.int .i64 F,.int .i64 C] 26)):=⟨_,rfl⟩
 change Code.wp _ _ _ _ (w.alloc (.cells #[.int .i64 F,.int .i64 C] 26))
 rw [← hw1]
 have HB2:=hid (show Cs w1 (w.heap.size) #[.int .i64 F,.int .i64 C] 26 by rw [hw1];exact Cs.new _ _ _)
 have hm:Mod (fun _=>False) w w1:=by rw [hw1];exact (Mod.refl _ _).alloc _
 have HM0:=hid (show Mod (fun _=>False) w w1 from hm.mono (fun _ _ h=>h.elim))
 have hs1:w1.heap.size=w.heap.size+1:=by rw [hw1];simp
 clear hw1 hm
 go_upto_region 1 with (fail)
 refine Al 20 [6,7,8,9,10,11,12,13,14] [0,1,2,3,4,5,6,7,8] (fun a0 HA0=>?_)
 have oe1:=ev HA0 1 rfl
 have oe2:=ev HA0 2 rfl
 refine QSeq.pure rfl _ (fun E=>Ap rfl Try.underlying26 rfl (off:=0) (cs:=[.int .i64 F,.int .i64 C]) (by kernel_rfl) (E.v oe2) (Cs.litA HB2.out rfl)) ?_
 refine QSeq.call rfl rfl Try.func30 ((HV.out▸ValidConf_any F C _)) (fun E=>Ca (E.d 0 0)) ?_
 rintro e u1_1 ⟨rfl,hm⟩
 refine ⟨_,rfl,?_⟩
 have zu1_1:=hm.size
 have Cx1:=hid (show Mod (fun _=>False) w1 u1_1 from hm)
 clear hm
 refine QSeq.pure rfl (.bool false) (fun E=>ex_not rfl (E.d 1 0)) ?_
 refine QSeq.pure rfl _ (fun E=>Ah rfl (E.d 2 0)) ?_
 refine QSeq.pureG rfl (.agg #[.int .i64 F,.int .i64 C]) (fun E=>((Ad rfl rfl (E.sz 9 (by decide)) (E.d 3 0)).trans rfl)) (fun E=>Ap rfl Try.underlying26 rfl (off:=0) (cs:=[.int .i64 F,.int .i64 C]) (by kernel_rfl) (E.v oe2) (Cs.litA (HB2.out.mod Cx1.out (fun h=>h)) rfl)) ?_
 refine QSeq.pureG rfl (.int .i64 r) (fun E=>((Ad rfl rfl (E.sz 9 (by decide)) (E.d 3 1)).trans rfl)) (fun E=>Ah rfl (E.v oe1)) ?_
 refine QSeq.go fun act E=>?_
 refine Ax (args:=#[.agg #[.int .i64 F,.int .i64 C],.int .i64 r]) rfl ((Ad rfl rfl (E.sz 9 (by decide)) (E.d 3 2)).trans rfl) rfl Try.func31 (args2 (E.d 4 1) (E.d 5 0)) (In_lo hF hr _) ?_
 rintro e u1_6 ⟨rfl,hm⟩
 refine ⟨_,rfl,?_⟩
 have zu1_6:=hm.size
 have HMu1_6:=hid hm
 have Cx2:=hid (Cx1.out.goE hm)
 clear hm Cx1
 clear act E
 refine QSeq.pureG rfl (.bool true) (fun E=>((Ad rfl rfl (E.sz 9 (by decide)) (E.d 3 3)).trans rfl)) (fun E=>ex_not rfl (E.d 6 0)) ?_
 refine QSeq.pure rfl (.bool true) (fun E=>A5 rfl (E.d 3 4) rfl (E.d 7 0)) ?_
 clear HMu1_6
 refine QSeq.nil (t':=[_,_,_,_,_,_,_,_,_]) rfl ?_
 obtain rfl:=HA0.out
 clear HA0 oe1 oe2
 simp only [pz,Act.put,sIB,sCZ,sCS]
 go_upto_region 2 with (fail)
 refine Al 20 [4,5] [0,1] (fun a0 HA0=>?_)
 refine QSeq.pure rfl (.pointer none) (fun E=>An rfl rfl) ?_
 refine QSeq.pure rfl (.int .i64 1) (fun E=>An rfl rfl) ?_
 refine QSeq.nil (t':=[_,_]) rfl ?_
 obtain rfl:=HA0.out
 clear HA0
 simp only [pz,Act.put,sIB,sCZ,sCS]
 go_wp2
 refine bodyPost_ret (results_tmp2 rfl _ _ _) rfl ⟨rfl,(HM0.out.trans Cx2.out (fun _ _ h=>h.elim))⟩
set_option maxHeartbeats 4000000 in
theorem New_no_hi {F C r:Int} (hV:okConf F C=true) (hF:1≤F∧F≤21) (hr:3 * F+1≤r) (w:World):Calls Try.prog 11 #[.agg #[.int .i64 F,.int .i64 C],.int .i64 r] w fun e w'=>e=.returned (.tuple #[.pointer none,.int .i64 1])∧Mod (fun _=>False) w w':=by
 have HV:=Lib.hid hV
 clear hV
 change Calls _ _ #[.agg #[.int .i64 F,.int .i64 C],.int .i64 r] _ _
 go_enter Try.func11,Try.ntmps11
 go_upto_region 1 with (fail)
 obtain ⟨w1,hw1⟩:∃ zz,zz=(w.alloc (.cells #[.int .i64 F,.int .i64 C] 26)):=⟨_,rfl⟩
 change Code.wp _ _ _ _ (w.alloc (.cells #[.int .i64 F,.int .i64 C] 26))
 rw [← hw1]
 have HB2:=hid (show Cs w1 (w.heap.size) #[.int .i64 F,.int .i64 C] 26 by rw [hw1];exact Cs.new _ _ _)
 have hm:Mod (fun _=>False) w w1:=by rw [hw1];exact (Mod.refl _ _).alloc _
 have HM0:=hid (show Mod (fun _=>False) w w1 from hm.mono (fun _ _ h=>h.elim))
 have hs1:w1.heap.size=w.heap.size+1:=by rw [hw1];simp
 clear hw1 hm
 go_upto_region 1 with (fail)
 refine Al 20 [6,7,8,9,10,11,12,13,14] [0,1,2,3,4,5,6,7,8] (fun a0 HA0=>?_)
 have oe1:=ev HA0 1 rfl
 have oe2:=ev HA0 2 rfl
 refine QSeq.pure rfl _ (fun E=>Ap rfl Try.underlying26 rfl (off:=0) (cs:=[.int .i64 F,.int .i64 C]) (by kernel_rfl) (E.v oe2) (Cs.litA HB2.out rfl)) ?_
 refine QSeq.call rfl rfl Try.func30 ((HV.out▸ValidConf_any F C _)) (fun E=>Ca (E.d 0 0)) ?_
 rintro e u1_1 ⟨rfl,hm⟩
 refine ⟨_,rfl,?_⟩
 have zu1_1:=hm.size
 have Cx1:=hid (show Mod (fun _=>False) w1 u1_1 from hm)
 clear hm
 refine QSeq.pure rfl (.bool false) (fun E=>ex_not rfl (E.d 1 0)) ?_
 refine QSeq.pure rfl _ (fun E=>Ah rfl (E.d 2 0)) ?_
 refine QSeq.pureG rfl (.agg #[.int .i64 F,.int .i64 C]) (fun E=>((Ad rfl rfl (E.sz 9 (by decide)) (E.d 3 0)).trans rfl)) (fun E=>Ap rfl Try.underlying26 rfl (off:=0) (cs:=[.int .i64 F,.int .i64 C]) (by kernel_rfl) (E.v oe2) (Cs.litA (HB2.out.mod Cx1.out (fun h=>h)) rfl)) ?_
 refine QSeq.pureG rfl (.int .i64 r) (fun E=>((Ad rfl rfl (E.sz 9 (by decide)) (E.d 3 1)).trans rfl)) (fun E=>Ah rfl (E.v oe1)) ?_
 refine QSeq.go fun act E=>?_
 refine Ax (args:=#[.agg #[.int .i64 F,.int .i64 C],.int .i64 r]) rfl ((Ad rfl rfl (E.sz 9 (by decide)) (E.d 3 2)).trans rfl) rfl Try.func31 (args2 (E.d 4 1) (E.d 5 0)) (In_hi hF hr _) ?_
 rintro e u1_6 ⟨rfl,hm⟩
 refine ⟨_,rfl,?_⟩
 have zu1_6:=hm.size
 have HMu1_6:=hid hm
 have Cx2:=hid (Cx1.out.goE hm)
 clear hm Cx1
 clear act E
 refine QSeq.pureG rfl (.bool true) (fun E=>((Ad rfl rfl (E.sz 9 (by decide)) (E.d 3 3)).trans rfl)) (fun E=>ex_not rfl (E.d 6 0)) ?_
 refine QSeq.pure rfl (.bool true) (fun E=>A5 rfl (E.d 3 4) rfl (E.d 7 0)) ?_
 clear HMu1_6
 refine QSeq.nil (t':=[_,_,_,_,_,_,_,_,_]) rfl ?_
 obtain rfl:=HA0.out
 clear HA0 oe1 oe2
 simp only [pz,Act.put,sIB,sCZ,sCS]
 go_upto_region 2 with (fail)
 refine Al 20 [4,5] [0,1] (fun a0 HA0=>?_)
 refine QSeq.pure rfl (.pointer none) (fun E=>An rfl rfl) ?_
 refine QSeq.pure rfl (.int .i64 1) (fun E=>An rfl rfl) ?_
 refine QSeq.nil (t':=[_,_]) rfl ?_
 obtain rfl:=HA0.out
 clear HA0
 simp only [pz,Act.put,sIB,sCZ,sCS]
 go_wp2
 refine bodyPost_ret (results_tmp2 rfl _ _ _) rfl ⟨rfl,(HM0.out.trans Cx2.out (fun _ _ h=>h.elim))⟩
set_option maxHeartbeats 4000000 in
theorem May_conf {F C r:Int} (hV:okConf F C=false) (w:World):Calls Try.prog 22 #[.agg #[.int .i64 F,.int .i64 C],.int .i64 r] w fun e w'=>e=.returned (.bool false)∧Mod (fun _=>False) w w':=by
 have HV:=Lib.hid hV
 clear hV
 change Calls _ _ #[.agg #[.int .i64 F,.int .i64 C],.int .i64 r] _ _
 go_enter Try.func22,Try.ntmps22
 go_upto_region 1 with (fail)
 obtain ⟨w1,hw1⟩:∃ zz,zz=(w.alloc (.cells #[.int .i64 F,.int .i64 C] 26)):=⟨_,rfl⟩
 change Code.wp _ _ _ _ (w.alloc (.cells #[.int .i64 F,.int .i64 C] 26))
 rw [← hw1]
 have HB2:=hid (show Cs w1 (w.heap.size) #[.int .i64 F,.int .i64 C] 26 by rw [hw1];exact Cs.new _ _ _)
 have hm:Mod (fun _=>False) w w1:=by rw [hw1];exact (Mod.refl _ _).alloc _
 have HM0:=hid (show Mod (fun _=>False) w w1 from hm.mono (fun _ _ h=>h.elim))
 have hs1:w1.heap.size=w.heap.size+1:=by rw [hw1];simp
 clear hw1 hm
 go_upto_region 1 with (fail)
 refine Al 17 [5,6,7,8,9,10,11,12,13,14,15,16,4] [0,1,2,3,4,5,6,7,8,9,10,11,12] (fun a0 HA0=>?_)
 have oe2:=ev HA0 2 rfl
 refine QSeq.pure rfl _ (fun E=>Ap rfl Try.underlying26 rfl (off:=0) (cs:=[.int .i64 F,.int .i64 C]) (by kernel_rfl) (E.v oe2) (Cs.litA HB2.out rfl)) ?_
 refine QSeq.call rfl rfl Try.func35 ((HV.out▸RefValidConf_any F C _)) (fun E=>Ca (E.d 0 0)) ?_
 rintro e u1_1 ⟨rfl,hm⟩
 refine ⟨_,rfl,?_⟩
 have zu1_1:=hm.size
 have Cx1:=hid (show Mod (fun _=>False) w1 u1_1 from hm)
 clear hm
 refine QSeq.pure rfl _ (fun E=>Ah rfl (E.d 1 0)) ?_
 refine QSeq.skip rfl (fun E=>((Ad rfl rfl (E.sz 7 (by decide)) (E.d 2 0)).trans rfl)) ?_
 refine QSeq.skip rfl (fun E=>((Ad rfl rfl (E.sz 7 (by decide)) (E.d 2 1)).trans rfl)) ?_
 refine QSeq.pure rfl (.bool false) (fun E=>A5 rfl (E.d 2 2) (E.d 4 0) rfl) ?_
 refine QSeq.pure rfl _ (fun E=>Ah rfl (E.d 5 0)) ?_
 refine QSeq.skip rfl (fun E=>((Ad rfl rfl (E.sz 11 (by decide)) (E.d 6 0)).trans rfl)) ?_
 refine QSeq.skip rfl (fun E=>((Ad rfl rfl (E.sz 11 (by decide)) (E.d 6 1)).trans rfl)) ?_
 refine QSeq.skip rfl (fun E=>((Ad rfl rfl (E.sz 11 (by decide)) (E.d 6 2)).trans rfl)) ?_
 refine QSeq.skip rfl (fun E=>((Ad rfl rfl (E.sz 11 (by decide)) (E.d 6 3)).trans rfl)) ?_
 refine QSeq.pure rfl (.bool false) (fun E=>A5 rfl (E.d 6 4) (E.d 10 0) rfl) ?_
 refine QSeq.pure rfl _ (fun E=>An rfl (E.d 11 0)) ?_
 refine QSeq.nil (t':=[_,_,_,_,_,_,_,_,_,_,_,_,_]) rfl ?_
 obtain rfl:=HA0.out
 clear HA0 oe2
 simp only [pz,Act.put,sIB,sCZ,sCS]
 go_wp2
 go_ret
 exact ⟨rfl,(HM0.out.trans Cx1.out (fun _ _ h=>h.elim))⟩
set_option maxHeartbeats 4000000 in
theorem May_lo {F C r:Int} (hV:okConf F C=true) (hF:1≤F∧F≤21) (hr:r < 0) (w:World):Calls Try.prog 22 #[.agg #[.int .i64 F,.int .i64 C],.int .i64 r] w fun e w'=>e=.returned (.bool false)∧Mod (fun _=>False) w w':=by
 have HV:=Lib.hid hV
 clear hV
 change Calls _ _ #[.agg #[.int .i64 F,.int .i64 C],.int .i64 r] _ _
 go_enter Try.func22,Try.ntmps22
 go_upto_region 1 with (fail)
 obtain ⟨w1,hw1⟩:∃ zz,zz=(w.alloc (.cells #[.int .i64 F,.int .i64 C] 26)):=⟨_,rfl⟩
 change Code.wp _ _ _ _ (w.alloc (.cells #[.int .i64 F,.int .i64 C] 26))
 rw [← hw1]
 have HB2:=hid (show Cs w1 (w.heap.size) #[.int .i64 F,.int .i64 C] 26 by rw [hw1];exact Cs.new _ _ _)
 have hm:Mod (fun _=>False) w w1:=by rw [hw1];exact (Mod.refl _ _).alloc _
 have HM0:=hid (show Mod (fun _=>False) w w1 from hm.mono (fun _ _ h=>h.elim))
 have hs1:w1.heap.size=w.heap.size+1:=by rw [hw1];simp
 clear hw1 hm
 go_upto_region 1 with (fail)
 refine Al 17 [5,6,7,8,9,10,11,12,13,14,15,16,4] [0,1,2,3,4,5,6,7,8,9,10,11,12] (fun a0 HA0=>?_)
 have oe1:=ev HA0 1 rfl
 have oe2:=ev HA0 2 rfl
 refine QSeq.pure rfl _ (fun E=>Ap rfl Try.underlying26 rfl (off:=0) (cs:=[.int .i64 F,.int .i64 C]) (by kernel_rfl) (E.v oe2) (Cs.litA HB2.out rfl)) ?_
 refine QSeq.call rfl rfl Try.func35 ((HV.out▸RefValidConf_any F C _)) (fun E=>Ca (E.d 0 0)) ?_
 rintro e u1_1 ⟨rfl,hm⟩
 refine ⟨_,rfl,?_⟩
 have zu1_1:=hm.size
 have Cx1:=hid (show Mod (fun _=>False) w1 u1_1 from hm)
 clear hm
 refine QSeq.pure rfl _ (fun E=>Ah rfl (E.d 1 0)) ?_
 refine QSeq.pureG rfl (.int .i64 r) (fun E=>((Ad rfl rfl (E.sz 7 (by decide)) (E.d 2 0)).trans rfl)) (fun E=>Ah rfl (E.v oe1)) ?_
 refine QSeq.pureG rfl (.bool false) (fun E=>((Ad rfl rfl (E.sz 7 (by decide)) (E.d 2 1)).trans rfl)) (fun E=>Av rfl (E.d 3 0) rfl (Ak _ _ _ _ _ _) (B3 _ _ _ Try.underlying3) (congrArg Value.bool (decide_eq_false (by omega)))) ?_
 refine QSeq.pure rfl (.bool false) (fun E=>A5 rfl (E.d 2 2) (E.d 4 0) rfl) ?_
 refine QSeq.pure rfl _ (fun E=>Ah rfl (E.d 5 0)) ?_
 refine QSeq.skip rfl (fun E=>((Ad rfl rfl (E.sz 11 (by decide)) (E.d 6 0)).trans rfl)) ?_
 refine QSeq.skip rfl (fun E=>((Ad rfl rfl (E.sz 11 (by decide)) (E.d 6 1)).trans rfl)) ?_
 refine QSeq.skip rfl (fun E=>((Ad rfl rfl (E.sz 11 (by decide)) (E.d 6 2)).trans rfl)) ?_
 refine QSeq.skip rfl (fun E=>((Ad rfl rfl (E.sz 11 (by decide)) (E.d 6 3)).trans rfl)) ?_
 refine QSeq.pure rfl (.bool false) (fun E=>A5 rfl (E.d 6 4) (E.d 10 0) rfl) ?_
 refine QSeq.pure rfl _ (fun E=>An rfl (E.d 11 0)) ?_
 refine QSeq.nil (t':=[_,_,_,_,_,_,_,_,_,_,_,_,_]) rfl ?_
 obtain rfl:=HA0.out
 clear HA0 oe1 oe2
 simp only [pz,Act.put,sIB,sCZ,sCS]
 go_wp2
 go_ret
 exact ⟨rfl,(HM0.out.trans Cx1.out (fun _ _ h=>h.elim))⟩
set_option maxHeartbeats 4000000 in
theorem May_hi {F C r:Int} (hV:okConf F C=true) (hF:1≤F∧F≤21) (hr:3 * F+1≤r) (w:World):Calls Try.prog 22 #[.agg #[.int .i64 F,.int .i64 C],.int .i64 r] w fun e w'=>e=.returned (.bool false)∧Mod (fun _=>False) w w':=by
 have HV:=Lib.hid hV
 clear hV
 change Calls _ _ #[.agg #[.int .i64 F,.int .i64 C],.int .i64 r] _ _
 go_enter Try.func22,Try.ntmps22
 go_upto_region 1 with (fail)
 obtain ⟨w1,hw1⟩:∃ zz,zz=(w.alloc (.cells #[.int .i64 F,.int .i64 C] 26)):=⟨_,rfl⟩
 change Code.wp _ _ _ _ (w.alloc (.cells #[.int .i64 F,.int .i64 C] 26))
 rw [← hw1]
 have HB2:=hid (show Cs w1 (w.heap.size) #[.int .i64 F,.int .i64 C] 26 by rw [hw1];exact Cs.new _ _ _)
 have hm:Mod (fun _=>False) w w1:=by rw [hw1];exact (Mod.refl _ _).alloc _
 have HM0:=hid (show Mod (fun _=>False) w w1 from hm.mono (fun _ _ h=>h.elim))
 have hs1:w1.heap.size=w.heap.size+1:=by rw [hw1];simp
 clear hw1 hm
 go_upto_region 1 with (fail)
 refine Al 17 [5,6,7,8,9,10,11,12,13,14,15,16,4] [0,1,2,3,4,5,6,7,8,9,10,11,12] (fun a0 HA0=>?_)
 have oe1:=ev HA0 1 rfl
 have oe2:=ev HA0 2 rfl
 refine QSeq.pure rfl _ (fun E=>Ap rfl Try.underlying26 rfl (off:=0) (cs:=[.int .i64 F,.int .i64 C]) (by kernel_rfl) (E.v oe2) (Cs.litA HB2.out rfl)) ?_
 refine QSeq.call rfl rfl Try.func35 ((HV.out▸RefValidConf_any F C _)) (fun E=>Ca (E.d 0 0)) ?_
 rintro e u1_1 ⟨rfl,hm⟩
 refine ⟨_,rfl,?_⟩
 have zu1_1:=hm.size
 have Cx1:=hid (show Mod (fun _=>False) w1 u1_1 from hm)
 clear hm
 refine QSeq.pure rfl _ (fun E=>Ah rfl (E.d 1 0)) ?_
 refine QSeq.pureG rfl (.int .i64 r) (fun E=>((Ad rfl rfl (E.sz 7 (by decide)) (E.d 2 0)).trans rfl)) (fun E=>Ah rfl (E.v oe1)) ?_
 refine QSeq.pureG rfl (.bool true) (fun E=>((Ad rfl rfl (E.sz 7 (by decide)) (E.d 2 1)).trans rfl)) (fun E=>Av rfl (E.d 3 0) rfl (Ak _ _ _ _ _ _) (B3 _ _ _ Try.underlying3) (congrArg Value.bool (decide_eq_true (by omega)))) ?_
 refine QSeq.pure rfl (.bool true) (fun E=>A5 rfl (E.d 2 2) (E.d 4 0) rfl) ?_
 refine QSeq.pure rfl _ (fun E=>Ah rfl (E.d 5 0)) ?_
 refine QSeq.pureG rfl (.int .i64 r) (fun E=>((Ad rfl rfl (E.sz 11 (by decide)) (E.d 6 0)).trans rfl)) (fun E=>Ah rfl (E.v oe1)) ?_
 refine QSeq.pureG rfl (.agg #[.int .i64 F,.int .i64 C]) (fun E=>((Ad rfl rfl (E.sz 11 (by decide)) (E.d 6 1)).trans rfl)) (fun E=>Ap rfl Try.underlying26 rfl (off:=0) (cs:=[.int .i64 F,.int .i64 C]) (by kernel_rfl) (E.v oe2) (Cs.litA (HB2.out.mod Cx1.out (fun h=>h)) rfl)) ?_
 refine QSeq.go fun act E=>?_
 refine Ax (args:=#[.agg #[.int .i64 F,.int .i64 C]]) rfl ((Ad rfl rfl (E.sz 11 (by decide)) (E.d 6 2)).trans rfl) rfl Try.func12 (Ca (E.d 8 0)) (RefN_any9 F C (by omega) _) ?_
 rintro e u1_9 ⟨rfl,hm⟩
 refine ⟨_,rfl,?_⟩
 have zu1_9:=hm.size
 have HMu1_9:=hid hm
 have Cx2:=hid (Cx1.out.goE hm)
 clear hm Cx1
 clear act E
 refine QSeq.pureG rfl (.bool false) (fun E=>((Ad rfl rfl (E.sz 11 (by decide)) (E.d 6 3)).trans rfl)) (fun E=>Av rfl (E.d 7 2) (E.d 9 0) (Ak _ _ _ _ _ _) (run_lss_i _ _ _ Try.underlying3) (congrArg Value.bool (decide_eq_false (by omega)))) ?_
 refine QSeq.pure rfl (.bool false) (fun E=>A5 rfl (E.d 6 4) (E.d 10 0) rfl) ?_
 refine QSeq.pure rfl _ (fun E=>An rfl (E.d 11 0)) ?_
 clear HMu1_9
 refine QSeq.nil (t':=[_,_,_,_,_,_,_,_,_,_,_,_,_]) rfl ?_
 obtain rfl:=HA0.out
 clear HA0 oe1 oe2
 simp only [pz,Act.put,sIB,sCZ,sCS]
 go_wp2
 go_ret
 exact ⟨rfl,(HM0.out.trans Cx2.out (fun _ _ h=>h.elim))⟩
set_option maxHeartbeats 4000000 in
theorem May_yes {F C r:Int} (hV:okConf F C=true) (hF:1≤F∧F≤21) (hr:0≤r∧r < 3 * F+1) (w:World):Calls Try.prog 22 #[.agg #[.int .i64 F,.int .i64 C],.int .i64 r] w fun e w'=>e=.returned (.bool true)∧Mod (fun _=>False) w w':=by
 have HV:=Lib.hid hV
 clear hV
 change Calls _ _ #[.agg #[.int .i64 F,.int .i64 C],.int .i64 r] _ _
 go_enter Try.func22,Try.ntmps22
 go_upto_region 1 with (fail)
 obtain ⟨w1,hw1⟩:∃ zz,zz=(w.alloc (.cells #[.int .i64 F,.int .i64 C] 26)):=⟨_,rfl⟩
 change Code.wp _ _ _ _ (w.alloc (.cells #[.int .i64 F,.int .i64 C] 26))
 rw [← hw1]
 have HB2:=hid (show Cs w1 (w.heap.size) #[.int .i64 F,.int .i64 C] 26 by rw [hw1];exact Cs.new _ _ _)
 have hm:Mod (fun _=>False) w w1:=by rw [hw1];exact (Mod.refl _ _).alloc _
 have HM0:=hid (show Mod (fun _=>False) w w1 from hm.mono (fun _ _ h=>h.elim))
 have hs1:w1.heap.size=w.heap.size+1:=by rw [hw1];simp
 clear hw1 hm
 go_upto_region 1 with (fail)
 refine Al 17 [5,6,7,8,9,10,11,12,13,14,15,16,4] [0,1,2,3,4,5,6,7,8,9,10,11,12] (fun a0 HA0=>?_)
 have oe1:=ev HA0 1 rfl
 have oe2:=ev HA0 2 rfl
 refine QSeq.pure rfl _ (fun E=>Ap rfl Try.underlying26 rfl (off:=0) (cs:=[.int .i64 F,.int .i64 C]) (by kernel_rfl) (E.v oe2) (Cs.litA HB2.out rfl)) ?_
 refine QSeq.call rfl rfl Try.func35 ((HV.out▸RefValidConf_any F C _)) (fun E=>Ca (E.d 0 0)) ?_
 rintro e u1_1 ⟨rfl,hm⟩
 refine ⟨_,rfl,?_⟩
 have zu1_1:=hm.size
 have Cx1:=hid (show Mod (fun _=>False) w1 u1_1 from hm)
 clear hm
 refine QSeq.pure rfl _ (fun E=>Ah rfl (E.d 1 0)) ?_
 refine QSeq.pureG rfl (.int .i64 r) (fun E=>((Ad rfl rfl (E.sz 7 (by decide)) (E.d 2 0)).trans rfl)) (fun E=>Ah rfl (E.v oe1)) ?_
 refine QSeq.pureG rfl (.bool true) (fun E=>((Ad rfl rfl (E.sz 7 (by decide)) (E.d 2 1)).trans rfl)) (fun E=>Av rfl (E.d 3 0) rfl (Ak _ _ _ _ _ _) (B3 _ _ _ Try.underlying3) (congrArg Value.bool (decide_eq_true (by omega)))) ?_
 refine QSeq.pure rfl (.bool true) (fun E=>A5 rfl (E.d 2 2) (E.d 4 0) rfl) ?_
 refine QSeq.pure rfl _ (fun E=>Ah rfl (E.d 5 0)) ?_
 refine QSeq.pureG rfl (.int .i64 r) (fun E=>((Ad rfl rfl (E.sz 11 (by decide)) (E.d 6 0)).trans rfl)) (fun E=>Ah rfl (E.v oe1)) ?_
 refine QSeq.pureG rfl (.agg #[.int .i64 F,.int .i64 C]) (fun E=>((Ad rfl rfl (E.sz 11 (by decide)) (E.d 6 1)).trans rfl)) (fun E=>Ap rfl Try.underlying26 rfl (off:=0) (cs:=[.int .i64 F,.int .i64 C]) (by kernel_rfl) (E.v oe2) (Cs.litA (HB2.out.mod Cx1.out (fun h=>h)) rfl)) ?_
 refine QSeq.go fun act E=>?_
 refine Ax (args:=#[.agg #[.int .i64 F,.int .i64 C]]) rfl ((Ad rfl rfl (E.sz 11 (by decide)) (E.d 6 2)).trans rfl) rfl Try.func12 (Ca (E.d 8 0)) (RefN_any9 F C (by omega) _) ?_
 rintro e u1_9 ⟨rfl,hm⟩
 refine ⟨_,rfl,?_⟩
 have zu1_9:=hm.size
 have HMu1_9:=hid hm
 have Cx2:=hid (Cx1.out.goE hm)
 clear hm Cx1
 clear act E
 refine QSeq.pureG rfl (.bool true) (fun E=>((Ad rfl rfl (E.sz 11 (by decide)) (E.d 6 3)).trans rfl)) (fun E=>Av rfl (E.d 7 2) (E.d 9 0) (Ak _ _ _ _ _ _) (run_lss_i _ _ _ Try.underlying3) (congrArg Value.bool (decide_eq_true (by omega)))) ?_
 refine QSeq.pure rfl (.bool true) (fun E=>A5 rfl (E.d 6 4) (E.d 10 0) rfl) ?_
 refine QSeq.pure rfl _ (fun E=>An rfl (E.d 11 0)) ?_
 clear HMu1_9
 refine QSeq.nil (t':=[_,_,_,_,_,_,_,_,_,_,_,_,_]) rfl ?_
 obtain rfl:=HA0.out
 clear HA0 oe1 oe2
 simp only [pz,Act.put,sIB,sCZ,sCS]
 go_wp2
 go_ret
 exact ⟨rfl,(HM0.out.trans Cx2.out (fun _ _ h=>h.elim))⟩
end Go.Proofs.Ytbifincepglilaa

/- The reference's book for any list: Sign. -/
namespace Go.Proofs.Ytbifincepglilaa
open Go Go.RowKit Go.Gv
/-- a signature of the reference's book -/
def sgC (k:Int × List Int):List Value:=[.int .i64 k.1,.string (strOfNums k.2)]
def SgR:Rep (Int × List Int):=Rep.flat 2 (by decide) sgC SgK (fun _ _=>rfl) (fun a _ u hu=>by simp [sgC] at hu;rcases hu with rfl|rfl<;>rfl)
theorem info_Sg:(Try.prog.info? 128).map (fun i=>(i.zero,i.size,i.bytes))=some (some (.agg #[.int .i64 0,.string ByteArray.empty]),2,24):=by kernel_rfl
theorem run_eql_strN {t:TypeId} {a b:List Int} (ha:Bytes a) (hb:Bytes b) (w:World):(binOp .eql t (.string (strOfNums a)) (.string (strOfNums b))).run Try.prog w=.ok (.bool (decide (a=b))) w:=by
 rw [binOp_string_eql,Sem.run_pure]
 congr 2
 by_cases h:a=b
 ·rw [h,decide_eq_true rfl];exact beq_self_eq_true _
 ·rw [decide_eq_false h,beq_eq_false_iff_ne]
  intro e
  refine h (strOf_inj ha hb ?_)
  exact ByteArray.ext (Array.toList_inj.1 (by simpa [ByteArray.toList_eq] using e))
theorem guard_str {op:BinOp} {t:TypeId} {x y:Operand} {s:ByteArray} {v:Value} (w:World):(eqGuard op t x y (.string s) v).run Try.prog w=.ok () w:=by cases op<;>simp [eqGuard]
/-- the reference's book, of some signatures, its list its own -/
def RbO (R:Nat→Prop) (w:World) (g:Nat) (L:List (Int × List Int)):Prop:=
 ∃ v,Cs w g #[v] 72∧R g∧OwS SgR 128 (fun k=>R k∧k≠g) (fun k=>R k∧k≠g) w v L
section
variable {R R' S:Nat→Prop} {w w':World} {g:Nat} {L:List (Int × List Int)}
theorem RbO.mod (h:RbO R w g L) (hm:Mod S w w') (hs:∀ k,R k→S k→False):RbO R w' g L:=by
 obtain ⟨v,h1,h2,h3⟩:=h
 exact ⟨v,h1.mod hm (hs g h2),h2,h3.mod hm (fun k hk=>hs k hk.1) (fun k hk=>hs k hk.1)⟩
theorem RbO.widen (h:RbO R w g L) (hs:∀ k,R k→R' k):RbO R' w g L:=by
 obtain ⟨v,h1,h2,h3⟩:=h
 exact ⟨v,h1,hs g h2,h3.widen (fun k hk=>⟨hs k hk.1,hk.2⟩) (fun k hk=>⟨hs k hk.1,hk.2⟩)⟩
end
set_option maxHeartbeats 3000000 in
theorem RSign_Q {R R3:Nat→Prop} {N:Nat} {w:World} {g:Nat} {L:List (Int × List Int)} {v:Value} {bs:List Int} (h:RbO R w g L) (y:Int) (hr:RdR R3 N w v bs) (hk:SgK (y,bs)) (hB:∀ k,R k→k < w.heap.size) (hB3:∀ k,R3 k→k < w.heap.size) (hs:∀ k,R3 k→R k→False) (hLL:L.length≤100000) :
 Calls Try.prog 56 #[.pointer (some ⟨g,0,none⟩),.int .i64 y,v] w fun e w'=>e=.returned (.agg #[.int .i64 y,.int .i64 (mkN (B7 L (y,bs)) (y,bs):Nat)])∧RbO (fun k=>R k∨New w w' k) w' g (B7 L (y,bs))∧Mod R w w':=by
 obtain ⟨v0,hc,hg,ho0⟩:=h
 obtain ⟨Q,hQ,ho⟩:∃ Q:Nat→Prop,(∀ k,Q k→R k∧k≠g)∧OwS SgR 128 Q Q w v0 L:=⟨_,fun _ h=>h,ho0⟩
 obtain ⟨ao,cap,rfl⟩:=ho.shape
 have hgl:=hc.lt
 have HBK:=Lib.hid hc
 have HOL:=Lib.hid ho
 have HQ:=Lib.hid hQ
 have HTX:=Lib.hid hr
 have HBQ:=hid (fun k (h:Q k)=>hB k (hQ k h).1)
 have HB3:=Lib.hid hB3
 have HQ3:=hid (fun k (h:Q k) (h3:R3 k)=>hs k h3 (hQ k h).1)
 have HXQ:=hid (fun (h:Q g)=>(hQ g h).2 rfl)
 have HX3:=hid (fun (h:R3 g)=>hs g h hg)
 have HG:=Lib.hid hg
 have HK:=Lib.hid hk
 clear hc ho0 ho hQ hr hB hB3 hs hg hk
 go_enter Try.func56,Try.ntmps56
 go_upto_region 1 with (fail)
 obtain ⟨w1,hw1⟩:∃ zz,zz=(w.alloc (.cells #[.int .i64 0,.int .i64 0] 34)):=⟨_,rfl⟩
 change Code.wp _ _ _ _ (w.alloc (.cells #[.int .i64 0,.int .i64 0] 34))
 rw [← hw1]
 have HB6:=hid (show Cs w1 (w.heap.size) #[.int .i64 0,.int .i64 0] 34 by rw [hw1];exact Cs.new _ _ _)
 have hm:Mod (fun _=>False) w w1:=by rw [hw1];exact (Mod.refl _ _).alloc _
 have HM0:=hid (show Mod (fun k=>(k=g)∨(Q k)) w w1 from hm.mono (fun _ _ h=>h.elim))
 have hs1:w1.heap.size=w.heap.size+1:=by rw [hw1];simp
 have Hx1:=hid (HBK.out.mod hm (fun h=>h))
 clear HBK
 have Hx2:=hid (HOL.out.mod hm (fun _ _ h=>h) (fun _ _ h=>h))
 clear HOL
 have Hx3:=hid (HTX.out.mod hm (fun _ _ h=>h))
 clear HTX
 clear hw1 hm
 go_upto_region 1 with (fail)
 refine Al 64 [8,9,10,11,12,13] [0,1,2,3,4,5] (fun a0 HA0=>?_)
 have oe0:=ev HA0 0 rfl
 refine QSeq.pure rfl _ (fun E=>Ah rfl (E.v oe0)) ?_
 refine QSeq.pure rfl (.pointer (some ⟨g,0,none⟩)) (fun E=>A1 rfl (E.d 0 0)) ?_
 refine QSeq.pure rfl (.pointer (some ⟨g,0,none⟩)) (fun E=>Ai rfl Try.underlying72 rfl (by kernel_rfl) (E.d 1 0)) ?_
 refine QSeq.pure rfl _ (fun E=>Am rfl Try.underlying70 rfl (E.d 2 0) (Cs.lit1 Hx1.out rfl)) ?_
 refine QSeq.pure rfl (.int .i64 L.length) (fun E=>ex_lenS rfl (E.d 3 0) Try.underlying70) ?_
 refine QSeq.pure rfl (.int .i64 0) (fun E=>Ah rfl rfl) ?_
 refine QSeq.nil (t':=[_,_,_,_,_,_]) rfl ?_
 obtain rfl:=HA0.out
 clear HA0 oe0
 simp only [pz,Act.put,sIB,sCZ,sCS]
 go_wp2
 go_loopw [13] (fun t wr=>∃ k:Nat,t=.int .i64 (k:Nat)∧k≤L.length∧(∀ j,j < k→L[j]?≠some (y,bs))∧w1.heap.size≤wr.heap.size∧Cs wr g #[.slice ao L.length cap] 72∧OwS SgR 128 Q Q wr (.slice ao L.length cap) L∧RdR R3 N wr v bs∧Cs wr (w.heap.size) #[.int .i64 0,.int .i64 0] 34∧Mod (fun k=>(k=g)∨(Q k)) w wr) (fun t _=>L.length - (intOf t).toNat)
 case atStart=>exact ⟨0,rfl,Nat.zero_le _,(fun j hj=>absurd hj (Nat.not_lt_zero j)),Nat.le_refl _,Hx1.out,Hx2.out,Hx3.out,HB6.out,HM0.out⟩
 case round=>
  obtain ⟨k,rfl,hkl,hab,hz,k1,k2,k3,k4,k5⟩:=hrel
  obtain ⟨wl,rfl⟩:∃ x,x=wr:=⟨_,rfl⟩
  have K1:=Lib.hid k1
  have K2:=Lib.hid k2
  have K3:=Lib.hid k3
  have K4:=Lib.hid k4
  have K5:=Lib.hid k5
  have HAB:=Lib.hid hab
  clear k1 k2 k3 k4 k5 hab Hx1 Hx2 Hx3 HB6 HM0
  by_cases hlt:k < L.length
  ·skip
   go_upto_region 2 with (fail)
   refine Al 64 [14] [0] (fun a0 HA0=>?_)
   have oe12:=ev HA0 12 rfl
   have oe13:=ev HA0 13 rfl
   refine QSeq.pure rfl (.bool true) (fun E=>Av rfl (E.v oe13) (E.v oe12) (Ak _ _ _ _ _ _) (run_lss_i _ _ _ Try.underlying3) (congrArg Value.bool (decide_eq_true (by omega)))) ?_
   refine QSeq.nil (t':=[_]) rfl ?_
   obtain rfl:=HA0.out
   clear HA0 oe12 oe13
   simp only [pz,Act.put,sIB,sCZ,sCS]
   go_upto_region 3 with (fail)
   refine Al 64 [15,7] [0,1] (fun a0 HA0=>?_)
   have oe13:=ev HA0 13 rfl
   refine QSeq.pure rfl _ (fun E=>Ah rfl (E.v oe13)) ?_
   refine QSeq.pure rfl _ (fun E=>An rfl (E.d 0 0)) ?_
   refine QSeq.nil (t':=[_,_]) rfl ?_
   obtain rfl:=HA0.out
   clear HA0 oe13
   simp only [pz,Act.put,sIB,sCZ,sCS]
   have hq:=K2.out.rd.widen (R':=Q) (fun k h=>h.elim id id)
   obtain ⟨g1,o1,cs1,ea,hrg,hrd,hcs⟩:=hq.at hlt
   clear hq
   obtain ⟨rfl,hok⟩:=hrd
   have hz:=List.getElem?_eq_getElem hlt
   generalize L[k]=z at hcs hok hz
   subst ea
   have HAT:=hid (show CellsAt Q wl g1 (o1+k * 2) [.int .i64 z.1,.string (strOfNums z.2)] from ⟨hrg,hcs⟩)
   have HOK:=Lib.hid hok
   have HZ:=Lib.hid hz
   clear hrg hcs hok hz
   by_cases h1:z.1=y
   ·skip
    by_cases h2:z.2=bs
    ·skip
     go_upto_region 4 with (fail)
     generalize ha0:Act.mk _ _=a0
     have oe0:a0.eval (.tmp 0)=.pointer (some ⟨g,0,none⟩):=by rw [← ha0];rfl
     have oe1:a0.eval (.tmp 1)=.int .i64 y:=by rw [← ha0];rfl
     have oe2:a0.eval (.tmp 2)=v:=by rw [← ha0];rfl
     have oe7:a0.eval (.tmp 7)=.int .i64 ((k:Nat):Int):=by rw [← ha0];rfl
     have hsz0:a0.tmps.size=64:=by rw [← ha0];rfl
     have HA0:=hid ha0
     clear ha0
     refine Az 64 hsz0 [16,17,18,19,20,21,22,23,24,25,26,27,28,29,30,31,32,33,34,35,36,37,38] [qi (.pointer (some ⟨g,0,none⟩)),qi (.pointer (some ⟨g,0,none⟩)),qi (.pointer (some ⟨g,0,none⟩)),qi (.slice (some ⟨g1,o1,none⟩) L.length cap),qi (.int .i64 ((k:Nat):Int)),qi (.pointer (some ⟨g1,o1+k * 2,none⟩)),qi (.pointer (some ⟨g1,o1+k * 2,none⟩)),qi (.int .i64 z.1),qi (.int .i64 y),qi (.bool true),qi (.bool true),qi (.pointer (some ⟨g,0,none⟩)),qi (.pointer (some ⟨g,0,none⟩)),qi (.pointer (some ⟨g,0,none⟩)),qi (.slice (some ⟨g1,o1,none⟩) L.length cap),qi (.int .i64 ((k:Nat):Int)),qi (.pointer (some ⟨g1,o1+k * 2,none⟩)),qi (.pointer (some ⟨g1,o1+k * 2+1,none⟩)),qi (.string (strOfNums z.2)),qi (v),qi (.string (strOfNums bs)),qi (.bool true),qi (.bool true)] ⟨Aa,Aa,Aa,Aa,Aa,Aa,Aa,Aa,Aa,Aa,Aa,Aa,Aa,Aa,Aa,Aa,Aa,Aa,Aa,Aa,Aa,Aa,Aa,trivial⟩ [] ⟨?_,?_,?_,?_,?_,?_,?_,?_,?_,?_,?_,?_,?_,?_,?_,?_,?_,?_,?_,?_,?_,?_,?_,trivial⟩ ?_
     ·exact stq (fun E=>Ah rfl (E.v oe0))
     ·exact stq (fun E=>A1 rfl (E.d 0))
     ·exact stq (fun E=>Ai rfl Try.underlying72 rfl (by kernel_rfl) (E.d 1))
     ·exact stq (fun E=>Am rfl Try.underlying70 rfl (E.d 2) (Cs.lit1 (K1.out.mod E.m.old (by intro h2;omega)) rfl))
     ·exact stq (fun E=>Ah rfl (E.v oe7))
     ·exact stq (fun E=>ex_idxS (i:=k) (s:=2) rfl Try.underlying70 (by kernel_rfl) (E.d 3) (E.d 4) hlt)
     ·exact stq (fun E=>Ai rfl Try.underlying128 rfl (by kernel_rfl) (E.d 5))
     ·exact stq (fun E=>Am rfl Try.underlying3 rfl (E.d 6) (((HAT.out.mod E.m.old (by intro k h1 h2;have hb:=HBQ.out k h1;omega))).2 0 _ rfl))
     ·exact stq (fun E=>Ah rfl (E.v oe1))
     ·exact stq (fun E=>Av rfl (E.d 7) (E.d 8) (Ak _ _ _ _ _ _) (Bg _ _ _ Try.underlying3) (congrArg Value.bool (eq_tt h1)))
     ·exact stq (fun E=>Ah rfl (E.d 9))
     ·refine Ag rfl rfl rfl fun _ _ _ _ _ _ _ hout hsz hd _ _=>?_
      have h10:=hd ⟨10,.guard⟩ (by simp) rfl _ rfl
      refine Aq rfl ((Ad rfl rfl (hsz 26 (by decide)) h10).trans rfl) (Ah rfl ((hout 0 (by decide)).trans oe0)) QE.refl ?_
      rfl
     ·refine Ag rfl rfl rfl fun _ _ _ _ _ _ _ _ hsz hd _ _=>?_
      have h10:=hd ⟨10,.guard⟩ (by simp) rfl _ rfl
      have h11:=hd ⟨11,.data⟩ (by simp) rfl _ rfl
      refine Aq rfl ((Ad rfl rfl (hsz 26 (by decide)) h10).trans rfl) (A1 rfl h11) QE.refl ?_
      rfl
     ·refine Ag rfl rfl rfl fun _ _ _ _ _ _ _ _ hsz hd _ _=>?_
      have h10:=hd ⟨10,.guard⟩ (by simp) rfl _ rfl
      have h12:=hd ⟨12,.data⟩ (by simp) rfl _ rfl
      refine Aq rfl ((Ad rfl rfl (hsz 26 (by decide)) h10).trans rfl) (Ai rfl Try.underlying72 rfl (by kernel_rfl) h12) QE.refl ?_
      rfl
     ·refine Ag rfl rfl rfl fun _ _ _ _ _ hm _ _ hsz hd _ _=>?_
      have h10:=hd ⟨10,.guard⟩ (by simp) rfl _ rfl
      have h13:=hd ⟨13,.data⟩ (by simp) rfl _ rfl
      refine Aq rfl ((Ad rfl rfl (hsz 26 (by decide)) h10).trans rfl) (Am rfl Try.underlying70 rfl h13 (Cs.lit1 (K1.out.mod hm.old (by intro h2;omega)) rfl)) QE.refl ?_
      rfl
     ·refine Ag rfl rfl rfl fun _ _ _ _ _ _ _ hout hsz hd _ _=>?_
      have h10:=hd ⟨10,.guard⟩ (by simp) rfl _ rfl
      refine Aq rfl ((Ad rfl rfl (hsz 26 (by decide)) h10).trans rfl) (Ah rfl ((hout 7 (by decide)).trans oe7)) QE.refl ?_
      rfl
     ·refine Ag rfl rfl rfl fun _ _ _ _ _ _ _ _ hsz hd _ _=>?_
      have h10:=hd ⟨10,.guard⟩ (by simp) rfl _ rfl
      have h14:=hd ⟨14,.data⟩ (by simp) rfl _ rfl
      have h15:=hd ⟨15,.data⟩ (by simp) rfl _ rfl
      refine Aq rfl ((Ad rfl rfl (hsz 26 (by decide)) h10).trans rfl) (ex_idxS (i:=k) (s:=2) rfl Try.underlying70 (by kernel_rfl) h14 h15 hlt) QE.refl ?_
      rfl
     ·refine Ag rfl rfl rfl fun _ _ _ _ _ _ _ _ hsz hd _ _=>?_
      have h10:=hd ⟨10,.guard⟩ (by simp) rfl _ rfl
      have h16:=hd ⟨16,.data⟩ (by simp) rfl _ rfl
      refine Aq rfl ((Ad rfl rfl (hsz 26 (by decide)) h10).trans rfl) (Ai rfl Try.underlying128 rfl (by kernel_rfl) h16) QE.refl ?_
      rfl
     ·refine Ag rfl rfl rfl fun _ _ _ _ _ hm _ _ hsz hd _ _=>?_
      have h10:=hd ⟨10,.guard⟩ (by simp) rfl _ rfl
      have h17:=hd ⟨17,.data⟩ (by simp) rfl _ rfl
      refine Aq rfl ((Ad rfl rfl (hsz 26 (by decide)) h10).trans rfl) (Am rfl Try.underlying9 rfl h17 (((HAT.out.mod hm.old (by intro k h1 h2;have hb:=HBQ.out k h1;omega))).2 1 _ rfl)) QE.refl ?_
      rfl
     ·refine Ag rfl rfl rfl fun _ _ _ _ _ _ _ hout hsz hd _ _=>?_
      have h10:=hd ⟨10,.guard⟩ (by simp) rfl _ rfl
      refine Aq rfl ((Ad rfl rfl (hsz 26 (by decide)) h10).trans rfl) (Ah rfl ((hout 2 (by decide)).trans oe2)) QE.refl ?_
      rfl
     ·refine Ag rfl rfl rfl fun _ _ _ _ _ hm _ _ hsz hd _ _=>?_
      have h10:=hd ⟨10,.guard⟩ (by simp) rfl _ rfl
      have h19:=hd ⟨19,.data⟩ (by simp) rfl _ rfl
      refine Aq rfl ((Ad rfl rfl (hsz 26 (by decide)) h10).trans rfl) (ex_conv rfl h19 (bytes_string (K3.out.mod hm.old (by intro k h1 h2;have hb:=HB3.out k h1;omega)).1)) QE.refl ?_
      rfl
     ·refine Ag rfl rfl rfl fun _ _ _ _ _ _ _ _ hsz hd _ _=>?_
      have h10:=hd ⟨10,.guard⟩ (by simp) rfl _ rfl
      have h18:=hd ⟨18,.data⟩ (by simp) rfl _ rfl
      have h20:=hd ⟨20,.data⟩ (by simp) rfl _ rfl
      refine Aq rfl ((Ad rfl rfl (hsz 26 (by decide)) h10).trans rfl) (Av rfl h18 h20 (guard_str _) (run_eql_strN HOK.out.2.1 HK.out.2.1 _) (congrArg Value.bool (decide_eq_true h2))) QE.refl ?_
      rfl
     ·exact stq (fun E=>A5 rfl (E.d 10) (E.d 21) rfl)
     intro u4_0 hr
     have zu4_0:=hr.size
     have Cx4:=hid (hr.new (S:=(fun _=>False)))
     clear hr
     refine QChain.nil fun vs hl hzz hrows hne=>?_
     obtain ⟨Z,hYZ,hZb,hV⟩:=hzz
     have f0:=fvi hV hl 0
     have f4:=fvi hV hl 4
     have f8:=fvi hV hl 8
     have f10:=fvi hV hl 10
     have f11:=fvi hV hl 11
     have f15:=fvi hV hl 15
     have f19:=fvi hV hl 19
     have f22:=fvi hV hl 22
     rw [show vs=[gw vs 0,gw vs 1,gw vs 2,gw vs 3,gw vs 4,gw vs 5,gw vs 6,gw vs 7,gw vs 8,gw vs 9,gw vs 10,gw vs 11,gw vs 12,gw vs 13,gw vs 14,gw vs 15,gw vs 16,gw vs 17,gw vs 18,gw vs 19,gw vs 20,gw vs 21,gw vs 22] from (Bh hl).trans rfl]
     have ha0:=HA0.out
     subst ha0
     clear HA0 hV hYZ hZb hsz0 hrows hne oe0 oe1 oe2 oe7
     simp only [Ar,Act.put,sIB,sCZ,sCS,f0,f4,f8,f10,f11,f15,f19,f22]
     clear hl f0 f4 f8 f10 f11 f15 f19 f22
     go_upto_region 5 with (fail)
     refine Al 64 [39,40,41,42,68] [0,1,2,3,4] (fun a0 HA0=>?_)
     have oe1:=ev HA0 1 rfl
     have oe6:=ev HA0 6 rfl
     have oe7:=ev HA0 7 rfl
     refine QSeq.pure rfl _ (fun E=>Ah rfl (E.v oe1)) ?_
     refine QSeq.pure rfl _ (fun E=>Ah rfl (E.v oe7)) ?_
     refine QSeq.pure rfl (.int .i64 (((k+1):Nat):Int)) (fun E=>Av rfl (E.d 1 0) rfl (Ak _ _ _ _ _ _) (Be _ _ Try.underlying3) (congrArg (Value.int .i64) (i64_eq (b:=(((k+1):Nat):Int)) (by omega) (by omega) (by omega)))) ?_
     refine QSeq.go fun act E=>?_
     refine qc_run rfl (Ab rfl) (v:=.agg #[.int .i64 y,.int .i64 ((k+1:Nat):Int)]) (ex_build rfl (z:=[.int .i64 0,.int .i64 0]) (places:=[(0,1),(1,1)]) (by kernel_rfl) (parts:=[(0,.int .i64 y),(1,.int .i64 (((k+1):Nat):Int))]) (by simp only [List.map_toArray,List.map_cons,List.map_nil,show act.eval (.tmp 39)=.int .i64 y from (E.d 0 2),show act.eval (.tmp 41)=.int .i64 (((k+1):Nat):Int) from (E.d 2 0)];try rfl) (r:=[.int .i64 y,.int .i64 ((k+1:Nat):Int)]) (by rfl)) ?_
     clear act E
     refine QSeq.go fun act E=>?_
     refine Bc rfl (Ab rfl) rfl (K4.out.mod Cx4.out (fun h=>h)) (off:=0) (vs:=[.int .i64 y,.int .i64 ((k+1:Nat):Int)]) (by kernel_rfl) (by intro u hu;simp only [List.mem_cons,List.not_mem_nil,or_false] at hu;rcases hu with rfl|rfl<;>rfl) (by simp) (E.v oe6) (ec (E.d 3 0)) ?_
     intro u5_4 qc0 hm
     have qB6:=qc0.eqv (b:=#[.int .i64 y,.int .i64 ((k+1:Nat):Int)]) rfl
     clear qc0
     have Hx5:=hid qB6
     have zu5_4:=hm.size
     have Cx6:=hid (show Mod (fun k=>(k=w.heap.size)) u4_0 u5_4 from hm)
     clear hm
     clear act E qB6 K4
     refine QSeq.nil (t':=[_,_,_,_,_]) rfl ?_
     obtain rfl:=HA0.out
     clear HA0 oe1 oe6 oe7
     simp only [pz,Act.put,sIB,sCZ,sCS,List.set_nil]
     have hmk:mkN L (y,bs)=k+1:=mkN_first HAB.out (by rw [HZ.out];obtain ⟨z1,z2⟩:=z;simp only at h1 h2;subst h1 h2;rfl)
     have hsg:B7 L (y,bs)=L:=by unfold B7;rw [if_neg (by rw [hmk];omega)]
     clear HAT
     go_wp2
     refine bodyPost_ret (Br rfl _ _ (w.heap.size) ([.int .i64 y,.int .i64 ((k+1:Nat):Int)]) rfl (fun k u hu=>by rw [Hx5.out.cell];simpa using hu) Try.underlying34 rfl (by kernel_rfl)) rfl ?_
     rw [hsg,hmk]
     exact ⟨rfl,⟨_,((K1.out.mod Cx4.out (fun h=>h)).mod Cx6.out (by intro h2;omega)),Or.inl HG.out,((K2.out.mod Cx4.out (fun _ _ h=>h) (fun _ _ h=>h)).mod Cx6.out (sB HBQ) (sB HBQ)).widen (fun k h=>⟨Or.inl (HQ.out k h).1,(HQ.out k h).2⟩) (fun k h=>⟨Or.inl (HQ.out k h).1,(HQ.out k h).2⟩)⟩,((K5.out.trans Cx4.out (fun _ _ h=>h.elim)).trans Cx6.out (by intro k h1 h2;first|exact h2|omega|exact Or.inl h2|exact Or.inr h2|exact Or.inr (Or.inl h2)|exact Or.inr (Or.inr h2))).mono (fun k _ h=>by rcases h with h|h;exact h▸HG.out;exact (HQ.out k h).1)⟩
    ·skip
     go_upto_region 4 with (fail)
     generalize ha0:Act.mk _ _=a0
     have oe0:a0.eval (.tmp 0)=.pointer (some ⟨g,0,none⟩):=by rw [← ha0];rfl
     have oe1:a0.eval (.tmp 1)=.int .i64 y:=by rw [← ha0];rfl
     have oe2:a0.eval (.tmp 2)=v:=by rw [← ha0];rfl
     have oe7:a0.eval (.tmp 7)=.int .i64 ((k:Nat):Int):=by rw [← ha0];rfl
     have hsz0:a0.tmps.size=64:=by rw [← ha0];rfl
     have HA0:=hid ha0
     clear ha0
     refine Az 64 hsz0 [16,17,18,19,20,21,22,23,24,25,26,27,28,29,30,31,32,33,34,35,36,37,38] [qi (.pointer (some ⟨g,0,none⟩)),qi (.pointer (some ⟨g,0,none⟩)),qi (.pointer (some ⟨g,0,none⟩)),qi (.slice (some ⟨g1,o1,none⟩) L.length cap),qi (.int .i64 ((k:Nat):Int)),qi (.pointer (some ⟨g1,o1+k * 2,none⟩)),qi (.pointer (some ⟨g1,o1+k * 2,none⟩)),qi (.int .i64 z.1),qi (.int .i64 y),qi (.bool true),qi (.bool true),qi (.pointer (some ⟨g,0,none⟩)),qi (.pointer (some ⟨g,0,none⟩)),qi (.pointer (some ⟨g,0,none⟩)),qi (.slice (some ⟨g1,o1,none⟩) L.length cap),qi (.int .i64 ((k:Nat):Int)),qi (.pointer (some ⟨g1,o1+k * 2,none⟩)),qi (.pointer (some ⟨g1,o1+k * 2+1,none⟩)),qi (.string (strOfNums z.2)),qi (v),qi (.string (strOfNums bs)),qi (.bool false),qi (.bool false)] ⟨Aa,Aa,Aa,Aa,Aa,Aa,Aa,Aa,Aa,Aa,Aa,Aa,Aa,Aa,Aa,Aa,Aa,Aa,Aa,Aa,Aa,Aa,Aa,trivial⟩ [] ⟨?_,?_,?_,?_,?_,?_,?_,?_,?_,?_,?_,?_,?_,?_,?_,?_,?_,?_,?_,?_,?_,?_,?_,trivial⟩ ?_
     ·exact stq (fun E=>Ah rfl (E.v oe0))
     ·exact stq (fun E=>A1 rfl (E.d 0))
     ·exact stq (fun E=>Ai rfl Try.underlying72 rfl (by kernel_rfl) (E.d 1))
     ·exact stq (fun E=>Am rfl Try.underlying70 rfl (E.d 2) (Cs.lit1 (K1.out.mod E.m.old (by intro h2;omega)) rfl))
     ·exact stq (fun E=>Ah rfl (E.v oe7))
     ·exact stq (fun E=>ex_idxS (i:=k) (s:=2) rfl Try.underlying70 (by kernel_rfl) (E.d 3) (E.d 4) hlt)
     ·exact stq (fun E=>Ai rfl Try.underlying128 rfl (by kernel_rfl) (E.d 5))
     ·exact stq (fun E=>Am rfl Try.underlying3 rfl (E.d 6) (((HAT.out.mod E.m.old (by intro k h1 h2;have hb:=HBQ.out k h1;omega))).2 0 _ rfl))
     ·exact stq (fun E=>Ah rfl (E.v oe1))
     ·exact stq (fun E=>Av rfl (E.d 7) (E.d 8) (Ak _ _ _ _ _ _) (Bg _ _ _ Try.underlying3) (congrArg Value.bool (eq_tt h1)))
     ·exact stq (fun E=>Ah rfl (E.d 9))
     ·refine Ag rfl rfl rfl fun _ _ _ _ _ _ _ hout hsz hd _ _=>?_
      have h10:=hd ⟨10,.guard⟩ (by simp) rfl _ rfl
      refine Aq rfl ((Ad rfl rfl (hsz 26 (by decide)) h10).trans rfl) (Ah rfl ((hout 0 (by decide)).trans oe0)) QE.refl ?_
      rfl
     ·refine Ag rfl rfl rfl fun _ _ _ _ _ _ _ _ hsz hd _ _=>?_
      have h10:=hd ⟨10,.guard⟩ (by simp) rfl _ rfl
      have h11:=hd ⟨11,.data⟩ (by simp) rfl _ rfl
      refine Aq rfl ((Ad rfl rfl (hsz 26 (by decide)) h10).trans rfl) (A1 rfl h11) QE.refl ?_
      rfl
     ·refine Ag rfl rfl rfl fun _ _ _ _ _ _ _ _ hsz hd _ _=>?_
      have h10:=hd ⟨10,.guard⟩ (by simp) rfl _ rfl
      have h12:=hd ⟨12,.data⟩ (by simp) rfl _ rfl
      refine Aq rfl ((Ad rfl rfl (hsz 26 (by decide)) h10).trans rfl) (Ai rfl Try.underlying72 rfl (by kernel_rfl) h12) QE.refl ?_
      rfl
     ·refine Ag rfl rfl rfl fun _ _ _ _ _ hm _ _ hsz hd _ _=>?_
      have h10:=hd ⟨10,.guard⟩ (by simp) rfl _ rfl
      have h13:=hd ⟨13,.data⟩ (by simp) rfl _ rfl
      refine Aq rfl ((Ad rfl rfl (hsz 26 (by decide)) h10).trans rfl) (Am rfl Try.underlying70 rfl h13 (Cs.lit1 (K1.out.mod hm.old (by intro h2;omega)) rfl)) QE.refl ?_
      rfl
     ·refine Ag rfl rfl rfl fun _ _ _ _ _ _ _ hout hsz hd _ _=>?_
      have h10:=hd ⟨10,.guard⟩ (by simp) rfl _ rfl
      refine Aq rfl ((Ad rfl rfl (hsz 26 (by decide)) h10).trans rfl) (Ah rfl ((hout 7 (by decide)).trans oe7)) QE.refl ?_
      rfl
     ·refine Ag rfl rfl rfl fun _ _ _ _ _ _ _ _ hsz hd _ _=>?_
      have h10:=hd ⟨10,.guard⟩ (by simp) rfl _ rfl
      have h14:=hd ⟨14,.data⟩ (by simp) rfl _ rfl
      have h15:=hd ⟨15,.data⟩ (by simp) rfl _ rfl
      refine Aq rfl ((Ad rfl rfl (hsz 26 (by decide)) h10).trans rfl) (ex_idxS (i:=k) (s:=2) rfl Try.underlying70 (by kernel_rfl) h14 h15 hlt) QE.refl ?_
      rfl
     ·refine Ag rfl rfl rfl fun _ _ _ _ _ _ _ _ hsz hd _ _=>?_
      have h10:=hd ⟨10,.guard⟩ (by simp) rfl _ rfl
      have h16:=hd ⟨16,.data⟩ (by simp) rfl _ rfl
      refine Aq rfl ((Ad rfl rfl (hsz 26 (by decide)) h10).trans rfl) (Ai rfl Try.underlying128 rfl (by kernel_rfl) h16) QE.refl ?_
      rfl
     ·refine Ag rfl rfl rfl fun _ _ _ _ _ hm _ _ hsz hd _ _=>?_
      have h10:=hd ⟨10,.guard⟩ (by simp) rfl _ rfl
      have h17:=hd ⟨17,.data⟩ (by simp) rfl _ rfl
      refine Aq rfl ((Ad rfl rfl (hsz 26 (by decide)) h10).trans rfl) (Am rfl Try.underlying9 rfl h17 (((HAT.out.mod hm.old (by intro k h1 h2;have hb:=HBQ.out k h1;omega))).2 1 _ rfl)) QE.refl ?_
      rfl
     ·refine Ag rfl rfl rfl fun _ _ _ _ _ _ _ hout hsz hd _ _=>?_
      have h10:=hd ⟨10,.guard⟩ (by simp) rfl _ rfl
      refine Aq rfl ((Ad rfl rfl (hsz 26 (by decide)) h10).trans rfl) (Ah rfl ((hout 2 (by decide)).trans oe2)) QE.refl ?_
      rfl
     ·refine Ag rfl rfl rfl fun _ _ _ _ _ hm _ _ hsz hd _ _=>?_
      have h10:=hd ⟨10,.guard⟩ (by simp) rfl _ rfl
      have h19:=hd ⟨19,.data⟩ (by simp) rfl _ rfl
      refine Aq rfl ((Ad rfl rfl (hsz 26 (by decide)) h10).trans rfl) (ex_conv rfl h19 (bytes_string (K3.out.mod hm.old (by intro k h1 h2;have hb:=HB3.out k h1;omega)).1)) QE.refl ?_
      rfl
     ·refine Ag rfl rfl rfl fun _ _ _ _ _ _ _ _ hsz hd _ _=>?_
      have h10:=hd ⟨10,.guard⟩ (by simp) rfl _ rfl
      have h18:=hd ⟨18,.data⟩ (by simp) rfl _ rfl
      have h20:=hd ⟨20,.data⟩ (by simp) rfl _ rfl
      refine Aq rfl ((Ad rfl rfl (hsz 26 (by decide)) h10).trans rfl) (Av rfl h18 h20 (guard_str _) (run_eql_strN HOK.out.2.1 HK.out.2.1 _) (congrArg Value.bool (decide_eq_false h2))) QE.refl ?_
      rfl
     ·exact stq (fun E=>A5 rfl (E.d 10) (E.d 21) rfl)
     intro u4_0 hr
     have zu4_0:=hr.size
     have Cx7:=hid (hr.new (S:=(fun _=>False)))
     clear hr
     refine QChain.nil fun vs hl hzz hrows hne=>?_
     obtain ⟨Z,hYZ,hZb,hV⟩:=hzz
     have f0:=fvi hV hl 0
     have f4:=fvi hV hl 4
     have f8:=fvi hV hl 8
     have f10:=fvi hV hl 10
     have f11:=fvi hV hl 11
     have f15:=fvi hV hl 15
     have f19:=fvi hV hl 19
     have f22:=fvi hV hl 22
     rw [show vs=[gw vs 0,gw vs 1,gw vs 2,gw vs 3,gw vs 4,gw vs 5,gw vs 6,gw vs 7,gw vs 8,gw vs 9,gw vs 10,gw vs 11,gw vs 12,gw vs 13,gw vs 14,gw vs 15,gw vs 16,gw vs 17,gw vs 18,gw vs 19,gw vs 20,gw vs 21,gw vs 22] from (Bh hl).trans rfl]
     have ha0:=HA0.out
     subst ha0
     clear HA0 hV hYZ hZb hsz0 hrows hne oe0 oe1 oe2 oe7
     simp only [Ar,Act.put,sIB,sCZ,sCS,f0,f4,f8,f10,f11,f15,f19,f22]
     clear hl f0 f4 f8 f10 f11 f15 f19 f22
     clear HAT
     go_upto_region 6 with (fail)
     refine Al 64 [43,13] [0,1] (fun a0 HA0=>?_)
     have oe13:=ev HA0 13 rfl
     refine QSeq.pure rfl (.int .i64 (((k+1):Nat):Int)) (fun E=>Av rfl (E.y 1 oe13) rfl (Ak _ _ _ _ _ _) (Be _ _ Try.underlying3) (congrArg (Value.int .i64) (i64_eq (b:=(((k+1):Nat):Int)) (by omega) (by omega) (by omega)))) ?_
     refine QSeq.pure rfl _ (fun E=>Ah rfl (E.d 0 0)) ?_
     refine QSeq.nil (t':=[_,_]) rfl ?_
     obtain rfl:=HA0.out
     clear HA0 oe13
     simp only [pz,Act.put,sIB,sCZ,sCS]
     go_wp2
     go_roundw
     case rel=>exact ⟨k+1,rfl,by omega,(fun j hj=>by by_cases hjk:j < k;exact HAB.out j hjk;(obtain rfl:j=k:=by omega);rw [HZ.out];intro e;have e2:=Option.some.inj e;subst e2;exact h2 rfl),by omega,(K1.out.mod Cx7.out (fun h=>h)),(K2.out.mod Cx7.out (fun _ _ h=>h) (fun _ _ h=>h)),(K3.out.mod Cx7.out (fun _ _ h=>h)),(K4.out.mod Cx7.out (fun h=>h)),(K5.out.trans Cx7.out (fun _ _ h=>h.elim))⟩
     case measure=>simp [intOf];omega
   ·skip
    go_upto_region 4 with (fail)
    generalize ha0:Act.mk _ _=a0
    have oe0:a0.eval (.tmp 0)=.pointer (some ⟨g,0,none⟩):=by rw [← ha0];rfl
    have oe1:a0.eval (.tmp 1)=.int .i64 y:=by rw [← ha0];rfl
    have oe7:a0.eval (.tmp 7)=.int .i64 ((k:Nat):Int):=by rw [← ha0];rfl
    have hsz0:a0.tmps.size=64:=by rw [← ha0];rfl
    have HA0:=hid ha0
    clear ha0
    refine Az 64 hsz0 [16,17,18,19,20,21,22,23,24,25,26,27,28,29,30,31,32,33,34,35,36,37,38] [qi (.pointer (some ⟨g,0,none⟩)),qi (.pointer (some ⟨g,0,none⟩)),qi (.pointer (some ⟨g,0,none⟩)),qi (.slice (some ⟨g1,o1,none⟩) L.length cap),qi (.int .i64 ((k:Nat):Int)),qi (.pointer (some ⟨g1,o1+k * 2,none⟩)),qi (.pointer (some ⟨g1,o1+k * 2,none⟩)),qi (.int .i64 z.1),qi (.int .i64 y),qi (.bool false),qi (.bool false),qi undef,qi undef,qi undef,qi undef,qi undef,qi undef,qi undef,qi undef,qi undef,qi undef,qi undef,qi (.bool false)] ⟨Aa,Aa,Aa,Aa,Aa,Aa,Aa,Aa,Aa,Aa,Aa,Aa,Aa,Aa,Aa,Aa,Aa,Aa,Aa,Aa,Aa,Aa,Aa,trivial⟩ [] ⟨?_,?_,?_,?_,?_,?_,?_,?_,?_,?_,?_,?_,?_,?_,?_,?_,?_,?_,?_,?_,?_,?_,?_,trivial⟩ ?_
    ·exact stq (fun E=>Ah rfl (E.v oe0))
    ·exact stq (fun E=>A1 rfl (E.d 0))
    ·exact stq (fun E=>Ai rfl Try.underlying72 rfl (by kernel_rfl) (E.d 1))
    ·exact stq (fun E=>Am rfl Try.underlying70 rfl (E.d 2) (Cs.lit1 (K1.out.mod E.m.old (by intro h2;omega)) rfl))
    ·exact stq (fun E=>Ah rfl (E.v oe7))
    ·exact stq (fun E=>ex_idxS (i:=k) (s:=2) rfl Try.underlying70 (by kernel_rfl) (E.d 3) (E.d 4) hlt)
    ·exact stq (fun E=>Ai rfl Try.underlying128 rfl (by kernel_rfl) (E.d 5))
    ·exact stq (fun E=>Am rfl Try.underlying3 rfl (E.d 6) (((HAT.out.mod E.m.old (by intro k h1 h2;have hb:=HBQ.out k h1;omega))).2 0 _ rfl))
    ·exact stq (fun E=>Ah rfl (E.v oe1))
    ·exact stq (fun E=>Av rfl (E.d 7) (E.d 8) (Ak _ _ _ _ _ _) (Bg _ _ _ Try.underlying3) (congrArg Value.bool (eq_ff h1)))
    ·exact stq (fun E=>Ah rfl (E.d 9))
    ·refine Ag rfl rfl rfl fun _ _ _ _ _ _ _ _ hsz hd _ _=>?_
     have h10:=hd ⟨10,.guard⟩ (by simp) rfl _ rfl
     exact Aw rfl ((Ad rfl rfl (hsz 26 (by decide)) h10).trans rfl) rfl
    ·refine Ag rfl rfl rfl fun _ _ _ _ _ _ _ _ hsz hd _ _=>?_
     have h10:=hd ⟨10,.guard⟩ (by simp) rfl _ rfl
     exact Aw rfl ((Ad rfl rfl (hsz 26 (by decide)) h10).trans rfl) rfl
    ·refine Ag rfl rfl rfl fun _ _ _ _ _ _ _ _ hsz hd _ _=>?_
     have h10:=hd ⟨10,.guard⟩ (by simp) rfl _ rfl
     exact Aw rfl ((Ad rfl rfl (hsz 26 (by decide)) h10).trans rfl) rfl
    ·refine Ag rfl rfl rfl fun _ _ _ _ _ _ _ _ hsz hd _ _=>?_
     have h10:=hd ⟨10,.guard⟩ (by simp) rfl _ rfl
     exact Aw rfl ((Ad rfl rfl (hsz 26 (by decide)) h10).trans rfl) rfl
    ·refine Ag rfl rfl rfl fun _ _ _ _ _ _ _ _ hsz hd _ _=>?_
     have h10:=hd ⟨10,.guard⟩ (by simp) rfl _ rfl
     exact Aw rfl ((Ad rfl rfl (hsz 26 (by decide)) h10).trans rfl) rfl
    ·refine Ag rfl rfl rfl fun _ _ _ _ _ _ _ _ hsz hd _ _=>?_
     have h10:=hd ⟨10,.guard⟩ (by simp) rfl _ rfl
     exact Aw rfl ((Ad rfl rfl (hsz 26 (by decide)) h10).trans rfl) rfl
    ·refine Ag rfl rfl rfl fun _ _ _ _ _ _ _ _ hsz hd _ _=>?_
     have h10:=hd ⟨10,.guard⟩ (by simp) rfl _ rfl
     exact Aw rfl ((Ad rfl rfl (hsz 26 (by decide)) h10).trans rfl) rfl
    ·refine Ag rfl rfl rfl fun _ _ _ _ _ _ _ _ hsz hd _ _=>?_
     have h10:=hd ⟨10,.guard⟩ (by simp) rfl _ rfl
     exact Aw rfl ((Ad rfl rfl (hsz 26 (by decide)) h10).trans rfl) rfl
    ·refine Ag rfl rfl rfl fun _ _ _ _ _ _ _ _ hsz hd _ _=>?_
     have h10:=hd ⟨10,.guard⟩ (by simp) rfl _ rfl
     exact Aw rfl ((Ad rfl rfl (hsz 26 (by decide)) h10).trans rfl) rfl
    ·refine Ag rfl rfl rfl fun _ _ _ _ _ _ _ _ hsz hd _ _=>?_
     have h10:=hd ⟨10,.guard⟩ (by simp) rfl _ rfl
     exact Aw rfl ((Ad rfl rfl (hsz 26 (by decide)) h10).trans rfl) rfl
    ·refine Ag rfl rfl rfl fun _ _ _ _ _ _ _ _ hsz hd _ _=>?_
     have h10:=hd ⟨10,.guard⟩ (by simp) rfl _ rfl
     exact Aw rfl ((Ad rfl rfl (hsz 26 (by decide)) h10).trans rfl) rfl
    ·exact stq (fun E=>A5 rfl (E.d 10) (E.d 21) rfl)
    intro u4_0 hr
    have zu4_0:=hr.size
    have Cx8:=hid (hr.new (S:=(fun _=>False)))
    clear hr
    refine QChain.nil fun vs hl hzz hrows hne=>?_
    obtain ⟨Z,hYZ,hZb,hV⟩:=hzz
    have f0:=fvi hV hl 0
    have f4:=fvi hV hl 4
    have f8:=fvi hV hl 8
    have f10:=fvi hV hl 10
    have f11:=fvi hV hl 11
    have f15:=fvi hV hl 15
    have f19:=fvi hV hl 19
    have f22:=fvi hV hl 22
    rw [show vs=[gw vs 0,gw vs 1,gw vs 2,gw vs 3,gw vs 4,gw vs 5,gw vs 6,gw vs 7,gw vs 8,gw vs 9,gw vs 10,gw vs 11,gw vs 12,gw vs 13,gw vs 14,gw vs 15,gw vs 16,gw vs 17,gw vs 18,gw vs 19,gw vs 20,gw vs 21,gw vs 22] from (Bh hl).trans rfl]
    have ha0:=HA0.out
    subst ha0
    clear HA0 hV hYZ hZb hsz0 hrows hne oe0 oe1 oe7
    simp only [Ar,Act.put,sIB,sCZ,sCS,f0,f4,f8,f10,f11,f15,f19,f22]
    clear hl f0 f4 f8 f10 f11 f15 f19 f22
    clear HAT
    go_upto_region 6 with (fail)
    refine Al 64 [43,13] [0,1] (fun a0 HA0=>?_)
    have oe13:=ev HA0 13 rfl
    refine QSeq.pure rfl (.int .i64 (((k+1):Nat):Int)) (fun E=>Av rfl (E.y 1 oe13) rfl (Ak _ _ _ _ _ _) (Be _ _ Try.underlying3) (congrArg (Value.int .i64) (i64_eq (b:=(((k+1):Nat):Int)) (by omega) (by omega) (by omega)))) ?_
    refine QSeq.pure rfl _ (fun E=>Ah rfl (E.d 0 0)) ?_
    refine QSeq.nil (t':=[_,_]) rfl ?_
    obtain rfl:=HA0.out
    clear HA0 oe13
    simp only [pz,Act.put,sIB,sCZ,sCS]
    go_wp2
    go_roundw
    case rel=>exact ⟨k+1,rfl,by omega,(fun j hj=>by by_cases hjk:j < k;exact HAB.out j hjk;(obtain rfl:j=k:=by omega);rw [HZ.out];intro e;have e2:=Option.some.inj e;subst e2;exact h1 rfl),by omega,(K1.out.mod Cx8.out (fun h=>h)),(K2.out.mod Cx8.out (fun _ _ h=>h) (fun _ _ h=>h)),(K3.out.mod Cx8.out (fun _ _ h=>h)),(K4.out.mod Cx8.out (fun h=>h)),(K5.out.trans Cx8.out (fun _ _ h=>h.elim))⟩
    case measure=>simp [intOf];omega
  ·obtain rfl:k=L.length:=by omega
   go_upto_region 2 with (fail)
   refine Al 64 [14] [0] (fun a0 HA0=>?_)
   have oe12:=ev HA0 12 rfl
   have oe13:=ev HA0 13 rfl
   refine QSeq.pure rfl (.bool false) (fun E=>Av rfl (E.v oe13) (E.v oe12) (Ak _ _ _ _ _ _) (run_lss_i _ _ _ Try.underlying3) (congrArg Value.bool (decide_eq_false (by omega)))) ?_
   refine QSeq.nil (t':=[_]) rfl ?_
   obtain rfl:=HA0.out
   clear HA0 oe12 oe13
   simp only [pz,Act.put,sIB,sCZ,sCS]
   have hmk0:mkN L (y,bs)=0:=mkN_absent HAB.out
   have hsg:B7 L (y,bs)=L ++ [(y,bs)]:=by unfold B7;rw [if_pos hmk0]
   have hmk:mkN (L ++ [(y,bs)]) (y,bs)=L.length+1:=mkN_first (fun j hj=>by rw [List.getElem?_append_left hj];exact HAB.out j hj) (by simp)
   have HEL:=hid (show SgR.rd (fun _=>False) wl (sgC (y,bs)) (y,bs) from ⟨rfl,HK.out⟩)
   go_upto_region 7 with (fail)
   generalize ha0:Act.mk _ _=a0
   have oe0:a0.eval (.tmp 0)=.pointer (some ⟨g,0,none⟩):=by rw [← ha0];rfl
   have oe1:a0.eval (.tmp 1)=.int .i64 y:=by rw [← ha0];rfl
   have oe2:a0.eval (.tmp 2)=v:=by rw [← ha0];rfl
   have hsz0:a0.tmps.size=64:=by rw [← ha0];rfl
   have HA0:=hid ha0
   clear ha0
   refine B0 64 hsz0 [44,45,46,47,48,49,50,51,52,53,54,55,56,77] (fun k=>(Q k)∨(k=g)) (fun k j=>(k=1∧((Q j)))∨(k=2∧((j=g)))) (by intro k j h;(try dsimp only at h ⊢);rcases h with ⟨-,h⟩|⟨-,h⟩;(exact Or.inl (h));(exact Or.inr (h))) [qi (.pointer (some ⟨g,0,none⟩)),qi (.pointer (some ⟨g,0,none⟩)),qi (.pointer (some ⟨g,0,none⟩)),qi (.pointer (some ⟨g,0,none⟩)),qi (.slice ao L.length cap),qi (.int .i64 y),qi (v),qi (.string (strOfNums bs)),qi (.agg #[.int .i64 y,.string (strOfNums bs)]),qv 0,qv 1,qi (.pointer (some ⟨g,0,none⟩)),qi (.pointer (some ⟨g,0,none⟩)),qv 2] ⟨Aa,Aa,Aa,Aa,Aa,Aa,Aa,Aa,Aa,Ay,Ay,Aa,Aa,Ay,trivial⟩ [9,10,13] ⟨?_,?_,?_,?_,?_,?_,?_,?_,?_,?_,?_,?_,?_,?_,trivial⟩ ?_
   ·exact stq (fun E=>Ah rfl (E.v oe0))
   ·exact stq (fun E=>Ah rfl (E.v oe0))
   ·exact stq (fun E=>A1 rfl (E.d 1))
   ·exact stq (fun E=>Ai rfl Try.underlying72 rfl (by kernel_rfl) (E.d 2))
   ·refine Ag rfl rfl rfl fun _ _ _ _ _ _ hm0 _ _ hd hub _=>?_
    have h3:=hd ⟨3,.data⟩ (by simp) rfl _ rfl
    refine Aq rfl (Ab rfl) (Am rfl Try.underlying70 rfl h3 (Cs.lit1 (K1.out.mod hm0 (by intro h2;have hu:=hub 2 13 rfl (by kernel_rfl);rcases h2 with ⟨h0,kk,hk,h2⟩|h2<;>first|omega|(rcases h2 with ⟨hkk,h2⟩|⟨hkk,h2⟩<;>first|omega|(have hb:=HBQ.out _ h2;omega)|exact HXQ.out h2|exact HX3.out h2))) rfl)) QE.refl ?_
    rfl
   ·exact stq (fun E=>Ah rfl (E.v oe1))
   ·exact stq (fun E=>Ah rfl (E.v oe2))
   ·exact stq (fun E=>ex_conv rfl (E.d 6) (bytes_string (K3.out.mod E.m (by intro k h1 h2;rcases h2 with ⟨h0,h2|h2⟩|h2<;>(first|omega|(have hb:=HB3.out k h1;omega)|(have hb:=HBQ.out k h2;omega)|exact HQ3.out k h1 h2|exact HQ3.out k h2 h1|(have hb:=HB3.out k h1;have hb2:=HBQ.out k h2;omega)|exact HXQ.out (h2▸h1)|exact HXQ.out (h1▸h2)|exact HX3.out (h2▸h1)|exact HX3.out (h1▸h2)))).1))
   ·refine Ag rfl rfl rfl fun _ _ act _ _ _ _ _ _ hd _ _=>?_
    have h5:=hd ⟨5,.data⟩ (by simp) rfl _ rfl
    have h7:=hd ⟨7,.data⟩ (by simp) rfl _ rfl
    refine Aq rfl (Ab rfl) (ex_build rfl (z:=[.int .i64 0,.string ByteArray.empty]) (places:=[(0,1),(1,1)]) (by kernel_rfl) (parts:=[(0,.int .i64 y),(1,.string (strOfNums bs))]) (by simp only [List.map_toArray,List.map_cons,List.map_nil,show act.eval (.tmp 49)=_ from h5,show act.eval (.tmp 51)=_ from h7];try rfl) (r:=[.int .i64 y,.string (strOfNums bs)]) (by rfl)) QE.refl ?_
    rfl
   ·exact Au rfl
   ·exact Au rfl
   ·exact stq (fun E=>A1 rfl (E.d 0))
   ·exact stq (fun E=>Ai rfl Try.underlying72 rfl (by kernel_rfl) (E.d 11))
   ·exact Au rfl
   intro u7_0 hr
   have zu7_0:=hr.size
   clear K3
   have Cx9:=hid (hr.new (S:=(fun k=>(Q k)∨(k=g))))
   have Hx10:=hid (K1.out.mod hr (by intro h2;omega))
   clear K1
   have Hx11:=hid (K2.out.mod hr (by intro k h1 h2;have hb:=HBQ.out k h1;omega) (by intro k h1 h2;have hb:=HBQ.out k h1;omega))
   clear K2
   clear hr
   refine QChain.go fun Z act E=>?_
   refine qc_buildS (e:=128) (cs:=sgC (y,bs)) (zc:=[.int .i64 0,.string ByteArray.empty]) (sz:=2) rfl (Ab rfl) rfl Try.underlying70 (by kernel_rfl) rfl (by decide) (by decide) (E.d 8) rfl ?_
   intro u7_1a qrow hm
   have zl7_9:=qrow.lt
   have zu7_1a:=hm.size
   refine ⟨hm.mono (fun _ _ h=>h.elim),(fun _=>rfl),?_⟩
   intro u7_1 hr
   have zu7_1:=hr.size
   have Hx12:=hid (qrow.mod hr (by intro h2;omega))
   have hmr:=Mod.after hm hr
   have Hx13:=hid (Hx10.out.mod hmr (by intro h2;omega))
   have Hx14:=hid (Hx11.out.mod hmr (by intro k h1 h2;have hb:=HBQ.out k h1;omega) (by intro k h1 h2;have hb:=HBQ.out k h1;omega))
   clear Hx10 Hx11
   clear hmr
   have Cx15:=hid (Cx9.out.go hm hr)
   clear Cx9 hm hr Z act E qrow
   refine QChain.go fun Z act E=>?_
   refine qc_appS (A:=SgR) (e:=128) rfl (Ab rfl) rfl (.agg #[.int .i64 0,.string ByteArray.empty]) 24 Try.underlying70 info_Sg (by rfl) (of_decide_eq_true (by kernel_rfl)) (E.d 4) (chv (v:=.slice (some ⟨u7_0.heap.size,0,none⟩) 1 1) (E.d 9)) (Hx14.out) (RdS.single (R:=(fun k=>(k=u7_0.heap.size))) Hx12.out ((HEL.out.mod Cx15.out (by intro k h1 h2;rcases h2 with h2|h2<;>first|omega|(have hb:=HBQ.out k h2;omega)|exact HXQ.out (h2▸h1)|exact HXQ.out (h1▸h2)|exact HX3.out (h2▸h1)|exact HX3.out (h1▸h2))).widen (fun _ h=>h.elim)) (by first|exact Or.inr rfl|exact rfl)) (by intro k h1 h2;have hb:=HBQ.out k h2;omega) (by simp only [List.length_cons,List.length_nil];omega) (by rw [Bk];simp only [List.length_cons,List.length_nil];omega) ?_
   intro ao5 cap5 u7_2a qown hm
   have zu7_2a:=hm.size
   refine ⟨hm.mono (by intro k hk h;first|omega|exact Or.inl ⟨(by have hb:=HBQ.out k h;omega),Or.inl ⟨rfl,h⟩⟩),(fun _=>rfl),?_⟩
   intro u7_2 hr
   have zu7_2:=hr.size
   have Hx16:=hid ((qown.widen (R':=(fun k=>(Q k)∨(New u7_1 u7_2a k))) (E':=(fun k=>(Q k)∨(k=u7_0.heap.size))) (fun _ h=>h) (by intro k h1;rcases h1 with h1|h1<;>first|omega|exact h1.elim|exact Or.inl h1|exact Or.inr (h1))).mod hr (by intro k h1 h2;rcases h1 with h1|h1<;>first|omega|(have hb:=HBQ.out k h1;omega)|exact HXQ.out (h2▸h1)|exact HXQ.out (h1▸h2)|exact HX3.out (h2▸h1)|exact HX3.out (h1▸h2)) (by intro k h1 h2;rcases h1 with h1|h1<;>first|omega|(have hb:=HBQ.out k h1;omega)|exact HXQ.out (h2▸h1)|exact HXQ.out (h1▸h2)|exact HX3.out (h2▸h1)|exact HX3.out (h1▸h2)))
   have hmr:=hm.two hr
   have Hx17:=hid (Hx13.out.mod hmr (by intro h2;rcases h2 with h2|h2<;>first|omega|(have hb:=HBQ.out _ h2;omega)|exact HXQ.out h2|exact HX3.out h2))
   have Hx18:=hid (Hx12.out.mod hmr (by intro h2;rcases h2 with h2|h2<;>first|omega|(have hb:=HBQ.out _ h2;omega)|exact HXQ.out h2|exact HX3.out h2))
   clear Hx13 Hx12
   clear hmr
   have Cx19:=hid (Cx15.out.goM hm hr (by intro k h0 h2;first|omega|exact Or.inl h2|exact Or.inr (h2)))
   clear Cx15 hm hr Z act E qown Hx14
   refine QChain.go fun Z act E=>?_
   refine Bc rfl (Ab rfl) rfl Hx17.out (off:=0) (vs:=[Value.slice ao5 (L.length+1) cap5]) (by kernel_rfl) one1 (by simp) (E.d 12) (ec (chv (v:=.slice ao5 (L.length+1) cap5) (E.d 10))) ?_
   intro u7_3a qc0 hm
   have qbk:=qc0.eqv (b:=#[Value.slice ao5 (L.length+1) cap5]) rfl
   clear qc0
   have zu7_3a:=hm.size
   refine ⟨hm.mono (by intro k hk h;omega),(fun _=>rfl),?_⟩
   intro u7_3 hr
   have zu7_3:=hr.size
   have Hx20:=hid (qbk.mod hr (by intro h2;omega))
   have hmr:=hm.two hr
   have Hx21:=hid (Hx16.out.mod hmr (by intro k h1 h2;rcases h1 with h1|h1<;>rcases h2 with h2|h2<;>first|omega|(have hb:=HBQ.out k h1;omega)|exact HXQ.out (h2▸h1)|exact HXQ.out (h1▸h2)|exact HX3.out (h2▸h1)|exact HX3.out (h1▸h2)) (by intro k h1 h2;rcases h1 with h1|h1<;>rcases h2 with h2|h2<;>first|omega|(have hb:=HBQ.out k h1;omega)|exact HXQ.out (h2▸h1)|exact HXQ.out (h1▸h2)|exact HX3.out (h2▸h1)|exact HX3.out (h1▸h2)))
   have Hx22:=hid (Hx18.out.mod hmr (by intro h2;omega))
   clear Hx16 Hx18
   clear hmr
   have Cx23:=hid (Cx19.out.goM hm hr (by intro k h0 h2;first|omega|exact Or.inl h2|exact Or.inr (h2)))
   clear Cx19 hm hr Z act E qbk Hx17
   refine QChain.nil fun vs hl hzz hrows hne=>?_
   obtain ⟨Z,hYZ,hZb,hV⟩:=hzz
   have f0:=fvi hV hl 0
   have f1:=fvi hV hl 1
   have f5:=fvi hV hl 5
   have f6:=fvi hV hl 6
   have f9:=fvc hV hl 9
   have f10:=fvc hV hl 10
   rw [show vs=[gw vs 0,gw vs 1,gw vs 2,gw vs 3,gw vs 4,gw vs 5,gw vs 6,gw vs 7,gw vs 8,gw vs 9,gw vs 10,gw vs 11,gw vs 12,gw vs 13] from (Bh hl).trans rfl]
   have ha0:=HA0.out
   subst ha0
   clear HA0 hV hYZ hZb hsz0 hrows hne oe0 oe1 oe2
   simp only [Ar,Act.put,sIB,sCZ,sCS,List.set_nil,f0,f1,f5,f6,f9,f10]
   clear hl f0 f1 f5 f6 f9 f10
   go_upto_region 8 with (fail)
   refine Al 64 [57,58,59,60,61,62,63,71] [0,1,2,3,4,5,6,7] (fun a0 HA0=>?_)
   have oe0:=ev HA0 0 rfl
   have oe1:=ev HA0 1 rfl
   have oe6:=ev HA0 6 rfl
   refine QSeq.pure rfl _ (fun E=>Ah rfl (E.v oe1)) ?_
   refine QSeq.pure rfl _ (fun E=>Ah rfl (E.v oe0)) ?_
   refine QSeq.pure rfl (.pointer (some ⟨g,0,none⟩)) (fun E=>A1 rfl (E.d 1 0)) ?_
   refine QSeq.pure rfl (.pointer (some ⟨g,0,none⟩)) (fun E=>Ai rfl Try.underlying72 rfl (by kernel_rfl) (E.d 2 0)) ?_
   refine QSeq.pure rfl _ (fun E=>Am rfl Try.underlying70 rfl (E.d 3 0) (Cs.lit1 Hx20.out rfl)) ?_
   refine QSeq.pure rfl (.int .i64 (L.length+1)) (fun E=>ex_lenS rfl (E.d 4 0) Try.underlying70) ?_
   refine QSeq.go fun act E=>?_
   refine qc_run rfl (Ab rfl) (v:=.agg #[.int .i64 y,.int .i64 ((L.length+1:Nat):Int)]) (ex_build rfl (z:=[.int .i64 0,.int .i64 0]) (places:=[(0,1),(1,1)]) (by kernel_rfl) (parts:=[(0,.int .i64 y),(1,.int .i64 (L.length+1))]) (by simp only [List.map_toArray,List.map_cons,List.map_nil,show act.eval (.tmp 57)=.int .i64 y from (E.d 0 5),show act.eval (.tmp 62)=.int .i64 (L.length+1) from (E.d 5 0)];try rfl) (r:=[.int .i64 y,.int .i64 ((L.length+1:Nat):Int)]) (by rfl)) ?_
   clear act E
   refine QSeq.go fun act E=>?_
   refine Bc rfl (Ab rfl) rfl (K4.out.mod Cx23.out (by intro h2;rcases h2 with h2|h2<;>first|omega|(have hb:=HBQ.out _ h2;omega)|exact HXQ.out h2|exact HX3.out h2)) (off:=0) (vs:=[.int .i64 y,.int .i64 ((L.length+1:Nat):Int)]) (by kernel_rfl) (by intro u hu;simp only [List.mem_cons,List.not_mem_nil,or_false] at hu;rcases hu with rfl|rfl<;>rfl) (by simp) (E.v oe6) (ec (E.d 6 0)) ?_
   intro u8_7 qc0 hm
   have qB6:=qc0.eqv (b:=#[.int .i64 y,.int .i64 ((L.length+1:Nat):Int)]) rfl
   clear qc0
   have Hx24:=hid qB6
   have zu8_7:=hm.size
   have Cx25:=hid (show Mod (fun k=>(k=w.heap.size)) u7_3 u8_7 from hm)
   clear hm
   clear act E qB6 K4
   refine QSeq.nil (t':=[_,_,_,_,_,_,_,_]) rfl ?_
   obtain rfl:=HA0.out
   clear HA0 oe0 oe1 oe6
   simp only [pz,Act.put,sIB,sCZ,sCS,List.set_nil]
   go_wp2
   refine bodyPost_ret (Br rfl _ _ (w.heap.size) ([.int .i64 y,.int .i64 ((L.length+1:Nat):Int)]) rfl (fun k u hu=>by rw [Hx24.out.cell];simpa using hu) Try.underlying34 rfl (by kernel_rfl)) rfl ?_
   rw [hsg,hmk]
   exact ⟨rfl,⟨_,(Hx20.out.mod Cx25.out (by intro h2;omega)),Or.inl HG.out,(Hx21.out.mod Cx25.out (by intro k h1 h2;rcases h1 with h1|h1<;>first|omega|(have hb:=HBQ.out k h1;omega)|exact HXQ.out (h2▸h1)|exact HXQ.out (h1▸h2)|exact HX3.out (h2▸h1)|exact HX3.out (h1▸h2)) (by intro k h1 h2;rcases h1 with h1|h1<;>first|omega|(have hb:=HBQ.out k h1;omega)|exact HXQ.out (h2▸h1)|exact HXQ.out (h1▸h2)|exact HX3.out (h2▸h1)|exact HX3.out (h1▸h2))).widen (by intro k h1;rcases h1 with h1|h1<;>first|exact ⟨Or.inl (HQ.out k h1).1,(HQ.out k h1).2⟩|exact ⟨Or.inr (by omega),by omega⟩) (by intro k h1;rcases h1 with h1|h1<;>first|exact ⟨Or.inl (HQ.out k h1).1,(HQ.out k h1).2⟩|exact ⟨Or.inr (by omega),by omega⟩)⟩,((K5.out.trans Cx23.out (by intro k h1 h2;rcases h2 with h2|h2<;>first|exact h2|omega|exact Or.inl h2|exact Or.inr h2|exact Or.inr (Or.inl h2)|exact Or.inr (Or.inr h2)|(have hb:=HBQ.out k h2;omega))).trans Cx25.out (by intro k h1 h2;first|exact h2|omega|exact Or.inl h2|exact Or.inr h2|exact Or.inr (Or.inl h2)|exact Or.inr (Or.inr h2))).mono (fun k _ h=>by rcases h with h|h;exact h▸HG.out;exact (HQ.out k h).1)⟩
end Go.Proofs.Ytbifincepglilaa

/- The reference's book for any list: Right. -/
namespace Go.Proofs.Ytbifincepglilaa
open Go Go.RowKit Go.Gv
set_option maxHeartbeats 3000000 in
theorem RRight_Q {R R3:Nat→Prop} {N:Nat} {w:World} {g:Nat} {L:List (Int × List Int)} {v:Value} {bs:List Int} (h:RbO R w g L) (hap:Apart_ L) (y m:Int) (hm:I64 m) (hr:RdR R3 N w v bs) (hk:SgK (y,bs)) (hB:∀ k,R k→k < w.heap.size) (hB3:∀ k,R3 k→k < w.heap.size) (hLL:L.length≤100000) :
 Calls Try.prog 68 #[.pointer (some ⟨g,0,none⟩),.agg #[.int .i64 y,.int .i64 m],v] w fun e w'=>e=.returned (.bool (rightF L (y,bs) m))∧Mod (fun _=>False) w w':=by
 have hmI:-9223372036854775808≤m∧m≤9223372036854775807:=hm
 obtain ⟨v0,hc,hg,ho0⟩:=h
 obtain ⟨Q,hQ,ho⟩:∃ Q:Nat→Prop,(∀ k,Q k→R k∧k≠g)∧OwS SgR 128 Q Q w v0 L:=⟨_,fun _ h=>h,ho0⟩
 obtain ⟨ao,cap,rfl⟩:=ho.shape
 have hgl:=hc.lt
 have HBK:=Lib.hid hc
 have HQL:=hid (ho.rd.widen (R':=Q) (fun k h=>h.elim id id))
 have HTX:=Lib.hid hr
 have HBQ:=hid (fun k (h:Q k)=>hB k (hQ k h).1)
 have HB3:=Lib.hid hB3
 have HAP:=Lib.hid hap
 have HK:=Lib.hid hk
 clear hc ho0 ho hQ hr hB hB3 hg hk hap
 change Calls _ _ #[.pointer (some ⟨g,0,none⟩),.agg #[.int .i64 y,.int .i64 m],v] _ _
 go_enter Try.func68,Try.ntmps68
 go_upto_region 1 with (fail)
 obtain ⟨w1,hw1⟩:∃ zz,zz=(w.alloc (.cells #[.int .i64 y,.int .i64 m] 34)):=⟨_,rfl⟩
 change Code.wp _ _ _ _ (w.alloc (.cells #[.int .i64 y,.int .i64 m] 34))
 rw [← hw1]
 have HB4:=hid (show Cs w1 (w.heap.size) #[.int .i64 y,.int .i64 m] 34 by rw [hw1];exact Cs.new _ _ _)
 have hm:Mod (fun _=>False) w w1:=by rw [hw1];exact (Mod.refl _ _).alloc _
 have HM0:=hid (show Mod (fun _=>False) w w1 from hm.mono (fun _ _ h=>h.elim))
 have hs1:w1.heap.size=w.heap.size+1:=by rw [hw1];simp
 have Hx1:=hid (HBK.out.mod hm (fun h=>h))
 clear HBK
 have Hx2:=hid (HQL.out.mod hm (fun _ _ h=>h))
 clear HQL
 have Hx3:=hid (HTX.out.mod hm (fun _ _ h=>h))
 clear HTX
 clear hw1 hm
 by_cases h1:1≤m
 ·skip
  by_cases h2:m≤(L.length:Nat)
  ·skip
   obtain ⟨k,hk⟩:∃ k:Nat,(m - 1).toNat=k:=⟨_,rfl⟩
   have hlt:k < L.length:=by omega
   obtain ⟨g1,o1,cs1,ea,hrg,hrd,hcs⟩:=Hx2.out.at hlt
   obtain ⟨rfl,hok⟩:=hrd
   have hz:=List.getElem?_eq_getElem hlt
   generalize L[k]=z at hcs hok hz
   subst ea
   have HAT:=hid (show CellsAt Q w1 g1 (o1+k * 2) [.int .i64 z.1,.string (strOfNums z.2)] from ⟨hrg,hcs⟩)
   have HOK:=Lib.hid hok
   have HZ:=Lib.hid hz
   clear hrg hcs hok hz
   by_cases h3:z.1=y
   ·skip
    by_cases h4:z.2=bs
    ·skip
     go_upto_region 1 with (fail)
     generalize ha0:Act.mk _ _=a0
     have oe0:a0.eval (.tmp 0)=.pointer (some ⟨g,0,none⟩):=by rw [← ha0];rfl
     have oe2:a0.eval (.tmp 2)=v:=by rw [← ha0];rfl
     have oe4:a0.eval (.tmp 4)=.pointer (some ⟨w.heap.size,0,none⟩):=by rw [← ha0];rfl
     have hsz0:a0.tmps.size=50:=by rw [← ha0];rfl
     have HA0:=hid ha0
     clear ha0
     refine Az 50 hsz0 [7,8,9,10,11,12,13,14,15,16,17,18,19,20,21,22,23,24,25,26,27,28,29,30,31,32,33,34,35,36,37,38,39,40,41,42,43,44,45,46,47,48,49,6] [qi (.pointer (some ⟨w.heap.size,1,none⟩)),qi (.int .i64 m),qi (.bool true),qi (.bool true),qi (.pointer (some ⟨w.heap.size,1,none⟩)),qi (.int .i64 m),qi (.pointer (some ⟨g,0,none⟩)),qi (.pointer (some ⟨g,0,none⟩)),qi (.pointer (some ⟨g,0,none⟩)),qi (.slice (some ⟨g1,o1,none⟩) L.length cap),qi (.int .i64 L.length),qi (.bool true),qi (.bool true),qi (.bool true),qi (.pointer (some ⟨g,0,none⟩)),qi (.pointer (some ⟨g,0,none⟩)),qi (.pointer (some ⟨g,0,none⟩)),qi (.slice (some ⟨g1,o1,none⟩) L.length cap),qi (.pointer (some ⟨w.heap.size,1,none⟩)),qi (.int .i64 m),qi (.int .i64 ((k:Nat):Int)),qi (.pointer (some ⟨g1,o1+k * 2,none⟩)),qi (.pointer (some ⟨g1,o1+k * 2,none⟩)),qi (.int .i64 z.1),qi (.pointer (some ⟨w.heap.size,0,none⟩)),qi (.int .i64 y),qi (.bool true),qi (.bool true),qi (.bool true),qi (.pointer (some ⟨g,0,none⟩)),qi (.pointer (some ⟨g,0,none⟩)),qi (.pointer (some ⟨g,0,none⟩)),qi (.slice (some ⟨g1,o1,none⟩) L.length cap),qi (.pointer (some ⟨w.heap.size,1,none⟩)),qi (.int .i64 m),qi (.int .i64 ((k:Nat):Int)),qi (.pointer (some ⟨g1,o1+k * 2,none⟩)),qi (.pointer (some ⟨g1,o1+k * 2+1,none⟩)),qi (.string (strOfNums z.2)),qi (v),qi (.string (strOfNums bs)),qi (.bool true),qi (.bool true),qi (.bool true)] ⟨Aa,Aa,Aa,Aa,Aa,Aa,Aa,Aa,Aa,Aa,Aa,Aa,Aa,Aa,Aa,Aa,Aa,Aa,Aa,Aa,Aa,Aa,Aa,Aa,Aa,Aa,Aa,Aa,Aa,Aa,Aa,Aa,Aa,Aa,Aa,Aa,Aa,Aa,Aa,Aa,Aa,Aa,Aa,Aa,trivial⟩ [] ⟨?_,?_,?_,?_,?_,?_,?_,?_,?_,?_,?_,?_,?_,?_,?_,?_,?_,?_,?_,?_,?_,?_,?_,?_,?_,?_,?_,?_,?_,?_,?_,?_,?_,?_,?_,?_,?_,?_,?_,?_,?_,?_,?_,?_,trivial⟩ ?_
     ·exact stq (fun E=>Ai rfl Try.underlying34 rfl (by kernel_rfl) (E.v oe4))
     ·exact stq (fun E=>Am rfl Try.underlying3 rfl (E.d 0) (Cs.lit1 (HB4.out.mod E.m.old (by intro h2;omega)) rfl))
     ·exact stq (fun E=>Av rfl (E.d 1) rfl (Ak _ _ _ _ _ _) (B3 _ _ _ Try.underlying3) (congrArg Value.bool (decide_eq_true (by omega))))
     ·exact stq (fun E=>Ah rfl (E.d 2))
     ·refine Ag rfl rfl rfl fun _ _ _ _ _ _ _ hout hsz hd _ _=>?_
      have h3:=hd ⟨3,.guard⟩ (by simp) rfl _ rfl
      refine Aq rfl ((Ad rfl rfl (hsz 10 (by decide)) h3).trans rfl) (Ai rfl Try.underlying34 rfl (by kernel_rfl) ((hout 4 (by decide)).trans oe4)) QE.refl ?_
      rfl
     ·refine Ag rfl rfl rfl fun _ _ _ _ _ hm _ _ hsz hd _ _=>?_
      have h3:=hd ⟨3,.guard⟩ (by simp) rfl _ rfl
      have h4:=hd ⟨4,.data⟩ (by simp) rfl _ rfl
      refine Aq rfl ((Ad rfl rfl (hsz 10 (by decide)) h3).trans rfl) (Am rfl Try.underlying3 rfl h4 (Cs.lit1 (HB4.out.mod hm.old (by intro h2;omega)) rfl)) QE.refl ?_
      rfl
     ·refine Ag rfl rfl rfl fun _ _ _ _ _ _ _ hout hsz hd _ _=>?_
      have h3:=hd ⟨3,.guard⟩ (by simp) rfl _ rfl
      refine Aq rfl ((Ad rfl rfl (hsz 10 (by decide)) h3).trans rfl) (Ah rfl ((hout 0 (by decide)).trans oe0)) QE.refl ?_
      rfl
     ·refine Ag rfl rfl rfl fun _ _ _ _ _ _ _ _ hsz hd _ _=>?_
      have h3:=hd ⟨3,.guard⟩ (by simp) rfl _ rfl
      have h6:=hd ⟨6,.data⟩ (by simp) rfl _ rfl
      refine Aq rfl ((Ad rfl rfl (hsz 10 (by decide)) h3).trans rfl) (A1 rfl h6) QE.refl ?_
      rfl
     ·refine Ag rfl rfl rfl fun _ _ _ _ _ _ _ _ hsz hd _ _=>?_
      have h3:=hd ⟨3,.guard⟩ (by simp) rfl _ rfl
      have h7:=hd ⟨7,.data⟩ (by simp) rfl _ rfl
      refine Aq rfl ((Ad rfl rfl (hsz 10 (by decide)) h3).trans rfl) (Ai rfl Try.underlying72 rfl (by kernel_rfl) h7) QE.refl ?_
      rfl
     ·refine Ag rfl rfl rfl fun _ _ _ _ _ hm _ _ hsz hd _ _=>?_
      have h3:=hd ⟨3,.guard⟩ (by simp) rfl _ rfl
      have h8:=hd ⟨8,.data⟩ (by simp) rfl _ rfl
      refine Aq rfl ((Ad rfl rfl (hsz 10 (by decide)) h3).trans rfl) (Am rfl Try.underlying70 rfl h8 (Cs.lit1 (Hx1.out.mod hm.old (by intro h2;omega)) rfl)) QE.refl ?_
      rfl
     ·refine Ag rfl rfl rfl fun _ _ _ _ _ _ _ _ hsz hd _ _=>?_
      have h3:=hd ⟨3,.guard⟩ (by simp) rfl _ rfl
      have h9:=hd ⟨9,.data⟩ (by simp) rfl _ rfl
      refine Aq rfl ((Ad rfl rfl (hsz 10 (by decide)) h3).trans rfl) (ex_lenS rfl h9 Try.underlying70) QE.refl ?_
      rfl
     ·refine Ag rfl rfl rfl fun _ _ _ _ _ _ _ _ hsz hd _ _=>?_
      have h3:=hd ⟨3,.guard⟩ (by simp) rfl _ rfl
      have h5:=hd ⟨5,.data⟩ (by simp) rfl _ rfl
      have h10:=hd ⟨10,.data⟩ (by simp) rfl _ rfl
      refine Aq rfl ((Ad rfl rfl (hsz 10 (by decide)) h3).trans rfl) (Av rfl h5 h10 (Ak _ _ _ _ _ _) (run_leq_i _ _ _ Try.underlying3) (congrArg Value.bool (decide_eq_true (by omega)))) QE.refl ?_
      rfl
     ·exact stq (fun E=>A5 rfl (E.d 3) (E.d 11) rfl)
     ·exact stq (fun E=>Ah rfl (E.d 12))
     ·refine Ag rfl rfl rfl fun _ _ _ _ _ _ _ hout hsz hd _ _=>?_
      have h13:=hd ⟨13,.guard⟩ (by simp) rfl _ rfl
      refine Aq rfl ((Ad rfl rfl (hsz 20 (by decide)) h13).trans rfl) (Ah rfl ((hout 0 (by decide)).trans oe0)) QE.refl ?_
      rfl
     ·refine Ag rfl rfl rfl fun _ _ _ _ _ _ _ _ hsz hd _ _=>?_
      have h13:=hd ⟨13,.guard⟩ (by simp) rfl _ rfl
      have h14:=hd ⟨14,.data⟩ (by simp) rfl _ rfl
      refine Aq rfl ((Ad rfl rfl (hsz 20 (by decide)) h13).trans rfl) (A1 rfl h14) QE.refl ?_
      rfl
     ·refine Ag rfl rfl rfl fun _ _ _ _ _ _ _ _ hsz hd _ _=>?_
      have h13:=hd ⟨13,.guard⟩ (by simp) rfl _ rfl
      have h15:=hd ⟨15,.data⟩ (by simp) rfl _ rfl
      refine Aq rfl ((Ad rfl rfl (hsz 20 (by decide)) h13).trans rfl) (Ai rfl Try.underlying72 rfl (by kernel_rfl) h15) QE.refl ?_
      rfl
     ·refine Ag rfl rfl rfl fun _ _ _ _ _ hm _ _ hsz hd _ _=>?_
      have h13:=hd ⟨13,.guard⟩ (by simp) rfl _ rfl
      have h16:=hd ⟨16,.data⟩ (by simp) rfl _ rfl
      refine Aq rfl ((Ad rfl rfl (hsz 20 (by decide)) h13).trans rfl) (Am rfl Try.underlying70 rfl h16 (Cs.lit1 (Hx1.out.mod hm.old (by intro h2;omega)) rfl)) QE.refl ?_
      rfl
     ·refine Ag rfl rfl rfl fun _ _ _ _ _ _ _ hout hsz hd _ _=>?_
      have h13:=hd ⟨13,.guard⟩ (by simp) rfl _ rfl
      refine Aq rfl ((Ad rfl rfl (hsz 20 (by decide)) h13).trans rfl) (Ai rfl Try.underlying34 rfl (by kernel_rfl) ((hout 4 (by decide)).trans oe4)) QE.refl ?_
      rfl
     ·refine Ag rfl rfl rfl fun _ _ _ _ _ hm _ _ hsz hd _ _=>?_
      have h13:=hd ⟨13,.guard⟩ (by simp) rfl _ rfl
      have h18:=hd ⟨18,.data⟩ (by simp) rfl _ rfl
      refine Aq rfl ((Ad rfl rfl (hsz 20 (by decide)) h13).trans rfl) (Am rfl Try.underlying3 rfl h18 (Cs.lit1 (HB4.out.mod hm.old (by intro h2;omega)) rfl)) QE.refl ?_
      rfl
     ·refine Ag rfl rfl rfl fun _ _ _ _ _ _ _ _ hsz hd _ _=>?_
      have h13:=hd ⟨13,.guard⟩ (by simp) rfl _ rfl
      have h19:=hd ⟨19,.data⟩ (by simp) rfl _ rfl
      refine Aq rfl ((Ad rfl rfl (hsz 20 (by decide)) h13).trans rfl) (Av rfl h19 rfl (Ak _ _ _ _ _ _) (run_sub_i _ _ Try.underlying3) (congrArg (Value.int .i64) (i64_eq (b:=((k:Nat):Int)) (by omega) (by omega) (by omega)))) QE.refl ?_
      rfl
     ·refine Ag rfl rfl rfl fun _ _ _ _ _ _ _ _ hsz hd _ _=>?_
      have h13:=hd ⟨13,.guard⟩ (by simp) rfl _ rfl
      have h17:=hd ⟨17,.data⟩ (by simp) rfl _ rfl
      have h20:=hd ⟨20,.data⟩ (by simp) rfl _ rfl
      refine Aq rfl ((Ad rfl rfl (hsz 20 (by decide)) h13).trans rfl) (ex_idxS (i:=k) (s:=2) rfl Try.underlying70 (by kernel_rfl) h17 h20 hlt) QE.refl ?_
      rfl
     ·refine Ag rfl rfl rfl fun _ _ _ _ _ _ _ _ hsz hd _ _=>?_
      have h13:=hd ⟨13,.guard⟩ (by simp) rfl _ rfl
      have h21:=hd ⟨21,.data⟩ (by simp) rfl _ rfl
      refine Aq rfl ((Ad rfl rfl (hsz 20 (by decide)) h13).trans rfl) (Ai rfl Try.underlying128 rfl (by kernel_rfl) h21) QE.refl ?_
      rfl
     ·refine Ag rfl rfl rfl fun _ _ _ _ _ hm _ _ hsz hd _ _=>?_
      have h13:=hd ⟨13,.guard⟩ (by simp) rfl _ rfl
      have h22:=hd ⟨22,.data⟩ (by simp) rfl _ rfl
      refine Aq rfl ((Ad rfl rfl (hsz 20 (by decide)) h13).trans rfl) (Am rfl Try.underlying3 rfl h22 (((HAT.out.mod hm.old (by intro k h1 h2;have hb:=HBQ.out k h1;omega))).2 0 _ rfl)) QE.refl ?_
      rfl
     ·refine Ag rfl rfl rfl fun _ _ _ _ _ _ _ hout hsz hd _ _=>?_
      have h13:=hd ⟨13,.guard⟩ (by simp) rfl _ rfl
      refine Aq rfl ((Ad rfl rfl (hsz 20 (by decide)) h13).trans rfl) (Ai rfl Try.underlying34 rfl (by kernel_rfl) ((hout 4 (by decide)).trans oe4)) QE.refl ?_
      rfl
     ·refine Ag rfl rfl rfl fun _ _ _ _ _ hm _ _ hsz hd _ _=>?_
      have h13:=hd ⟨13,.guard⟩ (by simp) rfl _ rfl
      have h24:=hd ⟨24,.data⟩ (by simp) rfl _ rfl
      refine Aq rfl ((Ad rfl rfl (hsz 20 (by decide)) h13).trans rfl) (Am rfl Try.underlying3 rfl h24 (Cs.lit1 (HB4.out.mod hm.old (by intro h2;omega)) rfl)) QE.refl ?_
      rfl
     ·refine Ag rfl rfl rfl fun _ _ _ _ _ _ _ _ hsz hd _ _=>?_
      have h13:=hd ⟨13,.guard⟩ (by simp) rfl _ rfl
      have h23:=hd ⟨23,.data⟩ (by simp) rfl _ rfl
      have h25:=hd ⟨25,.data⟩ (by simp) rfl _ rfl
      refine Aq rfl ((Ad rfl rfl (hsz 20 (by decide)) h13).trans rfl) (Av rfl h23 h25 (Ak _ _ _ _ _ _) (Bg _ _ _ Try.underlying3) (congrArg Value.bool (eq_tt h3))) QE.refl ?_
      rfl
     ·exact stq (fun E=>A5 rfl (E.d 13) (E.d 26) rfl)
     ·exact stq (fun E=>Ah rfl (E.d 27))
     ·refine Ag rfl rfl rfl fun _ _ _ _ _ _ _ hout hsz hd _ _=>?_
      have h28:=hd ⟨28,.guard⟩ (by simp) rfl _ rfl
      refine Aq rfl ((Ad rfl rfl (hsz 35 (by decide)) h28).trans rfl) (Ah rfl ((hout 0 (by decide)).trans oe0)) QE.refl ?_
      rfl
     ·refine Ag rfl rfl rfl fun _ _ _ _ _ _ _ _ hsz hd _ _=>?_
      have h28:=hd ⟨28,.guard⟩ (by simp) rfl _ rfl
      have h29:=hd ⟨29,.data⟩ (by simp) rfl _ rfl
      refine Aq rfl ((Ad rfl rfl (hsz 35 (by decide)) h28).trans rfl) (A1 rfl h29) QE.refl ?_
      rfl
     ·refine Ag rfl rfl rfl fun _ _ _ _ _ _ _ _ hsz hd _ _=>?_
      have h28:=hd ⟨28,.guard⟩ (by simp) rfl _ rfl
      have h30:=hd ⟨30,.data⟩ (by simp) rfl _ rfl
      refine Aq rfl ((Ad rfl rfl (hsz 35 (by decide)) h28).trans rfl) (Ai rfl Try.underlying72 rfl (by kernel_rfl) h30) QE.refl ?_
      rfl
     ·refine Ag rfl rfl rfl fun _ _ _ _ _ hm _ _ hsz hd _ _=>?_
      have h28:=hd ⟨28,.guard⟩ (by simp) rfl _ rfl
      have h31:=hd ⟨31,.data⟩ (by simp) rfl _ rfl
      refine Aq rfl ((Ad rfl rfl (hsz 35 (by decide)) h28).trans rfl) (Am rfl Try.underlying70 rfl h31 (Cs.lit1 (Hx1.out.mod hm.old (by intro h2;omega)) rfl)) QE.refl ?_
      rfl
     ·refine Ag rfl rfl rfl fun _ _ _ _ _ _ _ hout hsz hd _ _=>?_
      have h28:=hd ⟨28,.guard⟩ (by simp) rfl _ rfl
      refine Aq rfl ((Ad rfl rfl (hsz 35 (by decide)) h28).trans rfl) (Ai rfl Try.underlying34 rfl (by kernel_rfl) ((hout 4 (by decide)).trans oe4)) QE.refl ?_
      rfl
     ·refine Ag rfl rfl rfl fun _ _ _ _ _ hm _ _ hsz hd _ _=>?_
      have h28:=hd ⟨28,.guard⟩ (by simp) rfl _ rfl
      have h33:=hd ⟨33,.data⟩ (by simp) rfl _ rfl
      refine Aq rfl ((Ad rfl rfl (hsz 35 (by decide)) h28).trans rfl) (Am rfl Try.underlying3 rfl h33 (Cs.lit1 (HB4.out.mod hm.old (by intro h2;omega)) rfl)) QE.refl ?_
      rfl
     ·refine Ag rfl rfl rfl fun _ _ _ _ _ _ _ _ hsz hd _ _=>?_
      have h28:=hd ⟨28,.guard⟩ (by simp) rfl _ rfl
      have h34:=hd ⟨34,.data⟩ (by simp) rfl _ rfl
      refine Aq rfl ((Ad rfl rfl (hsz 35 (by decide)) h28).trans rfl) (Av rfl h34 rfl (Ak _ _ _ _ _ _) (run_sub_i _ _ Try.underlying3) (congrArg (Value.int .i64) (i64_eq (b:=((k:Nat):Int)) (by omega) (by omega) (by omega)))) QE.refl ?_
      rfl
     ·refine Ag rfl rfl rfl fun _ _ _ _ _ _ _ _ hsz hd _ _=>?_
      have h28:=hd ⟨28,.guard⟩ (by simp) rfl _ rfl
      have h32:=hd ⟨32,.data⟩ (by simp) rfl _ rfl
      have h35:=hd ⟨35,.data⟩ (by simp) rfl _ rfl
      refine Aq rfl ((Ad rfl rfl (hsz 35 (by decide)) h28).trans rfl) (ex_idxS (i:=k) (s:=2) rfl Try.underlying70 (by kernel_rfl) h32 h35 hlt) QE.refl ?_
      rfl
     ·refine Ag rfl rfl rfl fun _ _ _ _ _ _ _ _ hsz hd _ _=>?_
      have h28:=hd ⟨28,.guard⟩ (by simp) rfl _ rfl
      have h36:=hd ⟨36,.data⟩ (by simp) rfl _ rfl
      refine Aq rfl ((Ad rfl rfl (hsz 35 (by decide)) h28).trans rfl) (Ai rfl Try.underlying128 rfl (by kernel_rfl) h36) QE.refl ?_
      rfl
     ·refine Ag rfl rfl rfl fun _ _ _ _ _ hm _ _ hsz hd _ _=>?_
      have h28:=hd ⟨28,.guard⟩ (by simp) rfl _ rfl
      have h37:=hd ⟨37,.data⟩ (by simp) rfl _ rfl
      refine Aq rfl ((Ad rfl rfl (hsz 35 (by decide)) h28).trans rfl) (Am rfl Try.underlying9 rfl h37 (((HAT.out.mod hm.old (by intro k h1 h2;have hb:=HBQ.out k h1;omega))).2 1 _ rfl)) QE.refl ?_
      rfl
     ·refine Ag rfl rfl rfl fun _ _ _ _ _ _ _ hout hsz hd _ _=>?_
      have h28:=hd ⟨28,.guard⟩ (by simp) rfl _ rfl
      refine Aq rfl ((Ad rfl rfl (hsz 35 (by decide)) h28).trans rfl) (Ah rfl ((hout 2 (by decide)).trans oe2)) QE.refl ?_
      rfl
     ·refine Ag rfl rfl rfl fun _ _ _ _ _ hm _ _ hsz hd _ _=>?_
      have h28:=hd ⟨28,.guard⟩ (by simp) rfl _ rfl
      have h39:=hd ⟨39,.data⟩ (by simp) rfl _ rfl
      refine Aq rfl ((Ad rfl rfl (hsz 35 (by decide)) h28).trans rfl) (ex_conv rfl h39 (bytes_string (Hx3.out.mod hm.old (by intro k h1 h2;have hb:=HB3.out k h1;omega)).1)) QE.refl ?_
      rfl
     ·refine Ag rfl rfl rfl fun _ _ _ _ _ _ _ _ hsz hd _ _=>?_
      have h28:=hd ⟨28,.guard⟩ (by simp) rfl _ rfl
      have h38:=hd ⟨38,.data⟩ (by simp) rfl _ rfl
      have h40:=hd ⟨40,.data⟩ (by simp) rfl _ rfl
      refine Aq rfl ((Ad rfl rfl (hsz 35 (by decide)) h28).trans rfl) (Av rfl h38 h40 (guard_str _) (run_eql_strN HOK.out.2.1 HK.out.2.1 _) (congrArg Value.bool (decide_eq_true h4))) QE.refl ?_
      rfl
     ·exact stq (fun E=>A5 rfl (E.d 28) (E.d 41) rfl)
     ·exact stq (fun E=>An rfl (E.d 42))
     intro u1_0 hr
     have zu1_0:=hr.size
     have Cx4:=hid (hr.new (S:=(fun _=>False)))
     clear hr
     refine QChain.nil fun vs hl hzz hrows hne=>?_
     obtain ⟨Z,hYZ,hZb,hV⟩:=hzz
     have f3:=fvi hV hl 3
     have f6:=fvi hV hl 6
     have f10:=fvi hV hl 10
     have f13:=fvi hV hl 13
     have f14:=fvi hV hl 14
     have f28:=fvi hV hl 28
     have f29:=fvi hV hl 29
     have f39:=fvi hV hl 39
     have f43:=fvi hV hl 43
     rw [show vs=[gw vs 0,gw vs 1,gw vs 2,gw vs 3,gw vs 4,gw vs 5,gw vs 6,gw vs 7,gw vs 8,gw vs 9,gw vs 10,gw vs 11,gw vs 12,gw vs 13,gw vs 14,gw vs 15,gw vs 16,gw vs 17,gw vs 18,gw vs 19,gw vs 20,gw vs 21,gw vs 22,gw vs 23,gw vs 24,gw vs 25,gw vs 26,gw vs 27,gw vs 28,gw vs 29,gw vs 30,gw vs 31,gw vs 32,gw vs 33,gw vs 34,gw vs 35,gw vs 36,gw vs 37,gw vs 38,gw vs 39,gw vs 40,gw vs 41,gw vs 42,gw vs 43] from (Bh hl).trans rfl]
     have ha0:=HA0.out
     subst ha0
     clear HA0 hV hYZ hZb hsz0 hrows hne oe0 oe2 oe4
     simp only [Ar,Act.put,sIB,sCZ,sCS,f3,f6,f10,f13,f14,f28,f29,f39,f43]
     clear hl f3 f6 f10 f13 f14 f28 f29 f39 f43
     go_wp2
     go_ret
     exact ⟨congrArg (fun z=>Ending.returned (Value.bool z)) (show true=rightF L (y,bs) m by rw [rightF_at HAP.out];rw [decide_eq_true h1,decide_eq_true (show m≤((L.length:Nat):Int) by omega),hk,HZ.out];rw [decide_eq_true (show some z=some (y,bs) by rw [← h3,← h4])];rfl),(HM0.out.trans Cx4.out (fun _ _ h=>h.elim))⟩
    ·skip
     go_upto_region 1 with (fail)
     generalize ha0:Act.mk _ _=a0
     have oe0:a0.eval (.tmp 0)=.pointer (some ⟨g,0,none⟩):=by rw [← ha0];rfl
     have oe2:a0.eval (.tmp 2)=v:=by rw [← ha0];rfl
     have oe4:a0.eval (.tmp 4)=.pointer (some ⟨w.heap.size,0,none⟩):=by rw [← ha0];rfl
     have hsz0:a0.tmps.size=50:=by rw [← ha0];rfl
     have HA0:=hid ha0
     clear ha0
     refine Az 50 hsz0 [7,8,9,10,11,12,13,14,15,16,17,18,19,20,21,22,23,24,25,26,27,28,29,30,31,32,33,34,35,36,37,38,39,40,41,42,43,44,45,46,47,48,49,6] [qi (.pointer (some ⟨w.heap.size,1,none⟩)),qi (.int .i64 m),qi (.bool true),qi (.bool true),qi (.pointer (some ⟨w.heap.size,1,none⟩)),qi (.int .i64 m),qi (.pointer (some ⟨g,0,none⟩)),qi (.pointer (some ⟨g,0,none⟩)),qi (.pointer (some ⟨g,0,none⟩)),qi (.slice (some ⟨g1,o1,none⟩) L.length cap),qi (.int .i64 L.length),qi (.bool true),qi (.bool true),qi (.bool true),qi (.pointer (some ⟨g,0,none⟩)),qi (.pointer (some ⟨g,0,none⟩)),qi (.pointer (some ⟨g,0,none⟩)),qi (.slice (some ⟨g1,o1,none⟩) L.length cap),qi (.pointer (some ⟨w.heap.size,1,none⟩)),qi (.int .i64 m),qi (.int .i64 ((k:Nat):Int)),qi (.pointer (some ⟨g1,o1+k * 2,none⟩)),qi (.pointer (some ⟨g1,o1+k * 2,none⟩)),qi (.int .i64 z.1),qi (.pointer (some ⟨w.heap.size,0,none⟩)),qi (.int .i64 y),qi (.bool true),qi (.bool true),qi (.bool true),qi (.pointer (some ⟨g,0,none⟩)),qi (.pointer (some ⟨g,0,none⟩)),qi (.pointer (some ⟨g,0,none⟩)),qi (.slice (some ⟨g1,o1,none⟩) L.length cap),qi (.pointer (some ⟨w.heap.size,1,none⟩)),qi (.int .i64 m),qi (.int .i64 ((k:Nat):Int)),qi (.pointer (some ⟨g1,o1+k * 2,none⟩)),qi (.pointer (some ⟨g1,o1+k * 2+1,none⟩)),qi (.string (strOfNums z.2)),qi (v),qi (.string (strOfNums bs)),qi (.bool false),qi (.bool false),qi (.bool false)] ⟨Aa,Aa,Aa,Aa,Aa,Aa,Aa,Aa,Aa,Aa,Aa,Aa,Aa,Aa,Aa,Aa,Aa,Aa,Aa,Aa,Aa,Aa,Aa,Aa,Aa,Aa,Aa,Aa,Aa,Aa,Aa,Aa,Aa,Aa,Aa,Aa,Aa,Aa,Aa,Aa,Aa,Aa,Aa,Aa,trivial⟩ [] ⟨?_,?_,?_,?_,?_,?_,?_,?_,?_,?_,?_,?_,?_,?_,?_,?_,?_,?_,?_,?_,?_,?_,?_,?_,?_,?_,?_,?_,?_,?_,?_,?_,?_,?_,?_,?_,?_,?_,?_,?_,?_,?_,?_,?_,trivial⟩ ?_
     ·exact stq (fun E=>Ai rfl Try.underlying34 rfl (by kernel_rfl) (E.v oe4))
     ·exact stq (fun E=>Am rfl Try.underlying3 rfl (E.d 0) (Cs.lit1 (HB4.out.mod E.m.old (by intro h2;omega)) rfl))
     ·exact stq (fun E=>Av rfl (E.d 1) rfl (Ak _ _ _ _ _ _) (B3 _ _ _ Try.underlying3) (congrArg Value.bool (decide_eq_true (by omega))))
     ·exact stq (fun E=>Ah rfl (E.d 2))
     ·refine Ag rfl rfl rfl fun _ _ _ _ _ _ _ hout hsz hd _ _=>?_
      have h3:=hd ⟨3,.guard⟩ (by simp) rfl _ rfl
      refine Aq rfl ((Ad rfl rfl (hsz 10 (by decide)) h3).trans rfl) (Ai rfl Try.underlying34 rfl (by kernel_rfl) ((hout 4 (by decide)).trans oe4)) QE.refl ?_
      rfl
     ·refine Ag rfl rfl rfl fun _ _ _ _ _ hm _ _ hsz hd _ _=>?_
      have h3:=hd ⟨3,.guard⟩ (by simp) rfl _ rfl
      have h4:=hd ⟨4,.data⟩ (by simp) rfl _ rfl
      refine Aq rfl ((Ad rfl rfl (hsz 10 (by decide)) h3).trans rfl) (Am rfl Try.underlying3 rfl h4 (Cs.lit1 (HB4.out.mod hm.old (by intro h2;omega)) rfl)) QE.refl ?_
      rfl
     ·refine Ag rfl rfl rfl fun _ _ _ _ _ _ _ hout hsz hd _ _=>?_
      have h3:=hd ⟨3,.guard⟩ (by simp) rfl _ rfl
      refine Aq rfl ((Ad rfl rfl (hsz 10 (by decide)) h3).trans rfl) (Ah rfl ((hout 0 (by decide)).trans oe0)) QE.refl ?_
      rfl
     ·refine Ag rfl rfl rfl fun _ _ _ _ _ _ _ _ hsz hd _ _=>?_
      have h3:=hd ⟨3,.guard⟩ (by simp) rfl _ rfl
      have h6:=hd ⟨6,.data⟩ (by simp) rfl _ rfl
      refine Aq rfl ((Ad rfl rfl (hsz 10 (by decide)) h3).trans rfl) (A1 rfl h6) QE.refl ?_
      rfl
     ·refine Ag rfl rfl rfl fun _ _ _ _ _ _ _ _ hsz hd _ _=>?_
      have h3:=hd ⟨3,.guard⟩ (by simp) rfl _ rfl
      have h7:=hd ⟨7,.data⟩ (by simp) rfl _ rfl
      refine Aq rfl ((Ad rfl rfl (hsz 10 (by decide)) h3).trans rfl) (Ai rfl Try.underlying72 rfl (by kernel_rfl) h7) QE.refl ?_
      rfl
     ·refine Ag rfl rfl rfl fun _ _ _ _ _ hm _ _ hsz hd _ _=>?_
      have h3:=hd ⟨3,.guard⟩ (by simp) rfl _ rfl
      have h8:=hd ⟨8,.data⟩ (by simp) rfl _ rfl
      refine Aq rfl ((Ad rfl rfl (hsz 10 (by decide)) h3).trans rfl) (Am rfl Try.underlying70 rfl h8 (Cs.lit1 (Hx1.out.mod hm.old (by intro h2;omega)) rfl)) QE.refl ?_
      rfl
     ·refine Ag rfl rfl rfl fun _ _ _ _ _ _ _ _ hsz hd _ _=>?_
      have h3:=hd ⟨3,.guard⟩ (by simp) rfl _ rfl
      have h9:=hd ⟨9,.data⟩ (by simp) rfl _ rfl
      refine Aq rfl ((Ad rfl rfl (hsz 10 (by decide)) h3).trans rfl) (ex_lenS rfl h9 Try.underlying70) QE.refl ?_
      rfl
     ·refine Ag rfl rfl rfl fun _ _ _ _ _ _ _ _ hsz hd _ _=>?_
      have h3:=hd ⟨3,.guard⟩ (by simp) rfl _ rfl
      have h5:=hd ⟨5,.data⟩ (by simp) rfl _ rfl
      have h10:=hd ⟨10,.data⟩ (by simp) rfl _ rfl
      refine Aq rfl ((Ad rfl rfl (hsz 10 (by decide)) h3).trans rfl) (Av rfl h5 h10 (Ak _ _ _ _ _ _) (run_leq_i _ _ _ Try.underlying3) (congrArg Value.bool (decide_eq_true (by omega)))) QE.refl ?_
      rfl
     ·exact stq (fun E=>A5 rfl (E.d 3) (E.d 11) rfl)
     ·exact stq (fun E=>Ah rfl (E.d 12))
     ·refine Ag rfl rfl rfl fun _ _ _ _ _ _ _ hout hsz hd _ _=>?_
      have h13:=hd ⟨13,.guard⟩ (by simp) rfl _ rfl
      refine Aq rfl ((Ad rfl rfl (hsz 20 (by decide)) h13).trans rfl) (Ah rfl ((hout 0 (by decide)).trans oe0)) QE.refl ?_
      rfl
     ·refine Ag rfl rfl rfl fun _ _ _ _ _ _ _ _ hsz hd _ _=>?_
      have h13:=hd ⟨13,.guard⟩ (by simp) rfl _ rfl
      have h14:=hd ⟨14,.data⟩ (by simp) rfl _ rfl
      refine Aq rfl ((Ad rfl rfl (hsz 20 (by decide)) h13).trans rfl) (A1 rfl h14) QE.refl ?_
      rfl
     ·refine Ag rfl rfl rfl fun _ _ _ _ _ _ _ _ hsz hd _ _=>?_
      have h13:=hd ⟨13,.guard⟩ (by simp) rfl _ rfl
      have h15:=hd ⟨15,.data⟩ (by simp) rfl _ rfl
      refine Aq rfl ((Ad rfl rfl (hsz 20 (by decide)) h13).trans rfl) (Ai rfl Try.underlying72 rfl (by kernel_rfl) h15) QE.refl ?_
      rfl
     ·refine Ag rfl rfl rfl fun _ _ _ _ _ hm _ _ hsz hd _ _=>?_
      have h13:=hd ⟨13,.guard⟩ (by simp) rfl _ rfl
      have h16:=hd ⟨16,.data⟩ (by simp) rfl _ rfl
      refine Aq rfl ((Ad rfl rfl (hsz 20 (by decide)) h13).trans rfl) (Am rfl Try.underlying70 rfl h16 (Cs.lit1 (Hx1.out.mod hm.old (by intro h2;omega)) rfl)) QE.refl ?_
      rfl
     ·refine Ag rfl rfl rfl fun _ _ _ _ _ _ _ hout hsz hd _ _=>?_
      have h13:=hd ⟨13,.guard⟩ (by simp) rfl _ rfl
      refine Aq rfl ((Ad rfl rfl (hsz 20 (by decide)) h13).trans rfl) (Ai rfl Try.underlying34 rfl (by kernel_rfl) ((hout 4 (by decide)).trans oe4)) QE.refl ?_
      rfl
     ·refine Ag rfl rfl rfl fun _ _ _ _ _ hm _ _ hsz hd _ _=>?_
      have h13:=hd ⟨13,.guard⟩ (by simp) rfl _ rfl
      have h18:=hd ⟨18,.data⟩ (by simp) rfl _ rfl
      refine Aq rfl ((Ad rfl rfl (hsz 20 (by decide)) h13).trans rfl) (Am rfl Try.underlying3 rfl h18 (Cs.lit1 (HB4.out.mod hm.old (by intro h2;omega)) rfl)) QE.refl ?_
      rfl
     ·refine Ag rfl rfl rfl fun _ _ _ _ _ _ _ _ hsz hd _ _=>?_
      have h13:=hd ⟨13,.guard⟩ (by simp) rfl _ rfl
      have h19:=hd ⟨19,.data⟩ (by simp) rfl _ rfl
      refine Aq rfl ((Ad rfl rfl (hsz 20 (by decide)) h13).trans rfl) (Av rfl h19 rfl (Ak _ _ _ _ _ _) (run_sub_i _ _ Try.underlying3) (congrArg (Value.int .i64) (i64_eq (b:=((k:Nat):Int)) (by omega) (by omega) (by omega)))) QE.refl ?_
      rfl
     ·refine Ag rfl rfl rfl fun _ _ _ _ _ _ _ _ hsz hd _ _=>?_
      have h13:=hd ⟨13,.guard⟩ (by simp) rfl _ rfl
      have h17:=hd ⟨17,.data⟩ (by simp) rfl _ rfl
      have h20:=hd ⟨20,.data⟩ (by simp) rfl _ rfl
      refine Aq rfl ((Ad rfl rfl (hsz 20 (by decide)) h13).trans rfl) (ex_idxS (i:=k) (s:=2) rfl Try.underlying70 (by kernel_rfl) h17 h20 hlt) QE.refl ?_
      rfl
     ·refine Ag rfl rfl rfl fun _ _ _ _ _ _ _ _ hsz hd _ _=>?_
      have h13:=hd ⟨13,.guard⟩ (by simp) rfl _ rfl
      have h21:=hd ⟨21,.data⟩ (by simp) rfl _ rfl
      refine Aq rfl ((Ad rfl rfl (hsz 20 (by decide)) h13).trans rfl) (Ai rfl Try.underlying128 rfl (by kernel_rfl) h21) QE.refl ?_
      rfl
     ·refine Ag rfl rfl rfl fun _ _ _ _ _ hm _ _ hsz hd _ _=>?_
      have h13:=hd ⟨13,.guard⟩ (by simp) rfl _ rfl
      have h22:=hd ⟨22,.data⟩ (by simp) rfl _ rfl
      refine Aq rfl ((Ad rfl rfl (hsz 20 (by decide)) h13).trans rfl) (Am rfl Try.underlying3 rfl h22 (((HAT.out.mod hm.old (by intro k h1 h2;have hb:=HBQ.out k h1;omega))).2 0 _ rfl)) QE.refl ?_
      rfl
     ·refine Ag rfl rfl rfl fun _ _ _ _ _ _ _ hout hsz hd _ _=>?_
      have h13:=hd ⟨13,.guard⟩ (by simp) rfl _ rfl
      refine Aq rfl ((Ad rfl rfl (hsz 20 (by decide)) h13).trans rfl) (Ai rfl Try.underlying34 rfl (by kernel_rfl) ((hout 4 (by decide)).trans oe4)) QE.refl ?_
      rfl
     ·refine Ag rfl rfl rfl fun _ _ _ _ _ hm _ _ hsz hd _ _=>?_
      have h13:=hd ⟨13,.guard⟩ (by simp) rfl _ rfl
      have h24:=hd ⟨24,.data⟩ (by simp) rfl _ rfl
      refine Aq rfl ((Ad rfl rfl (hsz 20 (by decide)) h13).trans rfl) (Am rfl Try.underlying3 rfl h24 (Cs.lit1 (HB4.out.mod hm.old (by intro h2;omega)) rfl)) QE.refl ?_
      rfl
     ·refine Ag rfl rfl rfl fun _ _ _ _ _ _ _ _ hsz hd _ _=>?_
      have h13:=hd ⟨13,.guard⟩ (by simp) rfl _ rfl
      have h23:=hd ⟨23,.data⟩ (by simp) rfl _ rfl
      have h25:=hd ⟨25,.data⟩ (by simp) rfl _ rfl
      refine Aq rfl ((Ad rfl rfl (hsz 20 (by decide)) h13).trans rfl) (Av rfl h23 h25 (Ak _ _ _ _ _ _) (Bg _ _ _ Try.underlying3) (congrArg Value.bool (eq_tt h3))) QE.refl ?_
      rfl
     ·exact stq (fun E=>A5 rfl (E.d 13) (E.d 26) rfl)
     ·exact stq (fun E=>Ah rfl (E.d 27))
     ·refine Ag rfl rfl rfl fun _ _ _ _ _ _ _ hout hsz hd _ _=>?_
      have h28:=hd ⟨28,.guard⟩ (by simp) rfl _ rfl
      refine Aq rfl ((Ad rfl rfl (hsz 35 (by decide)) h28).trans rfl) (Ah rfl ((hout 0 (by decide)).trans oe0)) QE.refl ?_
      rfl
     ·refine Ag rfl rfl rfl fun _ _ _ _ _ _ _ _ hsz hd _ _=>?_
      have h28:=hd ⟨28,.guard⟩ (by simp) rfl _ rfl
      have h29:=hd ⟨29,.data⟩ (by simp) rfl _ rfl
      refine Aq rfl ((Ad rfl rfl (hsz 35 (by decide)) h28).trans rfl) (A1 rfl h29) QE.refl ?_
      rfl
     ·refine Ag rfl rfl rfl fun _ _ _ _ _ _ _ _ hsz hd _ _=>?_
      have h28:=hd ⟨28,.guard⟩ (by simp) rfl _ rfl
      have h30:=hd ⟨30,.data⟩ (by simp) rfl _ rfl
      refine Aq rfl ((Ad rfl rfl (hsz 35 (by decide)) h28).trans rfl) (Ai rfl Try.underlying72 rfl (by kernel_rfl) h30) QE.refl ?_
      rfl
     ·refine Ag rfl rfl rfl fun _ _ _ _ _ hm _ _ hsz hd _ _=>?_
      have h28:=hd ⟨28,.guard⟩ (by simp) rfl _ rfl
      have h31:=hd ⟨31,.data⟩ (by simp) rfl _ rfl
      refine Aq rfl ((Ad rfl rfl (hsz 35 (by decide)) h28).trans rfl) (Am rfl Try.underlying70 rfl h31 (Cs.lit1 (Hx1.out.mod hm.old (by intro h2;omega)) rfl)) QE.refl ?_
      rfl
     ·refine Ag rfl rfl rfl fun _ _ _ _ _ _ _ hout hsz hd _ _=>?_
      have h28:=hd ⟨28,.guard⟩ (by simp) rfl _ rfl
      refine Aq rfl ((Ad rfl rfl (hsz 35 (by decide)) h28).trans rfl) (Ai rfl Try.underlying34 rfl (by kernel_rfl) ((hout 4 (by decide)).trans oe4)) QE.refl ?_
      rfl
     ·refine Ag rfl rfl rfl fun _ _ _ _ _ hm _ _ hsz hd _ _=>?_
      have h28:=hd ⟨28,.guard⟩ (by simp) rfl _ rfl
      have h33:=hd ⟨33,.data⟩ (by simp) rfl _ rfl
      refine Aq rfl ((Ad rfl rfl (hsz 35 (by decide)) h28).trans rfl) (Am rfl Try.underlying3 rfl h33 (Cs.lit1 (HB4.out.mod hm.old (by intro h2;omega)) rfl)) QE.refl ?_
      rfl
     ·refine Ag rfl rfl rfl fun _ _ _ _ _ _ _ _ hsz hd _ _=>?_
      have h28:=hd ⟨28,.guard⟩ (by simp) rfl _ rfl
      have h34:=hd ⟨34,.data⟩ (by simp) rfl _ rfl
      refine Aq rfl ((Ad rfl rfl (hsz 35 (by decide)) h28).trans rfl) (Av rfl h34 rfl (Ak _ _ _ _ _ _) (run_sub_i _ _ Try.underlying3) (congrArg (Value.int .i64) (i64_eq (b:=((k:Nat):Int)) (by omega) (by omega) (by omega)))) QE.refl ?_
      rfl
     ·refine Ag rfl rfl rfl fun _ _ _ _ _ _ _ _ hsz hd _ _=>?_
      have h28:=hd ⟨28,.guard⟩ (by simp) rfl _ rfl
      have h32:=hd ⟨32,.data⟩ (by simp) rfl _ rfl
      have h35:=hd ⟨35,.data⟩ (by simp) rfl _ rfl
      refine Aq rfl ((Ad rfl rfl (hsz 35 (by decide)) h28).trans rfl) (ex_idxS (i:=k) (s:=2) rfl Try.underlying70 (by kernel_rfl) h32 h35 hlt) QE.refl ?_
      rfl
     ·refine Ag rfl rfl rfl fun _ _ _ _ _ _ _ _ hsz hd _ _=>?_
      have h28:=hd ⟨28,.guard⟩ (by simp) rfl _ rfl
      have h36:=hd ⟨36,.data⟩ (by simp) rfl _ rfl
      refine Aq rfl ((Ad rfl rfl (hsz 35 (by decide)) h28).trans rfl) (Ai rfl Try.underlying128 rfl (by kernel_rfl) h36) QE.refl ?_
      rfl
     ·refine Ag rfl rfl rfl fun _ _ _ _ _ hm _ _ hsz hd _ _=>?_
      have h28:=hd ⟨28,.guard⟩ (by simp) rfl _ rfl
      have h37:=hd ⟨37,.data⟩ (by simp) rfl _ rfl
      refine Aq rfl ((Ad rfl rfl (hsz 35 (by decide)) h28).trans rfl) (Am rfl Try.underlying9 rfl h37 (((HAT.out.mod hm.old (by intro k h1 h2;have hb:=HBQ.out k h1;omega))).2 1 _ rfl)) QE.refl ?_
      rfl
     ·refine Ag rfl rfl rfl fun _ _ _ _ _ _ _ hout hsz hd _ _=>?_
      have h28:=hd ⟨28,.guard⟩ (by simp) rfl _ rfl
      refine Aq rfl ((Ad rfl rfl (hsz 35 (by decide)) h28).trans rfl) (Ah rfl ((hout 2 (by decide)).trans oe2)) QE.refl ?_
      rfl
     ·refine Ag rfl rfl rfl fun _ _ _ _ _ hm _ _ hsz hd _ _=>?_
      have h28:=hd ⟨28,.guard⟩ (by simp) rfl _ rfl
      have h39:=hd ⟨39,.data⟩ (by simp) rfl _ rfl
      refine Aq rfl ((Ad rfl rfl (hsz 35 (by decide)) h28).trans rfl) (ex_conv rfl h39 (bytes_string (Hx3.out.mod hm.old (by intro k h1 h2;have hb:=HB3.out k h1;omega)).1)) QE.refl ?_
      rfl
     ·refine Ag rfl rfl rfl fun _ _ _ _ _ _ _ _ hsz hd _ _=>?_
      have h28:=hd ⟨28,.guard⟩ (by simp) rfl _ rfl
      have h38:=hd ⟨38,.data⟩ (by simp) rfl _ rfl
      have h40:=hd ⟨40,.data⟩ (by simp) rfl _ rfl
      refine Aq rfl ((Ad rfl rfl (hsz 35 (by decide)) h28).trans rfl) (Av rfl h38 h40 (guard_str _) (run_eql_strN HOK.out.2.1 HK.out.2.1 _) (congrArg Value.bool (decide_eq_false h4))) QE.refl ?_
      rfl
     ·exact stq (fun E=>A5 rfl (E.d 28) (E.d 41) rfl)
     ·exact stq (fun E=>An rfl (E.d 42))
     intro u1_0 hr
     have zu1_0:=hr.size
     have Cx5:=hid (hr.new (S:=(fun _=>False)))
     clear hr
     refine QChain.nil fun vs hl hzz hrows hne=>?_
     obtain ⟨Z,hYZ,hZb,hV⟩:=hzz
     have f3:=fvi hV hl 3
     have f6:=fvi hV hl 6
     have f10:=fvi hV hl 10
     have f13:=fvi hV hl 13
     have f14:=fvi hV hl 14
     have f28:=fvi hV hl 28
     have f29:=fvi hV hl 29
     have f39:=fvi hV hl 39
     have f43:=fvi hV hl 43
     rw [show vs=[gw vs 0,gw vs 1,gw vs 2,gw vs 3,gw vs 4,gw vs 5,gw vs 6,gw vs 7,gw vs 8,gw vs 9,gw vs 10,gw vs 11,gw vs 12,gw vs 13,gw vs 14,gw vs 15,gw vs 16,gw vs 17,gw vs 18,gw vs 19,gw vs 20,gw vs 21,gw vs 22,gw vs 23,gw vs 24,gw vs 25,gw vs 26,gw vs 27,gw vs 28,gw vs 29,gw vs 30,gw vs 31,gw vs 32,gw vs 33,gw vs 34,gw vs 35,gw vs 36,gw vs 37,gw vs 38,gw vs 39,gw vs 40,gw vs 41,gw vs 42,gw vs 43] from (Bh hl).trans rfl]
     have ha0:=HA0.out
     subst ha0
     clear HA0 hV hYZ hZb hsz0 hrows hne oe0 oe2 oe4
     simp only [Ar,Act.put,sIB,sCZ,sCS,f3,f6,f10,f13,f14,f28,f29,f39,f43]
     clear hl f3 f6 f10 f13 f14 f28 f29 f39 f43
     go_wp2
     go_ret
     exact ⟨congrArg (fun z=>Ending.returned (Value.bool z)) (show false=rightF L (y,bs) m by rw [rightF_at HAP.out];rw [decide_eq_true h1,decide_eq_true (show m≤((L.length:Nat):Int) by omega),hk,HZ.out];rw [decide_eq_false (show ¬ some z=some (y,bs) from fun e=>h4 (by have e2:=Option.some.inj e;rw [e2]))];rfl),(HM0.out.trans Cx5.out (fun _ _ h=>h.elim))⟩
   ·skip
    go_upto_region 1 with (fail)
    generalize ha0:Act.mk _ _=a0
    have oe0:a0.eval (.tmp 0)=.pointer (some ⟨g,0,none⟩):=by rw [← ha0];rfl
    have oe4:a0.eval (.tmp 4)=.pointer (some ⟨w.heap.size,0,none⟩):=by rw [← ha0];rfl
    have hsz0:a0.tmps.size=50:=by rw [← ha0];rfl
    have HA0:=hid ha0
    clear ha0
    refine Az 50 hsz0 [7,8,9,10,11,12,13,14,15,16,17,18,19,20,21,22,23,24,25,26,27,28,29,30,31,32,33,34,35,36,37,38,39,40,41,42,43,44,45,46,47,48,49,6] [qi (.pointer (some ⟨w.heap.size,1,none⟩)),qi (.int .i64 m),qi (.bool true),qi (.bool true),qi (.pointer (some ⟨w.heap.size,1,none⟩)),qi (.int .i64 m),qi (.pointer (some ⟨g,0,none⟩)),qi (.pointer (some ⟨g,0,none⟩)),qi (.pointer (some ⟨g,0,none⟩)),qi (.slice (some ⟨g1,o1,none⟩) L.length cap),qi (.int .i64 L.length),qi (.bool true),qi (.bool true),qi (.bool true),qi (.pointer (some ⟨g,0,none⟩)),qi (.pointer (some ⟨g,0,none⟩)),qi (.pointer (some ⟨g,0,none⟩)),qi (.slice (some ⟨g1,o1,none⟩) L.length cap),qi (.pointer (some ⟨w.heap.size,1,none⟩)),qi (.int .i64 m),qi (.int .i64 ((k:Nat):Int)),qi (.pointer (some ⟨g1,o1+k * 2,none⟩)),qi (.pointer (some ⟨g1,o1+k * 2,none⟩)),qi (.int .i64 z.1),qi (.pointer (some ⟨w.heap.size,0,none⟩)),qi (.int .i64 y),qi (.bool false),qi (.bool false),qi (.bool false),qi undef,qi undef,qi undef,qi undef,qi undef,qi undef,qi undef,qi undef,qi undef,qi undef,qi undef,qi undef,qi undef,qi (.bool false),qi (.bool false)] ⟨Aa,Aa,Aa,Aa,Aa,Aa,Aa,Aa,Aa,Aa,Aa,Aa,Aa,Aa,Aa,Aa,Aa,Aa,Aa,Aa,Aa,Aa,Aa,Aa,Aa,Aa,Aa,Aa,Aa,Aa,Aa,Aa,Aa,Aa,Aa,Aa,Aa,Aa,Aa,Aa,Aa,Aa,Aa,Aa,trivial⟩ [] ⟨?_,?_,?_,?_,?_,?_,?_,?_,?_,?_,?_,?_,?_,?_,?_,?_,?_,?_,?_,?_,?_,?_,?_,?_,?_,?_,?_,?_,?_,?_,?_,?_,?_,?_,?_,?_,?_,?_,?_,?_,?_,?_,?_,?_,trivial⟩ ?_
    ·exact stq (fun E=>Ai rfl Try.underlying34 rfl (by kernel_rfl) (E.v oe4))
    ·exact stq (fun E=>Am rfl Try.underlying3 rfl (E.d 0) (Cs.lit1 (HB4.out.mod E.m.old (by intro h2;omega)) rfl))
    ·exact stq (fun E=>Av rfl (E.d 1) rfl (Ak _ _ _ _ _ _) (B3 _ _ _ Try.underlying3) (congrArg Value.bool (decide_eq_true (by omega))))
    ·exact stq (fun E=>Ah rfl (E.d 2))
    ·refine Ag rfl rfl rfl fun _ _ _ _ _ _ _ hout hsz hd _ _=>?_
     have h3:=hd ⟨3,.guard⟩ (by simp) rfl _ rfl
     refine Aq rfl ((Ad rfl rfl (hsz 10 (by decide)) h3).trans rfl) (Ai rfl Try.underlying34 rfl (by kernel_rfl) ((hout 4 (by decide)).trans oe4)) QE.refl ?_
     rfl
    ·refine Ag rfl rfl rfl fun _ _ _ _ _ hm _ _ hsz hd _ _=>?_
     have h3:=hd ⟨3,.guard⟩ (by simp) rfl _ rfl
     have h4:=hd ⟨4,.data⟩ (by simp) rfl _ rfl
     refine Aq rfl ((Ad rfl rfl (hsz 10 (by decide)) h3).trans rfl) (Am rfl Try.underlying3 rfl h4 (Cs.lit1 (HB4.out.mod hm.old (by intro h2;omega)) rfl)) QE.refl ?_
     rfl
    ·refine Ag rfl rfl rfl fun _ _ _ _ _ _ _ hout hsz hd _ _=>?_
     have h3:=hd ⟨3,.guard⟩ (by simp) rfl _ rfl
     refine Aq rfl ((Ad rfl rfl (hsz 10 (by decide)) h3).trans rfl) (Ah rfl ((hout 0 (by decide)).trans oe0)) QE.refl ?_
     rfl
    ·refine Ag rfl rfl rfl fun _ _ _ _ _ _ _ _ hsz hd _ _=>?_
     have h3:=hd ⟨3,.guard⟩ (by simp) rfl _ rfl
     have h6:=hd ⟨6,.data⟩ (by simp) rfl _ rfl
     refine Aq rfl ((Ad rfl rfl (hsz 10 (by decide)) h3).trans rfl) (A1 rfl h6) QE.refl ?_
     rfl
    ·refine Ag rfl rfl rfl fun _ _ _ _ _ _ _ _ hsz hd _ _=>?_
     have h3:=hd ⟨3,.guard⟩ (by simp) rfl _ rfl
     have h7:=hd ⟨7,.data⟩ (by simp) rfl _ rfl
     refine Aq rfl ((Ad rfl rfl (hsz 10 (by decide)) h3).trans rfl) (Ai rfl Try.underlying72 rfl (by kernel_rfl) h7) QE.refl ?_
     rfl
    ·refine Ag rfl rfl rfl fun _ _ _ _ _ hm _ _ hsz hd _ _=>?_
     have h3:=hd ⟨3,.guard⟩ (by simp) rfl _ rfl
     have h8:=hd ⟨8,.data⟩ (by simp) rfl _ rfl
     refine Aq rfl ((Ad rfl rfl (hsz 10 (by decide)) h3).trans rfl) (Am rfl Try.underlying70 rfl h8 (Cs.lit1 (Hx1.out.mod hm.old (by intro h2;omega)) rfl)) QE.refl ?_
     rfl
    ·refine Ag rfl rfl rfl fun _ _ _ _ _ _ _ _ hsz hd _ _=>?_
     have h3:=hd ⟨3,.guard⟩ (by simp) rfl _ rfl
     have h9:=hd ⟨9,.data⟩ (by simp) rfl _ rfl
     refine Aq rfl ((Ad rfl rfl (hsz 10 (by decide)) h3).trans rfl) (ex_lenS rfl h9 Try.underlying70) QE.refl ?_
     rfl
    ·refine Ag rfl rfl rfl fun _ _ _ _ _ _ _ _ hsz hd _ _=>?_
     have h3:=hd ⟨3,.guard⟩ (by simp) rfl _ rfl
     have h5:=hd ⟨5,.data⟩ (by simp) rfl _ rfl
     have h10:=hd ⟨10,.data⟩ (by simp) rfl _ rfl
     refine Aq rfl ((Ad rfl rfl (hsz 10 (by decide)) h3).trans rfl) (Av rfl h5 h10 (Ak _ _ _ _ _ _) (run_leq_i _ _ _ Try.underlying3) (congrArg Value.bool (decide_eq_true (by omega)))) QE.refl ?_
     rfl
    ·exact stq (fun E=>A5 rfl (E.d 3) (E.d 11) rfl)
    ·exact stq (fun E=>Ah rfl (E.d 12))
    ·refine Ag rfl rfl rfl fun _ _ _ _ _ _ _ hout hsz hd _ _=>?_
     have h13:=hd ⟨13,.guard⟩ (by simp) rfl _ rfl
     refine Aq rfl ((Ad rfl rfl (hsz 20 (by decide)) h13).trans rfl) (Ah rfl ((hout 0 (by decide)).trans oe0)) QE.refl ?_
     rfl
    ·refine Ag rfl rfl rfl fun _ _ _ _ _ _ _ _ hsz hd _ _=>?_
     have h13:=hd ⟨13,.guard⟩ (by simp) rfl _ rfl
     have h14:=hd ⟨14,.data⟩ (by simp) rfl _ rfl
     refine Aq rfl ((Ad rfl rfl (hsz 20 (by decide)) h13).trans rfl) (A1 rfl h14) QE.refl ?_
     rfl
    ·refine Ag rfl rfl rfl fun _ _ _ _ _ _ _ _ hsz hd _ _=>?_
     have h13:=hd ⟨13,.guard⟩ (by simp) rfl _ rfl
     have h15:=hd ⟨15,.data⟩ (by simp) rfl _ rfl
     refine Aq rfl ((Ad rfl rfl (hsz 20 (by decide)) h13).trans rfl) (Ai rfl Try.underlying72 rfl (by kernel_rfl) h15) QE.refl ?_
     rfl
    ·refine Ag rfl rfl rfl fun _ _ _ _ _ hm _ _ hsz hd _ _=>?_
     have h13:=hd ⟨13,.guard⟩ (by simp) rfl _ rfl
     have h16:=hd ⟨16,.data⟩ (by simp) rfl _ rfl
     refine Aq rfl ((Ad rfl rfl (hsz 20 (by decide)) h13).trans rfl) (Am rfl Try.underlying70 rfl h16 (Cs.lit1 (Hx1.out.mod hm.old (by intro h2;omega)) rfl)) QE.refl ?_
     rfl
    ·refine Ag rfl rfl rfl fun _ _ _ _ _ _ _ hout hsz hd _ _=>?_
     have h13:=hd ⟨13,.guard⟩ (by simp) rfl _ rfl
     refine Aq rfl ((Ad rfl rfl (hsz 20 (by decide)) h13).trans rfl) (Ai rfl Try.underlying34 rfl (by kernel_rfl) ((hout 4 (by decide)).trans oe4)) QE.refl ?_
     rfl
    ·refine Ag rfl rfl rfl fun _ _ _ _ _ hm _ _ hsz hd _ _=>?_
     have h13:=hd ⟨13,.guard⟩ (by simp) rfl _ rfl
     have h18:=hd ⟨18,.data⟩ (by simp) rfl _ rfl
     refine Aq rfl ((Ad rfl rfl (hsz 20 (by decide)) h13).trans rfl) (Am rfl Try.underlying3 rfl h18 (Cs.lit1 (HB4.out.mod hm.old (by intro h2;omega)) rfl)) QE.refl ?_
     rfl
    ·refine Ag rfl rfl rfl fun _ _ _ _ _ _ _ _ hsz hd _ _=>?_
     have h13:=hd ⟨13,.guard⟩ (by simp) rfl _ rfl
     have h19:=hd ⟨19,.data⟩ (by simp) rfl _ rfl
     refine Aq rfl ((Ad rfl rfl (hsz 20 (by decide)) h13).trans rfl) (Av rfl h19 rfl (Ak _ _ _ _ _ _) (run_sub_i _ _ Try.underlying3) (congrArg (Value.int .i64) (i64_eq (b:=((k:Nat):Int)) (by omega) (by omega) (by omega)))) QE.refl ?_
     rfl
    ·refine Ag rfl rfl rfl fun _ _ _ _ _ _ _ _ hsz hd _ _=>?_
     have h13:=hd ⟨13,.guard⟩ (by simp) rfl _ rfl
     have h17:=hd ⟨17,.data⟩ (by simp) rfl _ rfl
     have h20:=hd ⟨20,.data⟩ (by simp) rfl _ rfl
     refine Aq rfl ((Ad rfl rfl (hsz 20 (by decide)) h13).trans rfl) (ex_idxS (i:=k) (s:=2) rfl Try.underlying70 (by kernel_rfl) h17 h20 hlt) QE.refl ?_
     rfl
    ·refine Ag rfl rfl rfl fun _ _ _ _ _ _ _ _ hsz hd _ _=>?_
     have h13:=hd ⟨13,.guard⟩ (by simp) rfl _ rfl
     have h21:=hd ⟨21,.data⟩ (by simp) rfl _ rfl
     refine Aq rfl ((Ad rfl rfl (hsz 20 (by decide)) h13).trans rfl) (Ai rfl Try.underlying128 rfl (by kernel_rfl) h21) QE.refl ?_
     rfl
    ·refine Ag rfl rfl rfl fun _ _ _ _ _ hm _ _ hsz hd _ _=>?_
     have h13:=hd ⟨13,.guard⟩ (by simp) rfl _ rfl
     have h22:=hd ⟨22,.data⟩ (by simp) rfl _ rfl
     refine Aq rfl ((Ad rfl rfl (hsz 20 (by decide)) h13).trans rfl) (Am rfl Try.underlying3 rfl h22 (((HAT.out.mod hm.old (by intro k h1 h2;have hb:=HBQ.out k h1;omega))).2 0 _ rfl)) QE.refl ?_
     rfl
    ·refine Ag rfl rfl rfl fun _ _ _ _ _ _ _ hout hsz hd _ _=>?_
     have h13:=hd ⟨13,.guard⟩ (by simp) rfl _ rfl
     refine Aq rfl ((Ad rfl rfl (hsz 20 (by decide)) h13).trans rfl) (Ai rfl Try.underlying34 rfl (by kernel_rfl) ((hout 4 (by decide)).trans oe4)) QE.refl ?_
     rfl
    ·refine Ag rfl rfl rfl fun _ _ _ _ _ hm _ _ hsz hd _ _=>?_
     have h13:=hd ⟨13,.guard⟩ (by simp) rfl _ rfl
     have h24:=hd ⟨24,.data⟩ (by simp) rfl _ rfl
     refine Aq rfl ((Ad rfl rfl (hsz 20 (by decide)) h13).trans rfl) (Am rfl Try.underlying3 rfl h24 (Cs.lit1 (HB4.out.mod hm.old (by intro h2;omega)) rfl)) QE.refl ?_
     rfl
    ·refine Ag rfl rfl rfl fun _ _ _ _ _ _ _ _ hsz hd _ _=>?_
     have h13:=hd ⟨13,.guard⟩ (by simp) rfl _ rfl
     have h23:=hd ⟨23,.data⟩ (by simp) rfl _ rfl
     have h25:=hd ⟨25,.data⟩ (by simp) rfl _ rfl
     refine Aq rfl ((Ad rfl rfl (hsz 20 (by decide)) h13).trans rfl) (Av rfl h23 h25 (Ak _ _ _ _ _ _) (Bg _ _ _ Try.underlying3) (congrArg Value.bool (eq_ff h3))) QE.refl ?_
     rfl
    ·exact stq (fun E=>A5 rfl (E.d 13) (E.d 26) rfl)
    ·exact stq (fun E=>Ah rfl (E.d 27))
    ·refine Ag rfl rfl rfl fun _ _ _ _ _ _ _ _ hsz hd _ _=>?_
     have h28:=hd ⟨28,.guard⟩ (by simp) rfl _ rfl
     exact Aw rfl ((Ad rfl rfl (hsz 35 (by decide)) h28).trans rfl) rfl
    ·refine Ag rfl rfl rfl fun _ _ _ _ _ _ _ _ hsz hd _ _=>?_
     have h28:=hd ⟨28,.guard⟩ (by simp) rfl _ rfl
     exact Aw rfl ((Ad rfl rfl (hsz 35 (by decide)) h28).trans rfl) rfl
    ·refine Ag rfl rfl rfl fun _ _ _ _ _ _ _ _ hsz hd _ _=>?_
     have h28:=hd ⟨28,.guard⟩ (by simp) rfl _ rfl
     exact Aw rfl ((Ad rfl rfl (hsz 35 (by decide)) h28).trans rfl) rfl
    ·refine Ag rfl rfl rfl fun _ _ _ _ _ _ _ _ hsz hd _ _=>?_
     have h28:=hd ⟨28,.guard⟩ (by simp) rfl _ rfl
     exact Aw rfl ((Ad rfl rfl (hsz 35 (by decide)) h28).trans rfl) rfl
    ·refine Ag rfl rfl rfl fun _ _ _ _ _ _ _ _ hsz hd _ _=>?_
     have h28:=hd ⟨28,.guard⟩ (by simp) rfl _ rfl
     exact Aw rfl ((Ad rfl rfl (hsz 35 (by decide)) h28).trans rfl) rfl
    ·refine Ag rfl rfl rfl fun _ _ _ _ _ _ _ _ hsz hd _ _=>?_
     have h28:=hd ⟨28,.guard⟩ (by simp) rfl _ rfl
     exact Aw rfl ((Ad rfl rfl (hsz 35 (by decide)) h28).trans rfl) rfl
    ·refine Ag rfl rfl rfl fun _ _ _ _ _ _ _ _ hsz hd _ _=>?_
     have h28:=hd ⟨28,.guard⟩ (by simp) rfl _ rfl
     exact Aw rfl ((Ad rfl rfl (hsz 35 (by decide)) h28).trans rfl) rfl
    ·refine Ag rfl rfl rfl fun _ _ _ _ _ _ _ _ hsz hd _ _=>?_
     have h28:=hd ⟨28,.guard⟩ (by simp) rfl _ rfl
     exact Aw rfl ((Ad rfl rfl (hsz 35 (by decide)) h28).trans rfl) rfl
    ·refine Ag rfl rfl rfl fun _ _ _ _ _ _ _ _ hsz hd _ _=>?_
     have h28:=hd ⟨28,.guard⟩ (by simp) rfl _ rfl
     exact Aw rfl ((Ad rfl rfl (hsz 35 (by decide)) h28).trans rfl) rfl
    ·refine Ag rfl rfl rfl fun _ _ _ _ _ _ _ _ hsz hd _ _=>?_
     have h28:=hd ⟨28,.guard⟩ (by simp) rfl _ rfl
     exact Aw rfl ((Ad rfl rfl (hsz 35 (by decide)) h28).trans rfl) rfl
    ·refine Ag rfl rfl rfl fun _ _ _ _ _ _ _ _ hsz hd _ _=>?_
     have h28:=hd ⟨28,.guard⟩ (by simp) rfl _ rfl
     exact Aw rfl ((Ad rfl rfl (hsz 35 (by decide)) h28).trans rfl) rfl
    ·refine Ag rfl rfl rfl fun _ _ _ _ _ _ _ _ hsz hd _ _=>?_
     have h28:=hd ⟨28,.guard⟩ (by simp) rfl _ rfl
     exact Aw rfl ((Ad rfl rfl (hsz 35 (by decide)) h28).trans rfl) rfl
    ·refine Ag rfl rfl rfl fun _ _ _ _ _ _ _ _ hsz hd _ _=>?_
     have h28:=hd ⟨28,.guard⟩ (by simp) rfl _ rfl
     exact Aw rfl ((Ad rfl rfl (hsz 35 (by decide)) h28).trans rfl) rfl
    ·exact stq (fun E=>A5 rfl (E.d 28) (E.d 41) rfl)
    ·exact stq (fun E=>An rfl (E.d 42))
    intro u1_0 hr
    have zu1_0:=hr.size
    have Cx6:=hid (hr.new (S:=(fun _=>False)))
    clear hr
    refine QChain.nil fun vs hl hzz hrows hne=>?_
    obtain ⟨Z,hYZ,hZb,hV⟩:=hzz
    have f3:=fvi hV hl 3
    have f6:=fvi hV hl 6
    have f10:=fvi hV hl 10
    have f13:=fvi hV hl 13
    have f14:=fvi hV hl 14
    have f28:=fvi hV hl 28
    have f29:=fvi hV hl 29
    have f39:=fvi hV hl 39
    have f43:=fvi hV hl 43
    rw [show vs=[gw vs 0,gw vs 1,gw vs 2,gw vs 3,gw vs 4,gw vs 5,gw vs 6,gw vs 7,gw vs 8,gw vs 9,gw vs 10,gw vs 11,gw vs 12,gw vs 13,gw vs 14,gw vs 15,gw vs 16,gw vs 17,gw vs 18,gw vs 19,gw vs 20,gw vs 21,gw vs 22,gw vs 23,gw vs 24,gw vs 25,gw vs 26,gw vs 27,gw vs 28,gw vs 29,gw vs 30,gw vs 31,gw vs 32,gw vs 33,gw vs 34,gw vs 35,gw vs 36,gw vs 37,gw vs 38,gw vs 39,gw vs 40,gw vs 41,gw vs 42,gw vs 43] from (Bh hl).trans rfl]
    have ha0:=HA0.out
    subst ha0
    clear HA0 hV hYZ hZb hsz0 hrows hne oe0 oe4
    simp only [Ar,Act.put,sIB,sCZ,sCS,f3,f6,f10,f13,f14,f28,f29,f39,f43]
    clear hl f3 f6 f10 f13 f14 f28 f29 f39 f43
    go_wp2
    go_ret
    exact ⟨congrArg (fun z=>Ending.returned (Value.bool z)) (show false=rightF L (y,bs) m by rw [rightF_at HAP.out];rw [decide_eq_true h1,decide_eq_true (show m≤((L.length:Nat):Int) by omega),hk,HZ.out];rw [decide_eq_false (show ¬ some z=some (y,bs) from fun e=>h3 (by have e2:=Option.some.inj e;rw [e2]))];rfl),(HM0.out.trans Cx6.out (fun _ _ h=>h.elim))⟩
  ·skip
   go_upto_region 1 with (fail)
   generalize ha0:Act.mk _ _=a0
   have oe0:a0.eval (.tmp 0)=.pointer (some ⟨g,0,none⟩):=by rw [← ha0];rfl
   have oe4:a0.eval (.tmp 4)=.pointer (some ⟨w.heap.size,0,none⟩):=by rw [← ha0];rfl
   have hsz0:a0.tmps.size=50:=by rw [← ha0];rfl
   have HA0:=hid ha0
   clear ha0
   refine Az 50 hsz0 [7,8,9,10,11,12,13,14,15,16,17,18,19,20,21,22,23,24,25,26,27,28,29,30,31,32,33,34,35,36,37,38,39,40,41,42,43,44,45,46,47,48,49,6] [qi (.pointer (some ⟨w.heap.size,1,none⟩)),qi (.int .i64 m),qi (.bool true),qi (.bool true),qi (.pointer (some ⟨w.heap.size,1,none⟩)),qi (.int .i64 m),qi (.pointer (some ⟨g,0,none⟩)),qi (.pointer (some ⟨g,0,none⟩)),qi (.pointer (some ⟨g,0,none⟩)),qi (.slice ao L.length cap),qi (.int .i64 L.length),qi (.bool false),qi (.bool false),qi (.bool false),qi undef,qi undef,qi undef,qi undef,qi undef,qi undef,qi undef,qi undef,qi undef,qi undef,qi undef,qi undef,qi undef,qi (.bool false),qi (.bool false),qi undef,qi undef,qi undef,qi undef,qi undef,qi undef,qi undef,qi undef,qi undef,qi undef,qi undef,qi undef,qi undef,qi (.bool false),qi (.bool false)] ⟨Aa,Aa,Aa,Aa,Aa,Aa,Aa,Aa,Aa,Aa,Aa,Aa,Aa,Aa,Aa,Aa,Aa,Aa,Aa,Aa,Aa,Aa,Aa,Aa,Aa,Aa,Aa,Aa,Aa,Aa,Aa,Aa,Aa,Aa,Aa,Aa,Aa,Aa,Aa,Aa,Aa,Aa,Aa,Aa,trivial⟩ [] ⟨?_,?_,?_,?_,?_,?_,?_,?_,?_,?_,?_,?_,?_,?_,?_,?_,?_,?_,?_,?_,?_,?_,?_,?_,?_,?_,?_,?_,?_,?_,?_,?_,?_,?_,?_,?_,?_,?_,?_,?_,?_,?_,?_,?_,trivial⟩ ?_
   ·exact stq (fun E=>Ai rfl Try.underlying34 rfl (by kernel_rfl) (E.v oe4))
   ·exact stq (fun E=>Am rfl Try.underlying3 rfl (E.d 0) (Cs.lit1 (HB4.out.mod E.m.old (by intro h2;omega)) rfl))
   ·exact stq (fun E=>Av rfl (E.d 1) rfl (Ak _ _ _ _ _ _) (B3 _ _ _ Try.underlying3) (congrArg Value.bool (decide_eq_true (by omega))))
   ·exact stq (fun E=>Ah rfl (E.d 2))
   ·refine Ag rfl rfl rfl fun _ _ _ _ _ _ _ hout hsz hd _ _=>?_
    have h3:=hd ⟨3,.guard⟩ (by simp) rfl _ rfl
    refine Aq rfl ((Ad rfl rfl (hsz 10 (by decide)) h3).trans rfl) (Ai rfl Try.underlying34 rfl (by kernel_rfl) ((hout 4 (by decide)).trans oe4)) QE.refl ?_
    rfl
   ·refine Ag rfl rfl rfl fun _ _ _ _ _ hm _ _ hsz hd _ _=>?_
    have h3:=hd ⟨3,.guard⟩ (by simp) rfl _ rfl
    have h4:=hd ⟨4,.data⟩ (by simp) rfl _ rfl
    refine Aq rfl ((Ad rfl rfl (hsz 10 (by decide)) h3).trans rfl) (Am rfl Try.underlying3 rfl h4 (Cs.lit1 (HB4.out.mod hm.old (by intro h2;omega)) rfl)) QE.refl ?_
    rfl
   ·refine Ag rfl rfl rfl fun _ _ _ _ _ _ _ hout hsz hd _ _=>?_
    have h3:=hd ⟨3,.guard⟩ (by simp) rfl _ rfl
    refine Aq rfl ((Ad rfl rfl (hsz 10 (by decide)) h3).trans rfl) (Ah rfl ((hout 0 (by decide)).trans oe0)) QE.refl ?_
    rfl
   ·refine Ag rfl rfl rfl fun _ _ _ _ _ _ _ _ hsz hd _ _=>?_
    have h3:=hd ⟨3,.guard⟩ (by simp) rfl _ rfl
    have h6:=hd ⟨6,.data⟩ (by simp) rfl _ rfl
    refine Aq rfl ((Ad rfl rfl (hsz 10 (by decide)) h3).trans rfl) (A1 rfl h6) QE.refl ?_
    rfl
   ·refine Ag rfl rfl rfl fun _ _ _ _ _ _ _ _ hsz hd _ _=>?_
    have h3:=hd ⟨3,.guard⟩ (by simp) rfl _ rfl
    have h7:=hd ⟨7,.data⟩ (by simp) rfl _ rfl
    refine Aq rfl ((Ad rfl rfl (hsz 10 (by decide)) h3).trans rfl) (Ai rfl Try.underlying72 rfl (by kernel_rfl) h7) QE.refl ?_
    rfl
   ·refine Ag rfl rfl rfl fun _ _ _ _ _ hm _ _ hsz hd _ _=>?_
    have h3:=hd ⟨3,.guard⟩ (by simp) rfl _ rfl
    have h8:=hd ⟨8,.data⟩ (by simp) rfl _ rfl
    refine Aq rfl ((Ad rfl rfl (hsz 10 (by decide)) h3).trans rfl) (Am rfl Try.underlying70 rfl h8 (Cs.lit1 (Hx1.out.mod hm.old (by intro h2;omega)) rfl)) QE.refl ?_
    rfl
   ·refine Ag rfl rfl rfl fun _ _ _ _ _ _ _ _ hsz hd _ _=>?_
    have h3:=hd ⟨3,.guard⟩ (by simp) rfl _ rfl
    have h9:=hd ⟨9,.data⟩ (by simp) rfl _ rfl
    refine Aq rfl ((Ad rfl rfl (hsz 10 (by decide)) h3).trans rfl) (ex_lenS rfl h9 Try.underlying70) QE.refl ?_
    rfl
   ·refine Ag rfl rfl rfl fun _ _ _ _ _ _ _ _ hsz hd _ _=>?_
    have h3:=hd ⟨3,.guard⟩ (by simp) rfl _ rfl
    have h5:=hd ⟨5,.data⟩ (by simp) rfl _ rfl
    have h10:=hd ⟨10,.data⟩ (by simp) rfl _ rfl
    refine Aq rfl ((Ad rfl rfl (hsz 10 (by decide)) h3).trans rfl) (Av rfl h5 h10 (Ak _ _ _ _ _ _) (run_leq_i _ _ _ Try.underlying3) (congrArg Value.bool (decide_eq_false (by omega)))) QE.refl ?_
    rfl
   ·exact stq (fun E=>A5 rfl (E.d 3) (E.d 11) rfl)
   ·exact stq (fun E=>Ah rfl (E.d 12))
   ·refine Ag rfl rfl rfl fun _ _ _ _ _ _ _ _ hsz hd _ _=>?_
    have h13:=hd ⟨13,.guard⟩ (by simp) rfl _ rfl
    exact Aw rfl ((Ad rfl rfl (hsz 20 (by decide)) h13).trans rfl) rfl
   ·refine Ag rfl rfl rfl fun _ _ _ _ _ _ _ _ hsz hd _ _=>?_
    have h13:=hd ⟨13,.guard⟩ (by simp) rfl _ rfl
    exact Aw rfl ((Ad rfl rfl (hsz 20 (by decide)) h13).trans rfl) rfl
   ·refine Ag rfl rfl rfl fun _ _ _ _ _ _ _ _ hsz hd _ _=>?_
    have h13:=hd ⟨13,.guard⟩ (by simp) rfl _ rfl
    exact Aw rfl ((Ad rfl rfl (hsz 20 (by decide)) h13).trans rfl) rfl
   ·refine Ag rfl rfl rfl fun _ _ _ _ _ _ _ _ hsz hd _ _=>?_
    have h13:=hd ⟨13,.guard⟩ (by simp) rfl _ rfl
    exact Aw rfl ((Ad rfl rfl (hsz 20 (by decide)) h13).trans rfl) rfl
   ·refine Ag rfl rfl rfl fun _ _ _ _ _ _ _ _ hsz hd _ _=>?_
    have h13:=hd ⟨13,.guard⟩ (by simp) rfl _ rfl
    exact Aw rfl ((Ad rfl rfl (hsz 20 (by decide)) h13).trans rfl) rfl
   ·refine Ag rfl rfl rfl fun _ _ _ _ _ _ _ _ hsz hd _ _=>?_
    have h13:=hd ⟨13,.guard⟩ (by simp) rfl _ rfl
    exact Aw rfl ((Ad rfl rfl (hsz 20 (by decide)) h13).trans rfl) rfl
   ·refine Ag rfl rfl rfl fun _ _ _ _ _ _ _ _ hsz hd _ _=>?_
    have h13:=hd ⟨13,.guard⟩ (by simp) rfl _ rfl
    exact Aw rfl ((Ad rfl rfl (hsz 20 (by decide)) h13).trans rfl) rfl
   ·refine Ag rfl rfl rfl fun _ _ _ _ _ _ _ _ hsz hd _ _=>?_
    have h13:=hd ⟨13,.guard⟩ (by simp) rfl _ rfl
    exact Aw rfl ((Ad rfl rfl (hsz 20 (by decide)) h13).trans rfl) rfl
   ·refine Ag rfl rfl rfl fun _ _ _ _ _ _ _ _ hsz hd _ _=>?_
    have h13:=hd ⟨13,.guard⟩ (by simp) rfl _ rfl
    exact Aw rfl ((Ad rfl rfl (hsz 20 (by decide)) h13).trans rfl) rfl
   ·refine Ag rfl rfl rfl fun _ _ _ _ _ _ _ _ hsz hd _ _=>?_
    have h13:=hd ⟨13,.guard⟩ (by simp) rfl _ rfl
    exact Aw rfl ((Ad rfl rfl (hsz 20 (by decide)) h13).trans rfl) rfl
   ·refine Ag rfl rfl rfl fun _ _ _ _ _ _ _ _ hsz hd _ _=>?_
    have h13:=hd ⟨13,.guard⟩ (by simp) rfl _ rfl
    exact Aw rfl ((Ad rfl rfl (hsz 20 (by decide)) h13).trans rfl) rfl
   ·refine Ag rfl rfl rfl fun _ _ _ _ _ _ _ _ hsz hd _ _=>?_
    have h13:=hd ⟨13,.guard⟩ (by simp) rfl _ rfl
    exact Aw rfl ((Ad rfl rfl (hsz 20 (by decide)) h13).trans rfl) rfl
   ·refine Ag rfl rfl rfl fun _ _ _ _ _ _ _ _ hsz hd _ _=>?_
    have h13:=hd ⟨13,.guard⟩ (by simp) rfl _ rfl
    exact Aw rfl ((Ad rfl rfl (hsz 20 (by decide)) h13).trans rfl) rfl
   ·exact stq (fun E=>A5 rfl (E.d 13) (E.d 26) rfl)
   ·exact stq (fun E=>Ah rfl (E.d 27))
   ·refine Ag rfl rfl rfl fun _ _ _ _ _ _ _ _ hsz hd _ _=>?_
    have h28:=hd ⟨28,.guard⟩ (by simp) rfl _ rfl
    exact Aw rfl ((Ad rfl rfl (hsz 35 (by decide)) h28).trans rfl) rfl
   ·refine Ag rfl rfl rfl fun _ _ _ _ _ _ _ _ hsz hd _ _=>?_
    have h28:=hd ⟨28,.guard⟩ (by simp) rfl _ rfl
    exact Aw rfl ((Ad rfl rfl (hsz 35 (by decide)) h28).trans rfl) rfl
   ·refine Ag rfl rfl rfl fun _ _ _ _ _ _ _ _ hsz hd _ _=>?_
    have h28:=hd ⟨28,.guard⟩ (by simp) rfl _ rfl
    exact Aw rfl ((Ad rfl rfl (hsz 35 (by decide)) h28).trans rfl) rfl
   ·refine Ag rfl rfl rfl fun _ _ _ _ _ _ _ _ hsz hd _ _=>?_
    have h28:=hd ⟨28,.guard⟩ (by simp) rfl _ rfl
    exact Aw rfl ((Ad rfl rfl (hsz 35 (by decide)) h28).trans rfl) rfl
   ·refine Ag rfl rfl rfl fun _ _ _ _ _ _ _ _ hsz hd _ _=>?_
    have h28:=hd ⟨28,.guard⟩ (by simp) rfl _ rfl
    exact Aw rfl ((Ad rfl rfl (hsz 35 (by decide)) h28).trans rfl) rfl
   ·refine Ag rfl rfl rfl fun _ _ _ _ _ _ _ _ hsz hd _ _=>?_
    have h28:=hd ⟨28,.guard⟩ (by simp) rfl _ rfl
    exact Aw rfl ((Ad rfl rfl (hsz 35 (by decide)) h28).trans rfl) rfl
   ·refine Ag rfl rfl rfl fun _ _ _ _ _ _ _ _ hsz hd _ _=>?_
    have h28:=hd ⟨28,.guard⟩ (by simp) rfl _ rfl
    exact Aw rfl ((Ad rfl rfl (hsz 35 (by decide)) h28).trans rfl) rfl
   ·refine Ag rfl rfl rfl fun _ _ _ _ _ _ _ _ hsz hd _ _=>?_
    have h28:=hd ⟨28,.guard⟩ (by simp) rfl _ rfl
    exact Aw rfl ((Ad rfl rfl (hsz 35 (by decide)) h28).trans rfl) rfl
   ·refine Ag rfl rfl rfl fun _ _ _ _ _ _ _ _ hsz hd _ _=>?_
    have h28:=hd ⟨28,.guard⟩ (by simp) rfl _ rfl
    exact Aw rfl ((Ad rfl rfl (hsz 35 (by decide)) h28).trans rfl) rfl
   ·refine Ag rfl rfl rfl fun _ _ _ _ _ _ _ _ hsz hd _ _=>?_
    have h28:=hd ⟨28,.guard⟩ (by simp) rfl _ rfl
    exact Aw rfl ((Ad rfl rfl (hsz 35 (by decide)) h28).trans rfl) rfl
   ·refine Ag rfl rfl rfl fun _ _ _ _ _ _ _ _ hsz hd _ _=>?_
    have h28:=hd ⟨28,.guard⟩ (by simp) rfl _ rfl
    exact Aw rfl ((Ad rfl rfl (hsz 35 (by decide)) h28).trans rfl) rfl
   ·refine Ag rfl rfl rfl fun _ _ _ _ _ _ _ _ hsz hd _ _=>?_
    have h28:=hd ⟨28,.guard⟩ (by simp) rfl _ rfl
    exact Aw rfl ((Ad rfl rfl (hsz 35 (by decide)) h28).trans rfl) rfl
   ·refine Ag rfl rfl rfl fun _ _ _ _ _ _ _ _ hsz hd _ _=>?_
    have h28:=hd ⟨28,.guard⟩ (by simp) rfl _ rfl
    exact Aw rfl ((Ad rfl rfl (hsz 35 (by decide)) h28).trans rfl) rfl
   ·exact stq (fun E=>A5 rfl (E.d 28) (E.d 41) rfl)
   ·exact stq (fun E=>An rfl (E.d 42))
   intro u1_0 hr
   have zu1_0:=hr.size
   have Cx7:=hid (hr.new (S:=(fun _=>False)))
   clear hr
   refine QChain.nil fun vs hl hzz hrows hne=>?_
   obtain ⟨Z,hYZ,hZb,hV⟩:=hzz
   have f3:=fvi hV hl 3
   have f6:=fvi hV hl 6
   have f10:=fvi hV hl 10
   have f13:=fvi hV hl 13
   have f14:=fvi hV hl 14
   have f28:=fvi hV hl 28
   have f29:=fvi hV hl 29
   have f39:=fvi hV hl 39
   have f43:=fvi hV hl 43
   rw [show vs=[gw vs 0,gw vs 1,gw vs 2,gw vs 3,gw vs 4,gw vs 5,gw vs 6,gw vs 7,gw vs 8,gw vs 9,gw vs 10,gw vs 11,gw vs 12,gw vs 13,gw vs 14,gw vs 15,gw vs 16,gw vs 17,gw vs 18,gw vs 19,gw vs 20,gw vs 21,gw vs 22,gw vs 23,gw vs 24,gw vs 25,gw vs 26,gw vs 27,gw vs 28,gw vs 29,gw vs 30,gw vs 31,gw vs 32,gw vs 33,gw vs 34,gw vs 35,gw vs 36,gw vs 37,gw vs 38,gw vs 39,gw vs 40,gw vs 41,gw vs 42,gw vs 43] from (Bh hl).trans rfl]
   have ha0:=HA0.out
   subst ha0
   clear HA0 hV hYZ hZb hsz0 hrows hne oe0 oe4
   simp only [Ar,Act.put,sIB,sCZ,sCS,f3,f6,f10,f13,f14,f28,f29,f39,f43]
   clear hl f3 f6 f10 f13 f14 f28 f29 f39 f43
   go_wp2
   go_ret
   exact ⟨congrArg (fun z=>Ending.returned (Value.bool z)) (show false=rightF L (y,bs) m by rw [rightF_at HAP.out];rw [decide_eq_false (show ¬ m≤((L.length:Nat):Int) by omega),Bool.and_false];rfl),(HM0.out.trans Cx7.out (fun _ _ h=>h.elim))⟩
 ·skip
  go_upto_region 1 with (fail)
  generalize ha0:Act.mk _ _=a0
  have oe4:a0.eval (.tmp 4)=.pointer (some ⟨w.heap.size,0,none⟩):=by rw [← ha0];rfl
  have hsz0:a0.tmps.size=50:=by rw [← ha0];rfl
  have HA0:=hid ha0
  clear ha0
  refine Az 50 hsz0 [7,8,9,10,11,12,13,14,15,16,17,18,19,20,21,22,23,24,25,26,27,28,29,30,31,32,33,34,35,36,37,38,39,40,41,42,43,44,45,46,47,48,49,6] [qi (.pointer (some ⟨w.heap.size,1,none⟩)),qi (.int .i64 m),qi (.bool false),qi (.bool false),qi undef,qi undef,qi undef,qi undef,qi undef,qi undef,qi undef,qi undef,qi (.bool false),qi (.bool false),qi undef,qi undef,qi undef,qi undef,qi undef,qi undef,qi undef,qi undef,qi undef,qi undef,qi undef,qi undef,qi undef,qi (.bool false),qi (.bool false),qi undef,qi undef,qi undef,qi undef,qi undef,qi undef,qi undef,qi undef,qi undef,qi undef,qi undef,qi undef,qi undef,qi (.bool false),qi (.bool false)] ⟨Aa,Aa,Aa,Aa,Aa,Aa,Aa,Aa,Aa,Aa,Aa,Aa,Aa,Aa,Aa,Aa,Aa,Aa,Aa,Aa,Aa,Aa,Aa,Aa,Aa,Aa,Aa,Aa,Aa,Aa,Aa,Aa,Aa,Aa,Aa,Aa,Aa,Aa,Aa,Aa,Aa,Aa,Aa,Aa,trivial⟩ [] ⟨?_,?_,?_,?_,?_,?_,?_,?_,?_,?_,?_,?_,?_,?_,?_,?_,?_,?_,?_,?_,?_,?_,?_,?_,?_,?_,?_,?_,?_,?_,?_,?_,?_,?_,?_,?_,?_,?_,?_,?_,?_,?_,?_,?_,trivial⟩ ?_
  ·exact stq (fun E=>Ai rfl Try.underlying34 rfl (by kernel_rfl) (E.v oe4))
  ·exact stq (fun E=>Am rfl Try.underlying3 rfl (E.d 0) (Cs.lit1 (HB4.out.mod E.m.old (by intro h2;omega)) rfl))
  ·exact stq (fun E=>Av rfl (E.d 1) rfl (Ak _ _ _ _ _ _) (B3 _ _ _ Try.underlying3) (congrArg Value.bool (decide_eq_false (by omega))))
  ·exact stq (fun E=>Ah rfl (E.d 2))
  ·refine Ag rfl rfl rfl fun _ _ _ _ _ _ _ _ hsz hd _ _=>?_
   have h3:=hd ⟨3,.guard⟩ (by simp) rfl _ rfl
   exact Aw rfl ((Ad rfl rfl (hsz 10 (by decide)) h3).trans rfl) rfl
  ·refine Ag rfl rfl rfl fun _ _ _ _ _ _ _ _ hsz hd _ _=>?_
   have h3:=hd ⟨3,.guard⟩ (by simp) rfl _ rfl
   exact Aw rfl ((Ad rfl rfl (hsz 10 (by decide)) h3).trans rfl) rfl
  ·refine Ag rfl rfl rfl fun _ _ _ _ _ _ _ _ hsz hd _ _=>?_
   have h3:=hd ⟨3,.guard⟩ (by simp) rfl _ rfl
   exact Aw rfl ((Ad rfl rfl (hsz 10 (by decide)) h3).trans rfl) rfl
  ·refine Ag rfl rfl rfl fun _ _ _ _ _ _ _ _ hsz hd _ _=>?_
   have h3:=hd ⟨3,.guard⟩ (by simp) rfl _ rfl
   exact Aw rfl ((Ad rfl rfl (hsz 10 (by decide)) h3).trans rfl) rfl
  ·refine Ag rfl rfl rfl fun _ _ _ _ _ _ _ _ hsz hd _ _=>?_
   have h3:=hd ⟨3,.guard⟩ (by simp) rfl _ rfl
   exact Aw rfl ((Ad rfl rfl (hsz 10 (by decide)) h3).trans rfl) rfl
  ·refine Ag rfl rfl rfl fun _ _ _ _ _ _ _ _ hsz hd _ _=>?_
   have h3:=hd ⟨3,.guard⟩ (by simp) rfl _ rfl
   exact Aw rfl ((Ad rfl rfl (hsz 10 (by decide)) h3).trans rfl) rfl
  ·refine Ag rfl rfl rfl fun _ _ _ _ _ _ _ _ hsz hd _ _=>?_
   have h3:=hd ⟨3,.guard⟩ (by simp) rfl _ rfl
   exact Aw rfl ((Ad rfl rfl (hsz 10 (by decide)) h3).trans rfl) rfl
  ·refine Ag rfl rfl rfl fun _ _ _ _ _ _ _ _ hsz hd _ _=>?_
   have h3:=hd ⟨3,.guard⟩ (by simp) rfl _ rfl
   exact Aw rfl ((Ad rfl rfl (hsz 10 (by decide)) h3).trans rfl) rfl
  ·exact stq (fun E=>A5 rfl (E.d 3) (E.d 11) rfl)
  ·exact stq (fun E=>Ah rfl (E.d 12))
  ·refine Ag rfl rfl rfl fun _ _ _ _ _ _ _ _ hsz hd _ _=>?_
   have h13:=hd ⟨13,.guard⟩ (by simp) rfl _ rfl
   exact Aw rfl ((Ad rfl rfl (hsz 20 (by decide)) h13).trans rfl) rfl
  ·refine Ag rfl rfl rfl fun _ _ _ _ _ _ _ _ hsz hd _ _=>?_
   have h13:=hd ⟨13,.guard⟩ (by simp) rfl _ rfl
   exact Aw rfl ((Ad rfl rfl (hsz 20 (by decide)) h13).trans rfl) rfl
  ·refine Ag rfl rfl rfl fun _ _ _ _ _ _ _ _ hsz hd _ _=>?_
   have h13:=hd ⟨13,.guard⟩ (by simp) rfl _ rfl
   exact Aw rfl ((Ad rfl rfl (hsz 20 (by decide)) h13).trans rfl) rfl
  ·refine Ag rfl rfl rfl fun _ _ _ _ _ _ _ _ hsz hd _ _=>?_
   have h13:=hd ⟨13,.guard⟩ (by simp) rfl _ rfl
   exact Aw rfl ((Ad rfl rfl (hsz 20 (by decide)) h13).trans rfl) rfl
  ·refine Ag rfl rfl rfl fun _ _ _ _ _ _ _ _ hsz hd _ _=>?_
   have h13:=hd ⟨13,.guard⟩ (by simp) rfl _ rfl
   exact Aw rfl ((Ad rfl rfl (hsz 20 (by decide)) h13).trans rfl) rfl
  ·refine Ag rfl rfl rfl fun _ _ _ _ _ _ _ _ hsz hd _ _=>?_
   have h13:=hd ⟨13,.guard⟩ (by simp) rfl _ rfl
   exact Aw rfl ((Ad rfl rfl (hsz 20 (by decide)) h13).trans rfl) rfl
  ·refine Ag rfl rfl rfl fun _ _ _ _ _ _ _ _ hsz hd _ _=>?_
   have h13:=hd ⟨13,.guard⟩ (by simp) rfl _ rfl
   exact Aw rfl ((Ad rfl rfl (hsz 20 (by decide)) h13).trans rfl) rfl
  ·refine Ag rfl rfl rfl fun _ _ _ _ _ _ _ _ hsz hd _ _=>?_
   have h13:=hd ⟨13,.guard⟩ (by simp) rfl _ rfl
   exact Aw rfl ((Ad rfl rfl (hsz 20 (by decide)) h13).trans rfl) rfl
  ·refine Ag rfl rfl rfl fun _ _ _ _ _ _ _ _ hsz hd _ _=>?_
   have h13:=hd ⟨13,.guard⟩ (by simp) rfl _ rfl
   exact Aw rfl ((Ad rfl rfl (hsz 20 (by decide)) h13).trans rfl) rfl
  ·refine Ag rfl rfl rfl fun _ _ _ _ _ _ _ _ hsz hd _ _=>?_
   have h13:=hd ⟨13,.guard⟩ (by simp) rfl _ rfl
   exact Aw rfl ((Ad rfl rfl (hsz 20 (by decide)) h13).trans rfl) rfl
  ·refine Ag rfl rfl rfl fun _ _ _ _ _ _ _ _ hsz hd _ _=>?_
   have h13:=hd ⟨13,.guard⟩ (by simp) rfl _ rfl
   exact Aw rfl ((Ad rfl rfl (hsz 20 (by decide)) h13).trans rfl) rfl
  ·refine Ag rfl rfl rfl fun _ _ _ _ _ _ _ _ hsz hd _ _=>?_
   have h13:=hd ⟨13,.guard⟩ (by simp) rfl _ rfl
   exact Aw rfl ((Ad rfl rfl (hsz 20 (by decide)) h13).trans rfl) rfl
  ·refine Ag rfl rfl rfl fun _ _ _ _ _ _ _ _ hsz hd _ _=>?_
   have h13:=hd ⟨13,.guard⟩ (by simp) rfl _ rfl
   exact Aw rfl ((Ad rfl rfl (hsz 20 (by decide)) h13).trans rfl) rfl
  ·exact stq (fun E=>A5 rfl (E.d 13) (E.d 26) rfl)
  ·exact stq (fun E=>Ah rfl (E.d 27))
  ·refine Ag rfl rfl rfl fun _ _ _ _ _ _ _ _ hsz hd _ _=>?_
   have h28:=hd ⟨28,.guard⟩ (by simp) rfl _ rfl
   exact Aw rfl ((Ad rfl rfl (hsz 35 (by decide)) h28).trans rfl) rfl
  ·refine Ag rfl rfl rfl fun _ _ _ _ _ _ _ _ hsz hd _ _=>?_
   have h28:=hd ⟨28,.guard⟩ (by simp) rfl _ rfl
   exact Aw rfl ((Ad rfl rfl (hsz 35 (by decide)) h28).trans rfl) rfl
  ·refine Ag rfl rfl rfl fun _ _ _ _ _ _ _ _ hsz hd _ _=>?_
   have h28:=hd ⟨28,.guard⟩ (by simp) rfl _ rfl
   exact Aw rfl ((Ad rfl rfl (hsz 35 (by decide)) h28).trans rfl) rfl
  ·refine Ag rfl rfl rfl fun _ _ _ _ _ _ _ _ hsz hd _ _=>?_
   have h28:=hd ⟨28,.guard⟩ (by simp) rfl _ rfl
   exact Aw rfl ((Ad rfl rfl (hsz 35 (by decide)) h28).trans rfl) rfl
  ·refine Ag rfl rfl rfl fun _ _ _ _ _ _ _ _ hsz hd _ _=>?_
   have h28:=hd ⟨28,.guard⟩ (by simp) rfl _ rfl
   exact Aw rfl ((Ad rfl rfl (hsz 35 (by decide)) h28).trans rfl) rfl
  ·refine Ag rfl rfl rfl fun _ _ _ _ _ _ _ _ hsz hd _ _=>?_
   have h28:=hd ⟨28,.guard⟩ (by simp) rfl _ rfl
   exact Aw rfl ((Ad rfl rfl (hsz 35 (by decide)) h28).trans rfl) rfl
  ·refine Ag rfl rfl rfl fun _ _ _ _ _ _ _ _ hsz hd _ _=>?_
   have h28:=hd ⟨28,.guard⟩ (by simp) rfl _ rfl
   exact Aw rfl ((Ad rfl rfl (hsz 35 (by decide)) h28).trans rfl) rfl
  ·refine Ag rfl rfl rfl fun _ _ _ _ _ _ _ _ hsz hd _ _=>?_
   have h28:=hd ⟨28,.guard⟩ (by simp) rfl _ rfl
   exact Aw rfl ((Ad rfl rfl (hsz 35 (by decide)) h28).trans rfl) rfl
  ·refine Ag rfl rfl rfl fun _ _ _ _ _ _ _ _ hsz hd _ _=>?_
   have h28:=hd ⟨28,.guard⟩ (by simp) rfl _ rfl
   exact Aw rfl ((Ad rfl rfl (hsz 35 (by decide)) h28).trans rfl) rfl
  ·refine Ag rfl rfl rfl fun _ _ _ _ _ _ _ _ hsz hd _ _=>?_
   have h28:=hd ⟨28,.guard⟩ (by simp) rfl _ rfl
   exact Aw rfl ((Ad rfl rfl (hsz 35 (by decide)) h28).trans rfl) rfl
  ·refine Ag rfl rfl rfl fun _ _ _ _ _ _ _ _ hsz hd _ _=>?_
   have h28:=hd ⟨28,.guard⟩ (by simp) rfl _ rfl
   exact Aw rfl ((Ad rfl rfl (hsz 35 (by decide)) h28).trans rfl) rfl
  ·refine Ag rfl rfl rfl fun _ _ _ _ _ _ _ _ hsz hd _ _=>?_
   have h28:=hd ⟨28,.guard⟩ (by simp) rfl _ rfl
   exact Aw rfl ((Ad rfl rfl (hsz 35 (by decide)) h28).trans rfl) rfl
  ·refine Ag rfl rfl rfl fun _ _ _ _ _ _ _ _ hsz hd _ _=>?_
   have h28:=hd ⟨28,.guard⟩ (by simp) rfl _ rfl
   exact Aw rfl ((Ad rfl rfl (hsz 35 (by decide)) h28).trans rfl) rfl
  ·exact stq (fun E=>A5 rfl (E.d 28) (E.d 41) rfl)
  ·exact stq (fun E=>An rfl (E.d 42))
  intro u1_0 hr
  have zu1_0:=hr.size
  have Cx8:=hid (hr.new (S:=(fun _=>False)))
  clear hr
  refine QChain.nil fun vs hl hzz hrows hne=>?_
  obtain ⟨Z,hYZ,hZb,hV⟩:=hzz
  have f3:=fvi hV hl 3
  have f6:=fvi hV hl 6
  have f10:=fvi hV hl 10
  have f13:=fvi hV hl 13
  have f14:=fvi hV hl 14
  have f28:=fvi hV hl 28
  have f29:=fvi hV hl 29
  have f39:=fvi hV hl 39
  have f43:=fvi hV hl 43
  rw [show vs=[gw vs 0,gw vs 1,gw vs 2,gw vs 3,gw vs 4,gw vs 5,gw vs 6,gw vs 7,gw vs 8,gw vs 9,gw vs 10,gw vs 11,gw vs 12,gw vs 13,gw vs 14,gw vs 15,gw vs 16,gw vs 17,gw vs 18,gw vs 19,gw vs 20,gw vs 21,gw vs 22,gw vs 23,gw vs 24,gw vs 25,gw vs 26,gw vs 27,gw vs 28,gw vs 29,gw vs 30,gw vs 31,gw vs 32,gw vs 33,gw vs 34,gw vs 35,gw vs 36,gw vs 37,gw vs 38,gw vs 39,gw vs 40,gw vs 41,gw vs 42,gw vs 43] from (Bh hl).trans rfl]
  have ha0:=HA0.out
  subst ha0
  clear HA0 hV hYZ hZb hsz0 hrows hne oe4
  simp only [Ar,Act.put,sIB,sCZ,sCS,f3,f6,f10,f13,f14,f28,f29,f39,f43]
  clear hl f3 f6 f10 f13 f14 f28 f29 f39 f43
  go_wp2
  go_ret
  exact ⟨congrArg (fun z=>Ending.returned (Value.bool z)) (show false=rightF L (y,bs) m by rw [rightF_at HAP.out];rw [decide_eq_false (show ¬ 1≤m by omega)];rfl),(HM0.out.trans Cx8.out (fun _ _ h=>h.elim))⟩
end Go.Proofs.Ytbifincepglilaa

/- gavellaw02.wakes; bytes.Compare; sha.Less. -/
namespace Go.Proofs.Ytbifincepglilaa
open Go Go.RowKit Go.Gv
end Go.Proofs.Ytbifincepglilaa

/- gavelref01.turn; gavelref01.Sum: the same plain sum. -/
namespace Go.Proofs.Ytbifincepglilaa
open Go Go.RowKit Go.Gv
theorem bits_or_comm (k:IntKind) (a b:Int):bits .or k a b=bits .or k b a:=by
 simp only [bits,BitVec.or_comm]
theorem TN_7 (x:Int) (w:World):Calls Try.prog 73 #[wv x,.int .u64 7] w fun e w'=>e=.returned (wv (rr 7 x))∧w=w':=by
 have hr:rr 7 x=bits .or .u32 (x / 128) (IntKind.u32.wrap (x * 33554432)):=by rw [bits_or_comm];rfl
 have HR:=Lib.hid hr
 clear hr
 go_enter Try.func73,Try.ntmps73
 go_wp2
 go_ret
 exact ⟨Cb (by rw [HR.out];rfl),rfl⟩
theorem TN_18 (x:Int) (w:World):Calls Try.prog 73 #[wv x,.int .u64 18] w fun e w'=>e=.returned (wv (rr 18 x))∧w=w':=by
 have hr:rr 18 x=bits .or .u32 (x / 262144) (IntKind.u32.wrap (x * 16384)):=by rw [bits_or_comm];rfl
 have HR:=Lib.hid hr
 clear hr
 go_enter Try.func73,Try.ntmps73
 go_wp2
 go_ret
 exact ⟨Cb (by rw [HR.out];rfl),rfl⟩
theorem TN_17 (x:Int) (w:World):Calls Try.prog 73 #[wv x,.int .u64 17] w fun e w'=>e=.returned (wv (rr 17 x))∧w=w':=by
 have hr:rr 17 x=bits .or .u32 (x / 131072) (IntKind.u32.wrap (x * 32768)):=by rw [bits_or_comm];rfl
 have HR:=Lib.hid hr
 clear hr
 go_enter Try.func73,Try.ntmps73
 go_wp2
 go_ret
 exact ⟨Cb (by rw [HR.out];rfl),rfl⟩
theorem TN_19 (x:Int) (w:World):Calls Try.prog 73 #[wv x,.int .u64 19] w fun e w'=>e=.returned (wv (rr 19 x))∧w=w':=by
 have hr:rr 19 x=bits .or .u32 (x / 524288) (IntKind.u32.wrap (x * 8192)):=by rw [bits_or_comm];rfl
 have HR:=Lib.hid hr
 clear hr
 go_enter Try.func73,Try.ntmps73
 go_wp2
 go_ret
 exact ⟨Cb (by rw [HR.out];rfl),rfl⟩
theorem TN_6 (x:Int) (w:World):Calls Try.prog 73 #[wv x,.int .u64 6] w fun e w'=>e=.returned (wv (rr 6 x))∧w=w':=by
 have hr:rr 6 x=bits .or .u32 (x / 64) (IntKind.u32.wrap (x * 67108864)):=by rw [bits_or_comm];rfl
 have HR:=Lib.hid hr
 clear hr
 go_enter Try.func73,Try.ntmps73
 go_wp2
 go_ret
 exact ⟨Cb (by rw [HR.out];rfl),rfl⟩
theorem TN_11 (x:Int) (w:World):Calls Try.prog 73 #[wv x,.int .u64 11] w fun e w'=>e=.returned (wv (rr 11 x))∧w=w':=by
 have hr:rr 11 x=bits .or .u32 (x / 2048) (IntKind.u32.wrap (x * 2097152)):=by rw [bits_or_comm];rfl
 have HR:=Lib.hid hr
 clear hr
 go_enter Try.func73,Try.ntmps73
 go_wp2
 go_ret
 exact ⟨Cb (by rw [HR.out];rfl),rfl⟩
theorem TN_25 (x:Int) (w:World):Calls Try.prog 73 #[wv x,.int .u64 25] w fun e w'=>e=.returned (wv (rr 25 x))∧w=w':=by
 have hr:rr 25 x=bits .or .u32 (x / 33554432) (IntKind.u32.wrap (x * 128)):=by rw [bits_or_comm];rfl
 have HR:=Lib.hid hr
 clear hr
 go_enter Try.func73,Try.ntmps73
 go_wp2
 go_ret
 exact ⟨Cb (by rw [HR.out];rfl),rfl⟩
theorem TN_2 (x:Int) (w:World):Calls Try.prog 73 #[wv x,.int .u64 2] w fun e w'=>e=.returned (wv (rr 2 x))∧w=w':=by
 have hr:rr 2 x=bits .or .u32 (x / 4) (IntKind.u32.wrap (x * 1073741824)):=by rw [bits_or_comm];rfl
 have HR:=Lib.hid hr
 clear hr
 go_enter Try.func73,Try.ntmps73
 go_wp2
 go_ret
 exact ⟨Cb (by rw [HR.out];rfl),rfl⟩
theorem TN_13 (x:Int) (w:World):Calls Try.prog 73 #[wv x,.int .u64 13] w fun e w'=>e=.returned (wv (rr 13 x))∧w=w':=by
 have hr:rr 13 x=bits .or .u32 (x / 8192) (IntKind.u32.wrap (x * 524288)):=by rw [bits_or_comm];rfl
 have HR:=Lib.hid hr
 clear hr
 go_enter Try.func73,Try.ntmps73
 go_wp2
 go_ret
 exact ⟨Cb (by rw [HR.out];rfl),rfl⟩
theorem TN_22 (x:Int) (w:World):Calls Try.prog 73 #[wv x,.int .u64 22] w fun e w'=>e=.returned (wv (rr 22 x))∧w=w':=by
 have hr:rr 22 x=bits .or .u32 (x / 4194304) (IntKind.u32.wrap (x * 1024)):=by rw [bits_or_comm];rfl
 have HR:=Lib.hid hr
 clear hr
 go_enter Try.func73,Try.ntmps73
 go_wp2
 go_ret
 exact ⟨Cb (by rw [HR.out];rfl),rfl⟩
end Go.Proofs.Ytbifincepglilaa

/- As XVal3; besides: a slot that an operation reads ahead of the one that writes it. No program here. -/
namespace Go.Gv
open Go Go.RowKit
section
variable {P:Program} {ops:Array Oper} {Q:Exit→Act→World→Prop}
end
end Go.Gv
