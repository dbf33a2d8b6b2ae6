/- Texts that are built one behind the other: XSha5, XSet0, XWc, XCm1, XCm2, XCm3, XCm4, XCm5, XCm6. No condition. -/
import Derived.Test.YtbifincepglilaaSpP2
import Derived.Deep.Cut
set_option maxRecDepth 100000
set_option linter.unusedVariables false
open List renaming setIfInBounds_toArray → sIB, set_cons_zero → sCZ, set_cons_succ → sCS
/- sha.Sum. -/
namespace Go.Proofs.Ytbifincepglilaa
open Go Go.RowKit Go.Gv
def padZ (n:Nat):Nat:=(119 - n % 64) % 64
def padded (bs:List Int) (j:Nat):List Int:=bs ++ [128] ++ List.replicate j 0
def lenB (n i:Nat):Int:=((n:Int) * 8) / 2 ^ (56 - 8 * i) % 256
def B9 (bs:List Int) (i:Nat):List Int:=padded bs (padZ bs.length) ++ (List.range i).map (lenB bs.length)
def fullB (bs:List Int):List Int:=B9 bs 8
def blocksTo (fb:List Int) (t:Nat):List Int:=(List.range t).foldl (fun h j=>mixF h K256 (fb.drop (64 * j))) H256
def outB (h:List Int) (q:Nat):Int:=(h.getD (q / 4) 0) / 2 ^ (24 - 8 * (q % 4)) % 256
def shaF (bs:List Int):List Int:=(List.range 32).map (outB (blocksTo (fullB bs) ((fullB bs).length / 64)))
theorem padded_len (bs:List Int) (j:Nat):(padded bs j).length=bs.length+1+j:=by simp [padded];omega
theorem padded_succ (bs:List Int) (j:Nat):padded bs j ++ [0]=padded bs (j+1):=by
 unfold padded
 rw [List.append_assoc,List.replicate_succ']
theorem pad_iff {n j:Nat} (h:j≤padZ n):(n+1+j) % 64=56↔j=padZ n:=by unfold padZ at *; omega
theorem Bv (bs:List Int) (i:Nat):(B9 bs i).length=bs.length+1+padZ bs.length+i:=by unfold B9;rw [List.length_append,padded_len];simp
theorem Bz (bs:List Int) (i:Nat):B9 bs i ++ [lenB bs.length i]=B9 bs (i+1):=by
 unfold B9
 rw [List.append_assoc,List.range_succ,List.map_append]
 rfl
theorem full_div (bs:List Int):(fullB bs).length % 64=0:=by unfold fullB;rw [Bv];unfold padZ;omega
theorem lenB_byte (n i:Nat):0≤lenB n i∧lenB n i < 256:=by unfold lenB;omega
theorem blocks_succ (fb:List Int) (t:Nat):blocksTo fb (t+1)=mixF (blocksTo fb t) K256 (fb.drop (64 * t)):=by unfold blocksTo;rw [List.range_succ,List.foldl_append];rfl
theorem mixF_len (h k b:List Int) (hl:h.length=8):(mixF h k b).length=8:=by unfold mixF;rw [addTo_len,hl]
theorem blocks_len (fb:List Int) (t:Nat):(blocksTo fb t).length=8:=by
 induction t with
 | zero=>rfl
 | succ t ih=>rw [blocks_succ,mixF_len _ _ _ ih]
theorem Bu (bs:List Int):(shaF bs).length=32:=by simp [shaF]
theorem outB_byte (h:List Int) (q:Nat):0≤outB h q∧outB h q < 256:=by unfold outB;omega
theorem shaF_bytes (bs:List Int):Bytes (shaF bs):=by
 intro x hx
 obtain ⟨q,_,rfl⟩:=List.mem_map.1 hx
 exact outB_byte _ _
theorem Cs_new1 (w:World) (o:Obj) (c:Array Value) (e:TypeId):Cs ((w.alloc o).alloc (.cells c e)) (w.heap.size+1) c e:=by
 have:=Cs.new (w.alloc o) c e
 rwa [show (w.alloc o).heap.size=w.heap.size+1 by simp] at this
def lenOf:Value→Nat
 | .slice _ n _=>n
 | _=>0
def outTo (h:List Int) (q:Nat):List Int:=(List.range q).map (outB h) ++ List.replicate (32 - q) 0
theorem outTo_len (h:List Int) (q:Nat) (hq:q≤32):(outTo h q).length=32:=by simp [outTo];omega
theorem outTo_succ (h:List Int) (q:Nat) (hq:q < 32):(outTo h q).set q (outB h q)=outTo h (q+1):=by
 unfold outTo
 rw [List.set_append_right _ _ (by simp),List.length_map,List.length_range,Nat.sub_self,List.range_succ,List.map_append,List.append_assoc]
 congr 1
 obtain ⟨k,hk⟩:∃ k,32 - q=k+1:=⟨31 - q,by omega⟩
 rw [hk,show 32 - (q+1)=k by omega,List.replicate_succ]
 rfl
theorem outB_at (h:List Int) (i j:Nat) (hj:j < 4):outB h (4 * i+j)=(h.getD i 0) / 2 ^ (24 - 8 * j) % 256:=by
 unfold outB
 rw [show (4 * i+j) / 4=i by omega,show (4 * i+j) % 4=j by omega]
theorem Cs_setB {w:World} {g:Nat} {bs:List Int} {e:TypeId} (h:Cs w g (bs.map bv).toArray e) (j:Nat) (x:Int):Cs (w.setCell ⟨g,j,none⟩ (bv x)) g ((bs.set j x).map bv).toArray e:=by
 have:=h.set j (bv x)
 simpa [List.map_set] using this
structure SumO (w0:World) (h:List Int) (w:World):Prop where
 k2:Cs w w0.heap.size ((List.replicate 32 0).map bv).toArray 32
 k3:Ws 120 w (w0.heap.size+1) h
 m:Mod (fun _=>False) w0 w
theorem SumO.mod {S:Nat→Prop} {w0 w w':World} {h:List Int} (o:SumO w0 h w) (hm:Mod S w w') (hS:∀ k,S k→w0.heap.size+2≤k):SumO w0 h w':=
 ⟨o.k2.mod hm (fun q=>by have:=hS _ q;omega),o.k3.mod hm (fun q=>by have:=hS _ q;omega),o.m.trans hm (fun k hk q=>by have:=hS _ q;omega)⟩
theorem SumO.put {w0 w w':World} {h h':List Int} (o:SumO w0 h w) (hm:Mod (fun k=>k=w0.heap.size+1) w w') (hs:Ws 120 w' (w0.heap.size+1) h'):SumO w0 h' w':=
 ⟨o.k2.mod hm (by omega),hs,o.m.trans hm (fun k hk q=>by omega)⟩
/-- the padded bytes, in blocks of their own -/
def FulO (w0:World) (w:World) (v:Value) (bs:List Int):Prop:=OwR (fun k=>w0.heap.size+2≤k) bs.length w v bs
theorem FulO.mod {S:Nat→Prop} {w0 w w':World} {v:Value} {bs:List Int} (o:FulO w0 w v bs) (hm:Mod S w w') (hS:∀ k,S k→k < w0.heap.size+2):FulO w0 w' v bs:=OwR.mod o hm (fun k h1 h2=>by have:=hS k h2;omega)
set_option maxHeartbeats 4000000 in
theorem Sum_any (v:Value) (bs:List Int) (w:World) (h:RdB w v bs) (hlen:bs.length≤900000) :
 Calls Try.prog 46 #[v] w fun e w'=>e=.returned (hv (shaF bs))∧Mod (fun _=>False) w w':=by
 have hbl:=h.block_lt
 have HR:=Lib.hid (show RdR (fun k=>k < w.heap.size) bs.length w v bs from ⟨h,hbl,Nat.le_refl _⟩)
 obtain ⟨ao,cap,rfl,-,-⟩:=h.shape
 clear h hbl
 go_enter Try.func46,Try.ntmps46
 go_wp2_with ((with_reducible show wpList _ _ _ (Oper.mk none (Op.store 120 (.tmp 3) (.tmp 12)) _ _ _ _ :: _) _ _);go_must (refine wpList_storeA rfl 120 (.tmp 3) (.tmp 12) rfl (Cs_new1 _ _ _ _) (off:=0) (vs:=H256.map wv) size_a8 (wv_one _) (by decide) rfl rfl ?_))
 intro w1 hc1 hm1
 rw [A0 _ _ (by decide)] at hc1
 have hO:SumO w H256 w1:=by
  refine ⟨?_,?_,(((Mod.refl _ _).alloc _).alloc _).trans hm1 (by intro k h1 h2;(try dsimp only at h2);omega)⟩
  ·refine Cs.mod (((Cs.new w _ _).alloc _)) hm1 (by simp)
  ·exact hc1
 have KO:=Lib.hid hO
 have z1:w.heap.size+2≤w1.heap.size:=by have:=hO.k3.lt;omega
 clear hO hc1 hm1
 have HR1:=Lib.hid (HR.out.mod KO.out.m (fun _ _ h=>h))
 go_wp2_with (at_builtin;go_must (refine wpList_appR rfl (.const (.slice none 0 0)) (.tmp 13) rfl rfl (R:=fun k=>w.heap.size+2≤k) (N:=0) (bs:=[]) ⟨OwnB.nil _,(fun g hg=>by cases hg),Nat.le_refl _⟩ rfl HR1.out (by omega) ?_))
 intro ao2 cap2 w2 hq2 hm2
 have KO2:=Lib.hid (KO.out.mod hm2 (fun k hk=>hk))
 have z2:=hm2.size
 have HQ2:=Lib.hid (show FulO w w2 (.slice ao2 bs.length cap2) bs from ⟨hq2.1,fun g hg=>by have:=hq2.2.1 g hg;unfold New at this;omega,Nat.le_refl _⟩)
 clear hq2 hm2 KO HR1
 go_wp2_with (at_builtin;go_must (refine Bi rfl (.tmp 14) (.tmp 15) rfl rfl HQ2.out rfl (by omega) (by omega) (by omega) ?_))
 intro ao3 cap3 w3 hq3 hm3
 have KO3:=Lib.hid (KO2.out.mod hm3 (fun k hk=>hk))
 have z3:=hm3.size
 have HQ3:=Lib.hid (show FulO w w3 (.slice ao3 (bs.length+1) cap3) (padded bs 0) from ⟨by have:=hq3.1;simpa [padded] using this,fun g hg=>by have:=hq3.2.1 g hg;unfold New at this;omega,by rw [padded_len];omega⟩)
 clear hq3 hm3 KO2 HQ2
 have hz:padZ bs.length≤63:=by unfold padZ;omega
 go_wp2
 go_loopw [4] (fun t4 wr=>∃ (j:Nat) (ao:Option Addr) (cap:Nat),t4=.slice ao (bs.length+1+j) cap∧j≤padZ bs.length∧FulO w wr (.slice ao (bs.length+1+j) cap) (padded bs j)∧SumO w H256 wr) (fun t4 _=>bs.length+1+padZ bs.length - lenOf t4)
 case atStart=>exact ⟨0,ao3,cap3,rfl,by omega,HQ3.out,KO3.out⟩
 case round=>
  obtain ⟨j,ao4,cap4,rfl,hj,hF,hO⟩:=hrel
  have hiff:=pad_iff hj
  have KF:=Lib.hid hF
  have KO:=Lib.hid hO
  have zr:=hO.k3.lt
  clear hF hO HQ3 KO3
  obtain ⟨n,hn⟩:∃ n,n=bs.length+1+j:=⟨_,rfl⟩
  rw [← hn] at KF hiff
  rw [← hn]
  have HN:=Lib.hid hn
  have hnb:n≤950000:=by omega
  clear hn
  by_cases hlt:j < padZ bs.length
  ·have h56:¬ ((n:Int) % 64=56):=by omega
   clear hiff
   go_wp2_with (at_builtin;go_must (refine Bi rfl (.tmp 21) (.tmp 22) rfl rfl KF.out rfl (by omega) (by omega) (by rw [padded_len];omega) ?_))
   intro ao5 cap5 w5 hq5 hm5
   have KO5:=Lib.hid (KO.out.mod hm5 (fun k hk=>hk))
   have z5:=hm5.size
   rw [padded_succ] at hq5
   have hl5:(padded bs j).length=n:=by rw [padded_len,HN.out]
   rw [hl5] at hq5 ⊢
   have hl6:=padded_len bs (j+1)
   have HQ5:=Lib.hid (show FulO w w5 (.slice ao5 (n+1) cap5) (padded bs (j+1)) from ⟨hq5.1,fun g hg=>by have:=hq5.2.1 g hg;unfold New at this;omega,Nat.le_refl _⟩)
   clear hq5 hm5 hl5 hl6
   go_wp2
   go_roundw
   case rel=>exact ⟨j+1,ao5,cap5,by rw [HN.out,← Nat.add_assoc],by omega,by have:=HQ5.out;rw [HN.out,Nat.add_assoc] at this;exact this,KO5.out⟩
   case measure=>have:=HN.out;simp [lenOf];omega
  ·obtain rfl:j=padZ bs.length:=by omega
   have h56:(n:Int) % 64=56:=by omega
   have hl4:(padded bs (padZ bs.length)).length=n:=by rw [padded_len,HN.out]
   clear hiff
   go_wp2
   obtain ⟨x,hx⟩:∃ x:Int,x=(bs.length:Int) * 8:=⟨_,rfl⟩
   rw [← hx]
   have HX:=Lib.hid hx
   have HL4:=Lib.hid hl4
   clear hx hl4 h56
   have hfz:FulO w wr (.slice ao4 n cap4) (B9 bs 0):=by have:=KF.out;rw [show B9 bs 0=padded bs (padZ bs.length) by simp [B9]];exact this
   have HF0:=Lib.hid hfz
   clear hfz KF
   go_loopw [4,28] (fun t4 t28 wr=>∃ (i:Nat) (ao:Option Addr) (cap:Nat),t28=.int .i64 i∧i≤8∧t4=.slice ao (n+i) cap∧FulO w wr (.slice ao (n+i) cap) (B9 bs i)∧SumO w H256 wr) (fun _ t28 _=>8 - (intOf t28).toNat)
   case atStart=>exact ⟨0,ao4,cap4,rfl,by omega,rfl,HF0.out,KO.out⟩
   case round=>
    obtain ⟨wi,rfl⟩:∃ x,x=wr:=⟨_,rfl⟩
    obtain ⟨i,ao6,cap6,rfl,hi,rfl,hF,hO⟩:=hrel
    clear KO HF0
    have KF:=Lib.hid hF
    have KO:=Lib.hid hO
    have zr2:=hO.k3.lt
    clear hF hO
    have hfl:=Bv bs i
    have hfl2:(B9 bs i).length=n+i:=by rw [hfl,HN.out]
    have HFL:=Lib.hid hfl2
    clear hfl hfl2
    by_cases hlt2:i < 8
    ·have hlb:=lenB_byte bs.length i
     have hlv:lenB bs.length i=x / 2 ^ (56 - 8 * i) % 256:=by rw [HX.out];rfl
     obtain ⟨y,hy⟩:∃ y,y=lenB bs.length i:=⟨_,rfl⟩
     rw [← hy] at hlb hlv
     have HY:=Lib.hid hy
     have HV:=Lib.hid hlv
     clear hy hlv
     have HI:=Lib.hid (show i < 8 from hlt2)
     match i,hlt2 with
     | 0,_=>
      have hv:y=x / 72057594037927936 % 256:=by rw [HV.out];simp
      have HVV:=Lib.hid hv
      rw [hv] at hlb
      clear hv
      go_wp2_with (at_builtin;go_must (refine Bi rfl (.tmp 31) (.tmp 38) rfl rfl KF.out rfl hlb.1 hlb.2 (by rw [HFL.out];omega) ?_))
      intro ao7 cap7 w7 hq7 hm7
      have KO7:=Lib.hid (KO.out.mod hm7 (fun k hk=>hk))
      have z7:=hm7.size
      rw [← HVV.out,HY.out,Bz,HFL.out] at hq7
      rw [HFL.out]
      have hl7:=Bv bs (0+1)
      have hl8:=HN.out
      have HQ7:=Lib.hid (show FulO w w7 (.slice ao7 (n+0+1) cap7) (B9 bs (0+1)) from ⟨hq7.1,fun g hg=>by have:=hq7.2.1 g hg;unfold New at this;omega,Nat.le_refl _⟩)
      clear hq7 hm7 hl7 hl8 hlb
      go_wp2
      go_roundw
      case rel=>exact ⟨0+1,ao7,cap7,by go_num,by omega,rfl,HQ7.out,KO7.out⟩
      case measure=>first|(simp [intOf];done)|(simp [intOf];omega)
     | 1,_=>
      have hv:y=x / 281474976710656 % 256:=by rw [HV.out];simp
      have HVV:=Lib.hid hv
      rw [hv] at hlb
      clear hv
      go_wp2_with (at_builtin;go_must (refine Bi rfl (.tmp 31) (.tmp 38) rfl rfl KF.out rfl hlb.1 hlb.2 (by rw [HFL.out];omega) ?_))
      intro ao7 cap7 w7 hq7 hm7
      have KO7:=Lib.hid (KO.out.mod hm7 (fun k hk=>hk))
      have z7:=hm7.size
      rw [← HVV.out,HY.out,Bz,HFL.out] at hq7
      rw [HFL.out]
      have hl7:=Bv bs (1+1)
      have hl8:=HN.out
      have HQ7:=Lib.hid (show FulO w w7 (.slice ao7 (n+1+1) cap7) (B9 bs (1+1)) from ⟨hq7.1,fun g hg=>by have:=hq7.2.1 g hg;unfold New at this;omega,Nat.le_refl _⟩)
      clear hq7 hm7 hl7 hl8 hlb
      go_wp2
      go_roundw
      case rel=>exact ⟨1+1,ao7,cap7,by go_num,by omega,rfl,HQ7.out,KO7.out⟩
      case measure=>first|(simp [intOf];done)|(simp [intOf];omega)
     | 2,_=>
      have hv:y=x / 1099511627776 % 256:=by rw [HV.out];simp
      have HVV:=Lib.hid hv
      rw [hv] at hlb
      clear hv
      go_wp2_with (at_builtin;go_must (refine Bi rfl (.tmp 31) (.tmp 38) rfl rfl KF.out rfl hlb.1 hlb.2 (by rw [HFL.out];omega) ?_))
      intro ao7 cap7 w7 hq7 hm7
      have KO7:=Lib.hid (KO.out.mod hm7 (fun k hk=>hk))
      have z7:=hm7.size
      rw [← HVV.out,HY.out,Bz,HFL.out] at hq7
      rw [HFL.out]
      have hl7:=Bv bs (2+1)
      have hl8:=HN.out
      have HQ7:=Lib.hid (show FulO w w7 (.slice ao7 (n+2+1) cap7) (B9 bs (2+1)) from ⟨hq7.1,fun g hg=>by have:=hq7.2.1 g hg;unfold New at this;omega,Nat.le_refl _⟩)
      clear hq7 hm7 hl7 hl8 hlb
      go_wp2
      go_roundw
      case rel=>exact ⟨2+1,ao7,cap7,by go_num,by omega,rfl,HQ7.out,KO7.out⟩
      case measure=>first|(simp [intOf];done)|(simp [intOf];omega)
     | 3,_=>
      have hv:y=x / 4294967296 % 256:=by rw [HV.out];simp
      have HVV:=Lib.hid hv
      rw [hv] at hlb
      clear hv
      go_wp2_with (at_builtin;go_must (refine Bi rfl (.tmp 31) (.tmp 38) rfl rfl KF.out rfl hlb.1 hlb.2 (by rw [HFL.out];omega) ?_))
      intro ao7 cap7 w7 hq7 hm7
      have KO7:=Lib.hid (KO.out.mod hm7 (fun k hk=>hk))
      have z7:=hm7.size
      rw [← HVV.out,HY.out,Bz,HFL.out] at hq7
      rw [HFL.out]
      have hl7:=Bv bs (3+1)
      have hl8:=HN.out
      have HQ7:=Lib.hid (show FulO w w7 (.slice ao7 (n+3+1) cap7) (B9 bs (3+1)) from ⟨hq7.1,fun g hg=>by have:=hq7.2.1 g hg;unfold New at this;omega,Nat.le_refl _⟩)
      clear hq7 hm7 hl7 hl8 hlb
      go_wp2
      go_roundw
      case rel=>exact ⟨3+1,ao7,cap7,by go_num,by omega,rfl,HQ7.out,KO7.out⟩
      case measure=>first|(simp [intOf];done)|(simp [intOf];omega)
     | 4,_=>
      have hv:y=x / 16777216 % 256:=by rw [HV.out];simp
      have HVV:=Lib.hid hv
      rw [hv] at hlb
      clear hv
      go_wp2_with (at_builtin;go_must (refine Bi rfl (.tmp 31) (.tmp 38) rfl rfl KF.out rfl hlb.1 hlb.2 (by rw [HFL.out];omega) ?_))
      intro ao7 cap7 w7 hq7 hm7
      have KO7:=Lib.hid (KO.out.mod hm7 (fun k hk=>hk))
      have z7:=hm7.size
      rw [← HVV.out,HY.out,Bz,HFL.out] at hq7
      rw [HFL.out]
      have hl7:=Bv bs (4+1)
      have hl8:=HN.out
      have HQ7:=Lib.hid (show FulO w w7 (.slice ao7 (n+4+1) cap7) (B9 bs (4+1)) from ⟨hq7.1,fun g hg=>by have:=hq7.2.1 g hg;unfold New at this;omega,Nat.le_refl _⟩)
      clear hq7 hm7 hl7 hl8 hlb
      go_wp2
      go_roundw
      case rel=>exact ⟨4+1,ao7,cap7,by go_num,by omega,rfl,HQ7.out,KO7.out⟩
      case measure=>first|(simp [intOf];done)|(simp [intOf];omega)
     | 5,_=>
      have hv:y=x / 65536 % 256:=by rw [HV.out];simp
      have HVV:=Lib.hid hv
      rw [hv] at hlb
      clear hv
      go_wp2_with (at_builtin;go_must (refine Bi rfl (.tmp 31) (.tmp 38) rfl rfl KF.out rfl hlb.1 hlb.2 (by rw [HFL.out];omega) ?_))
      intro ao7 cap7 w7 hq7 hm7
      have KO7:=Lib.hid (KO.out.mod hm7 (fun k hk=>hk))
      have z7:=hm7.size
      rw [← HVV.out,HY.out,Bz,HFL.out] at hq7
      rw [HFL.out]
      have hl7:=Bv bs (5+1)
      have hl8:=HN.out
      have HQ7:=Lib.hid (show FulO w w7 (.slice ao7 (n+5+1) cap7) (B9 bs (5+1)) from ⟨hq7.1,fun g hg=>by have:=hq7.2.1 g hg;unfold New at this;omega,Nat.le_refl _⟩)
      clear hq7 hm7 hl7 hl8 hlb
      go_wp2
      go_roundw
      case rel=>exact ⟨5+1,ao7,cap7,by go_num,by omega,rfl,HQ7.out,KO7.out⟩
      case measure=>first|(simp [intOf];done)|(simp [intOf];omega)
     | 6,_=>
      have hv:y=x / 256 % 256:=by rw [HV.out];simp
      have HVV:=Lib.hid hv
      rw [hv] at hlb
      clear hv
      go_wp2_with (at_builtin;go_must (refine Bi rfl (.tmp 31) (.tmp 38) rfl rfl KF.out rfl hlb.1 hlb.2 (by rw [HFL.out];omega) ?_))
      intro ao7 cap7 w7 hq7 hm7
      have KO7:=Lib.hid (KO.out.mod hm7 (fun k hk=>hk))
      have z7:=hm7.size
      rw [← HVV.out,HY.out,Bz,HFL.out] at hq7
      rw [HFL.out]
      have hl7:=Bv bs (6+1)
      have hl8:=HN.out
      have HQ7:=Lib.hid (show FulO w w7 (.slice ao7 (n+6+1) cap7) (B9 bs (6+1)) from ⟨hq7.1,fun g hg=>by have:=hq7.2.1 g hg;unfold New at this;omega,Nat.le_refl _⟩)
      clear hq7 hm7 hl7 hl8 hlb
      go_wp2
      go_roundw
      case rel=>exact ⟨6+1,ao7,cap7,by go_num,by omega,rfl,HQ7.out,KO7.out⟩
      case measure=>first|(simp [intOf];done)|(simp [intOf];omega)
     | 7,_=>
      have hv:y=x % 256:=by rw [HV.out];simp
      have HVV:=Lib.hid hv
      rw [hv] at hlb
      clear hv
      go_wp2_with (at_builtin;go_must (refine Bi rfl (.tmp 31) (.tmp 38) rfl rfl KF.out rfl hlb.1 hlb.2 (by rw [HFL.out];omega) ?_))
      intro ao7 cap7 w7 hq7 hm7
      have KO7:=Lib.hid (KO.out.mod hm7 (fun k hk=>hk))
      have z7:=hm7.size
      rw [← HVV.out,HY.out,Bz,HFL.out] at hq7
      rw [HFL.out]
      have hl7:=Bv bs (7+1)
      have hl8:=HN.out
      have HQ7:=Lib.hid (show FulO w w7 (.slice ao7 (n+7+1) cap7) (B9 bs (7+1)) from ⟨hq7.1,fun g hg=>by have:=hq7.2.1 g hg;unfold New at this;omega,Nat.le_refl _⟩)
      clear hq7 hm7 hl7 hl8 hlb
      go_wp2
      go_roundw
      case rel=>exact ⟨7+1,ao7,cap7,by go_num,by omega,rfl,HQ7.out,KO7.out⟩
      case measure=>first|(simp [intOf];done)|(simp [intOf];omega)
    ·obtain rfl:i=8:=by omega
     obtain ⟨fb,hfb⟩:∃ fb,fb=fullB bs:=⟨_,rfl⟩
     have hL:fb.length=n+8:=by rw [hfb];exact HFL.out
     have hdiv:fb.length % 64=0:=by rw [hfb];exact full_div bs
     have hFF:FulO w wi (.slice ao6 (n+8) cap6) fb:=by rw [hfb];exact KF.out
     have HFB:=Lib.hid hfb
     have HFF:=Lib.hid hFF
     have HDIV:=Lib.hid hdiv
     have HL:=Lib.hid hL
     clear hfb hFF hL hdiv KF HFL
     rw [show ((8:Nat):Int)=8 from rfl]
     go_wp2_with fail
     refine (rounds_any _).mono ?_
     rintro e w8 ⟨rfl,hm8⟩
     have z8:=hm8.size
     have KO8:=Lib.hid (KO.out.mod hm8 (fun k h=>h.elim))
     have HF8:=HFF.out.rd.mod hm8 (fun k _ h=>h.elim)
     have HF9:=Lib.hid (show RdR (fun k=>w.heap.size+2≤k∧k < w8.heap.size) fb.length w8 (.slice ao6 (n+8) cap6) fb from ⟨HF8.1,fun h0 g hg=>⟨HF8.2.1 h0 g hg,HF8.1.block_lt h0 g hg⟩,Nat.le_refl _⟩)
     have zr8:=KO8.out.k3.lt
     clear hm8 HF8 KO HFF
     have HKL:=Lib.hid (show 0+(K256.map wv).length≤64 by rw [List.length_map,K256_len];exact Nat.le_refl _)
     have HKS:=Lib.hid (show (Try.prog.info? 122).map (·.size)=some (K256.map wv).length by rw [List.length_map,K256_len];exact size_a64)
     go_wp2_with ((with_reducible show wpList _ _ _ (Oper.mk none (Op.store 122 (.tmp 7) (.tmp 41)) _ _ _ _ :: _) _ _);go_must (refine wpList_storeA rfl 122 (.tmp 7) (.tmp 41) rfl (Cs.new _ _ _) (off:=0) (vs:=K256.map wv) HKS.out (wv_one _) HKL.out rfl rfl ?_))
     intro w9 hc9 hm9
     rw [A0 _ _ (by rw [List.length_map,K256_len];rfl)] at hc9
     have hm9':Mod (fun _=>False) w8 w9:=((Mod.refl _ _).alloc _).trans hm9 (by intro k h1 h2;(try dsimp only at h2);omega)
     have z9:=hm9'.size
     have zg:=Cs.lt hc9
     have KO9:=Lib.hid (KO8.out.mod hm9' (fun k h=>h.elim))
     have KK:=Lib.hid (show Ws 122 w9 w8.heap.size K256 from hc9)
     have HF10:=Lib.hid (HF9.out.mod hm9' (fun _ _ h=>h))
     clear hc9 hm9 hm9' KO8 HF9 HKL
     obtain ⟨g7,hg7⟩:∃ g,g=w8.heap.size:=⟨_,rfl⟩
     rw [← hg7] at KK HF10 zg
     rw [← hg7]
     have hg72:w.heap.size+2≤g7:=by omega
     clear hg7 z8 z9 zr8
     have hn8:n+8≤960000:=by omega
     go_wp2
     go_loopw [4] (fun t4 wr=>∃ (t m:Nat) (ao:Option Addr) (cap:Nat),t4=.slice ao m cap∧m+64 * t=n+8∧RdR (fun k=>w.heap.size+2≤k∧k < g7) fb.length wr (.slice ao m cap) (fb.drop (64 * t))∧SumO w (blocksTo fb t) wr∧Ws 122 wr g7 K256) (fun t4 _=>lenOf t4)
     case atStart=>exact ⟨0,n+8,ao6,cap6,rfl,by omega,HF10.out,KO9.out,KK.out⟩
     case round=>
      obtain ⟨wj,rfl⟩:∃ x,x=wr:=⟨_,rfl⟩
      obtain ⟨t,m,ao10,cap10,rfl,hm,hF,hO,hK⟩:=hrel
      have hfl:fb.length=n+8:=HL.out
      have hdl:(fb.drop (64 * t)).length=m:=by rw [List.length_drop];omega
      have hcl:=hF.1.len.2
      have hdv:m % 64=0:=by have:=HDIV.out;omega
      have KF:=Lib.hid hF
      have KO:=Lib.hid hO
      have KK2:=Lib.hid hK
      have HDL:=Lib.hid hdl
      have zj:=hO.k3.lt
      have zk:=hK.lt
      clear hF hO hK hfl hdl KO9 KK HF10
      by_cases hlt:0 < m
      ·have hm64:64≤m:=by omega
       have hlti:(0:Int) < (m:Int):=by omega
       obtain ⟨H,hH⟩:∃ H,H=blocksTo fb t:=⟨_,rfl⟩
       have hHl:H.length=8:=by rw [hH];exact blocks_len fb t
       have hsucc:=blocks_succ fb t
       rw [← hH] at KO hsucc
       have HS:=Lib.hid hsucc
       have HHL:=Lib.hid hHl
       have HSZ:=Lib.hid (show (Try.prog.info? 120).map (·.size)=some (H.map wv).length by rw [List.length_map,hHl];exact size_a8)
       have HKS2:=Lib.hid (show (Try.prog.info? 122).map (·.size)=some (K256.map wv).length from HKS.out)
       have HC8:=Lib.hid (show ∀ k u,(H.map wv)[k]? = some u→wj.cell? ⟨w.heap.size+1,0+k,none⟩=some u by intro k u hu;rw [Nat.zero_add,Cs.cell KO.out.k3];simpa using hu)
       have HC64:=Lib.hid (show ∀ k u,(K256.map wv)[k]? = some u→wj.cell? ⟨g7,0+k,none⟩=some u by intro k u hu;rw [Nat.zero_add,Cs.cell KK2.out];simpa using hu)
       have hmix:=mix_any H K256 hHl K256_len (.slice ao10 m cap10) (fb.drop (64 * t)) wj KF.out.1 (fun g hg=>KF.out.1.block_lt (by have:=HDL.out;omega) g hg) (by have:=HDL.out;omega)
       rw [← hsucc] at hmix
       have HMIX:=Lib.hid hmix
       clear hH hHl hsucc hmix
       go_upto_region 14 with (fail)
       go_step
       refine wpList_loadA rfl 120 (.tmp 3) rfl Try.underlying120 rfl (g:=w.heap.size+1) (off:=0) (cs:=H.map wv) HSZ.out rfl HC8.out ?_
       simp only [Act.put,sIB,sCZ,sCS]
       refine wpList_loadA rfl 122 (.tmp 7) rfl Try.underlying122 rfl (g:=g7) (off:=0) (cs:=K256.map wv) HKS2.out rfl HC64.out ?_
       simp only [Act.put,sIB,sCZ,sCS]
       go_wp2_with fail
       refine (HMIX.out).mono ?_
       rintro e w10 ⟨rfl,hm10⟩
       obtain ⟨H2,hH2⟩:∃ H2,H2=blocksTo fb (t+1):=⟨_,rfl⟩
       have hH2l:H2.length=8:=by rw [hH2];exact blocks_len fb (t+1)
       rw [← hH2]
       have HH2:=Lib.hid hH2
       have HSZ2:=Lib.hid (show (Try.prog.info? 120).map (·.size)=some (H2.map wv).length by rw [List.length_map,hH2l];exact size_a8)
       have HFT:=Lib.hid (show 0+(H2.map wv).length≤(H.map wv).toArray.size by simp [hH2l,HHL.out])
       have HLY:=Lib.hid (A0 (H.map wv).toArray (H2.map wv) (by simp [hH2l,HHL.out]))
       have z10:=hm10.size
       have KO10:=Lib.hid (KO.out.mod hm10 (fun k h=>h.elim))
       have KK10:=Lib.hid (KK2.out.mod hm10 (fun h=>h))
       have KF10:=Lib.hid (KF.out.mod hm10 (fun _ _ h=>h))
       clear hH2 hH2l hm10 KO KK2 KF HMIX HC8 HC64
       go_wp2_with ((with_reducible show wpList _ _ _ (Oper.mk none (Op.store 120 (.tmp 3) (.tmp 50)) _ _ _ _ :: _) _ _);go_must (refine wpList_storeA rfl 120 (.tmp 3) (.tmp 50) rfl KO10.out.k3 (off:=0) (vs:=H2.map wv) HSZ2.out (wv_one _) HFT.out rfl rfl ?_))
       intro w11 hc11 hm11
       rw [HLY.out] at hc11
       have z11:=hm11.size
       have KO11:=Lib.hid (KO10.out.put hm11 hc11)
       have KK11:=Lib.hid (KK10.out.mod hm11 (by omega))
       have KF11:=KF10.out.mod hm11 (by intro k h1 h2;(try dsimp only at h1 h2);omega)
       have hdd:(fb.drop (64 * t)).drop 64=fb.drop (64 * (t+1)):=by rw [List.drop_drop];congr 1
       clear hc11 hm11 KO10 KK10 KF10
       rw [HH2.out] at KO11
       by_cases hc64:cap10=64
       ·have hta:=RdB.tail_at KF11.1 64 (by rw [HDL.out];omega) hc64
        rw [hdd,HDL.out] at hta
        have HTA:=Lib.hid (show RdR (fun k=>w.heap.size+2≤k∧k < g7) fb.length w11 (.slice ao10 (m - 64) 0) (fb.drop (64 * (t+1))) from ⟨hta,fun h0 g hg=>KF11.2.1 (by rw [HDL.out];omega) g (by cases ao10<;>simp_all [Value.ownBlock]),by simp⟩)
        clear hta KF11 hdd
        go_wp2
        go_roundw
        case rel=>exact ⟨t+1,m - 64,ao10,0,rfl,by omega,HTA.out,KO11.out,KK11.out⟩
        case measure=>simp [lenOf];omega
       ·have hta:=RdB.tail_in KF11.1 64 (by rw [HDL.out];omega) hc64
        rw [hdd,HDL.out] at hta
        have HTA:=Lib.hid (show RdR (fun k=>w.heap.size+2≤k∧k < g7) fb.length w11 (.slice (ao10.map fun x=>x.add 64) (m - 64) (cap10 - 64)) (fb.drop (64 * (t+1))) from ⟨hta,fun h0 g hg=>KF11.2.1 (by rw [HDL.out];omega) g (by rw [← ownBlock_map ao10 64 (m - 64) (cap10 - 64) m cap10];exact hg),by simp⟩)
        clear hta KF11 hdd
        go_wp2
        go_roundw
        case rel=>exact ⟨t+1,m - 64,ao10.map fun x=>x.add 64,cap10 - 64,rfl,by omega,HTA.out,KO11.out,KK11.out⟩
        case measure=>simp [lenOf];omega
      ·obtain rfl:m=0:=by omega
       have hn0:n+8=64 * t:=by omega
       have htl:t=fb.length / 64:=by have:=HL.out;omega
       have hres:shaF bs=(List.range 32).map (outB (blocksTo fb t)):=by rw [htl,HFB.out];rfl
       obtain ⟨H,hH⟩:∃ H,H=blocksTo fb t:=⟨_,rfl⟩
       have hHl:H.length=8:=by rw [hH];exact blocks_len fb t
       rw [← hH] at KO hres
       have HRES:=Lib.hid (show outTo H 32=shaF bs by rw [hres];simp [outTo])
       have HHL:=Lib.hid hHl
       have HSZ:=Lib.hid (show (Try.prog.info? 120).map (·.size)=some (H.map wv).length by rw [List.length_map,hHl];exact size_a8)
       have z12:=KO.out.k3.lt
       clear hH hHl hres htl hn0 hm KF KK2 HDL HL HFB HDIV HX hdv hlt
       go_upto_region 16 with (fail)
       obtain ⟨w12,hw12⟩:∃ x,x=wj.alloc (.cells ((List.replicate 32 0).map bv).toArray 32):=⟨_,rfl⟩
       change Code.wp _ _ _ _ (wj.alloc (.cells ((List.replicate 32 0).map bv).toArray 32))
       rw [← hw12]
       have hm12:Mod (fun _=>False) wj w12:=by rw [hw12];exact (Mod.refl _ _).alloc _
       have KO12:=Lib.hid (KO.out.mod hm12 (fun k h=>h.elim))
       have KT:=Lib.hid (show Cs w12 wj.heap.size ((outTo H 0).map bv).toArray 32 by rw [hw12];exact Cs.new _ _ _)
       have HC8:=Lib.hid (show ∀ k u,(H.map wv)[k]? = some u→w12.cell? ⟨w.heap.size+1,0+k,none⟩=some u by intro k u hu;rw [Nat.zero_add,Cs.cell KO12.out.k3];simpa using hu)
       obtain ⟨g8,hg8⟩:∃ g,g=wj.heap.size:=⟨_,rfl⟩
       rw [← hg8] at KT z12
       rw [← hg8]
       clear hw12 hm12 KO hg8
       go_step
       refine wpList_loadA rfl 120 (.tmp 3) rfl Try.underlying120 rfl (g:=w.heap.size+1) (off:=0) (cs:=H.map wv) HSZ.out rfl HC8.out ?_
       simp only [Act.put,sIB,sCZ,sCS]
       clear HC8
       go_wp2
       go_loopw [52] (fun t52 wr=>∃ (i:Nat),t52=.int .i64 i∧i≤8∧Cs wr g8 ((outTo H (4 * i)).map bv).toArray 32∧SumO w H wr) (fun t52 _=>8 - (intOf t52).toNat)
       case atStart=>exact ⟨0,rfl,by omega,KT.out,KO12.out⟩
       case round=>
        obtain ⟨wk,rfl⟩:∃ x,x=wr:=⟨_,rfl⟩
        obtain ⟨i,rfl,hi,hT,hO⟩:=hrel
        clear KT KO12
        have KT:=Lib.hid hT
        have KO:=Lib.hid hO
        clear hT hO
        by_cases hlt:i < 8
        ·obtain ⟨x,hx⟩:∃ x,x=H.getD i 0:=⟨_,rfl⟩
         have HX:=Lib.hid hx
         clear hx
         have hsz1:(Try.prog.info? 119).map (·.size)=some 1:=by kernel_rfl
         have HS1:=Lib.hid hsz1
         clear hsz1
         go_wp2_with ((with_reducible show wpList _ _ _ (Oper.mk (some 55) _ _ _ _ _ :: _) _ _);go_must (refine wpList_idxA rfl 120 (.tmp 51) (.tmp 52) rfl (i:=i) Try.underlying120 Try.underlying119 HS1.out H HHL.out hlt rfl rfl ?_);rw [← HX.out])
         go_loopw [56] (fun t56 wr=>∃ (j:Nat),t56=.int .i64 j∧j≤4∧Cs wr g8 ((outTo H (4 * i+j)).map bv).toArray 32∧SumO w H wr) (fun t56 _=>4 - (intOf t56).toNat)
         case atStart=>exact ⟨0,rfl,by omega,KT.out,KO.out⟩
         case round=>
          obtain ⟨wm,rfl⟩:∃ x,x=wr:=⟨_,rfl⟩
          obtain ⟨j,rfl,hj,hT,hO⟩:=hrel
          clear KT KO
          have KT:=Lib.hid hT
          have KO:=Lib.hid hO
          clear hT hO
          by_cases hlj:j < 4
          ·have hq:4 * i+j < 32:=by omega
           have hl32:=outTo_len H (4 * i+j) (by omega)
           have hc:wm.cell? ⟨g8,4 * i+j,none⟩=some (bv ((outTo H (4 * i+j)).getD (4 * i+j) 0)):=by
            rw [KT.out.cell];simp [List.getD,hl32,hq]
           have hf:=KT.out.frozen (4 * i+j)
           have hnext:=Cs_setB KT.out (4 * i+j) (outB H (4 * i+j))
           rw [outTo_succ H _ hq,outB_at H i j hlj,← HX.out] at hnext
           have hmm:Mod (fun k=>k=g8) wm (wm.setCell ⟨g8,4 * i+j,none⟩ (bv (x / 2 ^ (24 - 8 * j) % 256))):=Mod.setCell (Mod.refl (fun k=>k=g8) wm) (p:=⟨g8,4 * i+j,none⟩) (fun _=>rfl) _
           have hon:=KO.out.mod hmm (fun k hk=>by omega)
           have HNX:=Lib.hid hnext
           have HON:=Lib.hid hon
           generalize (outTo H (4 * i+j)).getD (4 * i+j) 0=old at hc
           clear hnext hmm hon hl32
           have HJ:=Lib.hid hlj
           match j,hlj with
           | 0,_=>
            have h1:=HNX.out
            have h2:=HON.out
            rw [show (2:Int) ^ (24 - 8 * 0)=16777216 from by decide] at h1 h2
            simp only [Nat.add_zero] at hc hf
            have H1:=Lib.hid h1
            have H2:=Lib.hid h2
            clear h1 h2 HNX HON
            go_wp2
            go_roundw
            case rel=>exact ⟨0+1,by go_num,by omega,H1.out,H2.out⟩
            case measure=>first|(simp [intOf];done)|(simp [intOf];omega)
           | 1,_=>
            have h1:=HNX.out
            have h2:=HON.out
            rw [show (2:Int) ^ (24 - 8 * 1)=65536 from by decide] at h1 h2
            skip
            have H1:=Lib.hid h1
            have H2:=Lib.hid h2
            clear h1 h2 HNX HON
            go_wp2
            go_roundw
            case rel=>exact ⟨1+1,by go_num,by omega,H1.out,H2.out⟩
            case measure=>first|(simp [intOf];done)|(simp [intOf];omega)
           | 2,_=>
            have h1:=HNX.out
            have h2:=HON.out
            rw [show (2:Int) ^ (24 - 8 * 2)=256 from by decide] at h1 h2
            skip
            have H1:=Lib.hid h1
            have H2:=Lib.hid h2
            clear h1 h2 HNX HON
            go_wp2
            go_roundw
            case rel=>exact ⟨2+1,by go_num,by omega,H1.out,H2.out⟩
            case measure=>first|(simp [intOf];done)|(simp [intOf];omega)
           | 3,_=>
            have h1:=HNX.out
            have h2:=HON.out
            rw [show (2:Int) ^ (24 - 8 * 3)=1 from by decide,Int.ediv_one] at h1 h2
            skip
            have H1:=Lib.hid h1
            have H2:=Lib.hid h2
            clear h1 h2 HNX HON
            go_wp2
            go_roundw
            case rel=>exact ⟨3+1,by go_num,by omega,H1.out,H2.out⟩
            case measure=>first|(simp [intOf];done)|(simp [intOf];omega)
          ·obtain rfl:j=4:=by omega
           go_wp2
           go_roundw
           case rel=>exact ⟨i+1,by go_num,by omega,by have:=KT.out;rw [show 4 * i+4=4 * (i+1) by omega] at this;exact this,KO.out⟩
           case measure=>first|(simp [intOf];done)|(simp [intOf];omega)
        ·obtain rfl:i=8:=by omega
         have hF:=HRES.out
         obtain ⟨F,hFF⟩:∃ F,F=shaF bs:=⟨_,rfl⟩
         rw [← hFF] at hF
         have hFl:F.length=32:=by rw [hFF];exact Bu bs
         have hT:=KT.out
         rw [show 4 * 8=32 from rfl,hF] at hT
         have HT:=Lib.hid hT
         have HFF2:=Lib.hid hFF
         have HSF:=Lib.hid (show (Try.prog.info? 32).map (·.size)=some (F.map bv).length by rw [List.length_map,hFl];exact Bj)
         have HCF:=Lib.hid (show ∀ k u,(F.map bv)[k]? = some u→wk.cell? ⟨g8,0+k,none⟩=some u by intro k u hu;rw [Nat.zero_add,HT.out.cell];simpa using hu)
         have HFF:=Lib.hid (show 0+(F.map bv).length≤((List.replicate 32 0).map bv).toArray.size by simp [hFl])
         have HLY:=Lib.hid (A0 ((List.replicate 32 0).map bv).toArray (F.map bv) (by simp [hFl]))
         clear hF hFF hFl hT KT
         rw [show ((8:Nat):Int)=8 from rfl]
         go_upto_region 25 with (fail)
         go_step
         refine wpList_loadA rfl 32 (.tmp 8) rfl Try.underlying32 rfl (g:=g8) (off:=0) (cs:=F.map bv) HSF.out rfl HCF.out ?_
         simp only [Act.put,sIB,sCZ,sCS]
         refine wpList_storeA rfl 32 (.tmp 2) (.tmp 72) rfl KO.out.k2 (vs:=F.map bv) HSF.out (ints_oneCell .u8 _) HFF.out rfl rfl ?_
         intro w20 hc20 hm20
         rw [HLY.out] at hc20
         go_wp2
         refine bodyPost_ret (Br rfl _ _ w.heap.size (F.map bv) rfl (fun k u hu=>by rw [hc20.cell];simpa using hu) Try.underlying32 rfl HSF.out) rfl ⟨by rw [HFF2.out];rfl,KO.out.m.trans (hm20.mono (S':=fun k=>k=w.heap.size) (fun k _ hk=>hk)) (by intro k h1 h2;omega)⟩
end Go.Proofs.Ytbifincepglilaa

/- Hashes as keys of maps; zeros. -/
namespace Go.Proofs.Ytbifincepglilaa
open Go Go.RowKit Go.Gv
open Go.Maps (Keyed)
theorem laidOutX:laidOutB Try.prog=true:=by kernel_rfl
/-- a hash -/
def HK (bs:List Int):Prop:=bs.length=32∧Bytes bs
theorem zero_run {P:Program} {T:TypeId} {z:Value} (h:(P.info? T).bind (·.zero)=some z) (w:World):(zeroValue T).run P w=.ok z w:=by
 obtain ⟨info,hi,hz⟩:=zero_of h
 simp [zeroValue,typeInfo,hi,hz]
theorem zero_int:(Try.prog.info? 3).bind (·.zero)=some (.int .i64 0):=by kernel_rfl
end Go.Proofs.Ytbifincepglilaa

/- A writer that a region fills, one call behind the other: the state for wp_region_G. -/
namespace Go.Proofs.Ytbifincepglilaa
open Go Go.RowKit Go.Gv
/-- how much a stage has at most -/
def Nf (k:Nat):Nat:=100 * k
/-- the trail of a new writer: it is made, then filled: behind k calls it has ct k -/
def WcG (B:Nat) (ct:Nat→List Int) (t:List Value) (w:World):Prop:=B≤w.heap.size∧
 ∀ p,t[0]? = some p→∃ g,p=.pointer (some ⟨g,0,none⟩)∧(∀ q ∈ t,q=p)∧B≤g∧
  (t.length=1→Cs w g #[.slice none 0 0] 118)∧(2≤t.length→WrR (fun k=>B≤k) (Nf t.length) w g (ct t.length))
def WcS (B:Nat):Nat→Nat→Prop:=fun k j=>1≤k∧B≤j
theorem WcS_T (B:Nat):∀ k j,WcS B k j→B≤j:=fun _ _ h=>h.2
theorem WcG_nil {B:Nat} {ct:Nat→List Int} {w:World} (h:B≤w.heap.size):WcG B ct [] w:=⟨h,fun p hp=>by simp at hp⟩
theorem Cs_marked {B:Nat} {T8:TypeId} {w w':World} {g:Nat} {c:Array Value} {e:TypeId} (h:Cs w g c e) (hm:Marked B T8 w w') (hne:e≠T8):Cs w' g c e:=by
 rcases hm.block g h.lt with h1|⟨-,C,m,h1,-⟩
 ·exact h1.trans h
 ·unfold Cs at h
  rw [h] at h1
  cases h1
  exact absurd rfl hne
theorem WcG_still {B:Nat} {ct:Nat→List Int}:∀ t w w',WcG B ct t w→StillM B 5 1 t.length w w'→WcG B ct t w':=by
 rintro t w w' ⟨h0,h⟩ hr
 refine ⟨Nat.le_trans h0 (by rcases hr with hr|⟨-,hr⟩;exact hr.size;exact hr.size),fun p hp=>?_⟩
 obtain ⟨g,h1,h2,h3,h4,h5⟩:=h p hp
 rcases hr with hr|⟨hk,hr⟩
 ·exact ⟨g,h1,h2,h3,fun h=>(h4 h).mod hr (fun h=>h),fun h=>(h5 h).mod hr (fun _ _ h=>h)⟩
 ·exact ⟨g,h1,h2,h3,fun h=>Cs_marked (h4 h) hr (by decide),fun h=>by omega⟩
/-- the writer is made -/
theorem WcG_new {B:Nat} {ct:Nat→List Int} {t:List Value} {w w':World} (h:WcG B ct t w) (hl:t.length=0) {g:Nat} (hg:w.heap.size≤g) (hc:Wr w' g (.slice none 0 0) []) (hm:Mod (fun _=>False) w w'):WcG B ct (t ++ [.pointer (some ⟨g,0,none⟩)]) w':=by
 obtain rfl:t=[]:=List.eq_nil_of_length_eq_zero hl
 refine ⟨Nat.le_trans h.1 hm.size,fun p hp=>?_⟩
 simp only [List.nil_append,List.getElem?_cons_zero,Option.some.injEq] at hp
 subst hp
 exact ⟨g,rfl,by simp,Nat.le_trans h.1 hg,fun _=>hc.1,fun h=>by simp at h⟩
theorem WcG_at {B:Nat} {ct:Nat→List Int} {t:List Value} {w:World} (h:WcG B ct t w) (hl:0 < t.length):∃ g,t[0]? = some (.pointer (some ⟨g,0,none⟩))∧(∀ q ∈ t,q=.pointer (some ⟨g,0,none⟩))∧B≤g:=by
 obtain ⟨g,h1,h2,h3,-,-⟩:=h.2 t[0] (List.getElem?_eq_getElem hl)
 exact ⟨g,by rw [List.getElem?_eq_getElem hl,h1],by rw [← h1];exact h2,h3⟩
theorem WcG_on {B:Nat} {ct:Nat→List Int} {t:List Value} {w w':World} (h:WcG B ct t w) {g:Nat} (h0:t[0]? = some (.pointer (some ⟨g,0,none⟩))) (h2:2≤(t ++ [Value.pointer (some ⟨g,0,none⟩)]).length) {N:Nat} {R:Nat→Prop} (hw:WrR R N w' g (ct (t.length+1))) (hR:∀ k,R k→B≤k) (hN:N≤Nf (t.length+1)) (hs:w.heap.size≤w'.heap.size):WcG B ct (t ++ [.pointer (some ⟨g,0,none⟩)]) w':=by
 have hlt:0 < t.length:=(List.getElem?_eq_some_iff.1 h0).1
 obtain ⟨g',e1,e2,e3⟩:=WcG_at h hlt
 rw [h0] at e1
 cases e1
 refine ⟨Nat.le_trans h.1 hs,fun p hp=>?_⟩
 rw [List.getElem?_append_left hlt,h0] at hp
 cases hp
 refine ⟨g,rfl,fun q hq=>?_,e3,fun h=>by rw [h] at h2;omega,fun _=>?_⟩
 ·rcases List.mem_append.1 hq with hq|hq
  ·exact e2 q hq
  ·simpa using hq
 ·rw [List.length_append]
  exact hw.widen hR hN
/-- what stands in the trail at any place is the writer -/
theorem WcG_val {B:Nat} {ct:Nat→List Int} {t:List Value} {w:World} (h:WcG B ct t w) {j:Nat} {v:Value} (hv:t[j]? = some v):∃ g,v=.pointer (some ⟨g,0,none⟩)∧t[0]? = some (.pointer (some ⟨g,0,none⟩))∧B≤g∧(t.length=1→Cs w g #[.slice none 0 0] 118)∧(2≤t.length→WrR (fun k=>B≤k) (Nf t.length) w g (ct t.length)):=by
 have hlt:0 < t.length:=by have:=(List.getElem?_eq_some_iff.1 hv).1;omega
 obtain ⟨g,h1,h2,h3,h4,h5⟩:=h.2 t[0] (List.getElem?_eq_getElem hlt)
 have:=h2 v (List.mem_of_getElem? hv)
 exact ⟨g,by rw [this,h1],by rw [List.getElem?_eq_getElem hlt,h1],h3,h4,h5⟩
/-- the first call: a row that is a literal -/
theorem Wc_row {B:Nat} {ct:Nat→List Int} {t:List Value} {w:World} {p v:Value} {C:List Int} (h:WcG B ct t w) (hl:t.length=1) (hp:t[0]? = some p) (hv:litG B 5 1 (C.map bv).toArray t v w) (hC:Bytes C) (hC2:C.length≤50) (hct:ct 2=encN C.length ++ C) :
 Calls Try.prog 44 #[p,v] w fun e w'=>∃ u,e=.returned u∧Mod (WcS B t.length) w w'∧(t ++ [u])[1]? = some u∧WcG B ct (t ++ [u]) w':=by
 obtain ⟨g,rfl,h0,hB,hc,-⟩:=WcG_val h hp
 obtain ⟨g2,rfl,hB2,m,-,hb⟩:=hv (by omega)
 have hcs:=hc hl
 have hne:g2≠g:=by
  rintro rfl
  unfold Cs at hcs
  rw [hb] at hcs
  have e:(5:TypeId)=118:=congrArg (fun o=>match o with|some (Obj.cells _ e _)=>e|_=>0) hcs
  exact absurd e (by decide)
 have hW:WrR (fun k=>k=g) 0 w g []:=⟨.slice none 0 0,⟨hcs,OwnB.nil _⟩,rfl,(fun g hg=>by cases hg),Nat.le_refl _⟩
 have hrd:RdB w (.slice (some ⟨g2,0,none⟩) (C.map bv).toArray.size (C.map bv).toArray.size) C:=by
  refine ⟨hC,?_⟩
  have e:(C.map bv).toArray.size=C.length:=by simp
  rw [e]
  refine Rd.mk (by omega) (by rw [Bk];omega) (by simp) (fun j u hu=>?_)
  rw [show (0:Nat)+j=j by omega]
  simp only [World.cell?,hb]
  simpa using hu
 have hr:RdR (fun k=>k=g2) 50 w (.slice (some ⟨g2,0,none⟩) (C.map bv).toArray.size (C.map bv).toArray.size) C:=⟨hrd,fun _ g hg=>(Option.some.inj (hg.symm.trans rfl)),hC2⟩
 refine (WRow_R hW hr (fun k h1 h2=>hne (h1.symm.trans h2)) (by omega)).mono ?_
 rintro e w2 ⟨rfl,hw2,hm2⟩
 refine ⟨_,rfl,hm2.mono (fun k _ hk=>⟨by omega,by subst hk;exact hB⟩),?_,WcG_on h h0 (by simp;omega) (R:=fun k=>k=g∨New w w2 k) (N:=0+50+10) (by rw [hl,hct];simpa using hw2) (fun k hk=>?_) (by rw [hl];decide) hm2.size⟩
 ·rw [List.getElem?_append_right (by omega),hl];rfl
 ·rcases hk with rfl|hk
  ·exact hB
  ·exact Nat.le_trans h.1 hk.1
/-- a whole number -/
theorem Wc_int {B:Nat} {ct:Nat→List Int} {t:List Value} {w:World} {p:Value} {n:Int} {k:Nat} (h:WcG B ct t w) (hl:t.length=k) (h2:2≤k) (h9:k≤90) {j:Nat} (hp:t[j]? = some p) (hn:-9223372036854775808≤n∧n≤9223372036854775807) (hct:ct (k+1)=ct k ++ encI n) :
 Calls Try.prog 45 #[p,.int .i64 n] w fun e w'=>∃ u,e=.returned u∧Mod (WcS B t.length) w w'∧(t ++ [u])[k]? = some u∧WcG B ct (t ++ [u]) w':=by
 obtain ⟨g,rfl,h0,hB,-,hw⟩:=WcG_val h hp
 refine (WInt_R (hw (by omega)) hn (by unfold Nf;omega)).mono ?_
 rintro e w2 ⟨rfl,hw2,hm2⟩
 refine ⟨_,rfl,hm2.mono (fun k _ hk=>⟨by omega,hk⟩),?_,WcG_on h h0 (by simp;omega) (by rw [hl,hct];rw [hl] at hw2;exact hw2) (fun k hk=>?_) (by unfold Nf;omega) hm2.size⟩
 ·rw [List.getElem?_append_right (by omega),hl];simp
 ·rcases hk with hk|hk
  ·exact hk
  ·exact Nat.le_trans h.1 hk.1
end Go.Proofs.Ytbifincepglilaa

/- commit.Of. -/
namespace Go.Proofs.Ytbifincepglilaa
open Go Go.RowKit Go.Gv
def commitLit:List Int:=[99,111,109,109,105,116]
def ofC (a b:Int) (h bs:List Int):Nat→List Int
 | 0|1=>[]
 | 2=>encN commitLit.length ++ commitLit
 | 3=>(encN commitLit.length ++ commitLit) ++ encI a
 | 4=>((encN commitLit.length ++ commitLit) ++ encI a) ++ encI b
 | 5=>(((encN commitLit.length ++ commitLit) ++ encI a) ++ encI b) ++ h
 | _=>((((encN commitLit.length ++ commitLit) ++ encI a) ++ encI b) ++ h) ++ (encN bs.length ++ bs)
def ofT (a b:Int) (h bs:List Int):List Int:=ofC a b h bs 6
def I64 (n:Int):Prop:=-9223372036854775808≤n∧n≤9223372036854775807
def OfSt (B g gr:Nat) (ct:Nat→List Int):Nat→List Value→World→Prop:=fun k t w=>B≤w.heap.size∧match k with
 | 0=>WrR (fun k=>B≤k) (Nf 4) w g (ct 4)∧Cs w gr ((List.replicate 32 0).map bv).toArray 32
 | 1=>WrR (fun k=>B≤k) (Nf 4+32) w g (ct 5)∧Cs w gr ((List.replicate 32 0).map bv).toArray 32
 | 2=>WrR (fun k=>B≤k) 900000 w g (ct 6)∧Cs w gr ((List.replicate 32 0).map bv).toArray 32
 | 3=>(∃ v,t[2]? = some v∧RdB w v (ct 6)∧(ct 6).length≤900000)∧Cs w gr ((List.replicate 32 0).map bv).toArray 32
 | 4=>Cs w gr ((List.replicate 32 0).map bv).toArray 32
 | _=>Cs w gr ((shaF (ct 6)).map bv).toArray 32
theorem OfSt_still {B g gr:Nat} {ct:Nat→List Int}:∀ k t w w',OfSt B g gr ct k t w→Mod (fun _=>False) w w'→OfSt B g gr ct k t w':=by
 rintro k t w w' ⟨h0,h⟩ hm
 refine ⟨Nat.le_trans h0 hm.size,?_⟩
 match k,h with
 | 0,h|1,h|2,h=>exact ⟨h.1.mod hm (fun _ _ h=>h),h.2.mod hm (fun h=>h)⟩
 | 3,⟨⟨v,h1,h2,h3⟩,h4⟩=>exact ⟨⟨v,h1,h2.mod hm (fun _ _ _ h=>h),h3⟩,h4.mod hm (fun h=>h)⟩
 | 4,h=>exact Cs.mod h hm (fun h=>h)
 | k+5,h=>exact Cs.mod h hm (fun h=>h)
set_option maxHeartbeats 1000000 in
theorem Of_any (a b:Int) (h bs:List Int) (v:Value) (w:World) (ha:I64 a) (hb:I64 b) (hh:h.length=32) (hB:Bytes h) (hr:RdB w v bs) (hl:bs.length≤800000) :
 Calls Try.prog 26 #[.agg #[.int .i64 a,.int .i64 b],hv h,v] w fun e w'=>e=.returned (hv (shaF (ofT a b h bs)))∧Mod (fun _=>False) w w':=by
 have hbl:=hr.block_lt
 have HR:=Lib.hid hr
 have HBL:=Lib.hid hbl
 have HA:=Lib.hid ha
 have HBb:=Lib.hid hb
 have HL:=Lib.hid hh
 have HBy:=Lib.hid hB
 have HLB:=Lib.hid hl
 clear hbl hr ha hb hh hB hl
 change Calls _ _ #[.agg #[.int .i64 a,.int .i64 b],.agg (h.map bv).toArray,v] _ _
 go_enter Try.func26,Try.ntmps26
 go_upto_region 1 with (fail)
 obtain ⟨w1,hw1⟩:∃ x,x=((w.alloc (.cells #[.int .i64 a,.int .i64 b] 30)).alloc (.cells (h.map bv).toArray 32)).alloc (.cells ((List.replicate 32 0).map bv).toArray 32):=⟨_,rfl⟩
 change Code.wp _ _ _ _ (((w.alloc (.cells #[.int .i64 a,.int .i64 b] 30)).alloc (.cells (h.map bv).toArray 32)).alloc (.cells ((List.replicate 32 0).map bv).toArray 32))
 rw [← hw1]
 have KN:=Lib.hid (show Cs w1 w.heap.size #[.int .i64 a,.int .i64 b] 30 by rw [hw1];exact ((Cs.new _ _ _).alloc _).alloc _)
 have KH:=Lib.hid (show Cs w1 (w.heap.size+1) (h.map bv).toArray 32 by rw [hw1];exact (Cs_new1 _ _ _ _).alloc _)
 have KR:=Lib.hid (show Cs w1 (w.heap.size+1+1) ((List.replicate 32 0).map bv).toArray 32 by
  rw [hw1]
  have:=Cs_new1 (w.alloc (.cells #[.int .i64 a,.int .i64 b] 30)) (.cells (h.map bv).toArray 32) ((List.replicate 32 0).map bv).toArray 32
  rwa [show (w.alloc (.cells #[.int .i64 a,.int .i64 b] 30)).heap.size=w.heap.size+1 by simp] at this)
 have KM:=Lib.hid (show Mod (fun _=>False) w w1 by rw [hw1];exact (((Mod.refl _ _).alloc _).alloc _).alloc _)
 have hs1:w1.heap.size=w.heap.size+3:=by rw [hw1];simp
 clear hw1
 obtain ⟨B,hBB⟩:∃ B,B=w1.heap.size:=⟨_,rfl⟩
 have HBB:=Lib.hid (show w1.heap.size≤B by omega)
 have HBE:=Lib.hid hBB
 have hB3:B=w.heap.size+3:=by omega
 clear hBB
 generalize ha0:Act.mk _ _=a0
 have oe3:a0.eval (.tmp 3)=.pointer (some ⟨w.heap.size,0,none⟩):=by rw [← ha0];rfl
 have hsz0:a0.tmps.size=25:=by rw [← ha0];rfl
 have HA0:=Lib.hid ha0
 clear ha0
 refine Bf 25 hsz0 (by kernel_rfl) (by kernel_rfl) [8,9,10,11,12,13,14,15,16,17,7] (by kernel_rfl) (by decide) (fun j=>B≤j) (WcS B) (WcS_T B) (StillM B 5 1) stillM_still stillM_T [gv 0,litG B 5 1 (commitLit.map bv).toArray,litG B 5 1 (commitLit.map bv).toArray,gv 1,gi (.pointer (some ⟨w.heap.size,0,none⟩)),gi (.int .i64 a),gv 2,gi (.pointer (some ⟨w.heap.size,1,none⟩)),gi (.int .i64 b),gv 3,gv 3] ⟨gv_stable,litG_stable (fun k hk j h=>by have:=h.1;omega),litG_stable (fun k hk j h=>by have:=h.1;omega),gv_stable,Af,Af,gv_stable,Af,Af,gv_stable,gv_stable,trivial⟩ [0,3,6,9] (by kernel_rfl) (by decide) (by kernel_rfl) (WcG B (ofC a b h bs)) WcG_still (WcG_nil (Nat.le_of_eq HBE.out)) ⟨?_,?_,?_,?_,?_,?_,?_,?_,?_,?_,?_,trivial⟩ ?_
 ·intro tr act w' hm hout hsz hd hG hk hub
  have hl:=hk 0 rfl
  refine jc_call (args:=#[]) (by rfl) rfl (Ab rfl) (by rw [A8 rfl Try.func43 (by kernel_rfl) (by kernel_rfl)];simp) (NewWriter_any _) ?_
  rintro e w2 ⟨rfl,hW,hm2⟩
  exact ⟨_,rfl,hm2.mono (fun _ _ h=>h.elim),gv_new tr _ w2 hl,WcG_new hG hl (Nat.le_refl _) hW hm2⟩
 ·intro tr act w' hm hout hsz hd hG hk hub
  refine Aj (by rfl) rfl (Ab rfl) (ex_lit rfl Try.underlying38 (by kernel_rfl) (by decide) (C:=(commitLit.map bv).toArray) (by simp only [List.map_toArray,List.map_cons,List.map_nil,Act.eval];kernel_rfl)) (Or.inl ((Mod.refl _ _).alloc _)) ?_
  exact fun _=>⟨_,rfl,hG.1,_,Or.inl rfl,heap_alloc_new _ _⟩
 ·intro tr act w' hm hout hsz hd hG hk hub
  have h1:=hd ⟨1,.data⟩ (by simp) rfl _ rfl
  have hle:=hub 1 3 rfl (by kernel_rfl)
  obtain ⟨g,e1,hB,m,h0',hb⟩:=h1 hle
  exact jg_mark (by rfl) rfl (Ab rfl) rfl Try.underlying38 Try.underlying5 h0' hB hb e1 (fun _ hmk=>Or.inr ⟨hle,hmk⟩) (fun _ hb2 _=>⟨g,rfl,hB,_,Or.inr rfl,hb2⟩)
 ·intro tr act w' hm hout hsz hd hG hk hub
  have h0:=hd ⟨0,.data⟩ (by simp) rfl _ rfl
  have h2:=hd ⟨2,.data⟩ (by simp) rfl _ rfl
  have hl:=hk 1 rfl
  exact jc_call (args:=#[act.eval (.tmp 8),act.eval (.tmp 10)]) (by rfl) rfl (Ab rfl) (by rw [A8 rfl Try.func44 (by kernel_rfl) (by kernel_rfl)];exact congrArg (fun z=>Result.ok (Next.enter _ z) _) (by simp only [List.map_toArray,List.map_cons,List.map_nil];try rfl)) (Wc_row hG hl h0 h2 (by unfold Bytes;decide) (by decide) rfl) (fun _ _ h=>h)
 ·intro tr act w' hm hout hsz hd hG hk hub
  refine Aj (by rfl) rfl (Ab rfl) (Ai rfl Try.underlying30 rfl (by kernel_rfl) ((hout 3 (by decide)).trans oe3)) (Or.inl (Mod.refl _ _)) ?_
  rfl
 ·intro tr act w' hm hout hsz hd hG hk hub
  have h4:=hd ⟨4,.data⟩ (by simp) rfl _ rfl
  exact Aj (by rfl) rfl (Ab rfl) (Am rfl Try.underlying3 rfl h4 (by rw [(KN.out.mod hm (by omega)).cell];rfl)) (Or.inl (Mod.refl _ _)) rfl
 ·intro tr act w' hm hout hsz hd hG hk hub
  have h3:=hd ⟨3,.data⟩ (by simp) rfl _ rfl
  have h5:=hd ⟨5,.data⟩ (by simp) rfl _ rfl
  have hl:=hk 2 rfl
  exact jc_call (args:=#[act.eval (.tmp 11),.int .i64 a]) (by rfl) rfl (Ab rfl) (by rw [A8 rfl Try.func45 (by kernel_rfl) (by kernel_rfl)];exact congrArg (fun z=>Result.ok (Next.enter _ z) _) (by simp only [List.map_toArray,List.map_cons,List.map_nil,show act.eval (.tmp 13)=_ from h5];try rfl)) (Wc_int hG hl (by decide) (by decide) h3 HA.out rfl) (fun _ _ h=>h)
 ·intro tr act w' hm hout hsz hd hG hk hub
  refine Aj (by rfl) rfl (Ab rfl) (Ai rfl Try.underlying30 rfl (by kernel_rfl) ((hout 3 (by decide)).trans oe3)) (Or.inl (Mod.refl _ _)) ?_
  rfl
 ·intro tr act w' hm hout hsz hd hG hk hub
  have h7:=hd ⟨7,.data⟩ (by simp) rfl _ rfl
  exact Aj (by rfl) rfl (Ab rfl) (Am rfl Try.underlying3 rfl h7 (by rw [(KN.out.mod hm (by omega)).cell];rfl)) (Or.inl (Mod.refl _ _)) rfl
 ·intro tr act w' hm hout hsz hd hG hk hub
  have h6:=hd ⟨6,.data⟩ (by simp) rfl _ rfl
  have h8:=hd ⟨8,.data⟩ (by simp) rfl _ rfl
  have hl:=hk 3 rfl
  exact jc_call (args:=#[act.eval (.tmp 14),.int .i64 b]) (by rfl) rfl (Ab rfl) (by rw [A8 rfl Try.func45 (by kernel_rfl) (by kernel_rfl)];exact congrArg (fun z=>Result.ok (Next.enter _ z) _) (by simp only [List.map_toArray,List.map_cons,List.map_nil,show act.eval (.tmp 16)=_ from h8];try rfl)) (Wc_int hG hl (by decide) (by decide) h6 HBb.out rfl) (fun _ _ h=>h)
 ·intro tr act w' hm hout hsz hd hG hk hub
  have h9:=hd ⟨9,.data⟩ (by simp) rfl _ rfl
  exact Aj (by rfl) rfl (Ab rfl) (An rfl rfl) (Or.inl (Mod.refl _ _)) h9
 intro vs tr w2 hl htl hm hG hV
 obtain ⟨v0,vs0,rfl,hl0⟩:=Ae hl
 obtain ⟨v1,vs1,rfl,hl1⟩:=Ae hl0
 obtain ⟨v2,vs2,rfl,hl2⟩:=Ae hl1
 obtain ⟨v3,vs3,rfl,hl3⟩:=Ae hl2
 obtain ⟨v4,vs4,rfl,hl4⟩:=Ae hl3
 obtain ⟨v5,vs5,rfl,hl5⟩:=Ae hl4
 obtain ⟨v6,vs6,rfl,hl6⟩:=Ae hl5
 obtain ⟨v7,vs7,rfl,hl7⟩:=Ae hl6
 obtain ⟨v8,vs8,rfl,hl8⟩:=Ae hl7
 obtain ⟨v9,vs9,rfl,hl9⟩:=Ae hl8
 obtain ⟨v10,vs10,rfl,hl10⟩:=Ae hl9
 obtain rfl:=Bl hl10
 clear hl hl0 hl1 hl2 hl3 hl4 hl5 hl6 hl7 hl8 hl9 hl10
 have f10:=hV 10 _ rfl
 have ha0:=HA0.out
 subst ha0
 clear HA0 hV hsz0 oe3
 simp only [Ar,Act.put,sIB,sCZ,sCS]
 obtain ⟨g,rfl,-,hgB,-,hw⟩:=WcG_val hG f10
 have hw4:=hw (by rw [htl];decide)
 rw [show tr.length=4 from htl] at hw4
 have KH2:=Lib.hid (KH.out.mod hm (by omega))
 have HRR:=Lib.hid (show RdR (fun k=>k < w.heap.size) 800000 w2 v bs from (RdR.mod (S:=fun j=>B≤j) ⟨HR.out.mod KM.out (fun _ _ _ h=>h),HBL.out,HLB.out⟩ hm (fun k h1 h2=>by omega)))
 have HG0:=Lib.hid (show ByLen (OfSt B g (w.heap.size+1+1) (ofC a b h bs)) [] w2 from ⟨hG.1,hw4,KR.out.mod hm (by omega)⟩)
 have KM2:=Lib.hid (KM.out.trans hm (fun k h1 h2=>by omega))
 clear hG hm hw hw4 f10 htl
 go_upto_region 2 with (fail)
 generalize ha0:Act.mk _ _=a0
 have oe2:a0.eval (.tmp 2)=v:=by rw [← ha0];rfl
 have oe4:a0.eval (.tmp 4)=.pointer (some ⟨w.heap.size+1,0,none⟩):=by rw [← ha0];rfl
 have oe6:a0.eval (.tmp 6)=.pointer (some ⟨w.heap.size+1+1,0,none⟩):=by rw [← ha0];rfl
 have oe7:a0.eval (.tmp 7)=.pointer (some ⟨g,0,none⟩):=by rw [← ha0];rfl
 have hsz0:a0.tmps.size=25:=by rw [← ha0];rfl
 have HA0:=Lib.hid ha0
 clear ha0
 refine Bf 25 hsz0 (by kernel_rfl) (by kernel_rfl) [18,19,20,21,22,23,24,32] (by kernel_rfl) (by decide) (fun j=>B≤j∨j=w.heap.size+1+1) (fun k j=>B≤j∨(k=4∧j=w.heap.size+1+1)) (fun k j h=>by omega) Still (fun _ _ _ h=>h) (fun _ _ _ hm h=>hm.trans h (fun _ _ h=>h.elim)) [gi (.pointer (some ⟨g,0,none⟩)),gi (hv h),gi (.pointer (some ⟨g,0,none⟩)),gi (v),gi (.pointer (some ⟨g,0,none⟩)),gv 2,gi (hv (shaF (ofT a b h bs))),gv 4] ⟨Af,Af,Af,Af,Af,gv_stable,Af,gv_stable,trivial⟩ [2,4,5,6,7] (by kernel_rfl) (by decide) (by kernel_rfl) (ByLen (OfSt B g (w.heap.size+1+1) (ofC a b h bs))) (ByLen.still OfSt_still) HG0.out ⟨?_,?_,?_,?_,?_,?_,?_,?_,trivial⟩ ?_
 ·intro tr act w' hm hout hsz hd hG hk hub
  exact Aj (by rfl) rfl (Ab rfl) (Ah rfl ((hout 7 (by decide)).trans oe7)) (Mod.refl _ _) rfl
 ·intro tr act w' hm hout hsz hd hG hk hub
  exact Aj (by rfl) rfl (Ab rfl) (Ap rfl Try.underlying32 rfl (off:=0) (cs:=h.map bv) (by rw [List.length_map,HL.out];exact Bj) ((hout 4 (by decide)).trans oe4) (fun j u hu=>by rw [Nat.zero_add,(KH2.out.mod hm (by omega)).cell];simpa using hu)) (Mod.refl _ _) rfl
 ·intro tr act w' hm hout hsz hd hG hk hub
  have h0:=hd ⟨0,.data⟩ (by simp) rfl _ rfl
  have h1:=hd ⟨1,.data⟩ (by simp) rfl _ rfl
  have hl:=hk 0 rfl
  have hs:=hG.at hl
  refine jc_call (args:=#[.pointer (some ⟨g,0,none⟩),hv h]) (by rfl) rfl (Ab rfl) (by rw [A8 rfl Try.func47 (by kernel_rfl) (by kernel_rfl)];exact congrArg (fun z=>Result.ok (Next.enter _ z) _) (by simp only [List.map_toArray,List.map_cons,List.map_nil,show act.eval (.tmp 18)=_ from h0,show act.eval (.tmp 19)=_ from h1];try rfl)) (WHash_R hs.2.1 HL.out HBy.out (by decide)) ?_
  rintro e w2 ⟨rfl,hw2,hm2⟩
  exact ⟨_,rfl,hm2.mono (fun _ _ h=>Or.inl h),rfl,ByLen.on hl ⟨Nat.le_trans hs.1 hm2.size,hw2.widen (fun k hk=>by rcases hk with hk|hk;exact hk;exact Nat.le_trans hs.1 hk.1) (Nat.le_refl _),hs.2.2.mod hm2 (by omega)⟩⟩
 ·intro tr act w' hm hout hsz hd hG hk hub
  exact Aj (by rfl) rfl (Ab rfl) (Ah rfl ((hout 2 (by decide)).trans oe2)) (Mod.refl _ _) rfl
 ·intro tr act w' hm hout hsz hd hG hk hub
  have h2:=hd ⟨2,.data⟩ (by simp) rfl _ rfl
  have h3:=hd ⟨3,.data⟩ (by simp) rfl _ rfl
  have hl:=hk 1 rfl
  have hs:=hG.at hl
  refine jc_call (args:=#[.pointer (some ⟨g,0,none⟩),v]) (by rfl) rfl (Ab rfl) (by rw [A8 rfl Try.func44 (by kernel_rfl) (by kernel_rfl)];exact congrArg (fun z=>Result.ok (Next.enter _ z) _) (by simp only [List.map_toArray,List.map_cons,List.map_nil,show act.eval (.tmp 20)=_ from h2,show act.eval (.tmp 21)=_ from h3];try rfl)) (WRow_R hs.2.1 (HRR.out.mod hm (fun k h1 h2=>by omega)) (fun k h1 h2=>by omega) (by unfold Nf;omega)) ?_
  rintro e w2 ⟨rfl,hw2,hm2⟩
  exact ⟨_,rfl,hm2.mono (fun _ _ h=>Or.inl h),rfl,ByLen.on hl ⟨Nat.le_trans hs.1 hm2.size,hw2.widen (fun k hk=>by rcases hk with hk|hk;exact hk;exact Nat.le_trans hs.1 hk.1) (by unfold Nf;omega),hs.2.2.mod hm2 (by omega)⟩⟩
 ·intro tr act w' hm hout hsz hd hG hk hub
  have h4:=hd ⟨4,.data⟩ (by simp) rfl _ rfl
  have hl:=hk 2 rfl
  have hs:=hG.at hl
  refine jc_call (args:=#[.pointer (some ⟨g,0,none⟩)]) (by rfl) rfl (Ab rfl) (by rw [A8 rfl Try.func48 (by kernel_rfl) (by kernel_rfl)];exact congrArg (fun z=>Result.ok (Next.enter _ z) _) (by simp only [List.map_toArray,List.map_cons,List.map_nil,show act.eval (.tmp 22)=_ from h4];try rfl)) (WBytes_R hs.2.1 (by decide)) ?_
  rintro e w2 ⟨u,rfl,ho,hm2⟩
  exact ⟨_,rfl,hm2.mono (fun _ _ h=>h.elim),gv_new tr _ w2 hl,ByLen.on hl ⟨Nat.le_trans hs.1 hm2.size,⟨u,by rw [List.getElem?_append_right (by omega),hl];rfl,ho.rd.1,ho.2.2⟩,hs.2.2.mod hm2 (fun h=>h)⟩⟩
 ·intro tr act w' hm hout hsz hd hG hk hub
  have h5:=hd ⟨5,.data⟩ (by simp) rfl _ rfl
  have hl:=hk 3 rfl
  have hs:=hG.at hl
  obtain ⟨u,h1,h2,h3⟩:=hs.2.1
  have e5:act.eval (.tmp 23)=u:=Option.some.inj (Eq.trans (Eq.symm h5) h1)
  refine jc_call (args:=#[u]) (by rfl) rfl (Ab rfl) (by rw [A8 rfl Try.func46 (by kernel_rfl) (by kernel_rfl)];exact congrArg (fun z=>Result.ok (Next.enter _ z) _) (by simp only [List.map_toArray,List.map_cons,List.map_nil,show act.eval (.tmp 23)=_ from e5];try rfl)) (Sum_any u _ _ h2 h3) ?_
  rintro e w2 ⟨rfl,hm2⟩
  exact ⟨_,rfl,hm2.mono (fun _ _ h=>h.elim),rfl,ByLen.on hl ⟨Nat.le_trans hs.1 hm2.size,hs.2.2.mod hm2 (fun h=>h)⟩⟩
 ·intro tr act w' hm hout hsz hd hG hk hub
  have h6:=hd ⟨6,.data⟩ (by simp) rfl _ rfl
  have hl:=hk 4 rfl
  have hs:=hG.at hl
  have hE:(act.eval (.tmp 24)).cells=((shaF (ofT a b h bs)).map bv).toArray:=by rw [show act.eval (.tmp 24)=_ from h6];rfl
  refine jc_turn (by rfl) rfl (Ab rfl) (Bx rfl hs.2 (off:=0) (vs:=(shaF (ofT a b h bs)).map bv) (by rw [List.length_map,Bu];exact Bj) (ints_oneCell .u8 _) (by simp [Bu]) ((hout 6 (by decide)).trans oe6) hE) (setRow_Mod.mono (fun _ _ h=>Or.inr ⟨hl,h⟩)) (gv_new tr _ w' hl) (ByLen.on hl ⟨Nat.le_trans hs.1 setRow_Mod.size,?_⟩)
  rw [A0 _ _ (by simp [Bu])]
  exact setRow_Cs hs.2
 intro vs tr w3 hl htl hm hG hV
 obtain ⟨v0,vs0,rfl,hl0⟩:=Ae hl
 obtain ⟨v1,vs1,rfl,hl1⟩:=Ae hl0
 obtain ⟨v2,vs2,rfl,hl2⟩:=Ae hl1
 obtain ⟨v3,vs3,rfl,hl3⟩:=Ae hl2
 obtain ⟨v4,vs4,rfl,hl4⟩:=Ae hl3
 obtain ⟨v5,vs5,rfl,hl5⟩:=Ae hl4
 obtain ⟨v6,vs6,rfl,hl6⟩:=Ae hl5
 obtain ⟨v7,vs7,rfl,hl7⟩:=Ae hl6
 obtain rfl:=Bl hl7
 clear hl hl0 hl1 hl2 hl3 hl4 hl5 hl6 hl7
 have ha0:=HA0.out
 subst ha0
 clear HA0 hV hsz0 oe2 oe4 oe6 oe7
 simp only [Ar,Act.put,sIB,sCZ,sCS,List.set_nil]
 have hs:=hG.at htl
 have hsz:(Try.prog.info? 32).map (·.size)=some ((shaF (ofT a b h bs)).map bv).length:=by rw [List.length_map,Bu];exact Bj
 go_wp2
 exact bodyPost_ret (Br rfl _ _ (w.heap.size+1+1) ((shaF (ofT a b h bs)).map bv) rfl (fun k u hu=>by rw [Cs.cell hs.2];simpa [ofT] using hu) Try.underlying32 rfl hsz) rfl ⟨rfl,KM2.out.trans hm (fun k h1 h2=>by omega)⟩
end Go.Proofs.Ytbifincepglilaa

/- commit.Text. -/
namespace Go.Proofs.Ytbifincepglilaa
open Go Go.RowKit Go.Gv
/-- a commitment -/
structure Cm where
 cl:Int
 sq:Int
 h:List Int
 ln:Int
 sb:Int
 mr:Int
def Cm.cells (c:Cm):List Value:=[.int .i64 c.cl,.int .i64 c.sq] ++ (c.h.map bv ++ [.int .i64 c.ln,.int .i64 c.sb,.int .i64 c.mr])
def Cm.val (c:Cm):Value:=.agg c.cells.toArray
/-- its numbers are numbers, its hash is one -/
def Cm.OK (c:Cm):Prop:=(I64 c.cl∧I64 c.sq∧I64 c.ln∧I64 c.sb∧I64 c.mr)∧c.h.length=32∧Bytes c.h
theorem Cm.len {c:Cm} (h:c.h.length=32):c.cells.length=37:=by simp [Cm.cells,h]
theorem Bd:(Try.prog.info? 36).map (·.size)=some 37:=by kernel_rfl
section
variable {w:World} {g:Nat} {c:Cm} {T:TypeId}
end
end Go.Proofs.Ytbifincepglilaa
namespace Go.Gv
open Go Go.RowKit Go.Proofs.Ytbifincepglilaa
section
variable {w:World} {g:Nat} {c:Cm} {T:TypeId}
theorem Cs.c0 (h:Cs w g c.cells.toArray T):w.cell? ⟨g,0,none⟩=some (.int .i64 c.cl):=by rw [h.cell];rfl
theorem Cs.c1 (h:Cs w g c.cells.toArray T):w.cell? ⟨g,1,none⟩=some (.int .i64 c.sq):=by rw [h.cell];rfl
theorem Cs.far (h:Cs w g c.cells.toArray T) (hl:c.h.length=32) (j:Nat):w.cell? ⟨g,34+j,none⟩=([Value.int .i64 c.ln,.int .i64 c.sb,.int .i64 c.mr]:List Value)[j]?:=by
 rw [h.cell]
 simp only [List.getElem?_toArray,Cm.cells]
 rw [List.getElem?_append_right (by simp;omega),List.getElem?_append_right (by simp [hl];omega)]
 simp only [List.length_cons,List.length_nil,List.length_map,hl]
 congr 1
 omega
theorem Cs.c34 (h:Cs w g c.cells.toArray T) (hl:c.h.length=32):w.cell? ⟨g,34,none⟩=some (.int .i64 c.ln):=Cs.far h hl 0
theorem Cs.c35 (h:Cs w g c.cells.toArray T) (hl:c.h.length=32):w.cell? ⟨g,35,none⟩=some (.int .i64 c.sb):=Cs.far h hl 1
theorem Cs.c36 (h:Cs w g c.cells.toArray T) (hl:c.h.length=32):w.cell? ⟨g,36,none⟩=some (.int .i64 c.mr):=Cs.far h hl 2
theorem Cs.hash (h:Cs w g c.cells.toArray T):∀ j u,(c.h.map bv)[j]? = some u→w.cell? ⟨g,2+j,none⟩=some u:=by
 intro j u hu
 rw [h.cell]
 simp only [List.getElem?_toArray,Cm.cells]
 rw [List.getElem?_append_right (by simp),List.getElem?_append_left (by simpa using (List.getElem?_eq_some_iff.1 hu).1)]
 simpa using hu
theorem Cs.name (h:Cs w g c.cells.toArray T):∀ j u,([Value.int .i64 c.cl,.int .i64 c.sq]:List Value)[j]? = some u→w.cell? ⟨g,0+j,none⟩=some u:=by
 intro j u hu
 rw [Nat.zero_add,h.cell]
 simp only [List.getElem?_toArray,Cm.cells]
 rw [List.getElem?_append_left (List.getElem?_eq_some_iff.1 hu).1]
 exact hu
theorem Cs.sig (h:Cs w g c.cells.toArray T) (hl:c.h.length=32):∀ j u,([Value.int .i64 c.sb,.int .i64 c.mr]:List Value)[j]? = some u→w.cell? ⟨g,35+j,none⟩=some u:=by
 intro j u hu
 have:=Cs.far h hl (1+j)
 rw [show 34+(1+j)=35+j by omega] at this
 rw [this,Nat.add_comm]
 exact hu
theorem Cs.whole {cs:List Value} (h:Cs w g cs.toArray T):∀ j u,cs[j]? = some u→w.cell? ⟨g,0+j,none⟩=some u:=by
 intro j u hu
 rw [Nat.zero_add,h.cell]
 simpa using hu
end
end Go.Gv
namespace Go.Proofs.Ytbifincepglilaa
open Go Go.RowKit Go.Gv
def requestLit:List Int:=[114,101,113,117,101,115,116]
def txC (c:Cm):Nat→List Int
 | 0|1=>[]
 | 2=>encN requestLit.length ++ requestLit
 | 3=>(encN requestLit.length ++ requestLit) ++ encI c.cl
 | 4=>((encN requestLit.length ++ requestLit) ++ encI c.cl) ++ encI c.sq
 | 5=>(((encN requestLit.length ++ requestLit) ++ encI c.cl) ++ encI c.sq) ++ c.h
 | _=>((((encN requestLit.length ++ requestLit) ++ encI c.cl) ++ encI c.sq) ++ c.h) ++ encI c.ln
def txT (c:Cm):List Int:=txC c 6
def TxSt (B g:Nat) (ct:Nat→List Int):Nat→List Value→World→Prop:=fun k t w=>B≤w.heap.size∧match k with
 | 0=>WrR (fun k=>B≤k) (Nf 4) w g (ct 4)
 | 1=>WrR (fun k=>B≤k) (Nf 4+32) w g (ct 5)
 | 2=>WrR (fun k=>B≤k) 500 w g (ct 6)
 | _=>∃ v,t[2]? = some v∧OwR (fun k=>B≤k) 500 w v (ct 6)
theorem TxSt_still {B g:Nat} {ct:Nat→List Int}:∀ k t w w',TxSt B g ct k t w→Mod (fun _=>False) w w'→TxSt B g ct k t w':=by
 rintro k t w w' ⟨h0,h⟩ hm
 refine ⟨Nat.le_trans h0 hm.size,?_⟩
 match k,h with
 | 0,h|1,h|2,h=>exact WrR.mod h hm (fun _ _ h=>h)
 | k+3,⟨v,h1,h2⟩=>exact ⟨v,h1,h2.mod hm (fun _ _ h=>h)⟩
set_option maxHeartbeats 1000000 in
theorem Text_any (c:Cm) (w:World) (hc:c.OK) :
 Calls Try.prog 29 #[c.val] w fun e w'=>∃ v,e=.returned v∧OwR (fun k=>w.heap.size≤k) 500 w' v (txT c)∧Mod (fun _=>False) w w':=by
 have HC:=Lib.hid hc.1
 have HL:=Lib.hid hc.2.1
 have HBy:=Lib.hid hc.2.2
 clear hc
 change Calls _ _ #[.agg c.cells.toArray] _ _
 go_enter Try.func29,Try.ntmps29
 go_upto_region 1 with (fail)
 obtain ⟨w1,hw1⟩:∃ x,x=w.alloc (.cells c.cells.toArray 36):=⟨_,rfl⟩
 change Code.wp _ _ _ _ (w.alloc (.cells c.cells.toArray 36))
 rw [← hw1]
 have KN:=Lib.hid (show Cs w1 w.heap.size c.cells.toArray 36 by rw [hw1];exact Cs.new _ _ _)
 have KM:=Lib.hid (show Mod (fun _=>False) w w1 by rw [hw1];exact (Mod.refl _ _).alloc _)
 have hs1:w1.heap.size=w.heap.size+1:=by rw [hw1];simp
 clear hw1
 obtain ⟨B,hBB⟩:∃ B,B=w1.heap.size:=⟨_,rfl⟩
 have HBE:=Lib.hid hBB
 have hB3:B=w.heap.size+1:=by omega
 clear hBB
 generalize ha0:Act.mk _ _=a0
 have oe1:a0.eval (.tmp 1)=.pointer (some ⟨w.heap.size,0,none⟩):=by rw [← ha0];rfl
 have hsz0:a0.tmps.size=24:=by rw [← ha0];rfl
 have HA0:=Lib.hid ha0
 clear ha0
 refine Bf 24 hsz0 (by kernel_rfl) (by kernel_rfl) [4,5,6,7,8,9,10,11,12,13,14,15,3] (by kernel_rfl) (by decide) (fun j=>B≤j) (WcS B) (WcS_T B) (StillM B 5 1) stillM_still stillM_T [gv 0,litG B 5 1 (requestLit.map bv).toArray,litG B 5 1 (requestLit.map bv).toArray,gv 1,gi (.pointer (some ⟨w.heap.size,0,none⟩)),gi (.pointer (some ⟨w.heap.size,0,none⟩)),gi (.int .i64 c.cl),gv 2,gi (.pointer (some ⟨w.heap.size,0,none⟩)),gi (.pointer (some ⟨w.heap.size,1,none⟩)),gi (.int .i64 c.sq),gv 3,gv 3] ⟨gv_stable,litG_stable (fun k hk j h=>by have:=h.1;omega),litG_stable (fun k hk j h=>by have:=h.1;omega),gv_stable,Af,Af,Af,gv_stable,Af,Af,Af,gv_stable,gv_stable,trivial⟩ [0,3,7,11] (by kernel_rfl) (by decide) (by kernel_rfl) (WcG B (txC c)) WcG_still (WcG_nil (Nat.le_of_eq HBE.out)) ⟨?_,?_,?_,?_,?_,?_,?_,?_,?_,?_,?_,?_,?_,trivial⟩ ?_
 ·intro tr act w' hm hout hsz hd hG hk hub
  have hl:=hk 0 rfl
  refine jc_call (args:=#[]) (by rfl) rfl (Ab rfl) (by rw [A8 rfl Try.func43 (by kernel_rfl) (by kernel_rfl)];simp) (NewWriter_any _) ?_
  rintro e w2 ⟨rfl,hW,hm2⟩
  exact ⟨_,rfl,hm2.mono (fun _ _ h=>h.elim),gv_new tr _ w2 hl,WcG_new hG hl (Nat.le_refl _) hW hm2⟩
 ·intro tr act w' hm hout hsz hd hG hk hub
  refine Aj (by rfl) rfl (Ab rfl) (ex_lit rfl Try.underlying38 (by kernel_rfl) (by decide) (C:=(requestLit.map bv).toArray) (by simp only [List.map_toArray,List.map_cons,List.map_nil,Act.eval];kernel_rfl)) (Or.inl ((Mod.refl _ _).alloc _)) ?_
  exact fun _=>⟨_,rfl,hG.1,_,Or.inl rfl,heap_alloc_new _ _⟩
 ·intro tr act w' hm hout hsz hd hG hk hub
  have h1:=hd ⟨1,.data⟩ (by simp) rfl _ rfl
  have hle:=hub 1 3 rfl (by kernel_rfl)
  obtain ⟨g,e1,hB,m,h0',hb⟩:=h1 hle
  exact jg_mark (by rfl) rfl (Ab rfl) rfl Try.underlying38 Try.underlying5 h0' hB hb e1 (fun _ hmk=>Or.inr ⟨hle,hmk⟩) (fun _ hb2 _=>⟨g,rfl,hB,_,Or.inr rfl,hb2⟩)
 ·intro tr act w' hm hout hsz hd hG hk hub
  have h0:=hd ⟨0,.data⟩ (by simp) rfl _ rfl
  have h2:=hd ⟨2,.data⟩ (by simp) rfl _ rfl
  have hl:=hk 1 rfl
  exact jc_call (args:=#[act.eval (.tmp 4),act.eval (.tmp 6)]) (by rfl) rfl (Ab rfl) (by rw [A8 rfl Try.func44 (by kernel_rfl) (by kernel_rfl)];exact congrArg (fun z=>Result.ok (Next.enter _ z) _) (by simp only [List.map_toArray,List.map_cons,List.map_nil];try rfl)) (Wc_row hG hl h0 h2 (by unfold Bytes;decide) (by decide) rfl) (fun _ _ h=>h)
 ·intro tr act w' hm hout hsz hd hG hk hub
  refine Aj (by rfl) rfl (Ab rfl) (Ai rfl Try.underlying36 rfl (by kernel_rfl) ((hout 1 (by decide)).trans oe1)) (Or.inl (Mod.refl _ _)) ?_
  rfl
 ·intro tr act w' hm hout hsz hd hG hk hub
  have h4:=hd ⟨4,.data⟩ (by simp) rfl _ rfl
  refine Aj (by rfl) rfl (Ab rfl) (Ai rfl Try.underlying30 rfl (by kernel_rfl) h4) (Or.inl (Mod.refl _ _)) ?_
  rfl
 ·intro tr act w' hm hout hsz hd hG hk hub
  have h5:=hd ⟨5,.data⟩ (by simp) rfl _ rfl
  exact Aj (by rfl) rfl (Ab rfl) (Am rfl Try.underlying3 rfl h5 ((KN.out.mod hm (by omega)).c0)) (Or.inl (Mod.refl _ _)) rfl
 ·intro tr act w' hm hout hsz hd hG hk hub
  have h3:=hd ⟨3,.data⟩ (by simp) rfl _ rfl
  have h6:=hd ⟨6,.data⟩ (by simp) rfl _ rfl
  have hl:=hk 2 rfl
  exact jc_call (args:=#[act.eval (.tmp 7),.int .i64 c.cl]) (by rfl) rfl (Ab rfl) (by rw [A8 rfl Try.func45 (by kernel_rfl) (by kernel_rfl)];exact congrArg (fun z=>Result.ok (Next.enter _ z) _) (by simp only [List.map_toArray,List.map_cons,List.map_nil,show act.eval (.tmp 10)=_ from h6];try rfl)) (Wc_int hG hl (by decide) (by decide) h3 HC.out.1 rfl) (fun _ _ h=>h)
 ·intro tr act w' hm hout hsz hd hG hk hub
  refine Aj (by rfl) rfl (Ab rfl) (Ai rfl Try.underlying36 rfl (by kernel_rfl) ((hout 1 (by decide)).trans oe1)) (Or.inl (Mod.refl _ _)) ?_
  rfl
 ·intro tr act w' hm hout hsz hd hG hk hub
  have h8:=hd ⟨8,.data⟩ (by simp) rfl _ rfl
  refine Aj (by rfl) rfl (Ab rfl) (Ai rfl Try.underlying30 rfl (by kernel_rfl) h8) (Or.inl (Mod.refl _ _)) ?_
  rfl
 ·intro tr act w' hm hout hsz hd hG hk hub
  have h9:=hd ⟨9,.data⟩ (by simp) rfl _ rfl
  exact Aj (by rfl) rfl (Ab rfl) (Am rfl Try.underlying3 rfl h9 ((KN.out.mod hm (by omega)).c1)) (Or.inl (Mod.refl _ _)) rfl
 ·intro tr act w' hm hout hsz hd hG hk hub
  have h7:=hd ⟨7,.data⟩ (by simp) rfl _ rfl
  have h10:=hd ⟨10,.data⟩ (by simp) rfl _ rfl
  have hl:=hk 3 rfl
  exact jc_call (args:=#[act.eval (.tmp 11),.int .i64 c.sq]) (by rfl) rfl (Ab rfl) (by rw [A8 rfl Try.func45 (by kernel_rfl) (by kernel_rfl)];exact congrArg (fun z=>Result.ok (Next.enter _ z) _) (by simp only [List.map_toArray,List.map_cons,List.map_nil,show act.eval (.tmp 14)=_ from h10];try rfl)) (Wc_int hG hl (by decide) (by decide) h7 HC.out.2.1 rfl) (fun _ _ h=>h)
 ·intro tr act w' hm hout hsz hd hG hk hub
  have h11:=hd ⟨11,.data⟩ (by simp) rfl _ rfl
  exact Aj (by rfl) rfl (Ab rfl) (An rfl rfl) (Or.inl (Mod.refl _ _)) h11
 intro vs tr w2 hl htl hm hG hV
 obtain ⟨v0,vs0,rfl,hl0⟩:=Ae hl
 obtain ⟨v1,vs1,rfl,hl1⟩:=Ae hl0
 obtain ⟨v2,vs2,rfl,hl2⟩:=Ae hl1
 obtain ⟨v3,vs3,rfl,hl3⟩:=Ae hl2
 obtain ⟨v4,vs4,rfl,hl4⟩:=Ae hl3
 obtain ⟨v5,vs5,rfl,hl5⟩:=Ae hl4
 obtain ⟨v6,vs6,rfl,hl6⟩:=Ae hl5
 obtain ⟨v7,vs7,rfl,hl7⟩:=Ae hl6
 obtain ⟨v8,vs8,rfl,hl8⟩:=Ae hl7
 obtain ⟨v9,vs9,rfl,hl9⟩:=Ae hl8
 obtain ⟨v10,vs10,rfl,hl10⟩:=Ae hl9
 obtain ⟨v11,vs11,rfl,hl11⟩:=Ae hl10
 obtain ⟨v12,vs12,rfl,hl12⟩:=Ae hl11
 obtain rfl:=Bl hl12
 clear hl hl0 hl1 hl2 hl3 hl4 hl5 hl6 hl7 hl8 hl9 hl10 hl11 hl12
 have f12:=hV 12 _ rfl
 have ha0:=HA0.out
 subst ha0
 clear HA0 hV hsz0 oe1
 simp only [Ar,Act.put,sIB,sCZ,sCS]
 obtain ⟨g,rfl,-,hgB,-,hw⟩:=WcG_val hG f12
 have hw4:=hw (by rw [htl];decide)
 rw [show tr.length=4 from htl] at hw4
 have KN2:=Lib.hid (KN.out.mod hm (by omega))
 have HG0:=Lib.hid (show ByLen (TxSt B g (txC c)) [] w2 from ⟨hG.1,hw4⟩)
 have KM2:=Lib.hid (KM.out.trans hm (fun k h1 h2=>by omega))
 clear hG hm hw hw4 f12 htl
 go_upto_region 2 with (fail)
 generalize ha0:Act.mk _ _=a0
 have oe1:a0.eval (.tmp 1)=.pointer (some ⟨w.heap.size,0,none⟩):=by rw [← ha0];rfl
 have oe3:a0.eval (.tmp 3)=.pointer (some ⟨g,0,none⟩):=by rw [← ha0];rfl
 have hsz0:a0.tmps.size=24:=by rw [← ha0];rfl
 have HA0:=Lib.hid ha0
 clear ha0
 refine Bf 24 hsz0 (by kernel_rfl) (by kernel_rfl) [16,17,18,19,20,21,22,23,2] (by kernel_rfl) (by decide) (fun j=>B≤j) (fun k j=>B≤j) (fun k j h=>h) Still (fun _ _ _ h=>h) (fun _ _ _ hm h=>hm.trans h (fun _ _ h=>h.elim)) [gi (.pointer (some ⟨g,0,none⟩)),gi (.pointer (some ⟨w.heap.size,2,none⟩)),gi (hv c.h),gi (.pointer (some ⟨g,0,none⟩)),gi (.pointer (some ⟨w.heap.size,34,none⟩)),gi (.int .i64 c.ln),gi (.pointer (some ⟨g,0,none⟩)),gv 2,gv 2] ⟨Af,Af,Af,Af,Af,Af,Af,gv_stable,gv_stable,trivial⟩ [3,6,7] (by kernel_rfl) (by decide) (by kernel_rfl) (ByLen (TxSt B g (txC c))) (ByLen.still TxSt_still) HG0.out ⟨?_,?_,?_,?_,?_,?_,?_,?_,?_,trivial⟩ ?_
 ·intro tr act w' hm hout hsz hd hG hk hub
  exact Aj (by rfl) rfl (Ab rfl) (Ah rfl ((hout 3 (by decide)).trans oe3)) (Mod.refl _ _) rfl
 ·intro tr act w' hm hout hsz hd hG hk hub
  refine Aj (by rfl) rfl (Ab rfl) (Ai rfl Try.underlying36 rfl (by kernel_rfl) ((hout 1 (by decide)).trans oe1)) (Mod.refl _ _) ?_
  rfl
 ·intro tr act w' hm hout hsz hd hG hk hub
  have h1:=hd ⟨1,.data⟩ (by simp) rfl _ rfl
  exact Aj (by rfl) rfl (Ab rfl) (Ap rfl Try.underlying32 rfl (off:=2) (cs:=c.h.map bv) (by rw [List.length_map,HL.out];exact Bj) h1 ((KN2.out.mod hm (by omega)).hash)) (Mod.refl _ _) rfl
 ·intro tr act w' hm hout hsz hd hG hk hub
  have h0:=hd ⟨0,.data⟩ (by simp) rfl _ rfl
  have h2:=hd ⟨2,.data⟩ (by simp) rfl _ rfl
  have hl:=hk 0 rfl
  have hs:=hG.at hl
  refine jc_call (args:=#[.pointer (some ⟨g,0,none⟩),hv c.h]) (by rfl) rfl (Ab rfl) (by rw [A8 rfl Try.func47 (by kernel_rfl) (by kernel_rfl)];exact congrArg (fun z=>Result.ok (Next.enter _ z) _) (by simp only [List.map_toArray,List.map_cons,List.map_nil,show act.eval (.tmp 16)=_ from h0,show act.eval (.tmp 18)=_ from h2];try rfl)) (WHash_R hs.2 HL.out HBy.out (by decide)) ?_
  rintro e w2 ⟨rfl,hw2,hm2⟩
  exact ⟨_,rfl,hm2,rfl,ByLen.on hl ⟨Nat.le_trans hs.1 hm2.size,hw2.widen (fun k hk=>by rcases hk with hk|hk;exact hk;exact Nat.le_trans hs.1 hk.1) (Nat.le_refl _)⟩⟩
 ·intro tr act w' hm hout hsz hd hG hk hub
  refine Aj (by rfl) rfl (Ab rfl) (Ai rfl Try.underlying36 rfl (by kernel_rfl) ((hout 1 (by decide)).trans oe1)) (Mod.refl _ _) ?_
  rfl
 ·intro tr act w' hm hout hsz hd hG hk hub
  have h4:=hd ⟨4,.data⟩ (by simp) rfl _ rfl
  exact Aj (by rfl) rfl (Ab rfl) (Am rfl Try.underlying3 rfl h4 ((KN2.out.mod hm (by omega)).c34 HL.out)) (Mod.refl _ _) rfl
 ·intro tr act w' hm hout hsz hd hG hk hub
  have h3:=hd ⟨3,.data⟩ (by simp) rfl _ rfl
  have h5:=hd ⟨5,.data⟩ (by simp) rfl _ rfl
  have hl:=hk 1 rfl
  have hs:=hG.at hl
  refine jc_call (args:=#[.pointer (some ⟨g,0,none⟩),.int .i64 c.ln]) (by rfl) rfl (Ab rfl) (by rw [A8 rfl Try.func45 (by kernel_rfl) (by kernel_rfl)];exact congrArg (fun z=>Result.ok (Next.enter _ z) _) (by simp only [List.map_toArray,List.map_cons,List.map_nil,show act.eval (.tmp 19)=_ from h3,show act.eval (.tmp 21)=_ from h5];try rfl)) (WInt_R hs.2 HC.out.2.2.1 (by decide)) ?_
  rintro e w2 ⟨rfl,hw2,hm2⟩
  exact ⟨_,rfl,hm2,rfl,ByLen.on hl ⟨Nat.le_trans hs.1 hm2.size,hw2.widen (fun k hk=>by rcases hk with hk|hk;exact hk;exact Nat.le_trans hs.1 hk.1) (by decide)⟩⟩
 ·intro tr act w' hm hout hsz hd hG hk hub
  have h6:=hd ⟨6,.data⟩ (by simp) rfl _ rfl
  have hl:=hk 2 rfl
  have hs:=hG.at hl
  refine jc_call (args:=#[.pointer (some ⟨g,0,none⟩)]) (by rfl) rfl (Ab rfl) (by rw [A8 rfl Try.func48 (by kernel_rfl) (by kernel_rfl)];exact congrArg (fun z=>Result.ok (Next.enter _ z) _) (by simp only [List.map_toArray,List.map_cons,List.map_nil,show act.eval (.tmp 22)=_ from h6];try rfl)) (WBytes_R hs.2 (by decide)) ?_
  rintro e w2 ⟨u,rfl,ho,hm2⟩
  exact ⟨_,rfl,hm2.mono (fun _ _ h=>h.elim),gv_new tr _ w2 hl,ByLen.on hl ⟨Nat.le_trans hs.1 hm2.size,u,by rw [List.getElem?_append_right (by omega),hl];rfl,ho.widen (fun k hk=>Nat.le_trans hs.1 hk.1) (by decide)⟩⟩
 ·intro tr act w' hm hout hsz hd hG hk hub
  have h7:=hd ⟨7,.data⟩ (by simp) rfl _ rfl
  exact Aj (by rfl) rfl (Ab rfl) (An rfl rfl) (Mod.refl _ _) h7
 intro vs tr w3 hl htl hm hG hV
 obtain ⟨v0,vs0,rfl,hl0⟩:=Ae hl
 obtain ⟨v1,vs1,rfl,hl1⟩:=Ae hl0
 obtain ⟨v2,vs2,rfl,hl2⟩:=Ae hl1
 obtain ⟨v3,vs3,rfl,hl3⟩:=Ae hl2
 obtain ⟨v4,vs4,rfl,hl4⟩:=Ae hl3
 obtain ⟨v5,vs5,rfl,hl5⟩:=Ae hl4
 obtain ⟨v6,vs6,rfl,hl6⟩:=Ae hl5
 obtain ⟨v7,vs7,rfl,hl7⟩:=Ae hl6
 obtain ⟨v8,vs8,rfl,hl8⟩:=Ae hl7
 obtain rfl:=Bl hl8
 clear hl hl0 hl1 hl2 hl3 hl4 hl5 hl6 hl7 hl8
 have f8:=hV 8 _ rfl
 have ha0:=HA0.out
 subst ha0
 clear HA0 hV hsz0 oe1 oe3
 simp only [Ar,Act.put,sIB,sCZ,sCS]
 have hs:=hG.at htl
 obtain ⟨u,e1,hu⟩:=hs.2
 obtain rfl:v8=u:=Option.some.inj (Eq.trans (Eq.symm f8) e1)
 go_wp2
 go_ret
 exact ⟨_,rfl,hu.widen (fun k hk=>by omega) (Nat.le_refl _),KM2.out.trans hm (fun k h1 h2=>by omega)⟩
end Go.Proofs.Ytbifincepglilaa

/- book.Book: signatures. -/
namespace Go.Proofs.Ytbifincepglilaa
open Go Go.RowKit Go.Gv
open Go.Maps (Keyed)
theorem strOf_inj {a b:List Int} (ha:Bytes a) (hb:Bytes b) (h:strOfNums a=strOfNums b):a=b:=by
 have h2:a.map (fun n=>UInt8.ofNat n.toNat)=b.map (fun n=>UInt8.ofNat n.toNat):=by
  have:=congrArg (fun s:ByteArray=>s.data.toList) h
  simpa [strOfNums] using this
 clear h
 induction a generalizing b with
 | nil=>cases b with
  | nil=>rfl
  | cons y b=>simp at h2
 | cons x a ih=>cases b with
  | nil=>simp at h2
  | cons y b=>
   simp only [List.map_cons,List.cons.injEq] at h2
   have hx:=ha x (by simp)
   have hy:=hb y (by simp)
   have e:x.toNat=y.toNat:=by
    have:=congrArg UInt8.toNat h2.1
    simp only [UInt8.toNat_ofNat'] at this
    omega
   rw [ih (fun z hz=>ha z (by simp [hz])) (fun z hz=>hb z (by simp [hz])) h2.2]
   congr 1
   omega
/-- a signed text as a key -/
def sgV (k:Int × List Int):Value:=.agg #[.int .i64 k.1,.string (strOfNums k.2)]
def SgK (k:Int × List Int):Prop:=I64 k.1∧Bytes k.2∧k.2.length≤1000000
def mkV (n:Nat):Value:=.int .i64 n
theorem sg_key (k:Int × List Int) (h:SgK k):∃ l,keyOf Try.prog 107 (sgV k)=some l:=by
 have hu:=Try.underlying107
 have hkt:Try.prog.keyType 107=true:=by kernel_rfl
 have hc:Try.prog.cellsOf 107=2:=by kernel_rfl
 have hc1:Try.prog.cellsOf 3=1:=by kernel_rfl
 have hc2:Try.prog.cellsOf 9=1:=by kernel_rfl
 obtain ⟨n,hn⟩:∃ n,n+2=Try.prog.types.size+1:=⟨Try.prog.types.size - 1,by have:0 < Try.prog.types.size:=of_decide_eq_true (by kernel_rfl);omega⟩
 have hfm:(sgV k).formed Try.prog 107=true:=by simp [Value.formed,sgV,hu,hc]
 have hw:(Lit.int .i64 k.1).wf=true:=by have:=h.1;unfold I64 at this;simp [Lit.wf,IntKind.min,IntKind.max,IntKind.signed,IntKind.bits];omega
 have hs:(strOfNums k.2).size≤maxLen:=by rw [strOfNums_size,Bk];have:=h.2.2;omega
 unfold keyOf
 rw [hu]
 simp only [hkt,hfm,Bool.and_self,if_true,← hn]
 have e1:Try.prog.keyLits (n+1) 3 [.int .i64 k.1]=some [.int .i64 k.1]:=by
  unfold Program.keyLits
  rw [Try.underlying3]
  simp [hw]
 have e2:Try.prog.keyLits (n+1) 9 [.string (strOfNums k.2)]=some [.string (strOfNums k.2).data.toList]:=by
  unfold Program.keyLits
  rw [Try.underlying9]
  simp [hs]
 have hk:Try.prog.keyLits (n+2) 107 (sgV k).cells.toList=some [.int .i64 k.1,.string (strOfNums k.2).data.toList]:=by
  unfold Program.keyLits
  rw [hu]
  simp [sgV,Value.cells,hc,hc1,hc2,e1,e2]
 exact ⟨_,by rw [hk];rfl⟩
theorem sg_enc:KeyEnc Try.prog 107 sgV SgK where
 law:=Keyed.of_law (deep_law_laid laidOutX (m:=3) (by omega) (of_decide_eq_true (by kernel_rfl)) (by kernel_rfl) (by kernel_rfl))
 key:=sg_key
 inj:=fun a b ha hb h=>by
  unfold sgV at h
  simp only [Value.agg.injEq,Array.mk.injEq,List.cons.injEq,Value.int.injEq,Value.string.injEq,true_and,and_true] at h
  obtain ⟨a1,a2⟩:=a
  obtain ⟨b1,b2⟩:=b
  simp only at h
  have e:=strOf_inj ha.2.1 hb.2.1 h.2
  simp only at e
  rw [h.1,e]
/-- each signed text has its place as its mark -/
def Bn:Nat→List (Int × List Int)→List ((Int × List Int) × Nat)
 | _,[]=>[]
 | n,k :: L=>(k,n+1) :: Bn (n+1) L
/-- the mark of a text; 0: none -/
def mkN (L:List (Int × List Int)) (k:Int × List Int):Nat:=(Bs (Bn 0 L) k).getD 0
theorem marks_len:∀ (n:Nat) (L:List (Int × List Int)),(Bn n L).length=L.length
 | _,[]=>rfl
 | n,k :: L=>by simp [Bn,marks_len (n+1) L]
theorem marks_put:∀ (n:Nat) (L:List (Int × List Int)) (k:Int × List Int),Bs (Bn n L) k=none→mput (Bn n L) k (n+L.length+1)=Bn n (L ++ [k])
 | n,[],k,h=>rfl
 | n,x :: L,k,h=>by
  simp only [Bn,mlook_cons] at h
  by_cases e:x=k
  ·rw [if_pos e] at h;cases h
  ·rw [if_neg e] at h
   simp only [Bn,mput,if_neg e,List.cons_append,List.length_cons]
   rw [← marks_put (n+1) L k h]
   congr 2
   omega
theorem marks_pos:∀ (n:Nat) (L:List (Int × List Int)) (k:Int × List Int) (m:Nat),Bs (Bn n L) k=some m→n < m∧m≤n+L.length
 | n,[],k,m,h=>by cases h
 | n,x :: L,k,m,h=>by
  simp only [Bn,mlook_cons] at h
  split at h
  ·cases h;exact ⟨by omega,by simp only [List.length_cons];omega⟩
  ·have:=marks_pos (n+1) L k m h
   simp;omega
/-- was this text signed with this mark? -/
def rightF (L:List (Int × List Int)) (k:Int × List Int) (m:Int):Bool:=decide (mkN L k≠0) && ((mkN L k:Int) == m)
/-- what a book says -/
structure BookIs (w:World) (g b:Nat) (L:List (Int × List Int)):Prop where
 cell:Cs w g #[.map (some b)] 84
 map:MapIs w b sgV mkV SgK (Bn 0 L)
theorem BookIs.mod {S:Nat→Prop} {w w':World} {g b:Nat} {L:List (Int × List Int)} (h:BookIs w g b L) (hm:Mod S w w') (h1:¬ S g) (h2:¬ S b):BookIs w' g b L:=⟨h.cell.mod hm h1,h.map.mod hm h2⟩
theorem BookIs.ne {w:World} {g b:Nat} {L:List (Int × List Int)} (h:BookIs w g b L):¬ g=b:=by
 rintro rfl
 obtain ⟨⟨es,clock,hb,-⟩,-,-⟩:=h.map
 have:=h.cell
 unfold Cs at this
 rw [hb] at this
 cases this
theorem book_look (L:List (Int × List Int)) (k:Int × List Int):((Bs (Bn 0 L) k).map mkV).getD (.int .i64 0)=.int .i64 (mkN L k):=by
 unfold mkN
 cases Bs (Bn 0 L) k<;>rfl
set_option maxHeartbeats 1000000 in
theorem Book_new (w:World):Calls Try.prog 9 #[] w fun e w'=>∃ g b,e=.returned (.pointer (some ⟨g,0,none⟩))∧w.heap.size≤g∧w.heap.size≤b∧BookIs w' g b []∧Mod (fun _=>False) w w':=by
 go_enter Try.func9,Try.ntmps9
 go_wp2_with (refine wpList_makeMap rfl 82 rfl ?_)
 go_ret
 refine ⟨w.heap.size+1,w.heap.size,rfl,by omega,by omega,⟨?_,?_⟩,((Mod.refl _ _).alloc _).alloc _⟩
 ·exact Cs_new1 _ _ _ _
 ·exact (MapIs.made w sgV mkV SgK).mod ((Mod.refl (fun _=>False) _).alloc _) (fun h=>h)
set_option maxHeartbeats 1000000 in
theorem Book_right {w:World} {g b:Nat} {L:List (Int × List Int)} (h:BookIs w g b L) (y m:Int) {v:Value} {bs:List Int} (hr:RdB w v bs) (hk:SgK (y,bs)) :
 Calls Try.prog 51 #[.pointer (some ⟨g,0,none⟩),.agg #[.int .i64 y,.int .i64 m],v] w fun e w'=>e=.returned (.bool (rightF L (y,bs) m))∧Mod (fun _=>False) w w':=by
 have HS:=Lib.hid h
 have HR:=Lib.hid hr
 have HK:=Lib.hid hk
 clear h hr hk
 go_enter Try.func51,Try.ntmps51
 go_upto_region 1 with (fail)
 obtain ⟨w1,hw1⟩:∃ x,x=w.alloc (.cells #[.int .i64 y,.int .i64 m] 34):=⟨_,rfl⟩
 rw [← hw1]
 have KC:=Lib.hid (show Cs w1 w.heap.size #[.int .i64 y,.int .i64 m] 34 by rw [hw1];exact Cs.new _ _ _)
 have KM:=Lib.hid (show Mod (fun _=>False) w w1 by rw [hw1];exact (Mod.refl _ _).alloc _)
 have HS1:=Lib.hid (HS.out.mod KM.out (fun h=>h) (fun h=>h))
 clear hw1
 generalize ha0:Act.mk _ _=a0
 have oe0:a0.eval (.tmp 0)=.pointer (some ⟨g,0,none⟩):=by rw [← ha0];rfl
 have oe2:a0.eval (.tmp 2)=v:=by rw [← ha0];rfl
 have oe4:a0.eval (.tmp 4)=.pointer (some ⟨w.heap.size,0,none⟩):=by rw [← ha0];rfl
 have hsz0:a0.tmps.size=26:=by rw [← ha0];rfl
 have HA0:=Lib.hid ha0
 clear ha0
 refine Bf 26 hsz0 (by kernel_rfl) (by kernel_rfl) [8,9,10,11,12,13,14,15,16,17,7] (by kernel_rfl) (by decide) (fun _=>False) (fun _ _=>False) (fun _ _ h=>h) Still (fun _ _ _ h=>h) (fun _ _ _ hm h=>hm.trans h (fun _ _ h=>h.elim)) [gi (.pointer (some ⟨g,0,none⟩)),gi (.pointer (some ⟨g,0,none⟩)),gi (.pointer (some ⟨g,0,none⟩)),gi (.map (some b)),gi (.pointer (some ⟨w.heap.size,0,none⟩)),gi (.int .i64 y),gi (v),gi (.string (strOfNums bs)),gi (sgV (y,bs)),gi (.int .i64 (mkN L (y,bs))),gi (.int .i64 (mkN L (y,bs)))] ⟨Af,Af,Af,Af,Af,Af,Af,Af,Af,Af,Af,trivial⟩ [] (by kernel_rfl) (by decide) (by kernel_rfl) (fun _ _=>True) (fun _ _ _ _ _=>trivial) trivial ⟨?_,?_,?_,?_,?_,?_,?_,?_,?_,?_,?_,trivial⟩ ?_
 ·intro tr act w' hm hout hsz hd hG hk hub
  exact Aj (by rfl) rfl (Ab rfl) (Ah rfl ((hout 0 (by decide)).trans oe0)) (Mod.refl _ _) rfl
 ·intro tr act w' hm hout hsz hd hG hk hub
  have h0:=hd ⟨0,.data⟩ (by simp) rfl _ rfl
  exact Aj (by rfl) rfl (Ab rfl) (A1 rfl h0) (Mod.refl _ _) rfl
 ·intro tr act w' hm hout hsz hd hG hk hub
  have h1:=hd ⟨1,.data⟩ (by simp) rfl _ rfl
  refine Aj (by rfl) rfl (Ab rfl) (Ai rfl Try.underlying84 rfl (by kernel_rfl) h1) (Mod.refl _ _) ?_
  rfl
 ·intro tr act w' hm hout hsz hd hG hk hub
  have h2:=hd ⟨2,.data⟩ (by simp) rfl _ rfl
  exact Aj (by rfl) rfl (Ab rfl) (Am rfl Try.underlying82 rfl h2 (by rw [(HS1.out.cell.mod hm (fun h=>h)).cell];rfl)) (Mod.refl _ _) rfl
 ·intro tr act w' hm hout hsz hd hG hk hub
  refine Aj (by rfl) rfl (Ab rfl) (Ai rfl Try.underlying34 rfl (by kernel_rfl) ((hout 4 (by decide)).trans oe4)) (Mod.refl _ _) ?_
  rfl
 ·intro tr act w' hm hout hsz hd hG hk hub
  have h4:=hd ⟨4,.data⟩ (by simp) rfl _ rfl
  exact Aj (by rfl) rfl (Ab rfl) (Am rfl Try.underlying3 rfl h4 (by rw [(KC.out.mod hm (fun h=>h)).cell];rfl)) (Mod.refl _ _) rfl
 ·intro tr act w' hm hout hsz hd hG hk hub
  exact Aj (by rfl) rfl (Ab rfl) (Ah rfl ((hout 2 (by decide)).trans oe2)) (Mod.refl _ _) rfl
 ·intro tr act w' hm hout hsz hd hG hk hub
  have h6:=hd ⟨6,.data⟩ (by simp) rfl _ rfl
  exact Aj (by rfl) rfl (Ab rfl) (ex_conv rfl h6 (bytes_string (HR.out.mod (KM.out.trans hm (fun _ _ h=>h)) (fun _ _ _ h=>h)))) (Mod.refl _ _) rfl
 ·intro tr act w' hm hout hsz hd hG hk hub
  have h5:=hd ⟨5,.data⟩ (by simp) rfl _ rfl
  have h7:=hd ⟨7,.data⟩ (by simp) rfl _ rfl
  exact Aj (by rfl) rfl (Ab rfl) (ex_build rfl (z:=[.int .i64 0,.string ByteArray.empty]) (places:=[(0,1),(1,1)]) (by kernel_rfl) (parts:=[(0,.int .i64 y),(1,.string (strOfNums bs))]) (by simp only [List.map_toArray,List.map_cons,List.map_nil,show act.eval (.tmp 13)=_ from h5,show act.eval (.tmp 15)=_ from h7];try rfl) (r:=[.int .i64 y,.string (strOfNums bs)]) (by rfl)) (Mod.refl _ _) rfl
 ·intro tr act w' hm hout hsz hd hG hk hub
  have h3:=hd ⟨3,.data⟩ (by simp) rfl _ rfl
  have h8:=hd ⟨8,.data⟩ (by simp) rfl _ rfl
  refine Aj (by rfl) rfl (Ab rfl) (ex_lookup rfl h3 h8 ((HS1.out.map.mod hm (fun h=>h)).lookup sg_enc Try.underlying82 (zero_run zero_int _) (y,bs) HK.out false)) (Mod.refl _ _) ?_
  exact book_look L (y,bs)
 ·intro tr act w' hm hout hsz hd hG hk hub
  have h9:=hd ⟨9,.data⟩ (by simp) rfl _ rfl
  exact Aj (by rfl) rfl (Ab rfl) (An rfl h9) (Mod.refl _ _) rfl
 intro vs tr w2 hl htl hm hG hV
 obtain ⟨v0,vs0,rfl,hl0⟩:=Ae hl
 obtain ⟨v1,vs1,rfl,hl1⟩:=Ae hl0
 obtain ⟨v2,vs2,rfl,hl2⟩:=Ae hl1
 obtain ⟨v3,vs3,rfl,hl3⟩:=Ae hl2
 obtain ⟨v4,vs4,rfl,hl4⟩:=Ae hl3
 obtain ⟨v5,vs5,rfl,hl5⟩:=Ae hl4
 obtain ⟨v6,vs6,rfl,hl6⟩:=Ae hl5
 obtain ⟨v7,vs7,rfl,hl7⟩:=Ae hl6
 obtain ⟨v8,vs8,rfl,hl8⟩:=Ae hl7
 obtain ⟨v9,vs9,rfl,hl9⟩:=Ae hl8
 obtain ⟨v10,vs10,rfl,hl10⟩:=Ae hl9
 obtain rfl:=Bl hl10
 clear hl hl0 hl1 hl2 hl3 hl4 hl5 hl6 hl7 hl8 hl9 hl10
 obtain rfl:v10=.int .i64 (mkN L (y,bs)):=hV 10 _ rfl
 have ha0:=HA0.out
 subst ha0
 clear HA0 hV hsz0 oe0 oe2 oe4
 simp only [Ar,Act.put,sIB,sCZ,sCS]
 have KM2:=Lib.hid (KM.out.trans hm (fun _ _ h=>h))
 have hc:=(KC.out.mod hm (fun h=>h)).cell 1
 have hc1:w2.cell? ⟨w.heap.size,1,none⟩=some (.int .i64 m):=by rw [hc];rfl
 clear hm hG hc
 obtain ⟨n,hn⟩:∃ n:Int,n=mkN L (y,bs):=⟨_,rfl⟩
 rw [← hn]
 have HN:=Lib.hid hn
 clear hn
 by_cases h0:0 < n
 ·go_wp2
  go_ret
  exact ⟨congrArg (fun z=>Ending.returned (Value.bool z)) (show (n == m)=rightF L (y,bs) m by unfold rightF;rw [← HN.out,decide_eq_true (show mkN L (y,bs)≠0 by have:=HN.out;omega)];rfl),KM2.out⟩
 ·go_wp2
  go_ret
  exact ⟨congrArg (fun z=>Ending.returned (Value.bool z)) (show false=rightF L (y,bs) m by unfold rightF;rw [← HN.out,decide_eq_false (show ¬ mkN L (y,bs)≠0 by have:=HN.out;omega)];rfl),KM2.out⟩
def B7 (L:List (Int × List Int)) (k:Int × List Int):List (Int × List Int):=if mkN L k=0 then L ++ [k] else L
def SnSt (b:Nat) (l l':List ((Int × List Int) × Nat)):Nat→List Value→World→Prop:=fun k _ w=>match k with
 | 0=>MapIs w b sgV mkV SgK l
 | _=>MapIs w b sgV mkV SgK l'
theorem SnSt_still {b:Nat} {l l':List ((Int × List Int) × Nat)}:∀ k t w w',SnSt b l l' k t w→Mod (fun _=>False) w w'→SnSt b l l' k t w':=by
 intro k t w w' h hm
 match k,h with
 | 0,h=>exact MapIs.mod h hm (fun h=>h)
 | k+1,h=>exact MapIs.mod h hm (fun h=>h)
def ResSt (g:Nat) (T:TypeId) (z c:List Value):Nat→List Value→World→Prop:=fun k _ w=>match k with
 | 0=>Cs w g z.toArray T
 | _=>Cs w g c.toArray T
theorem ResSt_still {g:Nat} {T:TypeId} {z c:List Value}:∀ k t w w',ResSt g T z c k t w→Mod (fun _=>False) w w'→ResSt g T z c k t w':=by
 intro k t w w' h hm
 match k,h with
 | 0,h=>exact Cs.mod h hm (fun h=>h)
 | k+1,h=>exact Cs.mod h hm (fun h=>h)
theorem mkN_none {L:List (Int × List Int)} {k:Int × List Int} (h:mkN L k=0):Bs (Bn 0 L) k=none:=by
 unfold mkN at h
 cases hl:Bs (Bn 0 L) k with
 | none=>rfl
 | some m=>rw [hl] at h;have:=(marks_pos 0 L k m hl).1;simp at h;omega
set_option maxHeartbeats 2000000 in
theorem Book_sign {w:World} {g b:Nat} {L:List (Int × List Int)} (h:BookIs w g b L) (y:Int) {v:Value} {bs:List Int} (hr:RdB w v bs) (hk:SgK (y,bs)) (hL:L.length≤1000000) :
 Calls Try.prog 27 #[.pointer (some ⟨g,0,none⟩),.int .i64 y,v] w fun e w'=>∃ m,e=.returned (.agg (#[.int .i64 y,.int .i64 m]))∧m=(mkN (B7 L (y,bs)) (y,bs):Int)∧BookIs w' g b (B7 L (y,bs))∧Mod (fun k=>k=b) w w':=by
 have HS:=Lib.hid h
 have HNE:=Lib.hid h.ne
 have zg:=h.cell.lt
 have zb:=h.map.lt
 have HR:=Lib.hid hr
 have hbl:=hr.block_lt
 have HK:=Lib.hid hk
 have HLL:=Lib.hid hL
 clear h hr hk hL
 go_enter Try.func27,Try.ntmps27
 go_upto_region 1 with (fail)
 obtain ⟨w1,hw1⟩:∃ x,x=w.alloc (.cells #[.int .i64 0,.int .i64 0] 34):=⟨_,rfl⟩
 change Code.wp _ _ _ _ (w.alloc (.cells #[.int .i64 0,.int .i64 0] 34))
 rw [← hw1]
 have KR0:=Lib.hid (show Cs w1 w.heap.size #[.int .i64 0,.int .i64 0] 34 by rw [hw1];exact Cs.new _ _ _)
 have KM:=Lib.hid (show Mod (fun _=>False) w w1 by rw [hw1];exact (Mod.refl _ _).alloc _)
 have hs1:w1.heap.size=w.heap.size+1:=by rw [hw1];simp
 clear hw1
 obtain ⟨B,hBB⟩:∃ B,B=w1.heap.size:=⟨_,rfl⟩
 have HBE:=Lib.hid hBB
 have hB3:B=w.heap.size+1:=by omega
 have HAP:=Lib.hid (show Apart v bs.length (fun j=>B≤j) from fun h0 g hg h=>by have:=hbl h0 g hg;omega)
 clear hBB hbl
 generalize ha0:Act.mk _ _=a0
 have oe1:a0.eval (.tmp 1)=.int .i64 y:=by rw [← ha0];rfl
 have oe2:a0.eval (.tmp 2)=v:=by rw [← ha0];rfl
 have hsz0:a0.tmps.size=38:=by rw [← ha0];rfl
 have HA0:=Lib.hid ha0
 clear ha0
 refine Bf 38 hsz0 (by kernel_rfl) (by kernel_rfl) [8,9,10,11,7,43] (by kernel_rfl) (by decide) (fun j=>B≤j) (fun k j=>k=1∧B≤j) (fun k j h=>h.2) Still (fun _ _ _ h=>h) (fun _ _ _ hm h=>hm.trans h (fun _ _ h=>h.elim)) [gi (.int .i64 y),gi (v),gi (.string (strOfNums bs)),gi (sgV (y,bs)),gv 0,gv 1] ⟨Af,Af,Af,Af,gv_stable,gv_stable,trivial⟩ [4,5] (by kernel_rfl) (by decide) (by kernel_rfl) (ByLen (AlSt B 107 [.int .i64 0,.string ByteArray.empty] [.int .i64 y,.string (strOfNums bs)])) (ByLen.still AlSt_still) ⟨Nat.le_of_eq HBE.out,trivial⟩ ⟨?_,?_,?_,?_,?_,?_,trivial⟩ ?_
 ·intro tr act w' hm hout hsz hd hG hk hub
  exact Aj (by rfl) rfl (Ab rfl) (Ah rfl ((hout 1 (by decide)).trans oe1)) (Mod.refl _ _) rfl
 ·intro tr act w' hm hout hsz hd hG hk hub
  exact Aj (by rfl) rfl (Ab rfl) (Ah rfl ((hout 2 (by decide)).trans oe2)) (Mod.refl _ _) rfl
 ·intro tr act w' hm hout hsz hd hG hk hub
  have h1:=hd ⟨1,.data⟩ (by simp) rfl _ rfl
  exact Aj (by rfl) rfl (Ab rfl) (ex_conv rfl h1 (bytes_string ((HR.out.mod KM.out (fun _ _ _ h=>h)).mod hm HAP.out))) (Mod.refl _ _) rfl
 ·intro tr act w' hm hout hsz hd hG hk hub
  have h0:=hd ⟨0,.data⟩ (by simp) rfl _ rfl
  have h2:=hd ⟨2,.data⟩ (by simp) rfl _ rfl
  exact Aj (by rfl) rfl (Ab rfl) (ex_build rfl (z:=[.int .i64 0,.string ByteArray.empty]) (places:=[(0,1),(1,1)]) (by kernel_rfl) (parts:=[(0,.int .i64 y),(1,.string (strOfNums bs))]) (by simp only [List.map_toArray,List.map_cons,List.map_nil,show act.eval (.tmp 8)=_ from h0,show act.eval (.tmp 10)=_ from h2];try rfl) (r:=[.int .i64 y,.string (strOfNums bs)]) (by rfl)) (Mod.refl _ _) rfl
 ·intro tr act w' hm hout hsz hd hG hk hub
  have hl:=hk 0 rfl
  obtain ⟨info,hi,hz⟩:=zero_of (show (Try.prog.info? 107).bind (·.zero)=some (.agg ([.int .i64 0,.string ByteArray.empty]:List Value).toArray) by kernel_rfl)
  exact jc_run (by rfl) rfl (Ab rfl) (ex_alloc rfl hi hz) ((Mod.refl _ _).alloc _) (gv_new tr _ w' hl) (AlSt_new hG hl)
 ·intro tr act w' hm hout hsz hd hG hk hub
  have h3:=hd ⟨3,.data⟩ (by simp) rfl _ rfl
  have h4:=hd ⟨4,.data⟩ (by simp) rfl _ rfl
  have hl:=hk 1 rfl
  obtain ⟨q,e1,hB,hq,hnext⟩:=AlSt_put hG hl
  have ep:act.eval (.tmp 7)=.pointer (some ⟨q,0,none⟩):=Option.some.inj (Eq.trans (Eq.symm h4) e1)
  exact jc_turn (by rfl) rfl (Ab rfl) (Bx rfl hq (off:=0) (vs:=[.int .i64 y,.string (strOfNums bs)]) (by kernel_rfl) (by intro u hu;simp at hu;rcases hu with rfl|rfl<;>rfl) (by simp) ep (by rw [show act.eval (.tmp 11)=_ from h3];rfl)) (setRow_Mod.mono (fun k _ h=>by subst h;exact ⟨hl,hB⟩)) (gv_new tr _ w' hl) (hnext (by rfl))
 intro vs tr w2 hl htl hm hG hV
 obtain ⟨v0,vs0,rfl,hl0⟩:=Ae hl
 obtain ⟨v1,vs1,rfl,hl1⟩:=Ae hl0
 obtain ⟨v2,vs2,rfl,hl2⟩:=Ae hl1
 obtain ⟨v3,vs3,rfl,hl3⟩:=Ae hl2
 obtain ⟨v4,vs4,rfl,hl4⟩:=Ae hl3
 obtain ⟨v5,vs5,rfl,hl5⟩:=Ae hl4
 obtain rfl:=Bl hl5
 clear hl hl0 hl1 hl2 hl3 hl4 hl5
 have f4:=hV 4 _ rfl
 have ha0:=HA0.out
 subst ha0
 clear HA0 hV hsz0 oe1 oe2
 simp only [Ar,Act.put,sIB,sCZ,sCS,List.set_nil]
 obtain ⟨-,q,e1,hqB,hq⟩:=hG.at htl
 obtain rfl:v4=_:=Option.some.inj (Eq.trans (Eq.symm f4) e1)
 have KQ:=Lib.hid (show Cs w2 q [.int .i64 y,.string (strOfNums bs)].toArray 107 from hq)
 have KM2:=Lib.hid (KM.out.trans hm (fun k h1 h2=>by omega))
 have KR2:=Lib.hid (KR0.out.mod hm (by omega))
 have HS2:=Lib.hid (HS.out.mod KM2.out (fun h=>h) (fun h=>h))
 have HQB:=Lib.hid (show ¬ q=b by omega)
 clear hG hm hq f4 e1 htl
 by_cases hz:mkN L (y,bs)=0
 ·have HZ:=Lib.hid (show (((mkN L (y,bs):Nat):Int) == 0)=true by rw [hz];rfl)
  have HNO:=Lib.hid (mkN_none hz)
  have HSF:=Lib.hid (show B7 L (y,bs)=L ++ [(y,bs)] by unfold B7;rw [if_pos hz])
  have HSN:=Lib.hid (show B7 L (y,bs)=L ++ [(y,bs)] by unfold B7;rw [if_pos hz])
  clear hz
  go_upto_region 2 with (fail)
  generalize ha0:Act.mk _ _=a0
  have oe0:a0.eval (.tmp 0)=.pointer (some ⟨g,0,none⟩):=by rw [← ha0];rfl
  have oe1:a0.eval (.tmp 1)=.int .i64 y:=by rw [← ha0];rfl
  have oe6:a0.eval (.tmp 6)=.pointer (some ⟨w.heap.size,0,none⟩):=by rw [← ha0];rfl
  have oe7:a0.eval (.tmp 7)=.pointer (some ⟨q,0,none⟩):=by rw [← ha0];rfl
  have hsz0:a0.tmps.size=38:=by rw [← ha0];rfl
  have HA0:=Lib.hid ha0
  clear ha0
  refine Bf 38 hsz0 (by kernel_rfl) (by kernel_rfl) [12,13,14,15,16,17,18] (by kernel_rfl) (by decide) (fun _=>False) (fun _ _=>False) (fun _ _ h=>h) Still (fun _ _ _ h=>h) (fun _ _ _ hm h=>hm.trans h (fun _ _ h=>h.elim)) [gi (.pointer (some ⟨g,0,none⟩)),gi (.pointer (some ⟨g,0,none⟩)),gi (.pointer (some ⟨g,0,none⟩)),gi (.map (some b)),gi (sgV (y,bs)),gi (.int .i64 (mkN L (y,bs))),gi (.bool true)] ⟨Af,Af,Af,Af,Af,Af,Af,trivial⟩ [] (by kernel_rfl) (by decide) (by kernel_rfl) (fun _ _=>True) (fun _ _ _ _ _=>trivial) trivial ⟨?_,?_,?_,?_,?_,?_,?_,trivial⟩ ?_
  ·intro tr act w' hm hout hsz hd hG hk hub
   exact Aj (by rfl) rfl (Ab rfl) (Ah rfl ((hout 0 (by decide)).trans oe0)) (Mod.refl _ _) rfl
  ·intro tr act w' hm hout hsz hd hG hk hub
   have h0:=hd ⟨0,.data⟩ (by simp) rfl _ rfl
   exact Aj (by rfl) rfl (Ab rfl) (A1 rfl h0) (Mod.refl _ _) rfl
  ·intro tr act w' hm hout hsz hd hG hk hub
   have h1:=hd ⟨1,.data⟩ (by simp) rfl _ rfl
   refine Aj (by rfl) rfl (Ab rfl) (Ai rfl Try.underlying84 rfl (by kernel_rfl) h1) (Mod.refl _ _) ?_
   rfl
  ·intro tr act w' hm hout hsz hd hG hk hub
   have h2:=hd ⟨2,.data⟩ (by simp) rfl _ rfl
   exact Aj (by rfl) rfl (Ab rfl) (Am rfl Try.underlying82 rfl h2 (by rw [(HS2.out.cell.mod hm (fun h=>h)).cell];rfl)) (Mod.refl _ _) rfl
  ·intro tr act w' hm hout hsz hd hG hk hub
   exact Aj (by rfl) rfl (Ab rfl) (Ap rfl Try.underlying107 rfl (off:=0) (cs:=[.int .i64 y,.string (strOfNums bs)]) (by kernel_rfl) ((hout 7 (by decide)).trans oe7) (Cs.whole (KQ.out.mod hm (fun h=>h)))) (Mod.refl _ _) rfl
  ·intro tr act w' hm hout hsz hd hG hk hub
   have h3:=hd ⟨3,.data⟩ (by simp) rfl _ rfl
   have h4:=hd ⟨4,.data⟩ (by simp) rfl _ rfl
   refine Aj (by rfl) rfl (Ab rfl) (ex_lookup rfl h3 h4 ((HS2.out.map.mod hm (fun h=>h)).lookup sg_enc Try.underlying82 (zero_run zero_int _) (y,bs) HK.out false)) (Mod.refl _ _) ?_
   exact book_look L (y,bs)
  ·intro tr act w' hm hout hsz hd hG hk hub
   have h5:=hd ⟨5,.data⟩ (by simp) rfl _ rfl
   refine Aj (by rfl) rfl (Ab rfl) (A7 rfl h5 rfl (Ak _ _ _ _ _ _) (Bg _ _ _ Try.underlying3)) (Mod.refl _ _) ?_
   exact congrArg Value.bool HZ.out
  intro vs tr w3 hl htl hm hG hV
  obtain ⟨v0,vs0,rfl,hl0⟩:=Ae hl
  obtain ⟨v1,vs1,rfl,hl1⟩:=Ae hl0
  obtain ⟨v2,vs2,rfl,hl2⟩:=Ae hl1
  obtain ⟨v3,vs3,rfl,hl3⟩:=Ae hl2
  obtain ⟨v4,vs4,rfl,hl4⟩:=Ae hl3
  obtain ⟨v5,vs5,rfl,hl5⟩:=Ae hl4
  obtain ⟨v6,vs6,rfl,hl6⟩:=Ae hl5
  obtain rfl:=Bl hl6
  clear hl hl0 hl1 hl2 hl3 hl4 hl5 hl6
  obtain rfl:v6=.bool true:=hV 6 _ rfl
  have ha0:=HA0.out
  subst ha0
  clear HA0 hV hsz0 oe0 oe1 oe6 oe7
  simp only [Ar,Act.put,sIB,sCZ,sCS]
  have KM3:=Lib.hid (KM2.out.trans hm (fun _ _ h=>h))
  have KQ3:=Lib.hid (KQ.out.mod hm (fun h=>h))
  have KR3:=Lib.hid (KR2.out.mod hm (fun h=>h))
  have HS3:=Lib.hid (HS2.out.mod hm (fun h=>h) (fun h=>h))
  clear hG hm KM2 KQ KR2 HS2
  have KQ:=Lib.hid KQ3.out
  have HS2:=Lib.hid HS3.out
  clear KQ3 HS3
  go_upto_region 3 with (fail)
  generalize ha0:Act.mk _ _=a0
  have oe0:a0.eval (.tmp 0)=.pointer (some ⟨g,0,none⟩):=by rw [← ha0];rfl
  have oe1:a0.eval (.tmp 1)=.int .i64 y:=by rw [← ha0];rfl
  have oe6:a0.eval (.tmp 6)=.pointer (some ⟨w.heap.size,0,none⟩):=by rw [← ha0];rfl
  have oe7:a0.eval (.tmp 7)=.pointer (some ⟨q,0,none⟩):=by rw [← ha0];rfl
  have hsz0:a0.tmps.size=38:=by rw [← ha0];rfl
  have HA0:=Lib.hid ha0
  clear ha0
  refine Bf 38 hsz0 (by kernel_rfl) (by kernel_rfl) [19,20,21,22,23,24,25,26,27,28,29,49] (by kernel_rfl) (by decide) (fun k=>k=b) (fun _ k=>k=b) (fun _ _ h=>h) Still (fun _ _ _ h=>h) (fun _ _ _ hm h=>hm.trans h (fun _ _ h=>h.elim)) [gi (.pointer (some ⟨g,0,none⟩)),gi (.pointer (some ⟨g,0,none⟩)),gi (.pointer (some ⟨g,0,none⟩)),gi (.map (some b)),gi (sgV (y,bs)),gi (.pointer (some ⟨g,0,none⟩)),gi (.pointer (some ⟨g,0,none⟩)),gi (.pointer (some ⟨g,0,none⟩)),gi (.map (some b)),gi (mkV L.length),gi (mkV (L.length+1)),ga] ⟨Af,Af,Af,Af,Af,Af,Af,Af,Af,Af,Af,Bq,trivial⟩ [11] (by kernel_rfl) (by decide) (by kernel_rfl) (ByLen (SnSt b (Bn 0 L) (Bn 0 (L ++ [(y,bs)])))) (ByLen.still SnSt_still) HS2.out.map ⟨?_,?_,?_,?_,?_,?_,?_,?_,?_,?_,?_,?_,trivial⟩ ?_
  ·intro tr act w' hm hout hsz hd hG hk hub
   exact Aj (by rfl) rfl (Ab rfl) (Ah rfl ((hout 0 (by decide)).trans oe0)) (Mod.refl _ _) rfl
  ·intro tr act w' hm hout hsz hd hG hk hub
   have h0:=hd ⟨0,.data⟩ (by simp) rfl _ rfl
   exact Aj (by rfl) rfl (Ab rfl) (A1 rfl h0) (Mod.refl _ _) rfl
  ·intro tr act w' hm hout hsz hd hG hk hub
   have h1:=hd ⟨1,.data⟩ (by simp) rfl _ rfl
   refine Aj (by rfl) rfl (Ab rfl) (Ai rfl Try.underlying84 rfl (by kernel_rfl) h1) (Mod.refl _ _) ?_
   rfl
  ·intro tr act w' hm hout hsz hd hG hk hub
   have h2:=hd ⟨2,.data⟩ (by simp) rfl _ rfl
   exact Aj (by rfl) rfl (Ab rfl) (Am rfl Try.underlying82 rfl h2 (by rw [(HS2.out.cell.mod hm HNE.out).cell];rfl)) (Mod.refl _ _) rfl
  ·intro tr act w' hm hout hsz hd hG hk hub
   exact Aj (by rfl) rfl (Ab rfl) (Ap rfl Try.underlying107 rfl (off:=0) (cs:=[.int .i64 y,.string (strOfNums bs)]) (by kernel_rfl) ((hout 7 (by decide)).trans oe7) (Cs.whole (KQ.out.mod hm HQB.out))) (Mod.refl _ _) rfl
  ·intro tr act w' hm hout hsz hd hG hk hub
   exact Aj (by rfl) rfl (Ab rfl) (Ah rfl ((hout 0 (by decide)).trans oe0)) (Mod.refl _ _) rfl
  ·intro tr act w' hm hout hsz hd hG hk hub
   have h5:=hd ⟨5,.data⟩ (by simp) rfl _ rfl
   exact Aj (by rfl) rfl (Ab rfl) (A1 rfl h5) (Mod.refl _ _) rfl
  ·intro tr act w' hm hout hsz hd hG hk hub
   have h6:=hd ⟨6,.data⟩ (by simp) rfl _ rfl
   refine Aj (by rfl) rfl (Ab rfl) (Ai rfl Try.underlying84 rfl (by kernel_rfl) h6) (Mod.refl _ _) ?_
   rfl
  ·intro tr act w' hm hout hsz hd hG hk hub
   have h7:=hd ⟨7,.data⟩ (by simp) rfl _ rfl
   exact Aj (by rfl) rfl (Ab rfl) (Am rfl Try.underlying82 rfl h7 (by rw [(HS2.out.cell.mod hm HNE.out).cell];rfl)) (Mod.refl _ _) rfl
  ·intro tr act w' hm hout hsz hd hG hk hub
   have h8:=hd ⟨8,.data⟩ (by simp) rfl _ rfl
   refine Aj (by rfl) rfl (Ab rfl) (ex_lenM rfl h8 (hG.at (show tr.length=0 from Nat.le_zero.1 (hub 0 11 rfl (by kernel_rfl)))) Try.underlying82) (Mod.refl _ _) ?_
   exact congrArg (fun n:Nat=>Value.int .i64 n) (marks_len 0 L)
  ·intro tr act w' hm hout hsz hd hG hk hub
   have h9:=hd ⟨9,.data⟩ (by simp) rfl _ rfl
   refine Aj (by rfl) rfl (Ab rfl) (A7 rfl h9 rfl (Ak _ _ _ _ _ _) (Be _ _ Try.underlying3)) (Mod.refl _ _) ?_
   exact congrArg (Value.int .i64) (by rw [IntWalk.i64_in _ (by have:=HLL.out;omega)];simp)
  ·intro tr act w' hm hout hsz hd hG hk hub
   have h3:=hd ⟨3,.data⟩ (by simp) rfl _ rfl
   have h4:=hd ⟨4,.data⟩ (by simp) rfl _ rfl
   have h10:=hd ⟨10,.data⟩ (by simp) rfl _ rfl
   have hl:=hk 0 rfl
   obtain ⟨w'',hr,u1,u2⟩:=MapIs.update (hG.at hl) sg_enc Try.underlying82 (y,bs) HK.out (L.length+1)
   refine jc_turn (by rfl) rfl (Ab rfl) (ex_mapUpdate (mv:=.map (some b)) (kv:=sgV (y,bs)) (uv:=mkV (L.length+1)) rfl h3 h4 h10 hr) u2 trivial (ByLen.on hl ?_)
   rw [show L.length+1=0+L.length+1 by omega,marks_put 0 L (y,bs) HNO.out] at u1
   exact u1
  intro vs tr w4 hl htl hm hG hV
  obtain ⟨v0,vs0,rfl,hl0⟩:=Ae hl
  obtain ⟨v1,vs1,rfl,hl1⟩:=Ae hl0
  obtain ⟨v2,vs2,rfl,hl2⟩:=Ae hl1
  obtain ⟨v3,vs3,rfl,hl3⟩:=Ae hl2
  obtain ⟨v4,vs4,rfl,hl4⟩:=Ae hl3
  obtain ⟨v5,vs5,rfl,hl5⟩:=Ae hl4
  obtain ⟨v6,vs6,rfl,hl6⟩:=Ae hl5
  obtain ⟨v7,vs7,rfl,hl7⟩:=Ae hl6
  obtain ⟨v8,vs8,rfl,hl8⟩:=Ae hl7
  obtain ⟨v9,vs9,rfl,hl9⟩:=Ae hl8
  obtain ⟨v10,vs10,rfl,hl10⟩:=Ae hl9
  obtain ⟨v11,vs11,rfl,hl11⟩:=Ae hl10
  obtain rfl:=Bl hl11
  clear hl hl0 hl1 hl2 hl3 hl4 hl5 hl6 hl7 hl8 hl9 hl10 hl11
  have ha0:=HA0.out
  subst ha0
  clear HA0 hV hsz0 oe0 oe1 oe6 oe7
  simp only [Ar,Act.put,sIB,sCZ,sCS,List.set_nil]
  have KMZ:=Lib.hid ((KM3.out.mono (S':=fun k=>k=b) (fun _ _ h=>h.elim)).trans hm (fun _ _ h=>h))
  have KQ4:=Lib.hid (KQ.out.mod hm HQB.out)
  have KR:=Lib.hid (show ByLen (ResSt w.heap.size 34 [.int .i64 0,.int .i64 0] [.int .i64 y,.int .i64 (mkN (L ++ [(y,bs)]) (y,bs))]) [] w4 from KR3.out.mod hm (by omega))
  have HS4:=Lib.hid (show BookIs w4 g b (L ++ [(y,bs)]) from ⟨HS2.out.cell.mod hm HNE.out,hG.at htl⟩)
  clear hG hm KM3 KQ HS2 KR3 htl
  have KQ:=Lib.hid KQ4.out
  clear KQ4
  go_upto_region 4 with (fail)
  generalize ha0:Act.mk _ _=a0
  have oe0:a0.eval (.tmp 0)=.pointer (some ⟨g,0,none⟩):=by rw [← ha0];rfl
  have oe1:a0.eval (.tmp 1)=.int .i64 y:=by rw [← ha0];rfl
  have oe6:a0.eval (.tmp 6)=.pointer (some ⟨w.heap.size,0,none⟩):=by rw [← ha0];rfl
  have oe7:a0.eval (.tmp 7)=.pointer (some ⟨q,0,none⟩):=by rw [← ha0];rfl
  have hsz0:a0.tmps.size=38:=by rw [← ha0];rfl
  have HA0:=Lib.hid ha0
  clear ha0
  refine Bf 38 hsz0 (by kernel_rfl) (by kernel_rfl) [30,31,32,33,34,35,36,37,46] (by kernel_rfl) (by decide) (fun k=>k=w.heap.size) (fun _ k=>k=w.heap.size) (fun _ _ h=>h) Still (fun _ _ _ h=>h) (fun _ _ _ hm h=>hm.trans h (fun _ _ h=>h.elim)) [gi (.int .i64 y),gi (.pointer (some ⟨g,0,none⟩)),gi (.pointer (some ⟨g,0,none⟩)),gi (.pointer (some ⟨g,0,none⟩)),gi (.map (some b)),gi (sgV (y,bs)),gi (.int .i64 (mkN (L ++ [(y,bs)]) (y,bs))),gi (.agg ([.int .i64 y,.int .i64 (mkN (L ++ [(y,bs)]) (y,bs))]:List Value).toArray),ga] ⟨Af,Af,Af,Af,Af,Af,Af,Af,Bq,trivial⟩ [8] (by kernel_rfl) (by decide) (by kernel_rfl) (ByLen (ResSt (w.heap.size) 34 [.int .i64 0,.int .i64 0] [.int .i64 y,.int .i64 (mkN (L ++ [(y,bs)]) (y,bs))])) (ByLen.still ResSt_still) KR.out ⟨?_,?_,?_,?_,?_,?_,?_,?_,?_,trivial⟩ ?_
  ·intro tr act w' hm hout hsz hd hG hk hub
   exact Aj (by rfl) rfl (Ab rfl) (Ah rfl ((hout 1 (by decide)).trans oe1)) (Mod.refl _ _) rfl
  ·intro tr act w' hm hout hsz hd hG hk hub
   exact Aj (by rfl) rfl (Ab rfl) (Ah rfl ((hout 0 (by decide)).trans oe0)) (Mod.refl _ _) rfl
  ·intro tr act w' hm hout hsz hd hG hk hub
   have h1:=hd ⟨1,.data⟩ (by simp) rfl _ rfl
   exact Aj (by rfl) rfl (Ab rfl) (A1 rfl h1) (Mod.refl _ _) rfl
  ·intro tr act w' hm hout hsz hd hG hk hub
   have h2:=hd ⟨2,.data⟩ (by simp) rfl _ rfl
   refine Aj (by rfl) rfl (Ab rfl) (Ai rfl Try.underlying84 rfl (by kernel_rfl) h2) (Mod.refl _ _) ?_
   rfl
  ·intro tr act w' hm hout hsz hd hG hk hub
   have h3:=hd ⟨3,.data⟩ (by simp) rfl _ rfl
   exact Aj (by rfl) rfl (Ab rfl) (Am rfl Try.underlying82 rfl h3 (by rw [(HS4.out.cell.mod hm (by omega)).cell];rfl)) (Mod.refl _ _) rfl
  ·intro tr act w' hm hout hsz hd hG hk hub
   exact Aj (by rfl) rfl (Ab rfl) (Ap rfl Try.underlying107 rfl (off:=0) (cs:=[.int .i64 y,.string (strOfNums bs)]) (by kernel_rfl) ((hout 7 (by decide)).trans oe7) (Cs.whole (KQ.out.mod hm (by omega)))) (Mod.refl _ _) rfl
  ·intro tr act w' hm hout hsz hd hG hk hub
   have h4:=hd ⟨4,.data⟩ (by simp) rfl _ rfl
   have h5:=hd ⟨5,.data⟩ (by simp) rfl _ rfl
   refine Aj (by rfl) rfl (Ab rfl) (ex_lookup rfl h4 h5 ((HS4.out.map.mod hm (by omega)).lookup sg_enc Try.underlying82 (zero_run zero_int _) (y,bs) HK.out false)) (Mod.refl _ _) ?_
   exact book_look (L ++ [(y,bs)]) (y,bs)
  ·intro tr act w' hm hout hsz hd hG hk hub
   have h0:=hd ⟨0,.data⟩ (by simp) rfl _ rfl
   have h6:=hd ⟨6,.data⟩ (by simp) rfl _ rfl
   exact Aj (by rfl) rfl (Ab rfl) (ex_build rfl (z:=[.int .i64 0,.int .i64 0]) (places:=[(0,1),(1,1)]) (by kernel_rfl) (parts:=[(0,.int .i64 y),(1,.int .i64 (mkN (L ++ [(y,bs)]) (y,bs)))]) (by simp only [List.map_toArray,List.map_cons,List.map_nil,show act.eval (.tmp 30)=_ from h0,show act.eval (.tmp 36)=_ from h6];try rfl) (r:=[.int .i64 y,.int .i64 (mkN (L ++ [(y,bs)]) (y,bs))]) (by rfl)) (Mod.refl _ _) rfl
  ·intro tr act w' hm hout hsz hd hG hk hub
   have h7:=hd ⟨7,.data⟩ (by simp) rfl _ rfl
   have hl:=hk 0 rfl
   refine jc_turn (by rfl) rfl (Ab rfl) (Bx rfl (hG.at hl) (off:=0) (vs:=[.int .i64 y,.int .i64 (mkN (L ++ [(y,bs)]) (y,bs))]) (by kernel_rfl) (by intro u hu;simp at hu;rcases hu with rfl|rfl<;>rfl) (by simp) ((hout 6 (by decide)).trans oe6) (by rw [show act.eval (.tmp 37)=_ from h7];rfl)) setRow_Mod trivial (ByLen.on hl ?_)
   rw [A0 _ _ (by simp)]
   exact setRow_Cs (hG.at hl)
  intro vs tr w9 hl htl hm hG hV
  obtain ⟨v0,vs0,rfl,hl0⟩:=Ae hl
  obtain ⟨v1,vs1,rfl,hl1⟩:=Ae hl0
  obtain ⟨v2,vs2,rfl,hl2⟩:=Ae hl1
  obtain ⟨v3,vs3,rfl,hl3⟩:=Ae hl2
  obtain ⟨v4,vs4,rfl,hl4⟩:=Ae hl3
  obtain ⟨v5,vs5,rfl,hl5⟩:=Ae hl4
  obtain ⟨v6,vs6,rfl,hl6⟩:=Ae hl5
  obtain ⟨v7,vs7,rfl,hl7⟩:=Ae hl6
  obtain ⟨v8,vs8,rfl,hl8⟩:=Ae hl7
  obtain rfl:=Bl hl8
  clear hl hl0 hl1 hl2 hl3 hl4 hl5 hl6 hl7 hl8
  have ha0:=HA0.out
  subst ha0
  clear HA0 hV hsz0 oe0 oe1 oe6 oe7
  simp only [Ar,Act.put,sIB,sCZ,sCS,List.set_nil]
  have hres:=hG.at htl
  have hfin:=HS4.out.mod hm (by omega) (by omega)
  go_wp2
  exact bodyPost_ret (Br rfl _ _ w.heap.size [.int .i64 y,.int .i64 (mkN (L ++ [(y,bs)]) (y,bs))] rfl (fun k u hu=>by rw [Cs.cell hres];simpa using hu) Try.underlying34 rfl (by kernel_rfl)) rfl ⟨_,rfl,by rw [HSN.out],by rw [HSN.out];exact hfin,KMZ.out.trans hm (fun k h1 h2=>by omega)⟩
 ·have HZ:=Lib.hid (show (((mkN L (y,bs):Nat):Int) == 0)=false by simpa using hz)
  have HSN:=Lib.hid (show B7 L (y,bs)=L by unfold B7;rw [if_neg hz])
  clear hz
  go_upto_region 2 with (fail)
  generalize ha0:Act.mk _ _=a0
  have oe0:a0.eval (.tmp 0)=.pointer (some ⟨g,0,none⟩):=by rw [← ha0];rfl
  have oe1:a0.eval (.tmp 1)=.int .i64 y:=by rw [← ha0];rfl
  have oe6:a0.eval (.tmp 6)=.pointer (some ⟨w.heap.size,0,none⟩):=by rw [← ha0];rfl
  have oe7:a0.eval (.tmp 7)=.pointer (some ⟨q,0,none⟩):=by rw [← ha0];rfl
  have hsz0:a0.tmps.size=38:=by rw [← ha0];rfl
  have HA0:=Lib.hid ha0
  clear ha0
  refine Bf 38 hsz0 (by kernel_rfl) (by kernel_rfl) [12,13,14,15,16,17,18] (by kernel_rfl) (by decide) (fun _=>False) (fun _ _=>False) (fun _ _ h=>h) Still (fun _ _ _ h=>h) (fun _ _ _ hm h=>hm.trans h (fun _ _ h=>h.elim)) [gi (.pointer (some ⟨g,0,none⟩)),gi (.pointer (some ⟨g,0,none⟩)),gi (.pointer (some ⟨g,0,none⟩)),gi (.map (some b)),gi (sgV (y,bs)),gi (.int .i64 (mkN L (y,bs))),gi (.bool false)] ⟨Af,Af,Af,Af,Af,Af,Af,trivial⟩ [] (by kernel_rfl) (by decide) (by kernel_rfl) (fun _ _=>True) (fun _ _ _ _ _=>trivial) trivial ⟨?_,?_,?_,?_,?_,?_,?_,trivial⟩ ?_
  ·intro tr act w' hm hout hsz hd hG hk hub
   exact Aj (by rfl) rfl (Ab rfl) (Ah rfl ((hout 0 (by decide)).trans oe0)) (Mod.refl _ _) rfl
  ·intro tr act w' hm hout hsz hd hG hk hub
   have h0:=hd ⟨0,.data⟩ (by simp) rfl _ rfl
   exact Aj (by rfl) rfl (Ab rfl) (A1 rfl h0) (Mod.refl _ _) rfl
  ·intro tr act w' hm hout hsz hd hG hk hub
   have h1:=hd ⟨1,.data⟩ (by simp) rfl _ rfl
   refine Aj (by rfl) rfl (Ab rfl) (Ai rfl Try.underlying84 rfl (by kernel_rfl) h1) (Mod.refl _ _) ?_
   rfl
  ·intro tr act w' hm hout hsz hd hG hk hub
   have h2:=hd ⟨2,.data⟩ (by simp) rfl _ rfl
   exact Aj (by rfl) rfl (Ab rfl) (Am rfl Try.underlying82 rfl h2 (by rw [(HS2.out.cell.mod hm (fun h=>h)).cell];rfl)) (Mod.refl _ _) rfl
  ·intro tr act w' hm hout hsz hd hG hk hub
   exact Aj (by rfl) rfl (Ab rfl) (Ap rfl Try.underlying107 rfl (off:=0) (cs:=[.int .i64 y,.string (strOfNums bs)]) (by kernel_rfl) ((hout 7 (by decide)).trans oe7) (Cs.whole (KQ.out.mod hm (fun h=>h)))) (Mod.refl _ _) rfl
  ·intro tr act w' hm hout hsz hd hG hk hub
   have h3:=hd ⟨3,.data⟩ (by simp) rfl _ rfl
   have h4:=hd ⟨4,.data⟩ (by simp) rfl _ rfl
   refine Aj (by rfl) rfl (Ab rfl) (ex_lookup rfl h3 h4 ((HS2.out.map.mod hm (fun h=>h)).lookup sg_enc Try.underlying82 (zero_run zero_int _) (y,bs) HK.out false)) (Mod.refl _ _) ?_
   exact book_look L (y,bs)
  ·intro tr act w' hm hout hsz hd hG hk hub
   have h5:=hd ⟨5,.data⟩ (by simp) rfl _ rfl
   refine Aj (by rfl) rfl (Ab rfl) (A7 rfl h5 rfl (Ak _ _ _ _ _ _) (Bg _ _ _ Try.underlying3)) (Mod.refl _ _) ?_
   exact congrArg Value.bool HZ.out
  intro vs tr w3 hl htl hm hG hV
  obtain ⟨v0,vs0,rfl,hl0⟩:=Ae hl
  obtain ⟨v1,vs1,rfl,hl1⟩:=Ae hl0
  obtain ⟨v2,vs2,rfl,hl2⟩:=Ae hl1
  obtain ⟨v3,vs3,rfl,hl3⟩:=Ae hl2
  obtain ⟨v4,vs4,rfl,hl4⟩:=Ae hl3
  obtain ⟨v5,vs5,rfl,hl5⟩:=Ae hl4
  obtain ⟨v6,vs6,rfl,hl6⟩:=Ae hl5
  obtain rfl:=Bl hl6
  clear hl hl0 hl1 hl2 hl3 hl4 hl5 hl6
  obtain rfl:v6=.bool false:=hV 6 _ rfl
  have ha0:=HA0.out
  subst ha0
  clear HA0 hV hsz0 oe0 oe1 oe6 oe7
  simp only [Ar,Act.put,sIB,sCZ,sCS]
  have KMZ:=Lib.hid ((KM2.out.trans hm (fun _ _ h=>h)).mono (S':=fun k=>k=b) (fun _ _ h=>h.elim))
  have KQ4:=Lib.hid (KQ.out.mod hm (fun h=>h))
  have KR:=Lib.hid (show ByLen (ResSt w.heap.size 34 [.int .i64 0,.int .i64 0] [.int .i64 y,.int .i64 (mkN L (y,bs))]) [] w3 from KR2.out.mod hm (fun h=>h))
  have HS4:=Lib.hid (HS2.out.mod hm (fun h=>h) (fun h=>h))
  clear hG hm KM2 KQ HS2 KR2
  have KQ:=Lib.hid KQ4.out
  clear KQ4
  go_upto_region 4 with (fail)
  generalize ha0:Act.mk _ _=a0
  have oe0:a0.eval (.tmp 0)=.pointer (some ⟨g,0,none⟩):=by rw [← ha0];rfl
  have oe1:a0.eval (.tmp 1)=.int .i64 y:=by rw [← ha0];rfl
  have oe6:a0.eval (.tmp 6)=.pointer (some ⟨w.heap.size,0,none⟩):=by rw [← ha0];rfl
  have oe7:a0.eval (.tmp 7)=.pointer (some ⟨q,0,none⟩):=by rw [← ha0];rfl
  have hsz0:a0.tmps.size=38:=by rw [← ha0];rfl
  have HA0:=Lib.hid ha0
  clear ha0
  refine Bf 38 hsz0 (by kernel_rfl) (by kernel_rfl) [30,31,32,33,34,35,36,37,46] (by kernel_rfl) (by decide) (fun k=>k=w.heap.size) (fun _ k=>k=w.heap.size) (fun _ _ h=>h) Still (fun _ _ _ h=>h) (fun _ _ _ hm h=>hm.trans h (fun _ _ h=>h.elim)) [gi (.int .i64 y),gi (.pointer (some ⟨g,0,none⟩)),gi (.pointer (some ⟨g,0,none⟩)),gi (.pointer (some ⟨g,0,none⟩)),gi (.map (some b)),gi (sgV (y,bs)),gi (.int .i64 (mkN L (y,bs))),gi (.agg ([.int .i64 y,.int .i64 (mkN L (y,bs))]:List Value).toArray),ga] ⟨Af,Af,Af,Af,Af,Af,Af,Af,Bq,trivial⟩ [8] (by kernel_rfl) (by decide) (by kernel_rfl) (ByLen (ResSt (w.heap.size) 34 [.int .i64 0,.int .i64 0] [.int .i64 y,.int .i64 (mkN L (y,bs))])) (ByLen.still ResSt_still) KR.out ⟨?_,?_,?_,?_,?_,?_,?_,?_,?_,trivial⟩ ?_
  ·intro tr act w' hm hout hsz hd hG hk hub
   exact Aj (by rfl) rfl (Ab rfl) (Ah rfl ((hout 1 (by decide)).trans oe1)) (Mod.refl _ _) rfl
  ·intro tr act w' hm hout hsz hd hG hk hub
   exact Aj (by rfl) rfl (Ab rfl) (Ah rfl ((hout 0 (by decide)).trans oe0)) (Mod.refl _ _) rfl
  ·intro tr act w' hm hout hsz hd hG hk hub
   have h1:=hd ⟨1,.data⟩ (by simp) rfl _ rfl
   exact Aj (by rfl) rfl (Ab rfl) (A1 rfl h1) (Mod.refl _ _) rfl
  ·intro tr act w' hm hout hsz hd hG hk hub
   have h2:=hd ⟨2,.data⟩ (by simp) rfl _ rfl
   refine Aj (by rfl) rfl (Ab rfl) (Ai rfl Try.underlying84 rfl (by kernel_rfl) h2) (Mod.refl _ _) ?_
   rfl
  ·intro tr act w' hm hout hsz hd hG hk hub
   have h3:=hd ⟨3,.data⟩ (by simp) rfl _ rfl
   exact Aj (by rfl) rfl (Ab rfl) (Am rfl Try.underlying82 rfl h3 (by rw [(HS4.out.cell.mod hm (by omega)).cell];rfl)) (Mod.refl _ _) rfl
  ·intro tr act w' hm hout hsz hd hG hk hub
   exact Aj (by rfl) rfl (Ab rfl) (Ap rfl Try.underlying107 rfl (off:=0) (cs:=[.int .i64 y,.string (strOfNums bs)]) (by kernel_rfl) ((hout 7 (by decide)).trans oe7) (Cs.whole (KQ.out.mod hm (by omega)))) (Mod.refl _ _) rfl
  ·intro tr act w' hm hout hsz hd hG hk hub
   have h4:=hd ⟨4,.data⟩ (by simp) rfl _ rfl
   have h5:=hd ⟨5,.data⟩ (by simp) rfl _ rfl
   refine Aj (by rfl) rfl (Ab rfl) (ex_lookup rfl h4 h5 ((HS4.out.map.mod hm (by omega)).lookup sg_enc Try.underlying82 (zero_run zero_int _) (y,bs) HK.out false)) (Mod.refl _ _) ?_
   exact book_look L (y,bs)
  ·intro tr act w' hm hout hsz hd hG hk hub
   have h0:=hd ⟨0,.data⟩ (by simp) rfl _ rfl
   have h6:=hd ⟨6,.data⟩ (by simp) rfl _ rfl
   exact Aj (by rfl) rfl (Ab rfl) (ex_build rfl (z:=[.int .i64 0,.int .i64 0]) (places:=[(0,1),(1,1)]) (by kernel_rfl) (parts:=[(0,.int .i64 y),(1,.int .i64 (mkN L (y,bs)))]) (by simp only [List.map_toArray,List.map_cons,List.map_nil,show act.eval (.tmp 30)=_ from h0,show act.eval (.tmp 36)=_ from h6];try rfl) (r:=[.int .i64 y,.int .i64 (mkN L (y,bs))]) (by rfl)) (Mod.refl _ _) rfl
  ·intro tr act w' hm hout hsz hd hG hk hub
   have h7:=hd ⟨7,.data⟩ (by simp) rfl _ rfl
   have hl:=hk 0 rfl
   refine jc_turn (by rfl) rfl (Ab rfl) (Bx rfl (hG.at hl) (off:=0) (vs:=[.int .i64 y,.int .i64 (mkN L (y,bs))]) (by kernel_rfl) (by intro u hu;simp at hu;rcases hu with rfl|rfl<;>rfl) (by simp) ((hout 6 (by decide)).trans oe6) (by rw [show act.eval (.tmp 37)=_ from h7];rfl)) setRow_Mod trivial (ByLen.on hl ?_)
   rw [A0 _ _ (by simp)]
   exact setRow_Cs (hG.at hl)
  intro vs tr w9 hl htl hm hG hV
  obtain ⟨v0,vs0,rfl,hl0⟩:=Ae hl
  obtain ⟨v1,vs1,rfl,hl1⟩:=Ae hl0
  obtain ⟨v2,vs2,rfl,hl2⟩:=Ae hl1
  obtain ⟨v3,vs3,rfl,hl3⟩:=Ae hl2
  obtain ⟨v4,vs4,rfl,hl4⟩:=Ae hl3
  obtain ⟨v5,vs5,rfl,hl5⟩:=Ae hl4
  obtain ⟨v6,vs6,rfl,hl6⟩:=Ae hl5
  obtain ⟨v7,vs7,rfl,hl7⟩:=Ae hl6
  obtain ⟨v8,vs8,rfl,hl8⟩:=Ae hl7
  obtain rfl:=Bl hl8
  clear hl hl0 hl1 hl2 hl3 hl4 hl5 hl6 hl7 hl8
  have ha0:=HA0.out
  subst ha0
  clear HA0 hV hsz0 oe0 oe1 oe6 oe7
  simp only [Ar,Act.put,sIB,sCZ,sCS,List.set_nil]
  have hres:=hG.at htl
  have hfin:=HS4.out.mod hm (by omega) (by omega)
  go_wp2
  exact bodyPost_ret (Br rfl _ _ w.heap.size [.int .i64 y,.int .i64 (mkN L (y,bs))] rfl (fun k u hu=>by rw [Cs.cell hres];simpa using hu) Try.underlying34 rfl (by kernel_rfl)) rfl ⟨_,rfl,by rw [HSN.out],by rw [HSN.out];exact hfin,KMZ.out.trans hm (fun k h1 h2=>by omega)⟩
set_option maxHeartbeats 1000000 in
theorem Book_len {w:World} {g b:Nat} {L:List (Int × List Int)} (h:BookIs w g b L):Calls Try.prog 41 #[.pointer (some ⟨g,0,none⟩)] w fun e w'=>e=.returned (.int .i64 L.length)∧Mod (fun _=>False) w w':=by
 have c0:w.cell? ⟨g,0,none⟩=some (.map (some b)):=by rw [h.cell.cell];rfl
 have hlen:=h.map.len Try.underlying82 3
 rw [marks_len] at hlen
 clear h
 go_enter Try.func41,Try.ntmps41
 go_wp2
 go_ret
 exact ⟨rfl,by first|exact Mod.refl _ _|exact (Mod.refl _ _).drew⟩
end Go.Proofs.Ytbifincepglilaa

/- commit.signer, Valid, Matches. -/
namespace Go.Proofs.Ytbifincepglilaa
open Go Go.RowKit Go.Gv
theorem signer_any (n:Int) (w:World) (h:I64 (1000+n)):Calls Try.prog 28 #[.int .i64 n] w fun e w'=>e=.returned (.int .i64 (1000+n))∧Mod (fun _=>False) w w':=by
 go_enter Try.func28,Try.ntmps28
 go_wp2
 go_ret
 exact ⟨congrArg (fun z=>Ending.returned (Value.int .i64 z)) (by have h':=h;unfold I64 at h';unfold wrap64;omega),by first|exact Mod.refl _ _|exact (Mod.refl _ _).drew⟩
def validF (k:Int) (c:Cm):Bool:=decide (0≤c.cl) && decide (c.cl < k) && decide (1≤c.sq) && decide (c.sq≤1048576) && decide (0≤c.ln) && decide (c.ln≤256)
set_option maxHeartbeats 4000000 in
theorem Valid_any (f k:Int) (c:Cm) (hc:c.OK) (w:World):Calls Try.prog 50 #[.agg #[.int .i64 f,.int .i64 k],c.val] w fun e w'=>e=.returned (.bool (validF k c))∧Mod (fun _=>False) w w':=by
 have HC:=Lib.hid hc
 clear hc
 change Calls _ _ #[.agg #[.int .i64 f,.int .i64 k],c.val] _ _
 go_enter Try.func50,Try.ntmps50
 go_upto_region 1 with (fail)
 obtain ⟨w1,hw1⟩:∃ zz,zz=((w.alloc (.cells #[.int .i64 f,.int .i64 k] 26)).alloc (.cells (c.cells:List Value).toArray 36)):=⟨_,rfl⟩
 change Code.wp _ _ _ _ ((w.alloc (.cells #[.int .i64 f,.int .i64 k] 26)).alloc (.cells (c.cells:List Value).toArray 36))
 rw [← hw1]
 have HB2:=hid (show Cs w1 (w.heap.size) #[.int .i64 f,.int .i64 k] 26 by rw [hw1];exact (Cs.new _ _ _).alloc _)
 have HB3:=hid (show Cs w1 (w.heap.size+1) (c.cells:List Value).toArray 36 by rw [hw1];exact Cs_newN _ _ _ (by simp))
 have hm:Mod (fun _=>False) w w1:=by rw [hw1];exact ((Mod.refl _ _).alloc _).alloc _
 have HM0:=hid (show Mod (fun _=>False) w w1 from hm.mono (fun _ _ h=>h.elim))
 have hs1:w1.heap.size=w.heap.size+2:=by rw [hw1];simp
 clear hw1 hm
 go_upto_region 1 with (fail)
 refine Al 38 [6,7,5,41] [0,1,2,3] (fun a0 HA0=>?_)
 have oe3:=ev HA0 3 rfl
 refine QSeq.pure rfl (.pointer (some ⟨w.heap.size+1,0,none⟩)) (fun E=>Ai rfl Try.underlying36 rfl (by kernel_rfl) (E.v oe3)) ?_
 refine QSeq.pure rfl _ (fun E=>Ap rfl Try.underlying30 rfl (off:=0) (cs:=[.int .i64 c.cl,.int .i64 c.sq]) (by kernel_rfl) (E.d 0 0) (Cs.preA (pre:=[.int .i64 c.cl,.int .i64 c.sq]) (mid:=c.h.map bv) (post:=[.int .i64 c.ln,.int .i64 c.sb,.int .i64 c.mr]) HB3.out rfl)) ?_
 refine QSeq.go fun act E=>?_
 refine qc_alloc rfl (Ab rfl) rfl (z:=[.int .i64 0,.int .i64 0]) (by kernel_rfl) ?_
 intro u1_2 qb5 hm
 have zl1_2:=qb5.lt
 have Hx1:=hid qb5
 have zu1_2:=hm.size
 have Cx2:=hid (show Mod (fun _=>False) w1 u1_2 from hm)
 clear hm
 clear act E qb5
 refine QSeq.go fun act E=>?_
 have hlz:(([.int .i64 c.cl,.int .i64 c.sq]:List Value)).length=List.length ([.int .i64 0,.int .i64 0]:List Value):=rfl
 refine Bc rfl (Ab rfl) rfl Hx1.out (off:=0) (vs:=([.int .i64 c.cl,.int .i64 c.sq]:List Value)) (by rw [hlz];kernel_rfl) (by intro u hu;simp only [List.mem_cons,List.not_mem_nil,or_false] at hu;rcases hu with rfl|rfl<;>rfl) (by rw [hlz];exact Nat.le_of_eq (Nat.zero_add _)) (E.d 2 0) (ec (E.d 1 1)) ?_
 intro u1_3 qc0 hm
 have qb5:=qc0.eqv (b:=(([.int .i64 c.cl,.int .i64 c.sq]:List Value):List Value).toArray) (A0 (#[.int .i64 0,.int .i64 0]) _ (by rw [hlz];rfl))
 clear qc0 hlz
 have Hx3:=hid qb5
 have zu1_3:=hm.size
 have HMu1_3:=hid hm
 have Cx4:=hid (Mod.goS (S':=(fun _=>False)) Cx2.out hm (fun _ h=>h) (by intro k h0 h2;omega))
 clear hm Cx2
 clear act E qb5 Hx1
 clear HMu1_3
 refine QSeq.nil (t':=[_,_,_,_]) rfl ?_
 obtain rfl:=HA0.out
 clear HA0 oe3
 simp only [pz,Act.put,sIB,sCZ,sCS,List.set_nil]
 go_upto_region 2 with (fail)
 refine Al 38 [8,9,10,11,12,13,14,15,16,17,18,19,20,21,22,23,24,25,26,27,28,29,30,31,32,33,34,35,36,37,4] [0,1,2,3,4,5,6,7,8,9,10,11,12,13,14,15,16,17,18,19,20,21,22,23,24,25,26,27,28,29,30] (fun a0 HA0=>?_)
 have oe2:=ev HA0 2 rfl
 have oe3:=ev HA0 3 rfl
 have oe5:=ev HA0 5 rfl
 refine QSeq.pure rfl (.pointer (some ⟨w1.heap.size,0,none⟩)) (fun E=>Ai rfl Try.underlying30 rfl (by kernel_rfl) (E.v oe5)) ?_
 refine QSeq.pure rfl _ (fun E=>Am rfl Try.underlying3 rfl (E.d 0 0) (Cs.lit1 Hx3.out rfl)) ?_
 refine QSeq.pure rfl (.bool (decide (0≤c.cl))) (fun E=>A7 rfl (E.d 1 0) rfl (Ak _ _ _ _ _ _) (B3 _ _ _ Try.underlying3)) ?_
 refine QSeq.pure rfl _ (fun E=>Ah rfl (E.d 2 0)) ?_
 refine QSeq.may (b:=(decide (0≤c.cl))) rfl (.pointer (some ⟨w1.heap.size,0,none⟩)) (fun E=>((Ad rfl rfl (E.sz 11 (by decide)) (E.d 3 0)).trans (Cc _))) (fun E hb=>Ai rfl Try.underlying30 rfl (by kernel_rfl) (E.v oe5)) ?_
 intro v2_4 hw
 have hv2_4:=hid hw
 clear hw
 refine QSeq.may (b:=(decide (0≤c.cl))) rfl (.int .i64 c.cl) (fun E=>((Ad rfl rfl (E.sz 11 (by decide)) (E.d 3 1)).trans (Cc _))) (fun E hb=>Am rfl Try.underlying3 rfl ((E.q 4 0 hv2_4.out).1 hb) (Cs.lit1 Hx3.out rfl)) ?_
 intro v2_5 hw
 have hv2_5:=hid hw
 clear hw
 refine QSeq.may (b:=(decide (0≤c.cl))) rfl (.pointer (some ⟨w.heap.size,1,none⟩)) (fun E=>((Ad rfl rfl (E.sz 11 (by decide)) (E.d 3 2)).trans (Cc _))) (fun E hb=>Ai rfl Try.underlying26 rfl (by kernel_rfl) (E.v oe2)) ?_
 intro v2_6 hw
 have hv2_6:=hid hw
 clear hw
 refine QSeq.may (b:=(decide (0≤c.cl))) rfl (.int .i64 k) (fun E=>((Ad rfl rfl (E.sz 11 (by decide)) (E.d 3 3)).trans (Cc _))) (fun E hb=>Am rfl Try.underlying3 rfl ((E.q 6 0 hv2_6.out).1 hb) (Cs.lit1 (HB2.out.mod Cx4.out (fun h=>h)) rfl)) ?_
 intro v2_7 hw
 have hv2_7:=hid hw
 clear hw
 refine QSeq.may (b:=(decide (0≤c.cl))) rfl (.bool (decide (c.cl < k))) (fun E=>((Ad rfl rfl (E.sz 11 (by decide)) (E.d 3 4)).trans (Cc _))) (fun E hb=>A7 rfl ((E.q 5 2 hv2_5.out).1 hb) ((E.q 7 0 hv2_7.out).1 hb) (Ak _ _ _ _ _ _) (run_lss_i _ _ _ Try.underlying3)) ?_
 intro v2_8 hw
 have hv2_8:=hid hw
 clear hw
 obtain ⟨pb9,hb9⟩:∃ b:Bool,b=((decide (0≤c.cl)) && (decide (c.cl < k))):=⟨_,rfl⟩
 have HB9:=hid hb9
 clear hb9
 refine QSeq.pure rfl (.bool pb9) (fun E=>ex_pickE rfl (E.d 3 5) rfl rfl ((and_val fun hb=>(E.q 8 0 hv2_8.out).1 hb).trans (congrArg Value.bool HB9.out.symm))) ?_
 refine QSeq.pure rfl _ (fun E=>Ah rfl (E.d 9 0)) ?_
 refine QSeq.may (b:=pb9) rfl (.pointer (some ⟨w1.heap.size,1,none⟩)) (fun E=>((Ad rfl rfl (E.sz 18 (by decide)) (E.d 10 0)).trans (Cc _))) (fun E hb=>Ai rfl Try.underlying30 rfl (by kernel_rfl) (E.v oe5)) ?_
 intro v2_11 hw
 have hv2_11:=hid hw
 clear hw
 refine QSeq.may (b:=pb9) rfl (.int .i64 c.sq) (fun E=>((Ad rfl rfl (E.sz 18 (by decide)) (E.d 10 1)).trans (Cc _))) (fun E hb=>Am rfl Try.underlying3 rfl ((E.q 11 0 hv2_11.out).1 hb) (Cs.lit1 Hx3.out rfl)) ?_
 intro v2_12 hw
 have hv2_12:=hid hw
 clear hw
 refine QSeq.may (b:=pb9) rfl (.bool (decide (1≤c.sq))) (fun E=>((Ad rfl rfl (E.sz 18 (by decide)) (E.d 10 2)).trans (Cc _))) (fun E hb=>A7 rfl ((E.q 12 0 hv2_12.out).1 hb) rfl (Ak _ _ _ _ _ _) (B3 _ _ _ Try.underlying3)) ?_
 intro v2_13 hw
 have hv2_13:=hid hw
 clear hw
 obtain ⟨pb14,hb14⟩:∃ b:Bool,b=(pb9 && (decide (1≤c.sq))):=⟨_,rfl⟩
 have HB14:=hid hb14
 clear hb14
 refine QSeq.pure rfl (.bool pb14) (fun E=>ex_pickE rfl (E.d 10 3) rfl rfl ((and_val fun hb=>(E.q 13 0 hv2_13.out).1 hb).trans (congrArg Value.bool HB14.out.symm))) ?_
 refine QSeq.pure rfl _ (fun E=>Ah rfl (E.d 14 0)) ?_
 refine QSeq.may (b:=pb14) rfl (.pointer (some ⟨w1.heap.size,1,none⟩)) (fun E=>((Ad rfl rfl (E.sz 23 (by decide)) (E.d 15 0)).trans (Cc _))) (fun E hb=>Ai rfl Try.underlying30 rfl (by kernel_rfl) (E.v oe5)) ?_
 intro v2_16 hw
 have hv2_16:=hid hw
 clear hw
 refine QSeq.may (b:=pb14) rfl (.int .i64 c.sq) (fun E=>((Ad rfl rfl (E.sz 23 (by decide)) (E.d 15 1)).trans (Cc _))) (fun E hb=>Am rfl Try.underlying3 rfl ((E.q 16 0 hv2_16.out).1 hb) (Cs.lit1 Hx3.out rfl)) ?_
 intro v2_17 hw
 have hv2_17:=hid hw
 clear hw
 refine QSeq.may (b:=pb14) rfl (.bool (decide (c.sq≤1048576))) (fun E=>((Ad rfl rfl (E.sz 23 (by decide)) (E.d 15 2)).trans (Cc _))) (fun E hb=>A7 rfl ((E.q 17 0 hv2_17.out).1 hb) rfl (Ak _ _ _ _ _ _) (run_leq_i _ _ _ Try.underlying3)) ?_
 intro v2_18 hw
 have hv2_18:=hid hw
 clear hw
 obtain ⟨pb19,hb19⟩:∃ b:Bool,b=(pb14 && (decide (c.sq≤1048576))):=⟨_,rfl⟩
 have HB19:=hid hb19
 clear hb19
 refine QSeq.pure rfl (.bool pb19) (fun E=>ex_pickE rfl (E.d 15 3) rfl rfl ((and_val fun hb=>(E.q 18 0 hv2_18.out).1 hb).trans (congrArg Value.bool HB19.out.symm))) ?_
 refine QSeq.pure rfl _ (fun E=>Ah rfl (E.d 19 0)) ?_
 refine QSeq.may (b:=pb19) rfl (.pointer (some ⟨w.heap.size+1,34,none⟩)) (fun E=>((Ad rfl rfl (E.sz 28 (by decide)) (E.d 20 0)).trans (Cc _))) (fun E hb=>Ai rfl Try.underlying36 rfl (by kernel_rfl) (E.v oe3)) ?_
 intro v2_21 hw
 have hv2_21:=hid hw
 clear hw
 refine QSeq.may (b:=pb19) rfl (.int .i64 c.ln) (fun E=>((Ad rfl rfl (E.sz 28 (by decide)) (E.d 20 1)).trans (Cc _))) (fun E hb=>Am rfl Try.underlying3 rfl ((E.q 21 0 hv2_21.out).1 hb) ((HB3.out.mod Cx4.out (fun h=>h)).c34 HC.out.2.1)) ?_
 intro v2_22 hw
 have hv2_22:=hid hw
 clear hw
 refine QSeq.may (b:=pb19) rfl (.bool (decide (0≤c.ln))) (fun E=>((Ad rfl rfl (E.sz 28 (by decide)) (E.d 20 2)).trans (Cc _))) (fun E hb=>A7 rfl ((E.q 22 0 hv2_22.out).1 hb) rfl (Ak _ _ _ _ _ _) (B3 _ _ _ Try.underlying3)) ?_
 intro v2_23 hw
 have hv2_23:=hid hw
 clear hw
 obtain ⟨pb24,hb24⟩:∃ b:Bool,b=(pb19 && (decide (0≤c.ln))):=⟨_,rfl⟩
 have HB24:=hid hb24
 clear hb24
 refine QSeq.pure rfl (.bool pb24) (fun E=>ex_pickE rfl (E.d 20 3) rfl rfl ((and_val fun hb=>(E.q 23 0 hv2_23.out).1 hb).trans (congrArg Value.bool HB24.out.symm))) ?_
 refine QSeq.pure rfl _ (fun E=>Ah rfl (E.d 24 0)) ?_
 refine QSeq.may (b:=pb24) rfl (.pointer (some ⟨w.heap.size+1,34,none⟩)) (fun E=>((Ad rfl rfl (E.sz 33 (by decide)) (E.d 25 0)).trans (Cc _))) (fun E hb=>Ai rfl Try.underlying36 rfl (by kernel_rfl) (E.v oe3)) ?_
 intro v2_26 hw
 have hv2_26:=hid hw
 clear hw
 refine QSeq.may (b:=pb24) rfl (.int .i64 c.ln) (fun E=>((Ad rfl rfl (E.sz 33 (by decide)) (E.d 25 1)).trans (Cc _))) (fun E hb=>Am rfl Try.underlying3 rfl ((E.q 26 0 hv2_26.out).1 hb) ((HB3.out.mod Cx4.out (fun h=>h)).c34 HC.out.2.1)) ?_
 intro v2_27 hw
 have hv2_27:=hid hw
 clear hw
 refine QSeq.may (b:=pb24) rfl (.bool (decide (c.ln≤256))) (fun E=>((Ad rfl rfl (E.sz 33 (by decide)) (E.d 25 2)).trans (Cc _))) (fun E hb=>A7 rfl ((E.q 27 0 hv2_27.out).1 hb) rfl (Ak _ _ _ _ _ _) (run_leq_i _ _ _ Try.underlying3)) ?_
 intro v2_28 hw
 have hv2_28:=hid hw
 clear hw
 obtain ⟨pb29,hb29⟩:∃ b:Bool,b=(pb24 && (decide (c.ln≤256))):=⟨_,rfl⟩
 have HB29:=hid hb29
 clear hb29
 refine QSeq.pure rfl (.bool pb29) (fun E=>ex_pickE rfl (E.d 25 3) rfl rfl ((and_val fun hb=>(E.q 28 0 hv2_28.out).1 hb).trans (congrArg Value.bool HB29.out.symm))) ?_
 refine QSeq.pure rfl _ (fun E=>An rfl (E.d 29 0)) ?_
 clear hv2_4 hv2_5 hv2_6 hv2_7 hv2_8 hv2_11 hv2_12 hv2_13 hv2_16 hv2_17 hv2_18 hv2_21 hv2_22 hv2_23 hv2_26 hv2_27 hv2_28
 refine QSeq.nil (t':=[_,_,_,_,_,_,_,_,_,_,_,_,_,_,_,_,_,_,_,_,_,_,_,_,_,_,_,_,_,_,_]) rfl ?_
 obtain rfl:=HA0.out
 clear HA0 oe2 oe3 oe5
 simp only [pz,Act.put,sIB,sCZ,sCS]
 go_wp2
 go_ret
 have hv:_=validF k c:=HB29.out.trans (by rw [HB24.out,HB19.out,HB14.out,HB9.out];rfl)
 exact ⟨congrArg (fun z=>Ending.returned (Value.bool z)) hv,(HM0.out.trans Cx4.out (fun _ _ h=>h.elim))⟩
def opC (i:Int) (v:Value) (h:List Int):List Value:=[.int .i64 i,v] ++ h.map bv
theorem Op.hash {w:World} {g:Nat} {i:Int} {v:Value} {h:List Int} {T:TypeId} (hc:Cs w g (opC i v h).toArray T):∀ j u,(h.map bv)[j]? = some u→w.cell? ⟨g,2+j,none⟩=some u:=by
 intro j u hu
 rw [hc.cell]
 simp only [List.getElem?_toArray,opC]
 rw [List.getElem?_append_right (by simp)]
 simpa using hu
end Go.Proofs.Ytbifincepglilaa

/- commit.Make, Right. -/
namespace Go.Proofs.Ytbifincepglilaa
open Go Go.RowKit Go.Gv
theorem Cm.one (c:Cm):∀ u ∈ c.cells,u.oneCell'=true:=by
 intro u hu
 simp only [Cm.cells,List.mem_append,List.mem_cons,List.not_mem_nil,or_false,List.mem_map] at hu
 rcases hu with (rfl|rfl)|⟨x,-,rfl⟩|rfl|rfl|rfl<;>rfl
theorem laid_commit (a b:Int) (X:List Int) (n:Int) (hX:X.length=32):laid [(0,2),(2,32),(34,1),(35,2)] [.int .i64 0,.int .i64 0,.int .u8 0,.int .u8 0,.int .u8 0,.int .u8 0,.int .u8 0,.int .u8 0,.int .u8 0,.int .u8 0,.int .u8 0,.int .u8 0,.int .u8 0,.int .u8 0,.int .u8 0,.int .u8 0,.int .u8 0,.int .u8 0,.int .u8 0,.int .u8 0,.int .u8 0,.int .u8 0,.int .u8 0,.int .u8 0,.int .u8 0,.int .u8 0,.int .u8 0,.int .u8 0,.int .u8 0,.int .u8 0,.int .u8 0,.int .u8 0,.int .u8 0,.int .u8 0,.int .i64 0,.int .i64 0,.int .i64 0] [(0,.agg #[.int .i64 a,.int .i64 b]),(1,hv X),(2,.int .i64 n)]=some (Cm.cells ⟨a,b,X,n,0,0⟩):=by
 have h1:(hv X).cells.toList=X.map bv:=by simp [hv,Value.cells]
 have h2:(hv X).cells.size=32:=by simp [hv,Value.cells,hX]
 unfold laid
 simp only [List.getElem?_cons_zero]
 rw [if_neg (by simp [Value.cells])]
 unfold laid
 simp only [List.getElem?_cons_succ,List.getElem?_cons_zero]
 rw [if_neg (by rw [h2];simp [Value.cells]),h1]
 unfold laid
 simp only [List.getElem?_cons_succ,List.getElem?_cons_zero]
 rw [if_neg (by simp [Value.cells,hX])]
 unfold laid
 congr 1
 unfold Cm.cells
 have e:∀ (A B:List Value) (u:Value),A.length=34→(A ++ u :: B).take 34 ++ [Value.int .i64 n] ++ (A ++ u :: B).drop 35=A ++ .int .i64 n :: B:=by
  intro A B u hA
  rw [List.take_append_of_le_length (by omega),List.take_of_length_le (by omega),List.drop_append,List.drop_eq_nil_of_le (by omega),show 35 - A.length=1 by omega]
  simp
 have:=e ([Value.int .i64 a,.int .i64 b] ++ X.map bv) [.int .i64 0,.int .i64 0] (.int .i64 0) (by simp [hX])
 simpa [Value.cells] using this
theorem lay_sig (c:Cm) (y m:Int) (hl:c.h.length=32):lay c.cells.toArray 35 [.int .i64 y,.int .i64 m]=(Cm.cells { c with sb:=y,mr:=m }).toArray:=by
 unfold lay
 congr 1
 have e:c.cells=([Value.int .i64 c.cl,.int .i64 c.sq] ++ c.h.map bv ++ [.int .i64 c.ln]) ++ [.int .i64 c.sb,.int .i64 c.mr]:=by simp [Cm.cells]
 have hl2:([Value.int .i64 c.cl,.int .i64 c.sq] ++ c.h.map bv ++ [Value.int .i64 c.ln]).length=35:=by simp [hl]
 simp only [List.length_cons,List.length_nil]
 rw [e,List.take_append_of_le_length (by omega),List.take_of_length_le (by omega),List.drop_eq_nil_of_le (by simp [hl])]
 simp [Cm.cells]
def SgSt (g b q:Nat) (L L':List (Int × List Int)) (c0 c1:Cm):Nat→List Value→World→Prop:=fun k _ w=>match k with
 | 0=>BookIs w g b L∧Cs w q c0.cells.toArray 36
 | 1=>BookIs w g b L'∧Cs w q c0.cells.toArray 36
 | _=>BookIs w g b L'∧Cs w q c1.cells.toArray 36
theorem SgSt_still {g b q:Nat} {L L':List (Int × List Int)} {c0 c1:Cm}:∀ k t w w',SgSt g b q L L' c0 c1 k t w→Mod (fun _=>False) w w'→SgSt g b q L L' c0 c1 k t w':=by
 intro k t w w' h hm
 match k,h with
 | 0,h|1,h=>exact ⟨h.1.mod hm (fun h=>h) (fun h=>h),h.2.mod hm (fun h=>h)⟩
 | k+2,h=>exact ⟨h.1.mod hm (fun h=>h) (fun h=>h),h.2.mod hm (fun h=>h)⟩
def cm0 (a b:Int) (h bs:List Int):Cm:=⟨a,b,shaF (ofT a b h bs),bs.length,0,0⟩
def mkKey (a b:Int) (h bs:List Int):Int × List Int:=(1000+a,txT (cm0 a b h bs))
def mkBook (L:List (Int × List Int)) (a b:Int) (h bs:List Int):List (Int × List Int):=B7 L (mkKey a b h bs)
def mkCm (L:List (Int × List Int)) (a b:Int) (h bs:List Int):Cm:={ cm0 a b h bs with sb:=1000+a,mr:=mkN (mkBook L a b h bs) (mkKey a b h bs) }
set_option maxHeartbeats 4000000 in
theorem Make_any {w:World} {g b':Nat} {L:List (Int × List Int)} (hbk:BookIs w g b' L) (hLL:L.length≤1000000) (a b:Int) (h bs:List Int) (v:Value) (ha:I64 a) (hsi:I64 (1000+a)) (hb:I64 b) (hh:HK h) (hr:RdB w v bs) (hl:bs.length≤800000) :
 Calls Try.prog 10 #[.pointer (some ⟨g,0,none⟩),.agg #[.int .i64 a,.int .i64 b],hv h,v] w fun e w'=>e=.returned (mkCm L a b h bs).val∧BookIs w' g b' (mkBook L a b h bs)∧Mod (fun k=>k=b') w w':=by
 have zg:=hbk.cell.lt
 have zb:=hbk.map.lt
 have HNE:=Lib.hid hbk.ne
 have HBK:=Lib.hid hbk
 have HLL:=Lib.hid hLL
 have HA:=Lib.hid ha
 have HSI:=Lib.hid hsi
 have HB:=Lib.hid hb
 have HH:=Lib.hid hh
 have HR:=Lib.hid hr
 have HLB:=Lib.hid hl
 have hbl:=hr.block_lt
 obtain ⟨ao,cap,hv0,-,-⟩:=hr.shape
 have HV:=Lib.hid hv0
 have h0k:(cm0 a b h bs).OK:=⟨⟨ha,hb,⟨by simp only [cm0];omega,by simp only [cm0];omega⟩,⟨by simp [cm0],by simp [cm0]⟩,⟨by simp [cm0],by simp [cm0]⟩⟩,Bu _,shaF_bytes _⟩
 obtain ⟨c0,hc0⟩:∃ c,c=cm0 a b h bs:=⟨_,rfl⟩
 obtain ⟨c1,hc1⟩:∃ c,c=mkCm L a b h bs:=⟨_,rfl⟩
 have H0K:=Lib.hid (show c0.OK by rw [hc0];exact h0k)
 have H0L:=Lib.hid (show c0.h.length=32 by rw [hc0];exact Bu _)
 have H1L:=Lib.hid (show c1.h.length=32 by rw [hc1];exact Bu _)
 have H0:=Lib.hid (show c0=⟨a,b,shaF (ofT a b h bs),bs.length,0,0⟩ from hc0)
 have H1:=Lib.hid (show c1={ c0 with sb:=1000+a,mr:=mkN (B7 L (1000+a,txT c0)) (1000+a,txT c0) } by rw [hc1,hc0];rfl)
 have HBN:=Lib.hid (show mkBook L a b h bs=B7 L (1000+a,txT c0) by rw [hc0];rfl)
 obtain ⟨zc,hzc⟩:∃ z:List Value,z=[.int .i64 0,.int .i64 0,.int .u8 0,.int .u8 0,.int .u8 0,.int .u8 0,.int .u8 0,.int .u8 0,.int .u8 0,.int .u8 0,.int .u8 0,.int .u8 0,.int .u8 0,.int .u8 0,.int .u8 0,.int .u8 0,.int .u8 0,.int .u8 0,.int .u8 0,.int .u8 0,.int .u8 0,.int .u8 0,.int .u8 0,.int .u8 0,.int .u8 0,.int .u8 0,.int .u8 0,.int .u8 0,.int .u8 0,.int .u8 0,.int .u8 0,.int .u8 0,.int .u8 0,.int .u8 0,.int .i64 0,.int .i64 0,.int .i64 0]:=⟨_,rfl⟩
 have HZC:=Lib.hid hzc
 have HZL:=Lib.hid (show zc.length=37 by rw [hzc];rfl)
 rw [← hc1]
 clear hbk hLL ha hsi hb hh hr hl hv0 h0k hc0 hc1 hzc
 change Calls _ _ #[.pointer (some ⟨g,0,none⟩),.agg #[.int .i64 a,.int .i64 b],.agg (h.map bv).toArray,v] _ _
 go_enter Try.func10,Try.ntmps10
 go_upto_region 1 with (fail)
 obtain ⟨w1,hw1⟩:∃ z,z=((w.alloc (.cells #[.int .i64 a,.int .i64 b] 30)).alloc (.cells (h.map bv).toArray 32)).alloc (.cells zc.toArray 36):=⟨_,rfl⟩
 rw [HZC.out] at hw1
 change Code.wp _ _ _ _ (((w.alloc (.cells #[.int .i64 a,.int .i64 b] 30)).alloc (.cells (h.map bv).toArray 32)).alloc (.cells ([.int .i64 0,.int .i64 0,.int .u8 0,.int .u8 0,.int .u8 0,.int .u8 0,.int .u8 0,.int .u8 0,.int .u8 0,.int .u8 0,.int .u8 0,.int .u8 0,.int .u8 0,.int .u8 0,.int .u8 0,.int .u8 0,.int .u8 0,.int .u8 0,.int .u8 0,.int .u8 0,.int .u8 0,.int .u8 0,.int .u8 0,.int .u8 0,.int .u8 0,.int .u8 0,.int .u8 0,.int .u8 0,.int .u8 0,.int .u8 0,.int .u8 0,.int .u8 0,.int .u8 0,.int .u8 0,.int .i64 0,.int .i64 0,.int .i64 0]:List Value).toArray 36))
 rw [← hw1]
 rw [← HZC.out] at hw1
 have KN:=Lib.hid (show Cs w1 w.heap.size #[.int .i64 a,.int .i64 b] 30 by rw [hw1];exact ((Cs.new _ _ _).alloc _).alloc _)
 have KH:=Lib.hid (show Cs w1 (w.heap.size+1) (h.map bv).toArray 32 by rw [hw1];exact (Cs_new1 _ _ _ _).alloc _)
 have KR:=Lib.hid (show Cs w1 (w.heap.size+1+1) zc.toArray 36 by
  rw [hw1]
  have:=Cs_new1 (w.alloc (.cells #[.int .i64 a,.int .i64 b] 30)) (.cells (h.map bv).toArray 32) zc.toArray 36
  rwa [show (w.alloc (.cells #[.int .i64 a,.int .i64 b] 30)).heap.size=w.heap.size+1 by simp] at this)
 have KM:=Lib.hid (show Mod (fun _=>False) w w1 by rw [hw1];exact (((Mod.refl _ _).alloc _).alloc _).alloc _)
 have hs1:w1.heap.size=w.heap.size+3:=by rw [hw1];simp
 have HAP:=Lib.hid (show Apart v bs.length (fun j=>w1.heap.size≤j) from fun h0 g hg h=>by have:=hbl h0 g hg;omega)
 clear hw1 hbl
 generalize ha0:Act.mk _ _=a0
 have oe3:a0.eval (.tmp 3)=v:=by rw [← ha0];rfl
 have oe5:a0.eval (.tmp 5)=.pointer (some ⟨w.heap.size,0,none⟩):=by rw [← ha0];rfl
 have oe6:a0.eval (.tmp 6)=.pointer (some ⟨w.heap.size+1,0,none⟩):=by rw [← ha0];rfl
 have hsz0:a0.tmps.size=27:=by rw [← ha0];rfl
 have HA0:=Lib.hid ha0
 clear ha0
 refine wp_region_A 27 hsz0 (by kernel_rfl) (by kernel_rfl) [10,11,12,13,14,15,16,17,9,36] (by kernel_rfl) (by decide) (fun j=>w1.heap.size≤j) (fun _ _=>False) (fun _ _ h=>h.elim) Still (fun _ _ _ h=>h) (fun _ _ _ hm h=>hm.trans h (fun _ _ h=>h.elim)) [gi (.agg #[.int .i64 a,.int .i64 b]),gi (.agg #[.int .i64 a,.int .i64 b]),gi (hv h),gi (v),gi (hv (shaF (ofT a b h bs))),gi (v),gi (.int .i64 bs.length),gi (c0.val),ga,ga] ⟨Af,Af,Af,Af,Af,Af,Af,Af,Bq,Bq,trivial⟩ [] (by kernel_rfl) (by decide) (by kernel_rfl) (fun _ _=>True) (fun _ _ _ _ _=>trivial) trivial [⟨8,9,36,[.int .i64 0,.int .i64 0,.int .u8 0,.int .u8 0,.int .u8 0,.int .u8 0,.int .u8 0,.int .u8 0,.int .u8 0,.int .u8 0,.int .u8 0,.int .u8 0,.int .u8 0,.int .u8 0,.int .u8 0,.int .u8 0,.int .u8 0,.int .u8 0,.int .u8 0,.int .u8 0,.int .u8 0,.int .u8 0,.int .u8 0,.int .u8 0,.int .u8 0,.int .u8 0,.int .u8 0,.int .u8 0,.int .u8 0,.int .u8 0,.int .u8 0,.int .u8 0,.int .u8 0,.int .u8 0,.int .i64 0,.int .i64 0,.int .i64 0],c0.cells⟩] (by kernel_rfl) (by intro r hr;simp only [List.mem_cons,List.not_mem_nil,or_false] at hr;rcases hr with rfl<;>exact ⟨rfl,rfl⟩) (fun _ _ h=>h.elim) (fun _ h=>h) stillA (fun _ _ _ _ _ _=>trivial) (AllEnd.get _ ⟨gi_end,gi_end,gi_end,gi_end,gi_end,gi_end,gi_end,gi_end,ga_end,ga_end,trivial⟩) (by intro r hr;simp only [List.mem_cons,List.not_mem_nil,or_false] at hr;rcases hr with rfl<;>exact ⟨of_decide_eq_true (by kernel_rfl),of_decide_eq_true (by kernel_rfl)⟩) (by intro r hr;simp only [List.mem_cons,List.not_mem_nil,or_false] at hr;rcases hr with rfl<;>exact fun _ _ _=>⟨trivial,trivial⟩) ⟨?_,?_,?_,?_,?_,?_,?_,?_,?_,?_,trivial⟩ ?_
 ·refine ⟨fun r hr e=>?_,fun r hr e=>?_,fun hno=>?_⟩
  ·simp only [List.mem_cons,List.not_mem_nil,or_false] at hr
   rcases hr with rfl
   ·simp at e
  ·simp only [List.mem_cons,List.not_mem_nil,or_false] at hr
   rcases hr with rfl
   ·simp at e
  ·intro tr act w' hm hout hsz hd hG hk hub
   exact Aj (by rfl) rfl (Ab rfl) (Ap rfl Try.underlying30 rfl (off:=0) (cs:=[.int .i64 a,.int .i64 b]) (by kernel_rfl) ((hout 5 (by decide)).trans oe5) (Cs.whole (KN.out.mod hm (by omega)))) (Mod.refl _ _) rfl
 ·refine ⟨fun r hr e=>?_,fun r hr e=>?_,fun hno=>?_⟩
  ·simp only [List.mem_cons,List.not_mem_nil,or_false] at hr
   rcases hr with rfl
   ·simp at e
  ·simp only [List.mem_cons,List.not_mem_nil,or_false] at hr
   rcases hr with rfl
   ·simp at e
  ·intro tr act w' hm hout hsz hd hG hk hub
   exact Aj (by rfl) rfl (Ab rfl) (Ap rfl Try.underlying30 rfl (off:=0) (cs:=[.int .i64 a,.int .i64 b]) (by kernel_rfl) ((hout 5 (by decide)).trans oe5) (Cs.whole (KN.out.mod hm (by omega)))) (Mod.refl _ _) rfl
 ·refine ⟨fun r hr e=>?_,fun r hr e=>?_,fun hno=>?_⟩
  ·simp only [List.mem_cons,List.not_mem_nil,or_false] at hr
   rcases hr with rfl
   ·simp at e
  ·simp only [List.mem_cons,List.not_mem_nil,or_false] at hr
   rcases hr with rfl
   ·simp at e
  ·intro tr act w' hm hout hsz hd hG hk hub
   exact Aj (by rfl) rfl (Ab rfl) (Ap rfl Try.underlying32 rfl (off:=0) (cs:=h.map bv) (by rw [List.length_map,HH.out.1];exact Bj) ((hout 6 (by decide)).trans oe6) (Cs.whole (KH.out.mod hm (by omega)))) (Mod.refl _ _) rfl
 ·refine ⟨fun r hr e=>?_,fun r hr e=>?_,fun hno=>?_⟩
  ·simp only [List.mem_cons,List.not_mem_nil,or_false] at hr
   rcases hr with rfl
   ·simp at e
  ·simp only [List.mem_cons,List.not_mem_nil,or_false] at hr
   rcases hr with rfl
   ·simp at e
  ·intro tr act w' hm hout hsz hd hG hk hub
   exact Aj (by rfl) rfl (Ab rfl) (Ah rfl ((hout 3 (by decide)).trans oe3)) (Mod.refl _ _) rfl
 ·refine ⟨fun r hr e=>?_,fun r hr e=>?_,fun hno=>?_⟩
  ·simp only [List.mem_cons,List.not_mem_nil,or_false] at hr
   rcases hr with rfl
   ·simp at e
  ·simp only [List.mem_cons,List.not_mem_nil,or_false] at hr
   rcases hr with rfl
   ·simp at e
  ·intro tr act w' hm hout hsz hd hG hk hub
   have h1:=hd ⟨1,.data⟩ (by simp) rfl _ rfl
   have h2:=hd ⟨2,.data⟩ (by simp) rfl _ rfl
   have h3:=hd ⟨3,.data⟩ (by simp) rfl _ rfl
   refine B6 (args:=#[.agg #[.int .i64 a,.int .i64 b],hv h,v]) (by rfl) rfl (Ab rfl) (by rw [A8 rfl Try.func26 (by kernel_rfl) (by kernel_rfl)];exact congrArg (fun z=>Result.ok (Next.enter _ z) _) (by simp only [List.map_toArray,List.map_cons,List.map_nil,show act.eval (.tmp 11)=_ from h1,show act.eval (.tmp 12)=_ from h2,show act.eval (.tmp 13)=_ from h3];try rfl)) (Of_any a b h bs v _ HA.out HB.out HH.out.1 HH.out.2 ((HR.out.mod KM.out (fun _ _ _ h=>h)).mod hm HAP.out) HLB.out) ?_
   rintro e w2 ⟨rfl,hm2⟩
   exact ⟨_,rfl,hm2,rfl⟩
 ·refine ⟨fun r hr e=>?_,fun r hr e=>?_,fun hno=>?_⟩
  ·simp only [List.mem_cons,List.not_mem_nil,or_false] at hr
   rcases hr with rfl
   ·simp at e
  ·simp only [List.mem_cons,List.not_mem_nil,or_false] at hr
   rcases hr with rfl
   ·simp at e
  ·intro tr act w' hm hout hsz hd hG hk hub
   exact Aj (by rfl) rfl (Ab rfl) (Ah rfl ((hout 3 (by decide)).trans oe3)) (Mod.refl _ _) rfl
 ·refine ⟨fun r hr e=>?_,fun r hr e=>?_,fun hno=>?_⟩
  ·simp only [List.mem_cons,List.not_mem_nil,or_false] at hr
   rcases hr with rfl
   ·simp at e
  ·simp only [List.mem_cons,List.not_mem_nil,or_false] at hr
   rcases hr with rfl
   ·simp at e
  ·intro tr act w' hm hout hsz hd hG hk hub
   have h5:=hd ⟨5,.data⟩ (by simp) rfl _ rfl
   exact Aj (by rfl) rfl (Ab rfl) (ex_lenS rfl (h5.trans HV.out) Try.underlying38) (Mod.refl _ _) rfl
 ·refine ⟨fun r hr e=>?_,fun r hr e=>?_,fun hno=>?_⟩
  ·simp only [List.mem_cons,List.not_mem_nil,or_false] at hr
   rcases hr with rfl
   ·simp at e
  ·simp only [List.mem_cons,List.not_mem_nil,or_false] at hr
   rcases hr with rfl
   ·simp at e
  ·intro tr act w' hm hout hsz hd hG hk hub
   have h0:=hd ⟨0,.data⟩ (by simp) rfl _ rfl
   have h4:=hd ⟨4,.data⟩ (by simp) rfl _ rfl
   have h6:=hd ⟨6,.data⟩ (by simp) rfl _ rfl
   exact Aj (by rfl) rfl (Ab rfl) (ex_build rfl (z:=[.int .i64 0,.int .i64 0,.int .u8 0,.int .u8 0,.int .u8 0,.int .u8 0,.int .u8 0,.int .u8 0,.int .u8 0,.int .u8 0,.int .u8 0,.int .u8 0,.int .u8 0,.int .u8 0,.int .u8 0,.int .u8 0,.int .u8 0,.int .u8 0,.int .u8 0,.int .u8 0,.int .u8 0,.int .u8 0,.int .u8 0,.int .u8 0,.int .u8 0,.int .u8 0,.int .u8 0,.int .u8 0,.int .u8 0,.int .u8 0,.int .u8 0,.int .u8 0,.int .u8 0,.int .u8 0,.int .i64 0,.int .i64 0,.int .i64 0]) (places:=[(0,2),(2,32),(34,1),(35,2)]) (by kernel_rfl) (parts:=[(0,.agg #[.int .i64 a,.int .i64 b]),(1,hv (shaF (ofT a b h bs))),(2,.int .i64 bs.length)]) (by simp only [List.map_toArray,List.map_cons,List.map_nil,show act.eval (.tmp 10)=_ from h0,show act.eval (.tmp 14)=_ from h4,show act.eval (.tmp 16)=_ from h6];try rfl) (r:=c0.cells) (by rw [H0.out];exact laid_commit a b _ _ (Bu _))) (Mod.refl _ _) rfl
 ·refine ⟨fun r hr e=>?_,fun r hr e=>?_,fun hno=>?_⟩
  ·simp only [List.mem_cons,List.not_mem_nil,or_false] at hr
   rcases hr with rfl
   ·exact ⟨rfl,rfl,by kernel_rfl,(by rw [Cm.len H0L.out];rfl),(Cm.one c0),(by rw [Cm.len H0L.out];exact Bd)⟩
  ·simp only [List.mem_cons,List.not_mem_nil,or_false] at hr
   rcases hr with rfl
   ·simp at e
  ·exact absurd rfl (hno ⟨8,9,36,[.int .i64 0,.int .i64 0,.int .u8 0,.int .u8 0,.int .u8 0,.int .u8 0,.int .u8 0,.int .u8 0,.int .u8 0,.int .u8 0,.int .u8 0,.int .u8 0,.int .u8 0,.int .u8 0,.int .u8 0,.int .u8 0,.int .u8 0,.int .u8 0,.int .u8 0,.int .u8 0,.int .u8 0,.int .u8 0,.int .u8 0,.int .u8 0,.int .u8 0,.int .u8 0,.int .u8 0,.int .u8 0,.int .u8 0,.int .u8 0,.int .u8 0,.int .u8 0,.int .u8 0,.int .u8 0,.int .i64 0,.int .i64 0,.int .i64 0],c0.cells⟩ (by simp)).1
 ·refine ⟨fun r hr e=>?_,fun r hr e=>?_,fun hno=>?_⟩
  ·simp only [List.mem_cons,List.not_mem_nil,or_false] at hr
   rcases hr with rfl
   ·simp at e
  ·simp only [List.mem_cons,List.not_mem_nil,or_false] at hr
   rcases hr with rfl
   ·refine ⟨rfl,_,(.tmp 17),rfl,by decide,rfl,by kernel_rfl,by kernel_rfl,fun tr act w' hm hout hd hG=>?_⟩
    have h7:=hd ⟨7,.data⟩ (by simp) rfl _ rfl
    rw [show act.eval ((.tmp 17))=_ from h7]
    rfl
  ·exact absurd rfl (hno ⟨8,9,36,[.int .i64 0,.int .i64 0,.int .u8 0,.int .u8 0,.int .u8 0,.int .u8 0,.int .u8 0,.int .u8 0,.int .u8 0,.int .u8 0,.int .u8 0,.int .u8 0,.int .u8 0,.int .u8 0,.int .u8 0,.int .u8 0,.int .u8 0,.int .u8 0,.int .u8 0,.int .u8 0,.int .u8 0,.int .u8 0,.int .u8 0,.int .u8 0,.int .u8 0,.int .u8 0,.int .u8 0,.int .u8 0,.int .u8 0,.int .u8 0,.int .u8 0,.int .u8 0,.int .u8 0,.int .u8 0,.int .i64 0,.int .i64 0,.int .i64 0],c0.cells⟩ (by simp)).2
 intro vs tr w2 hl htl hm hG hV hAL hNE
 obtain ⟨v0,vs0,rfl,hl0⟩:=Ae hl
 obtain ⟨v1,vs1,rfl,hl1⟩:=Ae hl0
 obtain ⟨v2,vs2,rfl,hl2⟩:=Ae hl1
 obtain ⟨v3,vs3,rfl,hl3⟩:=Ae hl2
 obtain ⟨v4,vs4,rfl,hl4⟩:=Ae hl3
 obtain ⟨v5,vs5,rfl,hl5⟩:=Ae hl4
 obtain ⟨v6,vs6,rfl,hl6⟩:=Ae hl5
 obtain ⟨v7,vs7,rfl,hl7⟩:=Ae hl6
 obtain ⟨v8,vs8,rfl,hl8⟩:=Ae hl7
 obtain ⟨v9,vs9,rfl,hl9⟩:=Ae hl8
 obtain rfl:=Bl hl9
 obtain ⟨q0,fq0,hqB0,hqC0⟩:=hAL _ (by simp only [List.mem_cons,List.not_mem_nil,or_false];trivial)
 obtain rfl:v8=_:=Option.some.inj fq0
 clear hl hl0 hl1 hl2 hl3 hl4 hl5 hl6 hl7 hl8 hl9
 have ha0:=HA0.out
 subst ha0
 clear HA0 hV hsz0 oe3 oe5 oe6
 simp only [Ar,Act.put,sIB,sCZ,sCS,List.set_nil]
 have KN2:=Lib.hid (KN.out.mod hm (by omega))
 have KR2a:=Lib.hid (KR.out.mod hm (by omega))
 have KM2:=Lib.hid (KM.out.trans hm (fun k h1 h2=>by omega))
 have HG0:=Lib.hid (show ByLen (SgSt g b' q0 L (B7 L (1000+a,txT c0)) c0 c1) [] w2 from ⟨HBK.out.mod KM2.out (fun h=>h) (fun h=>h),hqC0⟩)
 clear hm hG hAL hNE hqC0 fq0 KN KH KR KM
 go_upto_region 2 with (fail)
 generalize ha0:Act.mk _ _=a0
 have oe0:a0.eval (.tmp 0)=.pointer (some ⟨g,0,none⟩):=by rw [← ha0];rfl
 have oe5:a0.eval (.tmp 5)=.pointer (some ⟨w.heap.size,0,none⟩):=by rw [← ha0];rfl
 have oe9:a0.eval (.tmp 9)=.pointer (some ⟨q0,0,none⟩):=by rw [← ha0];rfl
 have hsz0:a0.tmps.size=27:=by rw [← ha0];rfl
 have HA0:=Lib.hid ha0
 clear ha0
 refine Bf 27 hsz0 (by kernel_rfl) (by kernel_rfl) [18,19,20,21,22,23,24,25,35] (by kernel_rfl) (by decide) (fun j=>j=b'∨j=q0) (fun k j=>(k=0∧j=b')∨(k=1∧j=q0)) (fun k j h=>by omega) Still (fun _ _ _ h=>h) (fun _ _ _ hm h=>hm.trans h (fun _ _ h=>h.elim)) [gi (.pointer (some ⟨g,0,none⟩)),gi (.pointer (some ⟨w.heap.size,0,none⟩)),gi (.int .i64 a),gi (.int .i64 (1000+a)),gi (c0.val),(fun t v w=>t.length=0→RdB w v (txT c0)∧(txT c0).length≤500),gi (.agg #[.int .i64 (1000+a),.int .i64 (mkN (B7 L (1000+a,txT c0)) (1000+a,txT c0))]),gi (.pointer (some ⟨q0,35,none⟩)),ga] ⟨Af,Af,Af,Af,Af,⟨fun _ _ _ _ h hr h0=>⟨(h h0).1.mod hr (fun _ _ _ h=>h),(h h0).2⟩,fun _ _ _ _ _ _ _ h0=>by simp at h0⟩,Af,Af,Bq,trivial⟩ [6,8] (by kernel_rfl) (by decide) (by kernel_rfl) (ByLen (SgSt g b' q0 L (B7 L (1000+a,txT c0)) c0 c1)) (ByLen.still SgSt_still) HG0.out ⟨?_,?_,?_,?_,?_,?_,?_,?_,?_,trivial⟩ ?_
 ·intro tr act w' hm hout hsz hd hG hk hub
  exact Aj (by rfl) rfl (Ab rfl) (Ah rfl ((hout 0 (by decide)).trans oe0)) (Mod.refl _ _) rfl
 ·intro tr act w' hm hout hsz hd hG hk hub
  refine Aj (by rfl) rfl (Ab rfl) (Ai rfl Try.underlying30 rfl (by kernel_rfl) ((hout 5 (by decide)).trans oe5)) (Mod.refl _ _) ?_
  rfl
 ·intro tr act w' hm hout hsz hd hG hk hub
  have h1:=hd ⟨1,.data⟩ (by simp) rfl _ rfl
  exact Aj (by rfl) rfl (Ab rfl) (Am rfl Try.underlying3 rfl h1 (by rw [(KN2.out.mod hm (by omega)).cell];rfl)) (Mod.refl _ _) rfl
 ·intro tr act w' hm hout hsz hd hG hk hub
  have h2:=hd ⟨2,.data⟩ (by simp) rfl _ rfl
  refine B6 (args:=#[.int .i64 a]) (by rfl) rfl (Ab rfl) (by rw [A8 rfl Try.func28 (by kernel_rfl) (by kernel_rfl)];exact congrArg (fun z=>Result.ok (Next.enter _ z) _) (by simp only [List.map_toArray,List.map_cons,List.map_nil,show act.eval (.tmp 20)=_ from h2];try rfl)) (signer_any a _ HSI.out) ?_
  rintro e w2 ⟨rfl,hm2⟩
  exact ⟨_,rfl,hm2,rfl⟩
 ·intro tr act w' hm hout hsz hd hG hk hub
  exact Aj (by rfl) rfl (Ab rfl) (Ap rfl Try.underlying36 rfl (off:=0) (cs:=c0.cells) (by rw [Cm.len H0L.out];exact Bd) ((hout 9 (by decide)).trans oe9) (Cs.whole (hG.at (show tr.length=0 from Nat.le_zero.1 (hub 0 6 rfl (by kernel_rfl)))).2)) (Mod.refl _ _) rfl
 ·intro tr act w' hm hout hsz hd hG hk hub
  have h4:=hd ⟨4,.data⟩ (by simp) rfl _ rfl
  refine B6 (args:=#[c0.val]) (by rfl) rfl (Ab rfl) (by rw [A8 rfl Try.func29 (by kernel_rfl) (by kernel_rfl)];exact congrArg (fun z=>Result.ok (Next.enter _ z) _) (by simp only [List.map_toArray,List.map_cons,List.map_nil,show act.eval (.tmp 22)=_ from h4];try rfl)) (Text_any c0 _ H0K.out) ?_
  rintro e w2 ⟨u,rfl,ho,hm2⟩
  exact ⟨_,rfl,hm2,fun _=>⟨ho.rd.1,ho.2.2⟩⟩
 ·intro tr act w' hm hout hsz hd hG hk hub
  have h0:=hd ⟨0,.data⟩ (by simp) rfl _ rfl
  have h3:=hd ⟨3,.data⟩ (by simp) rfl _ rfl
  have h5:=hd ⟨5,.data⟩ (by simp) rfl _ rfl
  have hl:=hk 0 rfl
  have hs:=hG.at hl
  obtain ⟨u,hu0⟩:∃ u,u=act.eval (.tmp 23):=⟨_,rfl⟩
  have hu:RdB w' u (txT c0)∧(txT c0).length≤500:=by rw [hu0];exact h5 hl
  refine jc_call (args:=#[.pointer (some ⟨g,0,none⟩),.int .i64 (1000+a),u]) (by rfl) rfl (Ab rfl) (by rw [A8 rfl Try.func27 (by kernel_rfl) (by kernel_rfl)];exact congrArg (fun z=>Result.ok (Next.enter _ z) _) (by simp only [List.map_toArray,List.map_cons,List.map_nil,show act.eval (.tmp 18)=_ from h0,show act.eval (.tmp 21)=_ from h3,show act.eval (.tmp 23)=_ from hu0.symm];try rfl)) (Book_sign hs.1 (1000+a) hu.1 ⟨HSI.out,hu.1.1,Nat.le_trans hu.2 (by decide)⟩ HLL.out) ?_
  rintro e w2 ⟨m,rfl,rfl,hb2,hm2⟩
  exact ⟨_,rfl,hm2.mono (fun _ _ h=>Or.inl ⟨hl,h⟩),rfl,ByLen.on hl ⟨hb2,hs.2.mod hm2 (by omega)⟩⟩
 ·intro tr act w' hm hout hsz hd hG hk hub
  refine Aj (by rfl) rfl (Ab rfl) (Ai rfl Try.underlying36 rfl (by kernel_rfl) ((hout 9 (by decide)).trans oe9)) (Mod.refl _ _) ?_
  rfl
 ·intro tr act w' hm hout hsz hd hG hk hub
  have h6:=hd ⟨6,.data⟩ (by simp) rfl _ rfl
  have h7:=hd ⟨7,.data⟩ (by simp) rfl _ rfl
  have hl:=hk 1 rfl
  have hs:=hG.at hl
  refine jc_turn (by rfl) rfl (Ab rfl) (Bx rfl hs.2 (off:=35) (vs:=[.int .i64 (1000+a),.int .i64 (mkN (B7 L (1000+a,txT c0)) (1000+a,txT c0))]) (by kernel_rfl) (by intro u hu;simp at hu;rcases hu with rfl|rfl<;>rfl) (by simp [Cm.len H0L.out]) h7 (by rw [show act.eval (.tmp 24)=_ from h6];rfl)) (setRow_Mod.mono (fun _ _ h=>Or.inr ⟨hl,h⟩)) trivial (ByLen.on hl ⟨hs.1.mod setRow_Mod (by omega) (by omega),?_⟩)
  rw [lay_sig _ _ _ H0L.out,← H1.out]
  exact setRow_Cs hs.2
 intro vs tr w3 hl htl hm hG hV
 obtain ⟨v0,vs0,rfl,hl0⟩:=Ae hl
 obtain ⟨v1,vs1,rfl,hl1⟩:=Ae hl0
 obtain ⟨v2,vs2,rfl,hl2⟩:=Ae hl1
 obtain ⟨v3,vs3,rfl,hl3⟩:=Ae hl2
 obtain ⟨v4,vs4,rfl,hl4⟩:=Ae hl3
 obtain ⟨v5,vs5,rfl,hl5⟩:=Ae hl4
 obtain ⟨v6,vs6,rfl,hl6⟩:=Ae hl5
 obtain ⟨v7,vs7,rfl,hl7⟩:=Ae hl6
 obtain ⟨v8,vs8,rfl,hl8⟩:=Ae hl7
 obtain rfl:=Bl hl8
 clear hl hl0 hl1 hl2 hl3 hl4 hl5 hl6 hl7 hl8
 have ha0:=HA0.out
 subst ha0
 clear HA0 hV hsz0 oe0 oe5 oe9
 simp only [Ar,Act.put,sIB,sCZ,sCS,List.set_nil]
 have hs:=hG.at htl
 have HB3:=Lib.hid hs.1
 have KQ:=Lib.hid (show Cs w3 q0 c1.cells.toArray 36 from hs.2)
 have KR2:=Lib.hid (show ByLen (ResSt (w.heap.size+1+1) 36 zc c1.cells) [] w3 from KR2a.out.mod hm (by omega))
 have KM3:=Lib.hid ((KM2.out.mono (S':=fun k=>k=b') (fun _ _ h=>h.elim)).trans hm (fun k h1 h2=>by omega))
 clear hs hG hm htl KR2a KM2 HG0
 go_upto_region 3 with (fail)
 generalize ha0:Act.mk _ _=a0
 have oe8:a0.eval (.tmp 8)=.pointer (some ⟨w.heap.size+1+1,0,none⟩):=by rw [← ha0];rfl
 have oe9:a0.eval (.tmp 9)=.pointer (some ⟨q0,0,none⟩):=by rw [← ha0];rfl
 have hsz0:a0.tmps.size=27:=by rw [← ha0];rfl
 have HA0:=Lib.hid ha0
 clear ha0
 refine Bf 27 hsz0 (by kernel_rfl) (by kernel_rfl) [26,28] (by kernel_rfl) (by decide) (fun j=>j=w.heap.size+1+1) (fun _ j=>j=w.heap.size+1+1) (fun _ _ h=>h) Still (fun _ _ _ h=>h) (fun _ _ _ hm h=>hm.trans h (fun _ _ h=>h.elim)) [gi (c1.val),ga] ⟨Af,Bq,trivial⟩ [1] (by kernel_rfl) (by decide) (by kernel_rfl) (ByLen (ResSt (w.heap.size+1+1) 36 zc c1.cells)) (ByLen.still ResSt_still) KR2.out ⟨?_,?_,trivial⟩ ?_
 ·intro tr act w' hm hout hsz hd hG hk hub
  exact Aj (by rfl) rfl (Ab rfl) (Ap rfl Try.underlying36 rfl (off:=0) (cs:=c1.cells) (by rw [Cm.len H1L.out];exact Bd) ((hout 9 (by decide)).trans oe9) (Cs.whole (KQ.out.mod hm (by omega)))) (Mod.refl _ _) rfl
 ·intro tr act w' hm hout hsz hd hG hk hub
  have h0:=hd ⟨0,.data⟩ (by simp) rfl _ rfl
  have hl:=hk 0 rfl
  refine jc_turn (by rfl) rfl (Ab rfl) (Bx rfl (hG.at hl) (off:=0) (vs:=c1.cells) (by rw [Cm.len H1L.out];exact Bd) (Cm.one c1) (by simp [HZL.out,Cm.len H1L.out]) ((hout 8 (by decide)).trans oe8) (by rw [show act.eval (.tmp 26)=_ from h0];rfl)) setRow_Mod trivial (ByLen.on hl ?_)
  rw [A0 _ _ (by simp [HZL.out,Cm.len H1L.out])]
  exact setRow_Cs (hG.at hl)
 intro vs tr w4 hl htl hm hG hV
 obtain ⟨v0,vs0,rfl,hl0⟩:=Ae hl
 obtain ⟨v1,vs1,rfl,hl1⟩:=Ae hl0
 obtain rfl:=Bl hl1
 clear hl hl0 hl1
 have ha0:=HA0.out
 subst ha0
 clear HA0 hV hsz0 oe8 oe9
 simp only [Ar,Act.put,sIB,sCZ,sCS,List.set_nil]
 have hres:=hG.at htl
 go_wp2
 exact bodyPost_ret (Br rfl _ _ (w.heap.size+1+1) c1.cells rfl (fun k u hu=>by rw [Cs.cell hres];simpa using hu) Try.underlying36 rfl (by rw [Cm.len H1L.out];exact Bd)) rfl ⟨rfl,by rw [HBN.out];exact HB3.out.mod hm (by omega) (by omega),KM3.out.trans hm (fun k h1 h2=>by omega)⟩
def Bo (L:List (Int × List Int)) (k:Int) (c:Cm):Bool:=validF k c && (c.sb == 1000+c.cl) && rightF L (c.sb,txT c) c.mr
set_option maxHeartbeats 4000000 in
theorem Right_any {w:World} {g b:Nat} {L:List (Int × List Int)} (hbk:BookIs w g b L) (f k:Int) (c:Cm) (hc:c.OK) (hsi:I64 (1000+c.cl)) :
 Calls Try.prog 32 #[.agg #[.int .i64 f,.int .i64 k],.pointer (some ⟨g,0,none⟩),c.val] w fun e w'=>e=.returned (.bool (Bo L k c))∧Mod (fun _=>False) w w':=by
 have HBK:=Lib.hid hbk
 have HC:=Lib.hid hc
 have HSI:=Lib.hid hsi
 clear hbk hc hsi
 change Calls _ _ #[.agg #[.int .i64 f,.int .i64 k],.pointer (some ⟨g,0,none⟩),.agg c.cells.toArray] _ _
 go_enter Try.func32,Try.ntmps32
 go_upto_region 1 with (fail)
 obtain ⟨w1,hw1⟩:∃ x,x=(w.alloc (.cells #[.int .i64 f,.int .i64 k] 26)).alloc (.cells c.cells.toArray 36):=⟨_,rfl⟩
 change Code.wp _ _ _ _ ((w.alloc (.cells #[.int .i64 f,.int .i64 k] 26)).alloc (.cells c.cells.toArray 36))
 rw [← hw1]
 have KF:=Lib.hid (show Cs w1 w.heap.size #[.int .i64 f,.int .i64 k] 26 by rw [hw1];exact (Cs.new _ _ _).alloc _)
 have KX:=Lib.hid (show Cs w1 (w.heap.size+1) c.cells.toArray 36 by rw [hw1];exact Cs_new1 _ _ _ _)
 have KM:=Lib.hid (show Mod (fun _=>False) w w1 by rw [hw1];exact ((Mod.refl _ _).alloc _).alloc _)
 clear hw1
 cases hva:validF k c with
 | false=>
  have EV:=Lib.hid hva
  clear hva
  generalize ha0:Act.mk _ _=a0
  have oe1:a0.eval (.tmp 1)=.pointer (some ⟨g,0,none⟩):=by rw [← ha0];rfl
  have oe3:a0.eval (.tmp 3)=.pointer (some ⟨w.heap.size,0,none⟩):=by rw [← ha0];rfl
  have oe5:a0.eval (.tmp 5)=.pointer (some ⟨w.heap.size+1,0,none⟩):=by rw [← ha0];rfl
  have hsz0:a0.tmps.size=28:=by rw [← ha0];rfl
  have HA0:=Lib.hid ha0
  clear ha0
  refine Bf 28 hsz0 (by kernel_rfl) (by kernel_rfl) [7,8,9,10,11,12,13,14,15,16,17,18,19,20,21,22,23,24,25,26,27,6] (by kernel_rfl) (by decide) (fun _=>False) (fun _ _=>False) (fun _ _ h=>h) Still (fun _ _ _ h=>h) (fun _ _ _ hm h=>hm.trans h (fun _ _ h=>h.elim)) [gi (.agg #[.int .i64 f,.int .i64 k]),gi (c.val),gi (.bool false),gi (.bool false),gi (undef),gi (undef),gi (undef),gi (undef),gi (undef),gi (undef),gi (undef),gi (undef),gi (.bool false),gi (.bool false),gi (undef),gi (undef),gi (undef),gi (undef),gi (undef),gi (undef),gi (.bool false),gi (.bool false)] ⟨Af,Af,Af,Af,Af,Af,Af,Af,Af,Af,Af,Af,Af,Af,Af,Af,Af,Af,Af,Af,Af,Af,trivial⟩ [] (by kernel_rfl) (by decide) (by kernel_rfl) (fun _ _=>True) (fun _ _ _ _ _=>trivial) trivial ⟨?_,?_,?_,?_,?_,?_,?_,?_,?_,?_,?_,?_,?_,?_,?_,?_,?_,?_,?_,?_,?_,?_,trivial⟩ ?_
  ·intro tr act w' hm hout hsz hd hG hk hub
   exact Aj (by rfl) rfl (Ab rfl) (Ap rfl Try.underlying26 rfl (off:=0) (cs:=[.int .i64 f,.int .i64 k]) (by kernel_rfl) ((hout 3 (by decide)).trans oe3) (Cs.whole (KF.out.mod hm (fun h=>h)))) (Mod.refl _ _) rfl
  ·intro tr act w' hm hout hsz hd hG hk hub
   exact Aj (by rfl) rfl (Ab rfl) (Ap rfl Try.underlying36 rfl (off:=0) (cs:=c.cells) (by rw [Cm.len HC.out.2.1];exact Bd) ((hout 5 (by decide)).trans oe5) (Cs.whole (KX.out.mod hm (fun h=>h)))) (Mod.refl _ _) rfl
  ·intro tr act w' hm hout hsz hd hG hk hub
   have h0:=hd ⟨0,.data⟩ (by simp) rfl _ rfl
   have h1:=hd ⟨1,.data⟩ (by simp) rfl _ rfl
   refine B6 (args:=#[.agg #[.int .i64 f,.int .i64 k],c.val]) (by rfl) rfl (Ab rfl) (by rw [A8 rfl Try.func50 (by kernel_rfl) (by kernel_rfl)];exact congrArg (fun z=>Result.ok (Next.enter _ z) _) (by simp only [List.map_toArray,List.map_cons,List.map_nil,show act.eval (.tmp 7)=_ from h0,show act.eval (.tmp 8)=_ from h1];try rfl)) (Valid_any f k c HC.out _) ?_
   rintro e w2 ⟨rfl,hm2⟩
   exact ⟨_,rfl,hm2,congrArg Value.bool EV.out⟩
  ·intro tr act w' hm hout hsz hd hG hk hub
   have h2:=hd ⟨2,.data⟩ (by simp) rfl _ rfl
   exact Aj (by rfl) rfl (Ab rfl) (Ah rfl h2) (Mod.refl _ _) rfl
  ·intro tr act w' hm hout hsz hd hG hk hub
   have h3:=hd ⟨3,.guard⟩ (by simp) rfl _ rfl
   exact jg_skip (fun _ _ _ h=>h) (by rfl) rfl ((Ad rfl rfl (hsz 10 (by decide)) h3).trans rfl) rfl
  ·intro tr act w' hm hout hsz hd hG hk hub
   have h3:=hd ⟨3,.guard⟩ (by simp) rfl _ rfl
   exact jg_skip (fun _ _ _ h=>h) (by rfl) rfl ((Ad rfl rfl (hsz 10 (by decide)) h3).trans rfl) rfl
  ·intro tr act w' hm hout hsz hd hG hk hub
   have h3:=hd ⟨3,.guard⟩ (by simp) rfl _ rfl
   exact jg_skip (fun _ _ _ h=>h) (by rfl) rfl ((Ad rfl rfl (hsz 10 (by decide)) h3).trans rfl) rfl
  ·intro tr act w' hm hout hsz hd hG hk hub
   have h3:=hd ⟨3,.guard⟩ (by simp) rfl _ rfl
   exact jg_skip (fun _ _ _ h=>h) (by rfl) rfl ((Ad rfl rfl (hsz 10 (by decide)) h3).trans rfl) rfl
  ·intro tr act w' hm hout hsz hd hG hk hub
   have h3:=hd ⟨3,.guard⟩ (by simp) rfl _ rfl
   exact jg_skip (fun _ _ _ h=>h) (by rfl) rfl ((Ad rfl rfl (hsz 10 (by decide)) h3).trans rfl) rfl
  ·intro tr act w' hm hout hsz hd hG hk hub
   have h3:=hd ⟨3,.guard⟩ (by simp) rfl _ rfl
   exact jg_skip (fun _ _ _ h=>h) (by rfl) rfl ((Ad rfl rfl (hsz 10 (by decide)) h3).trans rfl) rfl
  ·intro tr act w' hm hout hsz hd hG hk hub
   have h3:=hd ⟨3,.guard⟩ (by simp) rfl _ rfl
   exact jg_skip (fun _ _ _ h=>h) (by rfl) rfl ((Ad rfl rfl (hsz 10 (by decide)) h3).trans rfl) rfl
  ·intro tr act w' hm hout hsz hd hG hk hub
   have h3:=hd ⟨3,.guard⟩ (by simp) rfl _ rfl
   exact jg_skip (fun _ _ _ h=>h) (by rfl) rfl ((Ad rfl rfl (hsz 10 (by decide)) h3).trans rfl) rfl
  ·intro tr act w' hm hout hsz hd hG hk hub
   have h3:=hd ⟨3,.data⟩ (by simp) rfl _ rfl
   have h11:=hd ⟨11,.data⟩ (by simp) rfl _ rfl
   exact Aj (by rfl) rfl (Ab rfl) (A5 rfl h3 h11 rfl) (Mod.refl _ _) rfl
  ·intro tr act w' hm hout hsz hd hG hk hub
   have h12:=hd ⟨12,.data⟩ (by simp) rfl _ rfl
   exact Aj (by rfl) rfl (Ab rfl) (Ah rfl h12) (Mod.refl _ _) rfl
  ·intro tr act w' hm hout hsz hd hG hk hub
   have h13:=hd ⟨13,.guard⟩ (by simp) rfl _ rfl
   exact jg_skip (fun _ _ _ h=>h) (by rfl) rfl ((Ad rfl rfl (hsz 20 (by decide)) h13).trans rfl) rfl
  ·intro tr act w' hm hout hsz hd hG hk hub
   have h13:=hd ⟨13,.guard⟩ (by simp) rfl _ rfl
   exact jg_skip (fun _ _ _ h=>h) (by rfl) rfl ((Ad rfl rfl (hsz 20 (by decide)) h13).trans rfl) rfl
  ·intro tr act w' hm hout hsz hd hG hk hub
   have h13:=hd ⟨13,.guard⟩ (by simp) rfl _ rfl
   exact jg_skip (fun _ _ _ h=>h) (by rfl) rfl ((Ad rfl rfl (hsz 20 (by decide)) h13).trans rfl) rfl
  ·intro tr act w' hm hout hsz hd hG hk hub
   have h13:=hd ⟨13,.guard⟩ (by simp) rfl _ rfl
   exact jg_skip (fun _ _ _ h=>h) (by rfl) rfl ((Ad rfl rfl (hsz 20 (by decide)) h13).trans rfl) rfl
  ·intro tr act w' hm hout hsz hd hG hk hub
   have h13:=hd ⟨13,.guard⟩ (by simp) rfl _ rfl
   exact jg_skip (fun _ _ _ h=>h) (by rfl) rfl ((Ad rfl rfl (hsz 20 (by decide)) h13).trans rfl) rfl
  ·intro tr act w' hm hout hsz hd hG hk hub
   have h13:=hd ⟨13,.guard⟩ (by simp) rfl _ rfl
   exact jg_skip (fun _ _ _ h=>h) (by rfl) rfl ((Ad rfl rfl (hsz 20 (by decide)) h13).trans rfl) rfl
  ·intro tr act w' hm hout hsz hd hG hk hub
   have h13:=hd ⟨13,.data⟩ (by simp) rfl _ rfl
   have h19:=hd ⟨19,.data⟩ (by simp) rfl _ rfl
   exact Aj (by rfl) rfl (Ab rfl) (A5 rfl h13 h19 rfl) (Mod.refl _ _) rfl
  ·intro tr act w' hm hout hsz hd hG hk hub
   have h20:=hd ⟨20,.data⟩ (by simp) rfl _ rfl
   exact Aj (by rfl) rfl (Ab rfl) (An rfl h20) (Mod.refl _ _) rfl
  intro vs tr w2 hl htl hm hG hV
  obtain ⟨v0,vs0,rfl,hl0⟩:=Ae hl
  obtain ⟨v1,vs1,rfl,hl1⟩:=Ae hl0
  obtain ⟨v2,vs2,rfl,hl2⟩:=Ae hl1
  obtain ⟨v3,vs3,rfl,hl3⟩:=Ae hl2
  obtain ⟨v4,vs4,rfl,hl4⟩:=Ae hl3
  obtain ⟨v5,vs5,rfl,hl5⟩:=Ae hl4
  obtain ⟨v6,vs6,rfl,hl6⟩:=Ae hl5
  obtain ⟨v7,vs7,rfl,hl7⟩:=Ae hl6
  obtain ⟨v8,vs8,rfl,hl8⟩:=Ae hl7
  obtain ⟨v9,vs9,rfl,hl9⟩:=Ae hl8
  obtain ⟨v10,vs10,rfl,hl10⟩:=Ae hl9
  obtain ⟨v11,vs11,rfl,hl11⟩:=Ae hl10
  obtain ⟨v12,vs12,rfl,hl12⟩:=Ae hl11
  obtain ⟨v13,vs13,rfl,hl13⟩:=Ae hl12
  obtain ⟨v14,vs14,rfl,hl14⟩:=Ae hl13
  obtain ⟨v15,vs15,rfl,hl15⟩:=Ae hl14
  obtain ⟨v16,vs16,rfl,hl16⟩:=Ae hl15
  obtain ⟨v17,vs17,rfl,hl17⟩:=Ae hl16
  obtain ⟨v18,vs18,rfl,hl18⟩:=Ae hl17
  obtain ⟨v19,vs19,rfl,hl19⟩:=Ae hl18
  obtain ⟨v20,vs20,rfl,hl20⟩:=Ae hl19
  obtain ⟨v21,vs21,rfl,hl21⟩:=Ae hl20
  obtain rfl:=Bl hl21
  clear hl hl0 hl1 hl2 hl3 hl4 hl5 hl6 hl7 hl8 hl9 hl10 hl11 hl12 hl13 hl14 hl15 hl16 hl17 hl18 hl19 hl20 hl21
  obtain rfl:v21=.bool false:=hV 21 _ rfl
  have ha0:=HA0.out
  subst ha0
  clear HA0 hV hsz0 oe1 oe3 oe5
  simp only [Ar,Act.put,sIB,sCZ,sCS]
  have KM2:=Lib.hid (KM.out.trans hm (fun _ _ h=>h))
  clear hm hG
  go_wp2
  go_ret
  exact ⟨congrArg (fun z=>Ending.returned (Value.bool z)) (show false=Bo L k c by unfold Bo;simp only [EV.out,Bool.false_and]<;>rfl),KM2.out⟩
 | true=>
  have EV:=Lib.hid hva
  clear hva
  cases hsy:(c.sb == 1000+c.cl) with
  | false=>
   have ES:=Lib.hid hsy
   clear hsy
   generalize ha0:Act.mk _ _=a0
   have oe1:a0.eval (.tmp 1)=.pointer (some ⟨g,0,none⟩):=by rw [← ha0];rfl
   have oe3:a0.eval (.tmp 3)=.pointer (some ⟨w.heap.size,0,none⟩):=by rw [← ha0];rfl
   have oe5:a0.eval (.tmp 5)=.pointer (some ⟨w.heap.size+1,0,none⟩):=by rw [← ha0];rfl
   have hsz0:a0.tmps.size=28:=by rw [← ha0];rfl
   have HA0:=Lib.hid ha0
   clear ha0
   refine Bf 28 hsz0 (by kernel_rfl) (by kernel_rfl) [7,8,9,10,11,12,13,14,15,16,17,18,19,20,21,22,23,24,25,26,27,6] (by kernel_rfl) (by decide) (fun _=>False) (fun _ _=>False) (fun _ _ h=>h) Still (fun _ _ _ h=>h) (fun _ _ _ hm h=>hm.trans h (fun _ _ h=>h.elim)) [gi (.agg #[.int .i64 f,.int .i64 k]),gi (c.val),gi (.bool true),gi (.bool true),gi (.pointer (some ⟨w.heap.size+1,35,none⟩)),gi (.pointer (some ⟨w.heap.size+1,35,none⟩)),gi (.int .i64 c.sb),gi (.pointer (some ⟨w.heap.size+1,0,none⟩)),gi (.pointer (some ⟨w.heap.size+1,0,none⟩)),gi (.int .i64 c.cl),gi (.int .i64 (1000+c.cl)),gi (.bool false),gi (.bool false),gi (.bool false),gi (undef),gi (undef),gi (undef),gi (undef),gi (undef),gi (undef),gi (.bool false),gi (.bool false)] ⟨Af,Af,Af,Af,Af,Af,Af,Af,Af,Af,Af,Af,Af,Af,Af,Af,Af,Af,Af,Af,Af,Af,trivial⟩ [] (by kernel_rfl) (by decide) (by kernel_rfl) (fun _ _=>True) (fun _ _ _ _ _=>trivial) trivial ⟨?_,?_,?_,?_,?_,?_,?_,?_,?_,?_,?_,?_,?_,?_,?_,?_,?_,?_,?_,?_,?_,?_,trivial⟩ ?_
   ·intro tr act w' hm hout hsz hd hG hk hub
    exact Aj (by rfl) rfl (Ab rfl) (Ap rfl Try.underlying26 rfl (off:=0) (cs:=[.int .i64 f,.int .i64 k]) (by kernel_rfl) ((hout 3 (by decide)).trans oe3) (Cs.whole (KF.out.mod hm (fun h=>h)))) (Mod.refl _ _) rfl
   ·intro tr act w' hm hout hsz hd hG hk hub
    exact Aj (by rfl) rfl (Ab rfl) (Ap rfl Try.underlying36 rfl (off:=0) (cs:=c.cells) (by rw [Cm.len HC.out.2.1];exact Bd) ((hout 5 (by decide)).trans oe5) (Cs.whole (KX.out.mod hm (fun h=>h)))) (Mod.refl _ _) rfl
   ·intro tr act w' hm hout hsz hd hG hk hub
    have h0:=hd ⟨0,.data⟩ (by simp) rfl _ rfl
    have h1:=hd ⟨1,.data⟩ (by simp) rfl _ rfl
    refine B6 (args:=#[.agg #[.int .i64 f,.int .i64 k],c.val]) (by rfl) rfl (Ab rfl) (by rw [A8 rfl Try.func50 (by kernel_rfl) (by kernel_rfl)];exact congrArg (fun z=>Result.ok (Next.enter _ z) _) (by simp only [List.map_toArray,List.map_cons,List.map_nil,show act.eval (.tmp 7)=_ from h0,show act.eval (.tmp 8)=_ from h1];try rfl)) (Valid_any f k c HC.out _) ?_
    rintro e w2 ⟨rfl,hm2⟩
    exact ⟨_,rfl,hm2,congrArg Value.bool EV.out⟩
   ·intro tr act w' hm hout hsz hd hG hk hub
    have h2:=hd ⟨2,.data⟩ (by simp) rfl _ rfl
    exact Aj (by rfl) rfl (Ab rfl) (Ah rfl h2) (Mod.refl _ _) rfl
   ·intro tr act w' hm hout hsz hd hG hk hub
    have h3:=hd ⟨3,.guard⟩ (by simp) rfl _ rfl
    refine Aj (by rfl) rfl ((Ad rfl rfl (hsz 10 (by decide)) h3).trans rfl) (Ai rfl Try.underlying36 rfl (by kernel_rfl) ((hout 5 (by decide)).trans oe5)) (Mod.refl _ _) ?_
    rfl
   ·intro tr act w' hm hout hsz hd hG hk hub
    have h3:=hd ⟨3,.guard⟩ (by simp) rfl _ rfl
    have h4:=hd ⟨4,.data⟩ (by simp) rfl _ rfl
    refine Aj (by rfl) rfl ((Ad rfl rfl (hsz 10 (by decide)) h3).trans rfl) (Ai rfl Try.underlying34 rfl (by kernel_rfl) h4) (Mod.refl _ _) ?_
    rfl
   ·intro tr act w' hm hout hsz hd hG hk hub
    have h3:=hd ⟨3,.guard⟩ (by simp) rfl _ rfl
    have h5:=hd ⟨5,.data⟩ (by simp) rfl _ rfl
    exact Aj (by rfl) rfl ((Ad rfl rfl (hsz 10 (by decide)) h3).trans rfl) (Am rfl Try.underlying3 rfl h5 ((KX.out.mod hm (fun h=>h)).c35 HC.out.2.1)) (Mod.refl _ _) rfl
   ·intro tr act w' hm hout hsz hd hG hk hub
    have h3:=hd ⟨3,.guard⟩ (by simp) rfl _ rfl
    refine Aj (by rfl) rfl ((Ad rfl rfl (hsz 10 (by decide)) h3).trans rfl) (Ai rfl Try.underlying36 rfl (by kernel_rfl) ((hout 5 (by decide)).trans oe5)) (Mod.refl _ _) ?_
    rfl
   ·intro tr act w' hm hout hsz hd hG hk hub
    have h3:=hd ⟨3,.guard⟩ (by simp) rfl _ rfl
    have h7:=hd ⟨7,.data⟩ (by simp) rfl _ rfl
    refine Aj (by rfl) rfl ((Ad rfl rfl (hsz 10 (by decide)) h3).trans rfl) (Ai rfl Try.underlying30 rfl (by kernel_rfl) h7) (Mod.refl _ _) ?_
    rfl
   ·intro tr act w' hm hout hsz hd hG hk hub
    have h3:=hd ⟨3,.guard⟩ (by simp) rfl _ rfl
    have h8:=hd ⟨8,.data⟩ (by simp) rfl _ rfl
    exact Aj (by rfl) rfl ((Ad rfl rfl (hsz 10 (by decide)) h3).trans rfl) (Am rfl Try.underlying3 rfl h8 (KX.out.mod hm (fun h=>h)).c0) (Mod.refl _ _) rfl
   ·intro tr act w' hm hout hsz hd hG hk hub
    have h3:=hd ⟨3,.guard⟩ (by simp) rfl _ rfl
    have h9:=hd ⟨9,.data⟩ (by simp) rfl _ rfl
    refine B6 (args:=#[.int .i64 c.cl]) (by rfl) rfl ((Ad rfl rfl (hsz 10 (by decide)) h3).trans rfl) (by rw [A8 rfl Try.func28 (by kernel_rfl) (by kernel_rfl)];exact congrArg (fun z=>Result.ok (Next.enter _ z) _) (by simp only [List.map_toArray,List.map_cons,List.map_nil,show act.eval (.tmp 16)=_ from h9];try rfl)) (signer_any c.cl _ HSI.out) ?_
    rintro e w2 ⟨rfl,hm2⟩
    exact ⟨_,rfl,hm2,rfl⟩
   ·intro tr act w' hm hout hsz hd hG hk hub
    have h3:=hd ⟨3,.guard⟩ (by simp) rfl _ rfl
    have h6:=hd ⟨6,.data⟩ (by simp) rfl _ rfl
    have h10:=hd ⟨10,.data⟩ (by simp) rfl _ rfl
    refine Aj (by rfl) rfl ((Ad rfl rfl (hsz 10 (by decide)) h3).trans rfl) (A7 rfl h6 h10 (Ak _ _ _ _ _ _) (Bg _ _ _ Try.underlying3)) (Mod.refl _ _) ?_
    exact congrArg Value.bool ES.out
   ·intro tr act w' hm hout hsz hd hG hk hub
    have h3:=hd ⟨3,.data⟩ (by simp) rfl _ rfl
    have h11:=hd ⟨11,.data⟩ (by simp) rfl _ rfl
    exact Aj (by rfl) rfl (Ab rfl) (A5 rfl h3 h11 rfl) (Mod.refl _ _) rfl
   ·intro tr act w' hm hout hsz hd hG hk hub
    have h12:=hd ⟨12,.data⟩ (by simp) rfl _ rfl
    exact Aj (by rfl) rfl (Ab rfl) (Ah rfl h12) (Mod.refl _ _) rfl
   ·intro tr act w' hm hout hsz hd hG hk hub
    have h13:=hd ⟨13,.guard⟩ (by simp) rfl _ rfl
    exact jg_skip (fun _ _ _ h=>h) (by rfl) rfl ((Ad rfl rfl (hsz 20 (by decide)) h13).trans rfl) rfl
   ·intro tr act w' hm hout hsz hd hG hk hub
    have h13:=hd ⟨13,.guard⟩ (by simp) rfl _ rfl
    exact jg_skip (fun _ _ _ h=>h) (by rfl) rfl ((Ad rfl rfl (hsz 20 (by decide)) h13).trans rfl) rfl
   ·intro tr act w' hm hout hsz hd hG hk hub
    have h13:=hd ⟨13,.guard⟩ (by simp) rfl _ rfl
    exact jg_skip (fun _ _ _ h=>h) (by rfl) rfl ((Ad rfl rfl (hsz 20 (by decide)) h13).trans rfl) rfl
   ·intro tr act w' hm hout hsz hd hG hk hub
    have h13:=hd ⟨13,.guard⟩ (by simp) rfl _ rfl
    exact jg_skip (fun _ _ _ h=>h) (by rfl) rfl ((Ad rfl rfl (hsz 20 (by decide)) h13).trans rfl) rfl
   ·intro tr act w' hm hout hsz hd hG hk hub
    have h13:=hd ⟨13,.guard⟩ (by simp) rfl _ rfl
    exact jg_skip (fun _ _ _ h=>h) (by rfl) rfl ((Ad rfl rfl (hsz 20 (by decide)) h13).trans rfl) rfl
   ·intro tr act w' hm hout hsz hd hG hk hub
    have h13:=hd ⟨13,.guard⟩ (by simp) rfl _ rfl
    exact jg_skip (fun _ _ _ h=>h) (by rfl) rfl ((Ad rfl rfl (hsz 20 (by decide)) h13).trans rfl) rfl
   ·intro tr act w' hm hout hsz hd hG hk hub
    have h13:=hd ⟨13,.data⟩ (by simp) rfl _ rfl
    have h19:=hd ⟨19,.data⟩ (by simp) rfl _ rfl
    exact Aj (by rfl) rfl (Ab rfl) (A5 rfl h13 h19 rfl) (Mod.refl _ _) rfl
   ·intro tr act w' hm hout hsz hd hG hk hub
    have h20:=hd ⟨20,.data⟩ (by simp) rfl _ rfl
    exact Aj (by rfl) rfl (Ab rfl) (An rfl h20) (Mod.refl _ _) rfl
   intro vs tr w2 hl htl hm hG hV
   obtain ⟨v0,vs0,rfl,hl0⟩:=Ae hl
   obtain ⟨v1,vs1,rfl,hl1⟩:=Ae hl0
   obtain ⟨v2,vs2,rfl,hl2⟩:=Ae hl1
   obtain ⟨v3,vs3,rfl,hl3⟩:=Ae hl2
   obtain ⟨v4,vs4,rfl,hl4⟩:=Ae hl3
   obtain ⟨v5,vs5,rfl,hl5⟩:=Ae hl4
   obtain ⟨v6,vs6,rfl,hl6⟩:=Ae hl5
   obtain ⟨v7,vs7,rfl,hl7⟩:=Ae hl6
   obtain ⟨v8,vs8,rfl,hl8⟩:=Ae hl7
   obtain ⟨v9,vs9,rfl,hl9⟩:=Ae hl8
   obtain ⟨v10,vs10,rfl,hl10⟩:=Ae hl9
   obtain ⟨v11,vs11,rfl,hl11⟩:=Ae hl10
   obtain ⟨v12,vs12,rfl,hl12⟩:=Ae hl11
   obtain ⟨v13,vs13,rfl,hl13⟩:=Ae hl12
   obtain ⟨v14,vs14,rfl,hl14⟩:=Ae hl13
   obtain ⟨v15,vs15,rfl,hl15⟩:=Ae hl14
   obtain ⟨v16,vs16,rfl,hl16⟩:=Ae hl15
   obtain ⟨v17,vs17,rfl,hl17⟩:=Ae hl16
   obtain ⟨v18,vs18,rfl,hl18⟩:=Ae hl17
   obtain ⟨v19,vs19,rfl,hl19⟩:=Ae hl18
   obtain ⟨v20,vs20,rfl,hl20⟩:=Ae hl19
   obtain ⟨v21,vs21,rfl,hl21⟩:=Ae hl20
   obtain rfl:=Bl hl21
   clear hl hl0 hl1 hl2 hl3 hl4 hl5 hl6 hl7 hl8 hl9 hl10 hl11 hl12 hl13 hl14 hl15 hl16 hl17 hl18 hl19 hl20 hl21
   obtain rfl:v21=.bool false:=hV 21 _ rfl
   have ha0:=HA0.out
   subst ha0
   clear HA0 hV hsz0 oe1 oe3 oe5
   simp only [Ar,Act.put,sIB,sCZ,sCS]
   have KM2:=Lib.hid (KM.out.trans hm (fun _ _ h=>h))
   clear hm hG
   go_wp2
   go_ret
   exact ⟨congrArg (fun z=>Ending.returned (Value.bool z)) (show false=Bo L k c by unfold Bo;simp only [EV.out,ES.out,Bool.true_and]<;>rfl),KM2.out⟩
  | true=>
   have ES:=Lib.hid hsy
   clear hsy
   generalize ha0:Act.mk _ _=a0
   have oe1:a0.eval (.tmp 1)=.pointer (some ⟨g,0,none⟩):=by rw [← ha0];rfl
   have oe3:a0.eval (.tmp 3)=.pointer (some ⟨w.heap.size,0,none⟩):=by rw [← ha0];rfl
   have oe5:a0.eval (.tmp 5)=.pointer (some ⟨w.heap.size+1,0,none⟩):=by rw [← ha0];rfl
   have hsz0:a0.tmps.size=28:=by rw [← ha0];rfl
   have HA0:=Lib.hid ha0
   clear ha0
   refine Bf 28 hsz0 (by kernel_rfl) (by kernel_rfl) [7,8,9,10,11,12,13,14,15,16,17,18,19,20,21,22,23,24,25,26,27,6] (by kernel_rfl) (by decide) (fun _=>False) (fun _ _=>False) (fun _ _ h=>h) Still (fun _ _ _ h=>h) (fun _ _ _ hm h=>hm.trans h (fun _ _ h=>h.elim)) [gi (.agg #[.int .i64 f,.int .i64 k]),gi (c.val),gi (.bool true),gi (.bool true),gi (.pointer (some ⟨w.heap.size+1,35,none⟩)),gi (.pointer (some ⟨w.heap.size+1,35,none⟩)),gi (.int .i64 c.sb),gi (.pointer (some ⟨w.heap.size+1,0,none⟩)),gi (.pointer (some ⟨w.heap.size+1,0,none⟩)),gi (.int .i64 c.cl),gi (.int .i64 (1000+c.cl)),gi (.bool true),gi (.bool true),gi (.bool true),gi (.pointer (some ⟨g,0,none⟩)),gi (.pointer (some ⟨w.heap.size+1,35,none⟩)),gi (.agg #[.int .i64 c.sb,.int .i64 c.mr]),gi (c.val),(fun t v w=>RdB w v (txT c)∧(txT c).length≤500),gi (.bool (rightF L (c.sb,txT c) c.mr)),gi (.bool (rightF L (c.sb,txT c) c.mr)),gi (.bool (rightF L (c.sb,txT c) c.mr))] ⟨Af,Af,Af,Af,Af,Af,Af,Af,Af,Af,Af,Af,Af,Af,Af,Af,Af,Af,⟨fun _ _ _ _ h hr=>⟨h.1.mod hr (fun _ _ _ h=>h),h.2⟩,fun _ _ _ _ _ h hr=>⟨h.1.mod hr (fun _ _ _ h=>h),h.2⟩⟩,Af,Af,Af,trivial⟩ [] (by kernel_rfl) (by decide) (by kernel_rfl) (fun _ _=>True) (fun _ _ _ _ _=>trivial) trivial ⟨?_,?_,?_,?_,?_,?_,?_,?_,?_,?_,?_,?_,?_,?_,?_,?_,?_,?_,?_,?_,?_,?_,trivial⟩ ?_
   ·intro tr act w' hm hout hsz hd hG hk hub
    exact Aj (by rfl) rfl (Ab rfl) (Ap rfl Try.underlying26 rfl (off:=0) (cs:=[.int .i64 f,.int .i64 k]) (by kernel_rfl) ((hout 3 (by decide)).trans oe3) (Cs.whole (KF.out.mod hm (fun h=>h)))) (Mod.refl _ _) rfl
   ·intro tr act w' hm hout hsz hd hG hk hub
    exact Aj (by rfl) rfl (Ab rfl) (Ap rfl Try.underlying36 rfl (off:=0) (cs:=c.cells) (by rw [Cm.len HC.out.2.1];exact Bd) ((hout 5 (by decide)).trans oe5) (Cs.whole (KX.out.mod hm (fun h=>h)))) (Mod.refl _ _) rfl
   ·intro tr act w' hm hout hsz hd hG hk hub
    have h0:=hd ⟨0,.data⟩ (by simp) rfl _ rfl
    have h1:=hd ⟨1,.data⟩ (by simp) rfl _ rfl
    refine B6 (args:=#[.agg #[.int .i64 f,.int .i64 k],c.val]) (by rfl) rfl (Ab rfl) (by rw [A8 rfl Try.func50 (by kernel_rfl) (by kernel_rfl)];exact congrArg (fun z=>Result.ok (Next.enter _ z) _) (by simp only [List.map_toArray,List.map_cons,List.map_nil,show act.eval (.tmp 7)=_ from h0,show act.eval (.tmp 8)=_ from h1];try rfl)) (Valid_any f k c HC.out _) ?_
    rintro e w2 ⟨rfl,hm2⟩
    exact ⟨_,rfl,hm2,congrArg Value.bool EV.out⟩
   ·intro tr act w' hm hout hsz hd hG hk hub
    have h2:=hd ⟨2,.data⟩ (by simp) rfl _ rfl
    exact Aj (by rfl) rfl (Ab rfl) (Ah rfl h2) (Mod.refl _ _) rfl
   ·intro tr act w' hm hout hsz hd hG hk hub
    have h3:=hd ⟨3,.guard⟩ (by simp) rfl _ rfl
    refine Aj (by rfl) rfl ((Ad rfl rfl (hsz 10 (by decide)) h3).trans rfl) (Ai rfl Try.underlying36 rfl (by kernel_rfl) ((hout 5 (by decide)).trans oe5)) (Mod.refl _ _) ?_
    rfl
   ·intro tr act w' hm hout hsz hd hG hk hub
    have h3:=hd ⟨3,.guard⟩ (by simp) rfl _ rfl
    have h4:=hd ⟨4,.data⟩ (by simp) rfl _ rfl
    refine Aj (by rfl) rfl ((Ad rfl rfl (hsz 10 (by decide)) h3).trans rfl) (Ai rfl Try.underlying34 rfl (by kernel_rfl) h4) (Mod.refl _ _) ?_
    rfl
   ·intro tr act w' hm hout hsz hd hG hk hub
    have h3:=hd ⟨3,.guard⟩ (by simp) rfl _ rfl
    have h5:=hd ⟨5,.data⟩ (by simp) rfl _ rfl
    exact Aj (by rfl) rfl ((Ad rfl rfl (hsz 10 (by decide)) h3).trans rfl) (Am rfl Try.underlying3 rfl h5 ((KX.out.mod hm (fun h=>h)).c35 HC.out.2.1)) (Mod.refl _ _) rfl
   ·intro tr act w' hm hout hsz hd hG hk hub
    have h3:=hd ⟨3,.guard⟩ (by simp) rfl _ rfl
    refine Aj (by rfl) rfl ((Ad rfl rfl (hsz 10 (by decide)) h3).trans rfl) (Ai rfl Try.underlying36 rfl (by kernel_rfl) ((hout 5 (by decide)).trans oe5)) (Mod.refl _ _) ?_
    rfl
   ·intro tr act w' hm hout hsz hd hG hk hub
    have h3:=hd ⟨3,.guard⟩ (by simp) rfl _ rfl
    have h7:=hd ⟨7,.data⟩ (by simp) rfl _ rfl
    refine Aj (by rfl) rfl ((Ad rfl rfl (hsz 10 (by decide)) h3).trans rfl) (Ai rfl Try.underlying30 rfl (by kernel_rfl) h7) (Mod.refl _ _) ?_
    rfl
   ·intro tr act w' hm hout hsz hd hG hk hub
    have h3:=hd ⟨3,.guard⟩ (by simp) rfl _ rfl
    have h8:=hd ⟨8,.data⟩ (by simp) rfl _ rfl
    exact Aj (by rfl) rfl ((Ad rfl rfl (hsz 10 (by decide)) h3).trans rfl) (Am rfl Try.underlying3 rfl h8 (KX.out.mod hm (fun h=>h)).c0) (Mod.refl _ _) rfl
   ·intro tr act w' hm hout hsz hd hG hk hub
    have h3:=hd ⟨3,.guard⟩ (by simp) rfl _ rfl
    have h9:=hd ⟨9,.data⟩ (by simp) rfl _ rfl
    refine B6 (args:=#[.int .i64 c.cl]) (by rfl) rfl ((Ad rfl rfl (hsz 10 (by decide)) h3).trans rfl) (by rw [A8 rfl Try.func28 (by kernel_rfl) (by kernel_rfl)];exact congrArg (fun z=>Result.ok (Next.enter _ z) _) (by simp only [List.map_toArray,List.map_cons,List.map_nil,show act.eval (.tmp 16)=_ from h9];try rfl)) (signer_any c.cl _ HSI.out) ?_
    rintro e w2 ⟨rfl,hm2⟩
    exact ⟨_,rfl,hm2,rfl⟩
   ·intro tr act w' hm hout hsz hd hG hk hub
    have h3:=hd ⟨3,.guard⟩ (by simp) rfl _ rfl
    have h6:=hd ⟨6,.data⟩ (by simp) rfl _ rfl
    have h10:=hd ⟨10,.data⟩ (by simp) rfl _ rfl
    refine Aj (by rfl) rfl ((Ad rfl rfl (hsz 10 (by decide)) h3).trans rfl) (A7 rfl h6 h10 (Ak _ _ _ _ _ _) (Bg _ _ _ Try.underlying3)) (Mod.refl _ _) ?_
    exact congrArg Value.bool ES.out
   ·intro tr act w' hm hout hsz hd hG hk hub
    have h3:=hd ⟨3,.data⟩ (by simp) rfl _ rfl
    have h11:=hd ⟨11,.data⟩ (by simp) rfl _ rfl
    exact Aj (by rfl) rfl (Ab rfl) (A5 rfl h3 h11 rfl) (Mod.refl _ _) rfl
   ·intro tr act w' hm hout hsz hd hG hk hub
    have h12:=hd ⟨12,.data⟩ (by simp) rfl _ rfl
    exact Aj (by rfl) rfl (Ab rfl) (Ah rfl h12) (Mod.refl _ _) rfl
   ·intro tr act w' hm hout hsz hd hG hk hub
    have h13:=hd ⟨13,.guard⟩ (by simp) rfl _ rfl
    exact Aj (by rfl) rfl ((Ad rfl rfl (hsz 20 (by decide)) h13).trans rfl) (Ah rfl ((hout 1 (by decide)).trans oe1)) (Mod.refl _ _) rfl
   ·intro tr act w' hm hout hsz hd hG hk hub
    have h13:=hd ⟨13,.guard⟩ (by simp) rfl _ rfl
    refine Aj (by rfl) rfl ((Ad rfl rfl (hsz 20 (by decide)) h13).trans rfl) (Ai rfl Try.underlying36 rfl (by kernel_rfl) ((hout 5 (by decide)).trans oe5)) (Mod.refl _ _) ?_
    rfl
   ·intro tr act w' hm hout hsz hd hG hk hub
    have h13:=hd ⟨13,.guard⟩ (by simp) rfl _ rfl
    have h15:=hd ⟨15,.data⟩ (by simp) rfl _ rfl
    exact Aj (by rfl) rfl ((Ad rfl rfl (hsz 20 (by decide)) h13).trans rfl) (Ap rfl Try.underlying34 rfl (off:=35) (cs:=[.int .i64 c.sb,.int .i64 c.mr]) (by kernel_rfl) h15 (Cs.sig (KX.out.mod hm (fun h=>h)) HC.out.2.1)) (Mod.refl _ _) rfl
   ·intro tr act w' hm hout hsz hd hG hk hub
    have h13:=hd ⟨13,.guard⟩ (by simp) rfl _ rfl
    exact Aj (by rfl) rfl ((Ad rfl rfl (hsz 20 (by decide)) h13).trans rfl) (Ap rfl Try.underlying36 rfl (off:=0) (cs:=c.cells) (by rw [Cm.len HC.out.2.1];exact Bd) ((hout 5 (by decide)).trans oe5) (Cs.whole (KX.out.mod hm (fun h=>h)))) (Mod.refl _ _) rfl
   ·intro tr act w' hm hout hsz hd hG hk hub
    have h13:=hd ⟨13,.guard⟩ (by simp) rfl _ rfl
    have h17:=hd ⟨17,.data⟩ (by simp) rfl _ rfl
    refine B6 (args:=#[c.val]) (by rfl) rfl ((Ad rfl rfl (hsz 20 (by decide)) h13).trans rfl) (by rw [A8 rfl Try.func29 (by kernel_rfl) (by kernel_rfl)];exact congrArg (fun z=>Result.ok (Next.enter _ z) _) (by simp only [List.map_toArray,List.map_cons,List.map_nil,show act.eval (.tmp 24)=_ from h17];try rfl)) (Text_any c _ HC.out) ?_
    rintro e w2 ⟨u,rfl,ho,hm2⟩
    exact ⟨_,rfl,hm2,ho.rd.1,ho.2.2⟩
   ·intro tr act w' hm hout hsz hd hG hk hub
    have h13:=hd ⟨13,.guard⟩ (by simp) rfl _ rfl
    have h14:=hd ⟨14,.data⟩ (by simp) rfl _ rfl
    have h16:=hd ⟨16,.data⟩ (by simp) rfl _ rfl
    have h18:=hd ⟨18,.data⟩ (by simp) rfl _ rfl
    obtain ⟨u,hu0⟩:∃ u,u=act.eval (.tmp 25):=⟨_,rfl⟩
    have hu:RdB w' u (txT c)∧(txT c).length≤500:=by rw [hu0];exact h18
    refine B6 (args:=#[.pointer (some ⟨g,0,none⟩),.agg #[.int .i64 c.sb,.int .i64 c.mr],u]) (by rfl) rfl ((Ad rfl rfl (hsz 20 (by decide)) h13).trans rfl) (by rw [A8 rfl Try.func51 (by kernel_rfl) (by kernel_rfl)];exact congrArg (fun z=>Result.ok (Next.enter _ z) _) (by simp only [List.map_toArray,List.map_cons,List.map_nil,show act.eval (.tmp 21)=_ from h14,show act.eval (.tmp 23)=_ from h16,show act.eval (.tmp 25)=_ from hu0.symm];try rfl)) (Book_right (HBK.out.mod (KM.out.trans hm (fun _ _ h=>h)) (fun h=>h) (fun h=>h)) c.sb c.mr hu.1 ⟨HC.out.1.2.2.2.1,hu.1.1,Nat.le_trans hu.2 (by decide)⟩) ?_
    rintro e w2 ⟨rfl,hm2⟩
    exact ⟨_,rfl,hm2,rfl⟩
   ·intro tr act w' hm hout hsz hd hG hk hub
    have h13:=hd ⟨13,.data⟩ (by simp) rfl _ rfl
    have h19:=hd ⟨19,.data⟩ (by simp) rfl _ rfl
    exact Aj (by rfl) rfl (Ab rfl) (A5 rfl h13 h19 rfl) (Mod.refl _ _) rfl
   ·intro tr act w' hm hout hsz hd hG hk hub
    have h20:=hd ⟨20,.data⟩ (by simp) rfl _ rfl
    exact Aj (by rfl) rfl (Ab rfl) (An rfl h20) (Mod.refl _ _) rfl
   intro vs tr w2 hl htl hm hG hV
   obtain ⟨v0,vs0,rfl,hl0⟩:=Ae hl
   obtain ⟨v1,vs1,rfl,hl1⟩:=Ae hl0
   obtain ⟨v2,vs2,rfl,hl2⟩:=Ae hl1
   obtain ⟨v3,vs3,rfl,hl3⟩:=Ae hl2
   obtain ⟨v4,vs4,rfl,hl4⟩:=Ae hl3
   obtain ⟨v5,vs5,rfl,hl5⟩:=Ae hl4
   obtain ⟨v6,vs6,rfl,hl6⟩:=Ae hl5
   obtain ⟨v7,vs7,rfl,hl7⟩:=Ae hl6
   obtain ⟨v8,vs8,rfl,hl8⟩:=Ae hl7
   obtain ⟨v9,vs9,rfl,hl9⟩:=Ae hl8
   obtain ⟨v10,vs10,rfl,hl10⟩:=Ae hl9
   obtain ⟨v11,vs11,rfl,hl11⟩:=Ae hl10
   obtain ⟨v12,vs12,rfl,hl12⟩:=Ae hl11
   obtain ⟨v13,vs13,rfl,hl13⟩:=Ae hl12
   obtain ⟨v14,vs14,rfl,hl14⟩:=Ae hl13
   obtain ⟨v15,vs15,rfl,hl15⟩:=Ae hl14
   obtain ⟨v16,vs16,rfl,hl16⟩:=Ae hl15
   obtain ⟨v17,vs17,rfl,hl17⟩:=Ae hl16
   obtain ⟨v18,vs18,rfl,hl18⟩:=Ae hl17
   obtain ⟨v19,vs19,rfl,hl19⟩:=Ae hl18
   obtain ⟨v20,vs20,rfl,hl20⟩:=Ae hl19
   obtain ⟨v21,vs21,rfl,hl21⟩:=Ae hl20
   obtain rfl:=Bl hl21
   clear hl hl0 hl1 hl2 hl3 hl4 hl5 hl6 hl7 hl8 hl9 hl10 hl11 hl12 hl13 hl14 hl15 hl16 hl17 hl18 hl19 hl20 hl21
   obtain rfl:v21=.bool (rightF L (c.sb,txT c) c.mr):=hV 21 _ rfl
   have ha0:=HA0.out
   subst ha0
   clear HA0 hV hsz0 oe1 oe3 oe5
   simp only [Ar,Act.put,sIB,sCZ,sCS]
   have KM2:=Lib.hid (KM.out.trans hm (fun _ _ h=>h))
   clear hm hG
   go_wp2
   go_ret
   exact ⟨congrArg (fun z=>Ending.returned (Value.bool z)) (show rightF L (c.sb,txT c) c.mr=Bo L k c by unfold Bo;simp only [EV.out,ES.out,Bool.true_and]<;>rfl),KM2.out⟩
end Go.Proofs.Ytbifincepglilaa

/- gavellaw04.wakes. -/
namespace Go.Proofs.Ytbifincepglilaa
open Go Go.RowKit Go.Gv
theorem signF_pos (L:List (Int × List Int)) (k:Int × List Int):mkN (B7 L k) k≠0:=by
 unfold B7
 by_cases h:mkN L k=0
 ·rw [if_pos h]
  have:=marks_put 0 L k (mkN_none h)
  unfold mkN
  rw [← this,mlook_put,if_pos rfl]
  simp
 ·rw [if_neg h];exact h
theorem right_made (L:List (Int × List Int)) (a b:Int) (h bs:List Int) (k:Int) (hv:validF k (cm0 a b h bs)=true):Bo (mkBook L a b h bs) k (mkCm L a b h bs)=true:=by
 unfold Bo
 rw [show validF k (mkCm L a b h bs)=true from hv,show ((mkCm L a b h bs).sb == 1000+(mkCm L a b h bs).cl)=true by simp [mkCm,cm0]]
 unfold rightF
 have e:((mkCm L a b h bs).sb,txT (mkCm L a b h bs))=mkKey a b h bs:=rfl
 rw [e,decide_eq_true (show mkN (mkBook L a b h bs) (mkKey a b h bs)≠0 from signF_pos _ _)]
 simp [mkCm]
theorem mkCm_ok (L:List (Int × List Int)) (a b:Int) (h bs:List Int) (ha:I64 a) (hs:I64 (1000+a)) (hb:I64 b) (hl:bs.length≤1000000) (hL:L.length≤1000000):(mkCm L a b h bs).OK:=by
 refine ⟨⟨ha,hb,?_,hs,?_⟩,Bu _,shaF_bytes _⟩
 ·simp only [mkCm,cm0,I64];omega
 ·have:mkN (mkBook L a b h bs) (mkKey a b h bs)≤1000001:=by
   unfold mkN
   cases hq:Bs (Bn 0 (mkBook L a b h bs)) (mkKey a b h bs) with
   | none=>simp
   | some m=>
    have:=(marks_pos 0 _ _ m hq).2
    have h2:(mkBook L a b h bs).length≤L.length+1:=by unfold mkBook B7;split<;>simp
    simp;omega
  simp only [mkCm,I64];omega
theorem BookIs.marked {B g b:Nat} {L:List (Int × List Int)} {w w':World} (h:BookIs w g b L) (hm:Marked B 5 w w'):BookIs w' g b L:=⟨Cs_marked' h.cell hm (by decide),h.map.marked hm⟩
end Go.Proofs.Ytbifincepglilaa
