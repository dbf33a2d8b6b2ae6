/- Texts that are built one behind the other: XSha8, XHashArg, XCm7, XRefC, XRf1. No condition. -/
import Derived.Test.YtbifincepglilaaSpP5
set_option maxRecDepth 100000
set_option linter.unusedVariables false
open List renaming setIfInBounds_toArray → sIB, set_cons_zero → sCZ, set_cons_succ → sCS
/- gavelref01.Sum: the same plain sum. -/
namespace Go.Proofs.Ytbifincepglilaa
open Go Go.RowKit Go.Gv
structure RefO (w0:World) (gk gh:Nat) (h:List Int) (w:World):Prop where
 k2:Cs w w0.heap.size ((List.replicate 32 0).map bv).toArray 32
 kk:Ws 122 w gk K256
 kh:Ws 120 w gh h
 m:Mod (fun _=>False) w0 w
theorem RefO.mod {S:Nat→Prop} {w0 w w':World} {gk gh:Nat} {h:List Int} (o:RefO w0 gk gh h w) (hm:Mod S w w') (h1:¬ S w0.heap.size) (h2:¬ S gk) (h3:¬ S gh) (h4:∀ k,k < w0.heap.size→¬ S k):RefO w0 gk gh h w':=
 ⟨o.k2.mod hm h1,o.kk.mod hm h2,o.kh.mod hm h3,o.m.trans hm (fun k hk hs=>h4 k hk hs)⟩
theorem RefO.modB {B:Nat} {w0 w w':World} {gk gh:Nat} {h:List Int} (o:RefO w0 gk gh h w) (hm:Mod (fun k=>B≤k) w w') (h1:w0.heap.size < B) (h2:gk < B) (h3:gh < B):RefO w0 gk gh h w':=o.mod hm (by omega) (by omega) (by omega) (fun k hk=>by omega)
theorem RefO.still {w0 w w':World} {gk gh:Nat} {h:List Int} (o:RefO w0 gk gh h w) (hm:Mod (fun _=>False) w w'):RefO w0 gk gh h w':=o.mod hm (fun h=>h) (fun h=>h) (fun h=>h) (fun _ _ h=>h)
def FulB (B:Nat) (w:World) (v:Value) (bs:List Int):Prop:=OwR (fun k=>B≤k) bs.length w v bs
theorem lay_one (c:List Value) (j:Nat) (v:Value) (h:j < c.length):lay c.toArray j [v]=(c.set j v).toArray:=by
 unfold lay
 congr 1
 rw [List.set_eq_take_append_cons_drop,if_pos h]
 simp
theorem setRow_Cs' {w:World} {g:Nat} {c:Array Value} {cs:List Value} {cs':List Value} {e:TypeId} (hc:Cs w g c e) (h:cs=cs'):Cs (w.setRow g cs.toArray) g cs'.toArray e:=by subst h;exact setRow_Cs hc
def RsW (g:Nat) (T:TypeId) (z c:List Value):Nat→List Value→World→Prop:=fun k _ w=>match k with
 | 0=>Cs w g z.toArray T
 | _=>Cs w g c.toArray T
theorem RsW_still {g:Nat} {T:TypeId} {z c:List Value}:∀ k t w w',RsW g T z c k t w→Mod (fun _=>False) w w'→RsW g T z c k t w':=by
 intro k t w w' h hm
 match k,h with
 | 0,h=>exact Cs.mod h hm (fun h=>h)
 | k+1,h=>exact Cs.mod h hm (fun h=>h)
theorem list8 (s:List Int) (h:s.length=8):∃ s0 s1 s2 s3 s4 s5 s6 s7,s=[s0,s1,s2,s3,s4,s5,s6,s7]:=by
 match s,h with
 | [a,b,c,d,e,f,g,i],_=>exact ⟨a,b,c,d,e,f,g,i,rfl⟩
theorem mixT_auto (s0 s1 s2 s3 s4 s5 s6 s7 kk ff:Int):mixT [s0,s1,s2,s3,s4,s5,s6,s7] kk ff=(IntKind.u32.wrap ((IntKind.u32.wrap ((IntKind.u32.wrap ((IntKind.u32.wrap (s7+(bits .xor .u32 (bits .xor .u32 (rr 6 s4) (rr 11 s4)) (rr 25 s4))))+(bits .xor .u32 (bits .and .u32 s4 s5) (bits .and .u32 (bits .xor .u32 4294967295 s4) s6))))+kk))+ff)):=by
 show (s7+xr (xr (rr 6 s4) (rr 11 s4)) (rr 25 s4)+xr (an s4 s5) (an (xr 4294967295 s4) s6)+kk+ff) % 4294967296=_
 simp only [xr,an,IntKind.wrap_u32]
 omega
theorem mixU_auto (s0 s1 s2 s3 s4 s5 s6 s7:Int):mixU [s0,s1,s2,s3,s4,s5,s6,s7]=(IntKind.u32.wrap ((bits .xor .u32 (bits .xor .u32 (rr 2 s0) (rr 13 s0)) (rr 22 s0))+(bits .xor .u32 (bits .xor .u32 (bits .and .u32 s0 s1) (bits .and .u32 s0 s2)) (bits .and .u32 s1 s2)))):=by
 show (xr (xr (rr 2 s0) (rr 13 s0)) (rr 22 s0)+xr (xr (an s0 s1) (an s0 s2)) (an s1 s2)) % 4294967296=_
 simp only [xr,an,IntKind.wrap_u32]
def OuSt (g:Nat) (H:List Int) (i:Nat):Nat→List Value→World→Prop:=fun k _ w=>Cs w g ((outTo H (4 * i+k)).map bv).toArray 32
theorem OuSt_still {g:Nat} {H:List Int} {i:Nat}:∀ k t w w',OuSt g H i k t w→Mod (fun _=>False) w w'→OuSt g H i k t w':=fun k t w w' h hm=>Cs.mod h hm (fun h=>h)
theorem Ws.cell' {T:TypeId} {w:World} {g:Nat} {ws:List Int} (h:RsW g T (ws.map wv) [] 0 [] w):Ws T w g ws:=h
set_option maxHeartbeats 16000000 in
theorem RefSum_any (v:Value) (bs:List Int) (w:World) (h:RdB w v bs) (hlen:bs.length≤900000) :
 Calls Try.prog 63 #[v] w fun e w'=>e=.returned (hv (shaF bs))∧Mod (fun _=>False) w w':=by
 have hbl:=h.block_lt
 have HR:=Lib.hid (show RdR (fun k=>k < w.heap.size) bs.length w v bs from ⟨h,hbl,Nat.le_refl _⟩)
 obtain ⟨ao,cap,rfl,-,-⟩:=h.shape
 clear h hbl
 go_enter Try.func63,Try.ntmps63
 go_upto_region 1 with (fail)
 obtain ⟨w1,hw1⟩:∃ z,z=w.alloc (.cells ((List.replicate 32 0).map bv).toArray 32):=⟨_,rfl⟩
 change Code.wp _ _ _ _ (w.alloc (.cells ((List.replicate 32 0).map bv).toArray 32))
 rw [← hw1]
 have K2:=Lib.hid (show Cs w1 w.heap.size ((List.replicate 32 0).map bv).toArray 32 by rw [hw1];exact Cs.new _ _ _)
 have KM1:=Lib.hid (show Mod (fun _=>False) w w1 by rw [hw1];exact (Mod.refl _ _).alloc _)
 have hs1:w1.heap.size=w.heap.size+1:=by rw [hw1];simp
 clear hw1
 generalize ha0:Act.mk _ _=a0
 have hsz0:a0.tmps.size=269:=by rw [← ha0];rfl
 have HA0:=Lib.hid ha0
 clear ha0
 refine wp_region_A 269 hsz0 (by kernel_rfl) (by kernel_rfl) [24,3,271] (by kernel_rfl) (by decide) (fun j=>w1.heap.size≤j) (fun _ _=>False) (fun _ _ h=>h.elim) Still (fun _ _ _ h=>h) (fun _ _ _ hm h=>hm.trans h (fun _ _ h=>h.elim)) [gi (.agg (K256.map wv).toArray),ga,ga] ⟨Af,Bq,Bq,trivial⟩ [] (by kernel_rfl) (by decide) (by kernel_rfl) (fun _ _=>True) (fun _ _ _ _ _=>trivial) trivial [⟨1,2,122,[.int .u32 0,.int .u32 0,.int .u32 0,.int .u32 0,.int .u32 0,.int .u32 0,.int .u32 0,.int .u32 0,.int .u32 0,.int .u32 0,.int .u32 0,.int .u32 0,.int .u32 0,.int .u32 0,.int .u32 0,.int .u32 0,.int .u32 0,.int .u32 0,.int .u32 0,.int .u32 0,.int .u32 0,.int .u32 0,.int .u32 0,.int .u32 0,.int .u32 0,.int .u32 0,.int .u32 0,.int .u32 0,.int .u32 0,.int .u32 0,.int .u32 0,.int .u32 0,.int .u32 0,.int .u32 0,.int .u32 0,.int .u32 0,.int .u32 0,.int .u32 0,.int .u32 0,.int .u32 0,.int .u32 0,.int .u32 0,.int .u32 0,.int .u32 0,.int .u32 0,.int .u32 0,.int .u32 0,.int .u32 0,.int .u32 0,.int .u32 0,.int .u32 0,.int .u32 0,.int .u32 0,.int .u32 0,.int .u32 0,.int .u32 0,.int .u32 0,.int .u32 0,.int .u32 0,.int .u32 0,.int .u32 0,.int .u32 0,.int .u32 0,.int .u32 0],K256.map wv⟩] (by kernel_rfl) (by intro r hr;simp only [List.mem_cons,List.not_mem_nil,or_false] at hr;rcases hr with rfl<;>exact ⟨rfl,rfl⟩) (fun _ _ h=>h.elim) (fun _ h=>h) stillA (fun _ _ _ _ _ _=>trivial) (AllEnd.get _ ⟨gi_end,ga_end,ga_end,trivial⟩) (by intro r hr;simp only [List.mem_cons,List.not_mem_nil,or_false] at hr;rcases hr with rfl<;>exact ⟨of_decide_eq_true (by kernel_rfl),of_decide_eq_true (by kernel_rfl)⟩) (by intro r hr;simp only [List.mem_cons,List.not_mem_nil,or_false] at hr;rcases hr with rfl<;>exact fun _ _ _=>⟨trivial,trivial⟩) ⟨?_,?_,?_,trivial⟩ ?_
 ·refine ⟨fun r hr e=>?_,fun r hr e=>?_,fun hno=>?_⟩
  ·simp only [List.mem_cons,List.not_mem_nil,or_false] at hr
   rcases hr with rfl
   ·simp at e
  ·simp only [List.mem_cons,List.not_mem_nil,or_false] at hr
   rcases hr with rfl
   ·simp at e
  ·intro tr act w' hm hout hsz hd hG hk hub
   refine B6 (args:=#[]) (by rfl) rfl (Ab rfl) (by rw [A8 rfl Try.func72 (by kernel_rfl) (by kernel_rfl)];simp) (ref_rounds_any _) ?_
   rintro e w2 ⟨rfl,hm2⟩
   exact ⟨_,rfl,hm2,rfl⟩
 ·refine ⟨fun r hr e=>?_,fun r hr e=>?_,fun hno=>?_⟩
  ·simp only [List.mem_cons,List.not_mem_nil,or_false] at hr
   rcases hr with rfl
   ·exact ⟨rfl,rfl,by kernel_rfl,(by rw [List.length_map,K256_len];rfl),(wv_one _),(by rw [List.length_map,K256_len];exact size_a64)⟩
  ·simp only [List.mem_cons,List.not_mem_nil,or_false] at hr
   rcases hr with rfl
   ·simp at e
  ·exact absurd rfl (hno ⟨1,2,122,[.int .u32 0,.int .u32 0,.int .u32 0,.int .u32 0,.int .u32 0,.int .u32 0,.int .u32 0,.int .u32 0,.int .u32 0,.int .u32 0,.int .u32 0,.int .u32 0,.int .u32 0,.int .u32 0,.int .u32 0,.int .u32 0,.int .u32 0,.int .u32 0,.int .u32 0,.int .u32 0,.int .u32 0,.int .u32 0,.int .u32 0,.int .u32 0,.int .u32 0,.int .u32 0,.int .u32 0,.int .u32 0,.int .u32 0,.int .u32 0,.int .u32 0,.int .u32 0,.int .u32 0,.int .u32 0,.int .u32 0,.int .u32 0,.int .u32 0,.int .u32 0,.int .u32 0,.int .u32 0,.int .u32 0,.int .u32 0,.int .u32 0,.int .u32 0,.int .u32 0,.int .u32 0,.int .u32 0,.int .u32 0,.int .u32 0,.int .u32 0,.int .u32 0,.int .u32 0,.int .u32 0,.int .u32 0,.int .u32 0,.int .u32 0,.int .u32 0,.int .u32 0,.int .u32 0,.int .u32 0,.int .u32 0,.int .u32 0,.int .u32 0,.int .u32 0],K256.map wv⟩ (by simp)).1
 ·refine ⟨fun r hr e=>?_,fun r hr e=>?_,fun hno=>?_⟩
  ·simp only [List.mem_cons,List.not_mem_nil,or_false] at hr
   rcases hr with rfl
   ·simp at e
  ·simp only [List.mem_cons,List.not_mem_nil,or_false] at hr
   rcases hr with rfl
   ·refine ⟨rfl,_,(.tmp 24),rfl,by decide,rfl,by kernel_rfl,by kernel_rfl,fun tr act w' hm hout hd hG=>?_⟩
    have h0:=hd ⟨0,.data⟩ (by simp) rfl _ rfl
    rw [show act.eval ((.tmp 24))=_ from h0]
    rfl
  ·exact absurd rfl (hno ⟨1,2,122,[.int .u32 0,.int .u32 0,.int .u32 0,.int .u32 0,.int .u32 0,.int .u32 0,.int .u32 0,.int .u32 0,.int .u32 0,.int .u32 0,.int .u32 0,.int .u32 0,.int .u32 0,.int .u32 0,.int .u32 0,.int .u32 0,.int .u32 0,.int .u32 0,.int .u32 0,.int .u32 0,.int .u32 0,.int .u32 0,.int .u32 0,.int .u32 0,.int .u32 0,.int .u32 0,.int .u32 0,.int .u32 0,.int .u32 0,.int .u32 0,.int .u32 0,.int .u32 0,.int .u32 0,.int .u32 0,.int .u32 0,.int .u32 0,.int .u32 0,.int .u32 0,.int .u32 0,.int .u32 0,.int .u32 0,.int .u32 0,.int .u32 0,.int .u32 0,.int .u32 0,.int .u32 0,.int .u32 0,.int .u32 0,.int .u32 0,.int .u32 0,.int .u32 0,.int .u32 0,.int .u32 0,.int .u32 0,.int .u32 0,.int .u32 0,.int .u32 0,.int .u32 0,.int .u32 0,.int .u32 0,.int .u32 0,.int .u32 0,.int .u32 0,.int .u32 0],K256.map wv⟩ (by simp)).2
 intro vs tr w2 hl htl hm hG hV hAL hNE
 obtain ⟨v0,vs0,rfl,hl0⟩:=Ae hl
 obtain ⟨v1,vs1,rfl,hl1⟩:=Ae hl0
 obtain ⟨v2,vs2,rfl,hl2⟩:=Ae hl1
 obtain rfl:=Bl hl2
 obtain ⟨q0,fq0,hqB0,hqC0⟩:=hAL _ (by simp only [List.mem_cons,List.not_mem_nil,or_false];trivial)
 obtain rfl:v1=_:=Option.some.inj fq0
 clear hl hl0 hl1 hl2
 have ha0:=HA0.out
 subst ha0
 clear HA0 hV hsz0
 simp only [Ar,Act.put,sIB,sCZ,sCS,List.set_nil]
 have KK:=Lib.hid (show Ws 122 w2 q0 K256 from hqC0)
 have zk:=hqC0.lt
 have K22:=Lib.hid (K2.out.mod hm (by omega))
 have KM2:=Lib.hid (KM1.out.trans hm (fun k h1 h2=>by omega))
 clear hG hm hAL hNE hqC0 fq0 K2 KM1
 go_upto_region 2 with (fail)
 generalize ha0:Act.mk _ _=a0
 have hsz0:a0.tmps.size=269:=by rw [← ha0];rfl
 have HA0:=Lib.hid ha0
 clear ha0
 refine wp_region_A 269 hsz0 (by kernel_rfl) (by kernel_rfl) [25,4,271] (by kernel_rfl) (by decide) (fun j=>w2.heap.size≤j) (fun _ _=>False) (fun _ _ h=>h.elim) Still (fun _ _ _ h=>h) (fun _ _ _ hm h=>hm.trans h (fun _ _ h=>h.elim)) [gi (.agg (H256.map wv).toArray),ga,ga] ⟨Af,Bq,Bq,trivial⟩ [] (by kernel_rfl) (by decide) (by kernel_rfl) (fun _ _=>True) (fun _ _ _ _ _=>trivial) trivial [⟨1,2,120,[.int .u32 0,.int .u32 0,.int .u32 0,.int .u32 0,.int .u32 0,.int .u32 0,.int .u32 0,.int .u32 0],H256.map wv⟩] (by kernel_rfl) (by intro r hr;simp only [List.mem_cons,List.not_mem_nil,or_false] at hr;rcases hr with rfl<;>exact ⟨rfl,rfl⟩) (fun _ _ h=>h.elim) (fun _ h=>h) stillA (fun _ _ _ _ _ _=>trivial) (AllEnd.get _ ⟨gi_end,ga_end,ga_end,trivial⟩) (by intro r hr;simp only [List.mem_cons,List.not_mem_nil,or_false] at hr;rcases hr with rfl<;>exact ⟨of_decide_eq_true (by kernel_rfl),of_decide_eq_true (by kernel_rfl)⟩) (by intro r hr;simp only [List.mem_cons,List.not_mem_nil,or_false] at hr;rcases hr with rfl<;>exact fun _ _ _=>⟨trivial,trivial⟩) ⟨?_,?_,?_,trivial⟩ ?_
 ·refine ⟨fun r hr e=>?_,fun r hr e=>?_,fun hno=>?_⟩
  ·simp only [List.mem_cons,List.not_mem_nil,or_false] at hr
   rcases hr with rfl
   ·simp at e
  ·simp only [List.mem_cons,List.not_mem_nil,or_false] at hr
   rcases hr with rfl
   ·simp at e
  ·intro tr act w' hm hout hsz hd hG hk hub
   exact Aj (by rfl) rfl (Ab rfl) (ex_buildC rfl (parts:=[(0,.int .u32 1779033703),(1,.int .u32 3144134277),(2,.int .u32 1013904242),(3,.int .u32 2773480762),(4,.int .u32 1359893119),(5,.int .u32 2600822924),(6,.int .u32 528734635),(7,.int .u32 1541459225)]) (by simp only [List.map_toArray,List.map_cons,List.map_nil,Act.eval]) (by kernel_rfl)) (Mod.refl _ _) rfl
 ·refine ⟨fun r hr e=>?_,fun r hr e=>?_,fun hno=>?_⟩
  ·simp only [List.mem_cons,List.not_mem_nil,or_false] at hr
   rcases hr with rfl
   ·exact ⟨rfl,rfl,by kernel_rfl,(by rw [List.length_map,show H256.length=8 from rfl];rfl),(wv_one _),(by rw [List.length_map,show H256.length=8 from rfl];exact size_a8)⟩
  ·simp only [List.mem_cons,List.not_mem_nil,or_false] at hr
   rcases hr with rfl
   ·simp at e
  ·exact absurd rfl (hno ⟨1,2,120,[.int .u32 0,.int .u32 0,.int .u32 0,.int .u32 0,.int .u32 0,.int .u32 0,.int .u32 0,.int .u32 0],H256.map wv⟩ (by simp)).1
 ·refine ⟨fun r hr e=>?_,fun r hr e=>?_,fun hno=>?_⟩
  ·simp only [List.mem_cons,List.not_mem_nil,or_false] at hr
   rcases hr with rfl
   ·simp at e
  ·simp only [List.mem_cons,List.not_mem_nil,or_false] at hr
   rcases hr with rfl
   ·refine ⟨rfl,_,(.tmp 25),rfl,by decide,rfl,by kernel_rfl,by kernel_rfl,fun tr act w' hm hout hd hG=>?_⟩
    have h0:=hd ⟨0,.data⟩ (by simp) rfl _ rfl
    rw [show act.eval ((.tmp 25))=_ from h0]
    rfl
  ·exact absurd rfl (hno ⟨1,2,120,[.int .u32 0,.int .u32 0,.int .u32 0,.int .u32 0,.int .u32 0,.int .u32 0,.int .u32 0,.int .u32 0],H256.map wv⟩ (by simp)).2
 intro vs tr w3 hl htl hm hG hV hAL hNE
 obtain ⟨v0,vs0,rfl,hl0⟩:=Ae hl
 obtain ⟨v1,vs1,rfl,hl1⟩:=Ae hl0
 obtain ⟨v2,vs2,rfl,hl2⟩:=Ae hl1
 obtain rfl:=Bl hl2
 obtain ⟨q1,fq1,hqB1,hqC1⟩:=hAL _ (by simp only [List.mem_cons,List.not_mem_nil,or_false];trivial)
 obtain rfl:v1=_:=Option.some.inj fq1
 clear hl hl0 hl1 hl2
 have ha0:=HA0.out
 subst ha0
 clear HA0 hV hsz0
 simp only [Ar,Act.put,sIB,sCZ,sCS,List.set_nil]
 have zh:=hqC1.lt
 obtain ⟨B,hB⟩:∃ B,B=w3.heap.size:=⟨_,rfl⟩
 have KO:=Lib.hid (show RefO w q0 q1 H256 w3 from ⟨K22.out.mod hm (by omega),KK.out.mod hm (by omega),hqC1,KM2.out.trans hm (fun k h1 h2=>by omega)⟩)
 have hBk:q0 < B:=by have:=hm.size;omega
 have hBh:q1 < B:=by omega
 have hBw:w.heap.size < B:=by have:=hm.size;omega
 have hkh:q0≠q1:=by omega
 have hkw:w.heap.size < q0:=by omega
 have hhw:w.heap.size < q1:=by omega
 have z1:B≤w3.heap.size:=by omega
 have HR1:=Lib.hid (HR.out.mod KO.out.m (fun _ _ h=>h))
 clear hG hm hAL hNE hqC1 fq1 KK K22 KM2 zh zk hB hqB0 hqB1 hs1
 go_wp2_with (at_builtin;go_must (refine wpList_appR rfl (.const (.slice none 0 0)) (.tmp 26) rfl rfl (R:=fun k=>B≤k) (N:=0) (bs:=[]) ⟨OwnB.nil _,(fun g hg=>by cases hg),Nat.le_refl _⟩ rfl HR1.out (by omega) ?_))
 intro ao2 cap2 w4 hq2 hm2
 have KO2:=Lib.hid (KO.out.modB hm2 hBw hBk hBh)
 have z2:=hm2.size
 have HQ2:=Lib.hid (show FulB B w4 (.slice ao2 bs.length cap2) bs from ⟨hq2.1,fun g hg=>by have:=hq2.2.1 g hg;unfold New at this;omega,Nat.le_refl _⟩)
 clear hq2 hm2 KO HR1
 go_wp2_with (at_builtin;go_must (refine Bi rfl (.tmp 27) (.tmp 28) rfl rfl HQ2.out rfl (by omega) (by omega) (by omega) ?_))
 intro ao3 cap3 w5 hq3 hm3
 have KO3:=Lib.hid (KO2.out.modB hm3 hBw hBk hBh)
 have z3:=hm3.size
 have HQ3:=Lib.hid (show FulB B w5 (.slice ao3 (bs.length+1) cap3) (padded bs 0) from ⟨by have:=hq3.1;simpa [padded] using this,fun g hg=>by have:=hq3.2.1 g hg;unfold New at this;omega,by rw [padded_len];omega⟩)
 clear hq3 hm3 KO2 HQ2
 have hz:padZ bs.length≤63:=by unfold padZ;omega
 go_wp2
 go_loopw [5] (fun t5 wr=>∃ (j:Nat) (ao:Option Addr) (cap:Nat),t5=.slice ao (bs.length+1+j) cap∧j≤padZ bs.length∧FulB B wr (.slice ao (bs.length+1+j) cap) (padded bs j)∧B≤wr.heap.size∧RefO w q0 q1 H256 wr) (fun t5 _=>bs.length+1+padZ bs.length - lenOf t5)
 case atStart=>exact ⟨0,ao3,cap3,rfl,by omega,HQ3.out,by omega,KO3.out⟩
 case round=>
  obtain ⟨j,ao4,cap4,rfl,hj,hF,zr,hO⟩:=hrel
  have hiff:=pad_iff hj
  have KF:=Lib.hid hF
  have KO:=Lib.hid hO
  clear hF hO HQ3 KO3
  obtain ⟨n,hn⟩:∃ n,n=bs.length+1+j:=⟨_,rfl⟩
  rw [← hn] at KF hiff
  rw [← hn]
  have HN:=Lib.hid hn
  have hnb:n≤950000:=by omega
  clear hn
  by_cases hlt:j < padZ bs.length
  ·have h56:¬ ((n:Int) % 64=56):=by omega
   clear hiff
   go_wp2_with (at_builtin;go_must (refine Bi rfl (.tmp 34) (.tmp 35) rfl rfl KF.out rfl (by omega) (by omega) (by rw [padded_len];omega) ?_))
   intro ao5 cap5 w5 hq5 hm5
   have KO5:=Lib.hid (KO.out.modB hm5 hBw hBk hBh)
   have z5:=hm5.size
   rw [padded_succ] at hq5
   have hl5:(padded bs j).length=n:=by rw [padded_len,HN.out]
   rw [hl5] at hq5 ⊢
   have hl6:=padded_len bs (j+1)
   have HQ5:=Lib.hid (show FulB B w5 (.slice ao5 (n+1) cap5) (padded bs (j+1)) from ⟨hq5.1,fun g hg=>by have:=hq5.2.1 g hg;unfold New at this;omega,Nat.le_refl _⟩)
   clear hq5 hm5 hl5 hl6
   go_wp2
   go_roundw
   case rel=>exact ⟨j+1,ao5,cap5,by rw [HN.out,← Nat.add_assoc],by omega,by have:=HQ5.out;rw [HN.out,Nat.add_assoc] at this;exact this,by omega,KO5.out⟩
   case measure=>have:=HN.out;simp [lenOf];omega
  ·obtain rfl:j=padZ bs.length:=by omega
   have h56:(n:Int) % 64=56:=by omega
   have hl4:(padded bs (padZ bs.length)).length=n:=by rw [padded_len,HN.out]
   clear hiff
   go_wp2
   obtain ⟨x,hx⟩:∃ x:Int,x=(bs.length:Int) * 8:=⟨_,rfl⟩
   rw [← hx]
   have HX:=Lib.hid hx
   have HL4:=Lib.hid hl4
   clear hx hl4 h56
   have hfz:FulB B wr (.slice ao4 n cap4) (B9 bs 0):=by have:=KF.out;rw [show B9 bs 0=padded bs (padZ bs.length) by simp [B9]];exact this
   have HF0:=Lib.hid hfz
   clear hfz KF
   go_loopw [5,7] (fun t5 t7 wr=>∃ (i:Nat) (ao:Option Addr) (cap:Nat),t7=.int .i64 (7 - (i:Int))∧i≤8∧t5=.slice ao (n+i) cap∧FulB B wr (.slice ao (n+i) cap) (B9 bs i)∧B≤wr.heap.size∧RefO w q0 q1 H256 wr) (fun _ t7 _=>(intOf t7+1).toNat)
   case atStart=>exact ⟨0,ao4,cap4,rfl,by omega,rfl,HF0.out,zr,KO.out⟩
   case round=>
    obtain ⟨wi,rfl⟩:∃ x,x=wr:=⟨_,rfl⟩
    obtain ⟨i,ao6,cap6,rfl,hi,rfl,hF,zr2,hO⟩:=hrel
    clear KO HF0
    have KF:=Lib.hid hF
    have KO:=Lib.hid hO
    clear hF hO
    have hfl:=Bv bs i
    have hfl2:(B9 bs i).length=n+i:=by rw [hfl,HN.out]
    have HFL:=Lib.hid hfl2
    clear hfl hfl2
    by_cases hlt2:i < 8
    ·have hlb:=lenB_byte bs.length i
     have hlv:lenB bs.length i=x / 2 ^ (56 - 8 * i) % 256:=by rw [HX.out];rfl
     obtain ⟨y,hy⟩:∃ y,y=lenB bs.length i:=⟨_,rfl⟩
     rw [← hy] at hlb hlv
     have HY:=Lib.hid hy
     have HV:=Lib.hid hlv
     clear hy hlv
     have HI:=Lib.hid (show i < 8 from hlt2)
     match i,hlt2 with
     | 0,_=>
      have hv:y=x / 72057594037927936 % 256:=by rw [HV.out];simp
      have HVV:=Lib.hid hv
      rw [hv] at hlb
      clear hv
      rw [show (7:Int) - ((0:Nat):Int)=7 from rfl]
      go_wp2_with (at_builtin;go_must (refine Bi rfl (.tmp 45) (.tmp 52) rfl rfl KF.out rfl hlb.1 hlb.2 (by rw [HFL.out];omega) ?_))
      intro ao7 cap7 w7 hq7 hm7
      have KO7:=Lib.hid (KO.out.modB hm7 hBw hBk hBh)
      have z7:=hm7.size
      rw [← HVV.out,HY.out,Bz,HFL.out] at hq7
      rw [HFL.out]
      have hl7:=Bv bs (0+1)
      have hl8:=HN.out
      have HQ7:=Lib.hid (show FulB B w7 (.slice ao7 (n+0+1) cap7) (B9 bs (0+1)) from ⟨hq7.1,fun g hg=>by have:=hq7.2.1 g hg;unfold New at this;omega,Nat.le_refl _⟩)
      clear hq7 hm7 hl7 hl8 hlb
      go_wp2
      go_roundw
      case rel=>exact ⟨0+1,ao7,cap7,by rfl,by omega,rfl,HQ7.out,by omega,KO7.out⟩
      case measure=>first|(simp [intOf];done)|(simp [intOf];omega)
     | 1,_=>
      have hv:y=x / 281474976710656 % 256:=by rw [HV.out];simp
      have HVV:=Lib.hid hv
      rw [hv] at hlb
      clear hv
      rw [show (7:Int) - ((1:Nat):Int)=6 from rfl]
      go_wp2_with (at_builtin;go_must (refine Bi rfl (.tmp 45) (.tmp 52) rfl rfl KF.out rfl hlb.1 hlb.2 (by rw [HFL.out];omega) ?_))
      intro ao7 cap7 w7 hq7 hm7
      have KO7:=Lib.hid (KO.out.modB hm7 hBw hBk hBh)
      have z7:=hm7.size
      rw [← HVV.out,HY.out,Bz,HFL.out] at hq7
      rw [HFL.out]
      have hl7:=Bv bs (1+1)
      have hl8:=HN.out
      have HQ7:=Lib.hid (show FulB B w7 (.slice ao7 (n+1+1) cap7) (B9 bs (1+1)) from ⟨hq7.1,fun g hg=>by have:=hq7.2.1 g hg;unfold New at this;omega,Nat.le_refl _⟩)
      clear hq7 hm7 hl7 hl8 hlb
      go_wp2
      go_roundw
      case rel=>exact ⟨1+1,ao7,cap7,by rfl,by omega,rfl,HQ7.out,by omega,KO7.out⟩
      case measure=>first|(simp [intOf];done)|(simp [intOf];omega)
     | 2,_=>
      have hv:y=x / 1099511627776 % 256:=by rw [HV.out];simp
      have HVV:=Lib.hid hv
      rw [hv] at hlb
      clear hv
      rw [show (7:Int) - ((2:Nat):Int)=5 from rfl]
      go_wp2_with (at_builtin;go_must (refine Bi rfl (.tmp 45) (.tmp 52) rfl rfl KF.out rfl hlb.1 hlb.2 (by rw [HFL.out];omega) ?_))
      intro ao7 cap7 w7 hq7 hm7
      have KO7:=Lib.hid (KO.out.modB hm7 hBw hBk hBh)
      have z7:=hm7.size
      rw [← HVV.out,HY.out,Bz,HFL.out] at hq7
      rw [HFL.out]
      have hl7:=Bv bs (2+1)
      have hl8:=HN.out
      have HQ7:=Lib.hid (show FulB B w7 (.slice ao7 (n+2+1) cap7) (B9 bs (2+1)) from ⟨hq7.1,fun g hg=>by have:=hq7.2.1 g hg;unfold New at this;omega,Nat.le_refl _⟩)
      clear hq7 hm7 hl7 hl8 hlb
      go_wp2
      go_roundw
      case rel=>exact ⟨2+1,ao7,cap7,by rfl,by omega,rfl,HQ7.out,by omega,KO7.out⟩
      case measure=>first|(simp [intOf];done)|(simp [intOf];omega)
     | 3,_=>
      have hv:y=x / 4294967296 % 256:=by rw [HV.out];simp
      have HVV:=Lib.hid hv
      rw [hv] at hlb
      clear hv
      rw [show (7:Int) - ((3:Nat):Int)=4 from rfl]
      go_wp2_with (at_builtin;go_must (refine Bi rfl (.tmp 45) (.tmp 52) rfl rfl KF.out rfl hlb.1 hlb.2 (by rw [HFL.out];omega) ?_))
      intro ao7 cap7 w7 hq7 hm7
      have KO7:=Lib.hid (KO.out.modB hm7 hBw hBk hBh)
      have z7:=hm7.size
      rw [← HVV.out,HY.out,Bz,HFL.out] at hq7
      rw [HFL.out]
      have hl7:=Bv bs (3+1)
      have hl8:=HN.out
      have HQ7:=Lib.hid (show FulB B w7 (.slice ao7 (n+3+1) cap7) (B9 bs (3+1)) from ⟨hq7.1,fun g hg=>by have:=hq7.2.1 g hg;unfold New at this;omega,Nat.le_refl _⟩)
      clear hq7 hm7 hl7 hl8 hlb
      go_wp2
      go_roundw
      case rel=>exact ⟨3+1,ao7,cap7,by rfl,by omega,rfl,HQ7.out,by omega,KO7.out⟩
      case measure=>first|(simp [intOf];done)|(simp [intOf];omega)
     | 4,_=>
      have hv:y=x / 16777216 % 256:=by rw [HV.out];simp
      have HVV:=Lib.hid hv
      rw [hv] at hlb
      clear hv
      rw [show (7:Int) - ((4:Nat):Int)=3 from rfl]
      go_wp2_with (at_builtin;go_must (refine Bi rfl (.tmp 45) (.tmp 52) rfl rfl KF.out rfl hlb.1 hlb.2 (by rw [HFL.out];omega) ?_))
      intro ao7 cap7 w7 hq7 hm7
      have KO7:=Lib.hid (KO.out.modB hm7 hBw hBk hBh)
      have z7:=hm7.size
      rw [← HVV.out,HY.out,Bz,HFL.out] at hq7
      rw [HFL.out]
      have hl7:=Bv bs (4+1)
      have hl8:=HN.out
      have HQ7:=Lib.hid (show FulB B w7 (.slice ao7 (n+4+1) cap7) (B9 bs (4+1)) from ⟨hq7.1,fun g hg=>by have:=hq7.2.1 g hg;unfold New at this;omega,Nat.le_refl _⟩)
      clear hq7 hm7 hl7 hl8 hlb
      go_wp2
      go_roundw
      case rel=>exact ⟨4+1,ao7,cap7,by rfl,by omega,rfl,HQ7.out,by omega,KO7.out⟩
      case measure=>first|(simp [intOf];done)|(simp [intOf];omega)
     | 5,_=>
      have hv:y=x / 65536 % 256:=by rw [HV.out];simp
      have HVV:=Lib.hid hv
      rw [hv] at hlb
      clear hv
      rw [show (7:Int) - ((5:Nat):Int)=2 from rfl]
      go_wp2_with (at_builtin;go_must (refine Bi rfl (.tmp 45) (.tmp 52) rfl rfl KF.out rfl hlb.1 hlb.2 (by rw [HFL.out];omega) ?_))
      intro ao7 cap7 w7 hq7 hm7
      have KO7:=Lib.hid (KO.out.modB hm7 hBw hBk hBh)
      have z7:=hm7.size
      rw [← HVV.out,HY.out,Bz,HFL.out] at hq7
      rw [HFL.out]
      have hl7:=Bv bs (5+1)
      have hl8:=HN.out
      have HQ7:=Lib.hid (show FulB B w7 (.slice ao7 (n+5+1) cap7) (B9 bs (5+1)) from ⟨hq7.1,fun g hg=>by have:=hq7.2.1 g hg;unfold New at this;omega,Nat.le_refl _⟩)
      clear hq7 hm7 hl7 hl8 hlb
      go_wp2
      go_roundw
      case rel=>exact ⟨5+1,ao7,cap7,by rfl,by omega,rfl,HQ7.out,by omega,KO7.out⟩
      case measure=>first|(simp [intOf];done)|(simp [intOf];omega)
     | 6,_=>
      have hv:y=x / 256 % 256:=by rw [HV.out];simp
      have HVV:=Lib.hid hv
      rw [hv] at hlb
      clear hv
      rw [show (7:Int) - ((6:Nat):Int)=1 from rfl]
      go_wp2_with (at_builtin;go_must (refine Bi rfl (.tmp 45) (.tmp 52) rfl rfl KF.out rfl hlb.1 hlb.2 (by rw [HFL.out];omega) ?_))
      intro ao7 cap7 w7 hq7 hm7
      have KO7:=Lib.hid (KO.out.modB hm7 hBw hBk hBh)
      have z7:=hm7.size
      rw [← HVV.out,HY.out,Bz,HFL.out] at hq7
      rw [HFL.out]
      have hl7:=Bv bs (6+1)
      have hl8:=HN.out
      have HQ7:=Lib.hid (show FulB B w7 (.slice ao7 (n+6+1) cap7) (B9 bs (6+1)) from ⟨hq7.1,fun g hg=>by have:=hq7.2.1 g hg;unfold New at this;omega,Nat.le_refl _⟩)
      clear hq7 hm7 hl7 hl8 hlb
      go_wp2
      go_roundw
      case rel=>exact ⟨6+1,ao7,cap7,by rfl,by omega,rfl,HQ7.out,by omega,KO7.out⟩
      case measure=>first|(simp [intOf];done)|(simp [intOf];omega)
     | 7,_=>
      have hv:y=x % 256:=by rw [HV.out];simp
      have HVV:=Lib.hid hv
      rw [hv] at hlb
      clear hv
      rw [show (7:Int) - ((7:Nat):Int)=0 from rfl]
      go_wp2_with (at_builtin;go_must (refine Bi rfl (.tmp 45) (.tmp 52) rfl rfl KF.out rfl hlb.1 hlb.2 (by rw [HFL.out];omega) ?_))
      intro ao7 cap7 w7 hq7 hm7
      have KO7:=Lib.hid (KO.out.modB hm7 hBw hBk hBh)
      have z7:=hm7.size
      rw [← HVV.out,HY.out,Bz,HFL.out] at hq7
      rw [HFL.out]
      have hl7:=Bv bs (7+1)
      have hl8:=HN.out
      have HQ7:=Lib.hid (show FulB B w7 (.slice ao7 (n+7+1) cap7) (B9 bs (7+1)) from ⟨hq7.1,fun g hg=>by have:=hq7.2.1 g hg;unfold New at this;omega,Nat.le_refl _⟩)
      clear hq7 hm7 hl7 hl8 hlb
      go_wp2
      go_roundw
      case rel=>exact ⟨7+1,ao7,cap7,by rfl,by omega,rfl,HQ7.out,by omega,KO7.out⟩
      case measure=>first|(simp [intOf];done)|(simp [intOf];omega)
    ·obtain rfl:i=8:=by omega
     obtain ⟨fb,hfb⟩:∃ fb,fb=fullB bs:=⟨_,rfl⟩
     have hL:fb.length=n+8:=by rw [hfb];exact HFL.out
     have hdiv:fb.length % 64=0:=by rw [hfb];exact full_div bs
     have hFF:FulB B wi (.slice ao6 (n+8) cap6) fb:=by rw [hfb];exact KF.out
     have HFB:=Lib.hid hfb
     have HDIV:=Lib.hid hdiv
     have HL:=Lib.hid hL
     rcases hFF.1.rd.form with ⟨h0,-⟩|⟨gm,om,capm,-,he,hcm1,hcm2,hcell⟩
     ·rw [h0] at hL;simp at hL
     simp only [Value.slice.injEq] at he
     obtain ⟨rfl,-,rfl⟩:=he
     have hgm:B≤gm:=hFF.2.1 gm rfl
     have HCE:=Lib.hid (show ∀ j,j < fb.length→wi.cell? ⟨gm,om+j,none⟩=some (bv (fb.getD j 0)) from fun j hj=>by rw [hcell j hj];simp [List.getD,List.getElem?_eq_getElem hj])
     have HBY:=Lib.hid hFF.1.rd.1
     have hcm:n+8≤cap6:=by rw [← hL];exact hcm1
     have hg7:gm < wi.heap.size:=hFF.1.rd.block_lt (by omega) gm rfl
     clear hfb hFF hdiv KF HFL hcell hcm1 hcm2 hL
     rw [show (7:Int) - ((8:Nat):Int)=-1 from rfl]
     have hn8:n+8≤960000:=by omega
     go_wp2
     go_loopw [8] (fun t8 wr=>∃ (t:Nat),t8=.int .i64 ((64 * t:Nat):Int)∧64 * t≤n+8∧RefO w q0 q1 (blocksTo fb t) wr∧(∀ j,j < fb.length→wr.cell? ⟨gm,om+j,none⟩=some (bv (fb.getD j 0)))∧gm < wr.heap.size∧B≤wr.heap.size) (fun t8 _=>(n+8) - (intOf t8).toNat)
     case atStart=>exact ⟨0,rfl,by omega,KO.out,HCE.out,hg7,zr2⟩
     case round=>
      obtain ⟨wj,rfl⟩:∃ x,x=wr:=⟨_,rfl⟩
      obtain ⟨t,rfl,ht,hO,hC,hgj,zj⟩:=hrel
      have KOj:=Lib.hid hO
      have HCj:=Lib.hid hC
      obtain ⟨q,hq⟩:∃ q,q=64 * t:=⟨_,rfl⟩
      rw [← hq] at ht
      rw [← hq]
      have HQ:=Lib.hid hq
      have HLn:=HL.out
      have HDn:=HDIV.out
      clear hO hC KO HCE
      obtain ⟨H,hH⟩:∃ H,H=blocksTo fb t:=⟨_,rfl⟩
      have HHL:=Lib.hid (show H.length=8 by rw [hH];exact blocks_len fb t)
      rw [← hH] at KOj
      by_cases hlt:q < n+8
      ·have h64:q+64≤n+8:=by omega
       clear HLn HDn
       obtain ⟨D,hD⟩:∃ D,D=fb.drop q:=⟨_,rfl⟩
       have HD:=Lib.hid hD
       have HDL:=Lib.hid (show D.length=n+8 - q by rw [hD,List.length_drop,HL.out])
       have HCD0:=Lib.hid (show ∀ j,j < D.length→wj.cell? ⟨gm,om+(q+j),none⟩=some (bv (D.getD j 0)) from fun j hj=>by
        have hj':=hj
        rw [HDL.out] at hj'
        rw [HCj.out (q+j) (by rw [HL.out];omega),hD]
        simp [List.getD,List.getElem?_drop])
       have HNEXT:=Lib.hid (show mixF H K256 D=blocksTo fb (t+1) by rw [blocks_succ,hH,hD,HQ.out])
       clear hD hH hq
       go_upto_region 15 with (fail)
       obtain ⟨wa,hwa⟩:∃ z,z=wj.alloc (.cells ((List.replicate 64 0).map wv).toArray 122):=⟨_,rfl⟩
       change Code.wp _ _ _ _ (wj.alloc (.cells ((List.replicate 64 0).map wv).toArray 122))
       rw [← hwa]
       obtain ⟨g9,hg9⟩:∃ g,g=wj.heap.size:=⟨_,rfl⟩
       rw [← hg9]
       have hma:Mod (fun _=>False) wj wa:=by rw [hwa];exact (Mod.refl _ _).alloc _
       have KW0:=Lib.hid (show Ws 122 wa g9 (w16 D 0) by rw [hwa,hg9];exact Cs.new _ _ _)
       have KOa:=Lib.hid (KOj.out.still hma)
       have HCa:=Lib.hid (show ∀ j,j < D.length→wa.cell? ⟨gm,om+(q+j),none⟩=some (bv (D.getD j 0)) from fun j hj=>hma.cell (HCD0.out j hj) (fun h=>h))
       have HCfa:=Lib.hid (show ∀ j,j < fb.length→wa.cell? ⟨gm,om+j,none⟩=some (bv (fb.getD j 0)) from fun j hj=>hma.cell (HCj.out j hj) (fun h=>h))
       have za:wa.heap.size=g9+1:=by rw [hwa,hg9];simp
       have hb9:B≤g9:=by omega
       have hgm9:gm < g9:=by omega
       clear hwa hma KOj HCj HCD0 hg9 zj hgj
       go_wp2
       go_loopw [10] (fun t10 wr=>∃ (i:Nat),t10=.int .i64 i∧i≤16∧Ws 122 wr g9 (w16 D i)∧Mod (fun k=>k=g9) wa wr) (fun t10 _=>16 - (intOf t10).toNat)
       case atStart=>exact ⟨0,rfl,by omega,KW0.out,Mod.refl _ _⟩
       case round=>
        obtain ⟨wd,rfl⟩:∃ x,x=wr:=⟨_,rfl⟩
        obtain ⟨i,rfl,hi,hW,hmd⟩:=hrel
        have HW:=Lib.hid hW
        have KMd:=Lib.hid hmd
        clear hW hmd KW0
        by_cases hi16:i < 16
        ·have hdl:=HDL.out
         go_upto_region 18 with (fail)
         generalize ha0:Act.mk _ _=a0
         have oe5:a0.eval (.tmp 5)=.slice (some ⟨gm,om,none⟩) (n+8) cap6:=by rw [← ha0];rfl
         have oe8:a0.eval (.tmp 8)=.int .i64 ((q:Nat):Int):=by rw [← ha0];rfl
         have oe10:a0.eval (.tmp 10)=.int .i64 ((i:Nat):Int):=by rw [← ha0];rfl
         have hsz0:a0.tmps.size=269:=by rw [← ha0];rfl
         have HA0:=Lib.hid ha0
         clear ha0
         refine Bf 269 hsz0 (by kernel_rfl) (by kernel_rfl) [64,65,66,67,68,69,11] (by kernel_rfl) (by decide) (fun _=>False) (fun _ _=>False) (fun _ _ h=>h) Still (fun _ _ _ h=>h) (fun _ _ _ hm h=>hm.trans h (fun _ _ h=>h.elim)) [gi (.slice (some ⟨gm,om,none⟩) (n+8) cap6),gi (.int .i64 ((q:Nat):Int)),gi (.int .i64 ((i:Nat):Int)),gi (.int .i64 ((4 * i:Nat):Int)),gi (.int .i64 ((q+4 * i:Nat):Int)),gi (.slice (some ⟨gm,om+(q+4 * i),none⟩) (n+8 - (q+4 * i)) (cap6 - (q+4 * i))),gi (.slice (some ⟨gm,om+(q+4 * i),none⟩) (n+8 - (q+4 * i)) (cap6 - (q+4 * i)))] ⟨Af,Af,Af,Af,Af,Af,Af,trivial⟩ [] (by kernel_rfl) (by decide) (by kernel_rfl) (fun _ _=>True) (fun _ _ _ _ _=>trivial) trivial ⟨?_,?_,?_,?_,?_,?_,?_,trivial⟩ ?_
         ·intro tr act w' hm hout hsz hd hG hk hub
          exact Aj (by rfl) rfl (Ab rfl) (Ah rfl ((hout 5 (by decide)).trans oe5)) (Mod.refl _ _) rfl
         ·intro tr act w' hm hout hsz hd hG hk hub
          exact Aj (by rfl) rfl (Ab rfl) (Ah rfl ((hout 8 (by decide)).trans oe8)) (Mod.refl _ _) rfl
         ·intro tr act w' hm hout hsz hd hG hk hub
          exact Aj (by rfl) rfl (Ab rfl) (Ah rfl ((hout 10 (by decide)).trans oe10)) (Mod.refl _ _) rfl
         ·intro tr act w' hm hout hsz hd hG hk hub
          have h2:=hd ⟨2,.data⟩ (by simp) rfl _ rfl
          refine Aj (by rfl) rfl (Ab rfl) (A7 rfl rfl h2 (Ak _ _ _ _ _ _) (run_mul_i _ _)) (Mod.refl _ _) ?_
          exact congrArg (Value.int .i64) (by rw [IntWalk.i64_in _ (by omega)];omega)
         ·intro tr act w' hm hout hsz hd hG hk hub
          have h1:=hd ⟨1,.data⟩ (by simp) rfl _ rfl
          have h3:=hd ⟨3,.data⟩ (by simp) rfl _ rfl
          refine Aj (by rfl) rfl (Ab rfl) (A7 rfl h1 h3 (Ak _ _ _ _ _ _) (Be _ _ Try.underlying3)) (Mod.refl _ _) ?_
          exact congrArg (Value.int .i64) (by rw [IntWalk.i64_in _ (by omega)];omega)
         ·intro tr act w' hm hout hsz hd hG hk hub
          have h0:=hd ⟨0,.data⟩ (by simp) rfl _ rfl
          have h4:=hd ⟨4,.data⟩ (by simp) rfl _ rfl
          exact Aj (by rfl) rfl (Ab rfl) (ex_sliceLo rfl Try.underlying38 (by kernel_rfl) h0 h4 (by omega) (by omega)) (Mod.refl _ _) rfl
         ·intro tr act w' hm hout hsz hd hG hk hub
          have h5:=hd ⟨5,.data⟩ (by simp) rfl _ rfl
          exact Aj (by rfl) rfl (Ab rfl) (An rfl h5) (Mod.refl _ _) rfl
         intro vs tr w18 hl htl hm hG hV
         obtain ⟨v0,vs0,rfl,hl0⟩:=Ae hl
         obtain ⟨v1,vs1,rfl,hl1⟩:=Ae hl0
         obtain ⟨v2,vs2,rfl,hl2⟩:=Ae hl1
         obtain ⟨v3,vs3,rfl,hl3⟩:=Ae hl2
         obtain ⟨v4,vs4,rfl,hl4⟩:=Ae hl3
         obtain ⟨v5,vs5,rfl,hl5⟩:=Ae hl4
         obtain ⟨v6,vs6,rfl,hl6⟩:=Ae hl5
         obtain rfl:=Bl hl6
         clear hl hl0 hl1 hl2 hl3 hl4 hl5 hl6
         obtain rfl:v6=.slice (some ⟨gm,om+(q+4 * i),none⟩) (n+8 - (q+4 * i)) (cap6 - (q+4 * i)):=hV 6 _ rfl
         have ha0:=HA0.out
         subst ha0
         clear HA0 hV hsz0 oe5 oe8 oe10
         simp only [Ar,Act.put,sIB,sCZ,sCS]
         have HW2:=Lib.hid (show ByLen (RsW g9 122 ((w16 D i).map wv) ((w16 D (i+1)).map wv)) [] w18 from HW.out.mod hm (fun h=>h))
         have KM2:=Lib.hid (KMd.out.trans hm (fun _ _ h=>h.elim))
         have HCD:=Lib.hid (show ∀ j,j < D.length→w18.cell? ⟨gm,om+(q+j),none⟩=some (bv (D.getD j 0)) from fun j hj=>KM2.out.cell (HCa.out j hj) (by show ¬ gm=g9;omega))
         clear hG hm htl HW KMd
         have HW:=Lib.hid HW2.out
         clear HW2
         have HWA:=Lib.hid (show (bits .or .u32 (bits .or .u32 (bits .or .u32 (IntKind.u32.wrap ((IntKind.u32.wrap (D.getD (4 * i+0) 0)) * 2 ^ 24)) (IntKind.u32.wrap ((IntKind.u32.wrap (D.getD (4 * i+1) 0)) * 2 ^ 16))) (IntKind.u32.wrap ((IntKind.u32.wrap (D.getD (4 * i+2) 0)) * 2 ^ 8))) (IntKind.u32.wrap (D.getD (4 * i+3) 0)))=wAt D i by simp only [wAt,wordOf,IntKind.wrap_u32];rfl)
         go_upto_region 19 with (fail)
         generalize ha0:Act.mk _ _=a0
         have oe9:a0.eval (.tmp 9)=.pointer (some ⟨g9,0,none⟩):=by rw [← ha0];rfl
         have oe10:a0.eval (.tmp 10)=.int .i64 ((i:Nat):Int):=by rw [← ha0];rfl
         have oe11:a0.eval (.tmp 11)=.slice (some ⟨gm,om+(q+4 * i),none⟩) (n+8 - (q+4 * i)) (cap6 - (q+4 * i)):=by rw [← ha0];rfl
         have hsz0:a0.tmps.size=269:=by rw [← ha0];rfl
         have HA0:=Lib.hid ha0
         clear ha0
         refine Bf 269 hsz0 (by kernel_rfl) (by kernel_rfl) [70,71,72,73,74,75,76,77,78,79,80,81,82,83,84,85,86,87,88,89,90,91,92,93,293] (by kernel_rfl) (by decide) (fun j=>j=g9) (fun _ j=>j=g9) (fun _ _ h=>h) Still (fun _ _ _ h=>h) (fun _ _ _ hm h=>hm.trans h (fun _ _ h=>h.elim)) [gi (.int .i64 ((i:Nat):Int)),gi (.slice (some ⟨gm,om+(q+4 * i),none⟩) (n+8 - (q+4 * i)) (cap6 - (q+4 * i))),gi (.pointer (some ⟨gm,om+(q+4 * i)+0 * 1,none⟩)),gi (.int .u8 (D.getD (4 * i+0) 0)),gi (.int .u32 (IntKind.u32.wrap (D.getD (4 * i+0) 0))),gi (.int .u32 (IntKind.u32.wrap ((IntKind.u32.wrap (D.getD (4 * i+0) 0)) * 2 ^ 24))),gi (.slice (some ⟨gm,om+(q+4 * i),none⟩) (n+8 - (q+4 * i)) (cap6 - (q+4 * i))),gi (.pointer (some ⟨gm,om+(q+4 * i)+1 * 1,none⟩)),gi (.int .u8 (D.getD (4 * i+1) 0)),gi (.int .u32 (IntKind.u32.wrap (D.getD (4 * i+1) 0))),gi (.int .u32 (IntKind.u32.wrap ((IntKind.u32.wrap (D.getD (4 * i+1) 0)) * 2 ^ 16))),gi (.int .u32 (bits .or .u32 (IntKind.u32.wrap ((IntKind.u32.wrap (D.getD (4 * i+0) 0)) * 2 ^ 24)) (IntKind.u32.wrap ((IntKind.u32.wrap (D.getD (4 * i+1) 0)) * 2 ^ 16)))),gi (.slice (some ⟨gm,om+(q+4 * i),none⟩) (n+8 - (q+4 * i)) (cap6 - (q+4 * i))),gi (.pointer (some ⟨gm,om+(q+4 * i)+2 * 1,none⟩)),gi (.int .u8 (D.getD (4 * i+2) 0)),gi (.int .u32 (IntKind.u32.wrap (D.getD (4 * i+2) 0))),gi (.int .u32 (IntKind.u32.wrap ((IntKind.u32.wrap (D.getD (4 * i+2) 0)) * 2 ^ 8))),gi (.int .u32 (bits .or .u32 (bits .or .u32 (IntKind.u32.wrap ((IntKind.u32.wrap (D.getD (4 * i+0) 0)) * 2 ^ 24)) (IntKind.u32.wrap ((IntKind.u32.wrap (D.getD (4 * i+1) 0)) * 2 ^ 16))) (IntKind.u32.wrap ((IntKind.u32.wrap (D.getD (4 * i+2) 0)) * 2 ^ 8)))),gi (.slice (some ⟨gm,om+(q+4 * i),none⟩) (n+8 - (q+4 * i)) (cap6 - (q+4 * i))),gi (.pointer (some ⟨gm,om+(q+4 * i)+3 * 1,none⟩)),gi (.int .u8 (D.getD (4 * i+3) 0)),gi (.int .u32 (IntKind.u32.wrap (D.getD (4 * i+3) 0))),gi (.int .u32 (bits .or .u32 (bits .or .u32 (bits .or .u32 (IntKind.u32.wrap ((IntKind.u32.wrap (D.getD (4 * i+0) 0)) * 2 ^ 24)) (IntKind.u32.wrap ((IntKind.u32.wrap (D.getD (4 * i+1) 0)) * 2 ^ 16))) (IntKind.u32.wrap ((IntKind.u32.wrap (D.getD (4 * i+2) 0)) * 2 ^ 8))) (IntKind.u32.wrap (D.getD (4 * i+3) 0)))),gi (.pointer (some ⟨g9,0+i * 1,none⟩)),ga] ⟨Af,Af,Af,Af,Af,Af,Af,Af,Af,Af,Af,Af,Af,Af,Af,Af,Af,Af,Af,Af,Af,Af,Af,Af,Bq,trivial⟩ [24] (by kernel_rfl) (by decide) (by kernel_rfl) (ByLen (RsW g9 122 ((w16 D i).map wv) ((w16 D (i+1)).map wv))) (ByLen.still RsW_still) HW.out ⟨?_,?_,?_,?_,?_,?_,?_,?_,?_,?_,?_,?_,?_,?_,?_,?_,?_,?_,?_,?_,?_,?_,?_,?_,?_,trivial⟩ ?_
         ·intro tr act w' hm hout hsz hd hG hk hub
          exact Aj (by rfl) rfl (Ab rfl) (Ah rfl ((hout 10 (by decide)).trans oe10)) (Mod.refl _ _) rfl
         ·intro tr act w' hm hout hsz hd hG hk hub
          exact Aj (by rfl) rfl (Ab rfl) (Ah rfl ((hout 11 (by decide)).trans oe11)) (Mod.refl _ _) rfl
         ·intro tr act w' hm hout hsz hd hG hk hub
          have h1:=hd ⟨1,.data⟩ (by simp) rfl _ rfl
          exact Aj (by rfl) rfl (Ab rfl) (ex_idxS (i:=0) rfl Try.underlying38 (by kernel_rfl) h1 rfl (by omega)) (Mod.refl _ _) rfl
         ·intro tr act w' hm hout hsz hd hG hk hub
          have h2:=hd ⟨2,.data⟩ (by simp) rfl _ rfl
          exact Aj (by rfl) rfl (Ab rfl) (Am rfl Try.underlying5 rfl h2 (by rw [show om+(q+4 * i)+0 * 1=om+(q+(4 * i+0)) by omega];exact hm.cell (HCD.out (4 * i+0) (by omega)) (by show ¬ gm=g9;omega))) (Mod.refl _ _) rfl
         ·intro tr act w' hm hout hsz hd hG hk hub
          have h3:=hd ⟨3,.data⟩ (by simp) rfl _ rfl
          exact Aj (by rfl) rfl (Ab rfl) (ex_convI rfl (by kernel_rfl) Try.underlying119 h3) (Mod.refl _ _) rfl
         ·intro tr act w' hm hout hsz hd hG hk hub
          have h4:=hd ⟨4,.data⟩ (by simp) rfl _ rfl
          exact Aj (by rfl) rfl (Ab rfl) (A7 rfl h4 rfl (by simp [eqGuard]) (run_shl_n 24 _ (by decide))) (Mod.refl _ _) rfl
         ·intro tr act w' hm hout hsz hd hG hk hub
          exact Aj (by rfl) rfl (Ab rfl) (Ah rfl ((hout 11 (by decide)).trans oe11)) (Mod.refl _ _) rfl
         ·intro tr act w' hm hout hsz hd hG hk hub
          have h6:=hd ⟨6,.data⟩ (by simp) rfl _ rfl
          exact Aj (by rfl) rfl (Ab rfl) (ex_idxS (i:=1) rfl Try.underlying38 (by kernel_rfl) h6 rfl (by omega)) (Mod.refl _ _) rfl
         ·intro tr act w' hm hout hsz hd hG hk hub
          have h7:=hd ⟨7,.data⟩ (by simp) rfl _ rfl
          exact Aj (by rfl) rfl (Ab rfl) (Am rfl Try.underlying5 rfl h7 (by rw [show om+(q+4 * i)+1 * 1=om+(q+(4 * i+1)) by omega];exact hm.cell (HCD.out (4 * i+1) (by omega)) (by show ¬ gm=g9;omega))) (Mod.refl _ _) rfl
         ·intro tr act w' hm hout hsz hd hG hk hub
          have h8:=hd ⟨8,.data⟩ (by simp) rfl _ rfl
          exact Aj (by rfl) rfl (Ab rfl) (ex_convI rfl (by kernel_rfl) Try.underlying119 h8) (Mod.refl _ _) rfl
         ·intro tr act w' hm hout hsz hd hG hk hub
          have h9:=hd ⟨9,.data⟩ (by simp) rfl _ rfl
          exact Aj (by rfl) rfl (Ab rfl) (A7 rfl h9 rfl (by simp [eqGuard]) (run_shl_n 16 _ (by decide))) (Mod.refl _ _) rfl
         ·intro tr act w' hm hout hsz hd hG hk hub
          have h5:=hd ⟨5,.data⟩ (by simp) rfl _ rfl
          have h10:=hd ⟨10,.data⟩ (by simp) rfl _ rfl
          exact Aj (by rfl) rfl (Ab rfl) (A7 rfl h5 h10 (Ak _ _ _ _ _ _) (run_or_i _ _)) (Mod.refl _ _) rfl
         ·intro tr act w' hm hout hsz hd hG hk hub
          exact Aj (by rfl) rfl (Ab rfl) (Ah rfl ((hout 11 (by decide)).trans oe11)) (Mod.refl _ _) rfl
         ·intro tr act w' hm hout hsz hd hG hk hub
          have h12:=hd ⟨12,.data⟩ (by simp) rfl _ rfl
          exact Aj (by rfl) rfl (Ab rfl) (ex_idxS (i:=2) rfl Try.underlying38 (by kernel_rfl) h12 rfl (by omega)) (Mod.refl _ _) rfl
         ·intro tr act w' hm hout hsz hd hG hk hub
          have h13:=hd ⟨13,.data⟩ (by simp) rfl _ rfl
          exact Aj (by rfl) rfl (Ab rfl) (Am rfl Try.underlying5 rfl h13 (by rw [show om+(q+4 * i)+2 * 1=om+(q+(4 * i+2)) by omega];exact hm.cell (HCD.out (4 * i+2) (by omega)) (by show ¬ gm=g9;omega))) (Mod.refl _ _) rfl
         ·intro tr act w' hm hout hsz hd hG hk hub
          have h14:=hd ⟨14,.data⟩ (by simp) rfl _ rfl
          exact Aj (by rfl) rfl (Ab rfl) (ex_convI rfl (by kernel_rfl) Try.underlying119 h14) (Mod.refl _ _) rfl
         ·intro tr act w' hm hout hsz hd hG hk hub
          have h15:=hd ⟨15,.data⟩ (by simp) rfl _ rfl
          exact Aj (by rfl) rfl (Ab rfl) (A7 rfl h15 rfl (by simp [eqGuard]) (run_shl_n 8 _ (by decide))) (Mod.refl _ _) rfl
         ·intro tr act w' hm hout hsz hd hG hk hub
          have h11:=hd ⟨11,.data⟩ (by simp) rfl _ rfl
          have h16:=hd ⟨16,.data⟩ (by simp) rfl _ rfl
          exact Aj (by rfl) rfl (Ab rfl) (A7 rfl h11 h16 (Ak _ _ _ _ _ _) (run_or_i _ _)) (Mod.refl _ _) rfl
         ·intro tr act w' hm hout hsz hd hG hk hub
          exact Aj (by rfl) rfl (Ab rfl) (Ah rfl ((hout 11 (by decide)).trans oe11)) (Mod.refl _ _) rfl
         ·intro tr act w' hm hout hsz hd hG hk hub
          have h18:=hd ⟨18,.data⟩ (by simp) rfl _ rfl
          exact Aj (by rfl) rfl (Ab rfl) (ex_idxS (i:=3) rfl Try.underlying38 (by kernel_rfl) h18 rfl (by omega)) (Mod.refl _ _) rfl
         ·intro tr act w' hm hout hsz hd hG hk hub
          have h19:=hd ⟨19,.data⟩ (by simp) rfl _ rfl
          exact Aj (by rfl) rfl (Ab rfl) (Am rfl Try.underlying5 rfl h19 (by rw [show om+(q+4 * i)+3 * 1=om+(q+(4 * i+3)) by omega];exact hm.cell (HCD.out (4 * i+3) (by omega)) (by show ¬ gm=g9;omega))) (Mod.refl _ _) rfl
         ·intro tr act w' hm hout hsz hd hG hk hub
          have h20:=hd ⟨20,.data⟩ (by simp) rfl _ rfl
          exact Aj (by rfl) rfl (Ab rfl) (ex_convI rfl (by kernel_rfl) Try.underlying119 h20) (Mod.refl _ _) rfl
         ·intro tr act w' hm hout hsz hd hG hk hub
          have h17:=hd ⟨17,.data⟩ (by simp) rfl _ rfl
          have h21:=hd ⟨21,.data⟩ (by simp) rfl _ rfl
          exact Aj (by rfl) rfl (Ab rfl) (A7 rfl h17 h21 (Ak _ _ _ _ _ _) (run_or_i _ _)) (Mod.refl _ _) rfl
         ·intro tr act w' hm hout hsz hd hG hk hub
          have h0:=hd ⟨0,.data⟩ (by simp) rfl _ rfl
          exact Aj (by rfl) rfl (Ab rfl) (Bp (i:=i) rfl Try.underlying122 (by decide) (by kernel_rfl) ((hout 9 (by decide)).trans oe9) h0 (by omega)) (Mod.refl _ _) rfl
         ·intro tr act w' hm hout hsz hd hG hk hub
          have h22:=hd ⟨22,.data⟩ (by simp) rfl _ rfl
          have h23:=hd ⟨23,.data⟩ (by simp) rfl _ rfl
          have hl:=hk 0 rfl
          refine jc_turn (by rfl) rfl (Ab rfl) (Bx rfl (hG.at hl) (off:=0+i * 1) (vs:=[wv (wAt D i)]) (by kernel_rfl) (by intro u hu;simp at hu;rw [hu];rfl) (by simp [w16_len _ _ (show i≤64 by omega)];omega) h23 (by rw [show act.eval (.tmp 92)=_ from h22];exact rfl)) (setRow_Mod.mono (fun _ _ h=>h)) trivial (ByLen.on hl ?_)
          rw [lay_one _ _ _ (by simp [w16_len _ _ (show i≤64 by omega)];omega)]
          exact setRow_Cs' (hG.at hl) (by rw [← List.map_set,Nat.zero_add,Nat.mul_one,w16_succ D i (by omega)])
         intro vs tr w19 hl htl hm hG hV
         obtain ⟨v0,vs0,rfl,hl0⟩:=Ae hl
         obtain ⟨v1,vs1,rfl,hl1⟩:=Ae hl0
         obtain ⟨v2,vs2,rfl,hl2⟩:=Ae hl1
         obtain ⟨v3,vs3,rfl,hl3⟩:=Ae hl2
         obtain ⟨v4,vs4,rfl,hl4⟩:=Ae hl3
         obtain ⟨v5,vs5,rfl,hl5⟩:=Ae hl4
         obtain ⟨v6,vs6,rfl,hl6⟩:=Ae hl5
         obtain ⟨v7,vs7,rfl,hl7⟩:=Ae hl6
         obtain ⟨v8,vs8,rfl,hl8⟩:=Ae hl7
         obtain ⟨v9,vs9,rfl,hl9⟩:=Ae hl8
         obtain ⟨v10,vs10,rfl,hl10⟩:=Ae hl9
         obtain ⟨v11,vs11,rfl,hl11⟩:=Ae hl10
         obtain ⟨v12,vs12,rfl,hl12⟩:=Ae hl11
         obtain ⟨v13,vs13,rfl,hl13⟩:=Ae hl12
         obtain ⟨v14,vs14,rfl,hl14⟩:=Ae hl13
         obtain ⟨v15,vs15,rfl,hl15⟩:=Ae hl14
         obtain ⟨v16,vs16,rfl,hl16⟩:=Ae hl15
         obtain ⟨v17,vs17,rfl,hl17⟩:=Ae hl16
         obtain ⟨v18,vs18,rfl,hl18⟩:=Ae hl17
         obtain ⟨v19,vs19,rfl,hl19⟩:=Ae hl18
         obtain ⟨v20,vs20,rfl,hl20⟩:=Ae hl19
         obtain ⟨v21,vs21,rfl,hl21⟩:=Ae hl20
         obtain ⟨v22,vs22,rfl,hl22⟩:=Ae hl21
         obtain ⟨v23,vs23,rfl,hl23⟩:=Ae hl22
         obtain ⟨v24,vs24,rfl,hl24⟩:=Ae hl23
         obtain rfl:=Bl hl24
         clear hl hl0 hl1 hl2 hl3 hl4 hl5 hl6 hl7 hl8 hl9 hl10 hl11 hl12 hl13 hl14 hl15 hl16 hl17 hl18 hl19 hl20 hl21 hl22 hl23 hl24
         have ha0:=HA0.out
         subst ha0
         clear HA0 hV hsz0 oe9 oe10 oe11
         simp only [Ar,Act.put,sIB,sCZ,sCS,List.set_nil]
         have hw:=hG.at htl
         have KM3:=KM2.out.trans hm (fun _ _ h=>h)
         clear hG hm htl hdl HCD HW KM2 HWA
         go_wp2
         go_roundw
         case rel=>exact ⟨i+1,by go_num,by omega,hw,KM3⟩
         case measure=>first|(simp [intOf];done)|(simp [intOf];omega)
        ·obtain rfl:i=16:=by omega
         rw [show ((16:Nat):Int)=16 from rfl]
         go_wp2
         go_loopw [12] (fun t12 wr=>∃ (j:Nat),t12=.int .i64 ((j+16:Nat):Int)∧j≤48∧Ws 122 wr g9 (spTo D j)∧Mod (fun k=>k=g9) wa wr) (fun t12 _=>64 - (intOf t12).toNat)
         case atStart=>exact ⟨0,rfl,by omega,HW.out,KMd.out⟩
         case round=>
          obtain ⟨we,rfl⟩:∃ x,x=wr:=⟨_,rfl⟩
          obtain ⟨j,rfl,hj,hW,hme⟩:=hrel
          have KW:=Lib.hid hW
          have KMe:=Lib.hid hme
          clear hW hme HW KMd
          by_cases hj48:j < 48
          ·
           go_upto_region 23 with (fail)
           generalize ha0:Act.mk _ _=a0
           have oe9:a0.eval (.tmp 9)=.pointer (some ⟨g9,0,none⟩):=by rw [← ha0];rfl
           have oe12:a0.eval (.tmp 12)=.int .i64 ((j+16:Nat):Int):=by rw [← ha0];rfl
           have hsz0:a0.tmps.size=269:=by rw [← ha0];rfl
           have HA0:=Lib.hid ha0
           clear ha0
           refine Bf 269 hsz0 (by kernel_rfl) (by kernel_rfl) [98,99,100,101,102,103,104,105,13,14] (by kernel_rfl) (by decide) (fun _=>False) (fun _ _=>False) (fun _ _ h=>h) Still (fun _ _ _ h=>h) (fun _ _ _ hm h=>hm.trans h (fun _ _ h=>h.elim)) [gi (.int .i64 ((j+16:Nat):Int)),gi (.int .i64 ((j+1:Nat):Int)),gi (.pointer (some ⟨g9,0+(j+1) * 1,none⟩)),gi (.int .u32 ((spTo D j).getD (j+1) 0)),gi (.int .i64 ((j+16:Nat):Int)),gi (.int .i64 ((j+14:Nat):Int)),gi (.pointer (some ⟨g9,0+(j+14) * 1,none⟩)),gi (.int .u32 ((spTo D j).getD (j+14) 0)),gi (.int .u32 ((spTo D j).getD (j+1) 0)),gi (.int .u32 ((spTo D j).getD (j+14) 0))] ⟨Af,Af,Af,Af,Af,Af,Af,Af,Af,Af,trivial⟩ [] (by kernel_rfl) (by decide) (by kernel_rfl) (fun _ _=>True) (fun _ _ _ _ _=>trivial) trivial ⟨?_,?_,?_,?_,?_,?_,?_,?_,?_,?_,trivial⟩ ?_
           ·intro tr act w' hm hout hsz hd hG hk hub
            exact Aj (by rfl) rfl (Ab rfl) (Ah rfl ((hout 12 (by decide)).trans oe12)) (Mod.refl _ _) rfl
           ·intro tr act w' hm hout hsz hd hG hk hub
            have h0:=hd ⟨0,.data⟩ (by simp) rfl _ rfl
            refine Aj (by rfl) rfl (Ab rfl) (A7 rfl h0 rfl (Ak _ _ _ _ _ _) (run_sub_i _ _ Try.underlying3)) (Mod.refl _ _) ?_
            exact congrArg (Value.int .i64) (by rw [IntWalk.i64_in _ (by omega)];omega)
           ·intro tr act w' hm hout hsz hd hG hk hub
            have h1:=hd ⟨1,.data⟩ (by simp) rfl _ rfl
            exact Aj (by rfl) rfl (Ab rfl) (Bp (i:=j+1) rfl Try.underlying122 (by decide) (by kernel_rfl) ((hout 9 (by decide)).trans oe9) h1 (by omega)) (Mod.refl _ _) rfl
           ·intro tr act w' hm hout hsz hd hG hk hub
            have h2:=hd ⟨2,.data⟩ (by simp) rfl _ rfl
            exact Aj (by rfl) rfl (Ab rfl) (Am rfl Try.underlying119 rfl h2 (by rw [show 0+(j+1) * 1=j+1 by omega];exact (KW.out.mod hm (fun h=>h)).cell (by rw [spTo_len];omega))) (Mod.refl _ _) rfl
           ·intro tr act w' hm hout hsz hd hG hk hub
            exact Aj (by rfl) rfl (Ab rfl) (Ah rfl ((hout 12 (by decide)).trans oe12)) (Mod.refl _ _) rfl
           ·intro tr act w' hm hout hsz hd hG hk hub
            have h4:=hd ⟨4,.data⟩ (by simp) rfl _ rfl
            refine Aj (by rfl) rfl (Ab rfl) (A7 rfl h4 rfl (Ak _ _ _ _ _ _) (run_sub_i _ _ Try.underlying3)) (Mod.refl _ _) ?_
            exact congrArg (Value.int .i64) (by rw [IntWalk.i64_in _ (by omega)];omega)
           ·intro tr act w' hm hout hsz hd hG hk hub
            have h5:=hd ⟨5,.data⟩ (by simp) rfl _ rfl
            exact Aj (by rfl) rfl (Ab rfl) (Bp (i:=j+14) rfl Try.underlying122 (by decide) (by kernel_rfl) ((hout 9 (by decide)).trans oe9) h5 (by omega)) (Mod.refl _ _) rfl
           ·intro tr act w' hm hout hsz hd hG hk hub
            have h6:=hd ⟨6,.data⟩ (by simp) rfl _ rfl
            exact Aj (by rfl) rfl (Ab rfl) (Am rfl Try.underlying119 rfl h6 (by rw [show 0+(j+14) * 1=j+14 by omega];exact (KW.out.mod hm (fun h=>h)).cell (by rw [spTo_len];omega))) (Mod.refl _ _) rfl
           ·intro tr act w' hm hout hsz hd hG hk hub
            have h3:=hd ⟨3,.data⟩ (by simp) rfl _ rfl
            exact Aj (by rfl) rfl (Ab rfl) (An rfl h3) (Mod.refl _ _) rfl
           ·intro tr act w' hm hout hsz hd hG hk hub
            have h7:=hd ⟨7,.data⟩ (by simp) rfl _ rfl
            exact Aj (by rfl) rfl (Ab rfl) (An rfl h7) (Mod.refl _ _) rfl
           intro vs tr w23 hl htl hm hG hV
           obtain ⟨v0,vs0,rfl,hl0⟩:=Ae hl
           obtain ⟨v1,vs1,rfl,hl1⟩:=Ae hl0
           obtain ⟨v2,vs2,rfl,hl2⟩:=Ae hl1
           obtain ⟨v3,vs3,rfl,hl3⟩:=Ae hl2
           obtain ⟨v4,vs4,rfl,hl4⟩:=Ae hl3
           obtain ⟨v5,vs5,rfl,hl5⟩:=Ae hl4
           obtain ⟨v6,vs6,rfl,hl6⟩:=Ae hl5
           obtain ⟨v7,vs7,rfl,hl7⟩:=Ae hl6
           obtain ⟨v8,vs8,rfl,hl8⟩:=Ae hl7
           obtain ⟨v9,vs9,rfl,hl9⟩:=Ae hl8
           obtain rfl:=Bl hl9
           clear hl hl0 hl1 hl2 hl3 hl4 hl5 hl6 hl7 hl8 hl9
           obtain rfl:v8=.int .u32 ((spTo D j).getD (j+1) 0):=hV 8 _ rfl
           obtain rfl:v9=.int .u32 ((spTo D j).getD (j+14) 0):=hV 9 _ rfl
           have ha0:=HA0.out
           subst ha0
           clear HA0 hV hsz0 oe9 oe12
           simp only [Ar,Act.put,sIB,sCZ,sCS]
           replace KW:=Lib.hid (KW.out.mod hm (fun h=>h))
           replace KMe:=Lib.hid (KMe.out.trans hm (fun _ _ h=>h.elim))
           have HW:=Lib.hid (show ByLen (RsW g9 122 ((spTo D j).map wv) ((spTo D (j+1)).map wv)) [] w23 from KW.out)
           clear hG hm htl KW
           have HVAL:=Lib.hid (show (IntKind.u32.wrap ((IntKind.u32.wrap ((IntKind.u32.wrap (((spTo D j).getD (j) 0)+(bits .xor .u32 (bits .xor .u32 (rr 7 ((spTo D j).getD (j+1) 0)) (rr 18 ((spTo D j).getD (j+1) 0))) (((spTo D j).getD (j+1) 0) / 2 ^ 3))))+((spTo D j).getD (j+9) 0)))+(bits .xor .u32 (bits .xor .u32 (rr 17 ((spTo D j).getD (j+14) 0)) (rr 19 ((spTo D j).getD (j+14) 0))) (((spTo D j).getD (j+14) 0) / 2 ^ 10))))=spVal ((spTo D j).getD j 0) ((spTo D j).getD (j+1) 0) ((spTo D j).getD (j+9) 0) ((spTo D j).getD (j+14) 0) by simp only [spVal,pl,xr,IntKind.wrap_u32]<;>rfl)
           go_upto_region 24 with (fail)
           generalize ha0:Act.mk _ _=a0
           have oe9:a0.eval (.tmp 9)=.pointer (some ⟨g9,0,none⟩):=by rw [← ha0];rfl
           have oe12:a0.eval (.tmp 12)=.int .i64 ((j+16:Nat):Int):=by rw [← ha0];rfl
           have oe13:a0.eval (.tmp 13)=.int .u32 ((spTo D j).getD (j+1) 0):=by rw [← ha0];rfl
           have oe14:a0.eval (.tmp 14)=.int .u32 ((spTo D j).getD (j+14) 0):=by rw [← ha0];rfl
           have hsz0:a0.tmps.size=269:=by rw [← ha0];rfl
           have HA0:=Lib.hid ha0
           clear ha0
           refine Bf 269 hsz0 (by kernel_rfl) (by kernel_rfl) [106,107,108,109,110,111,112,113,114,115,116,117,118,119,120,121,122,123,124,125,126,127,128,129,130,131,132,133,134,298] (by kernel_rfl) (by decide) (fun j=>j=g9) (fun _ j=>j=g9) (fun _ _ h=>h) Still (fun _ _ _ h=>h) (fun _ _ _ hm h=>hm.trans h (fun _ _ h=>h.elim)) [gi (.int .i64 ((j+16:Nat):Int)),gi (.int .i64 ((j+16:Nat):Int)),gi (.int .i64 ((j:Nat):Int)),gi (.pointer (some ⟨g9,0+j * 1,none⟩)),gi (.int .u32 ((spTo D j).getD (j) 0)),gi (.int .u32 ((spTo D j).getD (j+1) 0)),gi (.int .u32 (rr 7 ((spTo D j).getD (j+1) 0))),gi (.int .u32 ((spTo D j).getD (j+1) 0)),gi (.int .u32 (rr 18 ((spTo D j).getD (j+1) 0))),gi (.int .u32 (bits .xor .u32 (rr 7 ((spTo D j).getD (j+1) 0)) (rr 18 ((spTo D j).getD (j+1) 0)))),gi (.int .u32 ((spTo D j).getD (j+1) 0)),gi (.int .u32 (((spTo D j).getD (j+1) 0) / 2 ^ 3)),gi (.int .u32 (bits .xor .u32 (bits .xor .u32 (rr 7 ((spTo D j).getD (j+1) 0)) (rr 18 ((spTo D j).getD (j+1) 0))) (((spTo D j).getD (j+1) 0) / 2 ^ 3))),gi (.int .u32 (IntKind.u32.wrap (((spTo D j).getD (j) 0)+(bits .xor .u32 (bits .xor .u32 (rr 7 ((spTo D j).getD (j+1) 0)) (rr 18 ((spTo D j).getD (j+1) 0))) (((spTo D j).getD (j+1) 0) / 2 ^ 3))))),gi (.int .i64 ((j+16:Nat):Int)),gi (.int .i64 ((j+9:Nat):Int)),gi (.pointer (some ⟨g9,0+(j+9) * 1,none⟩)),gi (.int .u32 ((spTo D j).getD (j+9) 0)),gi (.int .u32 (IntKind.u32.wrap ((IntKind.u32.wrap (((spTo D j).getD (j) 0)+(bits .xor .u32 (bits .xor .u32 (rr 7 ((spTo D j).getD (j+1) 0)) (rr 18 ((spTo D j).getD (j+1) 0))) (((spTo D j).getD (j+1) 0) / 2 ^ 3))))+((spTo D j).getD (j+9) 0)))),gi (.int .u32 ((spTo D j).getD (j+14) 0)),gi (.int .u32 (rr 17 ((spTo D j).getD (j+14) 0))),gi (.int .u32 ((spTo D j).getD (j+14) 0)),gi (.int .u32 (rr 19 ((spTo D j).getD (j+14) 0))),gi (.int .u32 (bits .xor .u32 (rr 17 ((spTo D j).getD (j+14) 0)) (rr 19 ((spTo D j).getD (j+14) 0)))),gi (.int .u32 ((spTo D j).getD (j+14) 0)),gi (.int .u32 (((spTo D j).getD (j+14) 0) / 2 ^ 10)),gi (.int .u32 (bits .xor .u32 (bits .xor .u32 (rr 17 ((spTo D j).getD (j+14) 0)) (rr 19 ((spTo D j).getD (j+14) 0))) (((spTo D j).getD (j+14) 0) / 2 ^ 10))),gi (.int .u32 (IntKind.u32.wrap ((IntKind.u32.wrap ((IntKind.u32.wrap (((spTo D j).getD (j) 0)+(bits .xor .u32 (bits .xor .u32 (rr 7 ((spTo D j).getD (j+1) 0)) (rr 18 ((spTo D j).getD (j+1) 0))) (((spTo D j).getD (j+1) 0) / 2 ^ 3))))+((spTo D j).getD (j+9) 0)))+(bits .xor .u32 (bits .xor .u32 (rr 17 ((spTo D j).getD (j+14) 0)) (rr 19 ((spTo D j).getD (j+14) 0))) (((spTo D j).getD (j+14) 0) / 2 ^ 10))))),gi (.pointer (some ⟨g9,0+(j+16) * 1,none⟩)),ga] ⟨Af,Af,Af,Af,Af,Af,Af,Af,Af,Af,Af,Af,Af,Af,Af,Af,Af,Af,Af,Af,Af,Af,Af,Af,Af,Af,Af,Af,Af,Bq,trivial⟩ [29] (by kernel_rfl) (by decide) (by kernel_rfl) (ByLen (RsW g9 122 ((spTo D j).map wv) ((spTo D (j+1)).map wv))) (ByLen.still RsW_still) HW.out ⟨?_,?_,?_,?_,?_,?_,?_,?_,?_,?_,?_,?_,?_,?_,?_,?_,?_,?_,?_,?_,?_,?_,?_,?_,?_,?_,?_,?_,?_,?_,trivial⟩ ?_
           ·intro tr act w' hm hout hsz hd hG hk hub
            exact Aj (by rfl) rfl (Ab rfl) (Ah rfl ((hout 12 (by decide)).trans oe12)) (Mod.refl _ _) rfl
           ·intro tr act w' hm hout hsz hd hG hk hub
            exact Aj (by rfl) rfl (Ab rfl) (Ah rfl ((hout 12 (by decide)).trans oe12)) (Mod.refl _ _) rfl
           ·intro tr act w' hm hout hsz hd hG hk hub
            have h1:=hd ⟨1,.data⟩ (by simp) rfl _ rfl
            refine Aj (by rfl) rfl (Ab rfl) (A7 rfl h1 rfl (Ak _ _ _ _ _ _) (run_sub_i _ _ Try.underlying3)) (Mod.refl _ _) ?_
            exact congrArg (Value.int .i64) (by rw [IntWalk.i64_in _ (by omega)];omega)
           ·intro tr act w' hm hout hsz hd hG hk hub
            have h2:=hd ⟨2,.data⟩ (by simp) rfl _ rfl
            exact Aj (by rfl) rfl (Ab rfl) (Bp (i:=j) rfl Try.underlying122 (by decide) (by kernel_rfl) ((hout 9 (by decide)).trans oe9) h2 (by omega)) (Mod.refl _ _) rfl
           ·intro tr act w' hm hout hsz hd hG hk hub
            have h3:=hd ⟨3,.data⟩ (by simp) rfl _ rfl
            exact Aj (by rfl) rfl (Ab rfl) (Am rfl Try.underlying119 rfl h3 (by rw [show 0+(j) * 1=j by omega];exact Ws.cell (hG.at (show tr.length=0 from Nat.le_zero.1 (hub 0 29 rfl (by kernel_rfl)))) (by rw [spTo_len];omega))) (Mod.refl _ _) rfl
           ·intro tr act w' hm hout hsz hd hG hk hub
            exact Aj (by rfl) rfl (Ab rfl) (Ah rfl ((hout 13 (by decide)).trans oe13)) (Mod.refl _ _) rfl
           ·intro tr act w' hm hout hsz hd hG hk hub
            have h5:=hd ⟨5,.data⟩ (by simp) rfl _ rfl
            refine B6 (args:=#[.int .u32 ((spTo D j).getD (j+1) 0),.int .u64 7]) (by rfl) rfl (Ab rfl) (by rw [A8 rfl Try.func73 (by kernel_rfl) (by kernel_rfl)];exact congrArg (fun z=>Result.ok (Next.enter _ z) _) (by simp only [List.map_toArray,List.map_cons,List.map_nil,show act.eval (.tmp 111)=_ from h5];try rfl)) (TN_7 ((spTo D j).getD (j+1) 0) _) ?_
            rintro e w2 ⟨rfl,rfl⟩
            exact ⟨_,rfl,Mod.refl _ _,rfl⟩
           ·intro tr act w' hm hout hsz hd hG hk hub
            exact Aj (by rfl) rfl (Ab rfl) (Ah rfl ((hout 13 (by decide)).trans oe13)) (Mod.refl _ _) rfl
           ·intro tr act w' hm hout hsz hd hG hk hub
            have h7:=hd ⟨7,.data⟩ (by simp) rfl _ rfl
            refine B6 (args:=#[.int .u32 ((spTo D j).getD (j+1) 0),.int .u64 18]) (by rfl) rfl (Ab rfl) (by rw [A8 rfl Try.func73 (by kernel_rfl) (by kernel_rfl)];exact congrArg (fun z=>Result.ok (Next.enter _ z) _) (by simp only [List.map_toArray,List.map_cons,List.map_nil,show act.eval (.tmp 113)=_ from h7];try rfl)) (TN_18 ((spTo D j).getD (j+1) 0) _) ?_
            rintro e w2 ⟨rfl,rfl⟩
            exact ⟨_,rfl,Mod.refl _ _,rfl⟩
           ·intro tr act w' hm hout hsz hd hG hk hub
            have h6:=hd ⟨6,.data⟩ (by simp) rfl _ rfl
            have h8:=hd ⟨8,.data⟩ (by simp) rfl _ rfl
            exact Aj (by rfl) rfl (Ab rfl) (A7 rfl h6 h8 (Ak _ _ _ _ _ _) (run_xor_i _ _)) (Mod.refl _ _) rfl
           ·intro tr act w' hm hout hsz hd hG hk hub
            exact Aj (by rfl) rfl (Ab rfl) (Ah rfl ((hout 13 (by decide)).trans oe13)) (Mod.refl _ _) rfl
           ·intro tr act w' hm hout hsz hd hG hk hub
            have h10:=hd ⟨10,.data⟩ (by simp) rfl _ rfl
            exact Aj (by rfl) rfl (Ab rfl) (A7 rfl h10 rfl (by simp [eqGuard]) (run_shr_n 3 _ (by decide))) (Mod.refl _ _) rfl
           ·intro tr act w' hm hout hsz hd hG hk hub
            have h9:=hd ⟨9,.data⟩ (by simp) rfl _ rfl
            have h11:=hd ⟨11,.data⟩ (by simp) rfl _ rfl
            exact Aj (by rfl) rfl (Ab rfl) (A7 rfl h9 h11 (Ak _ _ _ _ _ _) (run_xor_i _ _)) (Mod.refl _ _) rfl
           ·intro tr act w' hm hout hsz hd hG hk hub
            have h4:=hd ⟨4,.data⟩ (by simp) rfl _ rfl
            have h12:=hd ⟨12,.data⟩ (by simp) rfl _ rfl
            exact Aj (by rfl) rfl (Ab rfl) (A7 rfl h4 h12 (Ak _ _ _ _ _ _) (Be _ _ Try.underlying119)) (Mod.refl _ _) rfl
           ·intro tr act w' hm hout hsz hd hG hk hub
            exact Aj (by rfl) rfl (Ab rfl) (Ah rfl ((hout 12 (by decide)).trans oe12)) (Mod.refl _ _) rfl
           ·intro tr act w' hm hout hsz hd hG hk hub
            have h14:=hd ⟨14,.data⟩ (by simp) rfl _ rfl
            refine Aj (by rfl) rfl (Ab rfl) (A7 rfl h14 rfl (Ak _ _ _ _ _ _) (run_sub_i _ _ Try.underlying3)) (Mod.refl _ _) ?_
            exact congrArg (Value.int .i64) (by rw [IntWalk.i64_in _ (by omega)];omega)
           ·intro tr act w' hm hout hsz hd hG hk hub
            have h15:=hd ⟨15,.data⟩ (by simp) rfl _ rfl
            exact Aj (by rfl) rfl (Ab rfl) (Bp (i:=j+9) rfl Try.underlying122 (by decide) (by kernel_rfl) ((hout 9 (by decide)).trans oe9) h15 (by omega)) (Mod.refl _ _) rfl
           ·intro tr act w' hm hout hsz hd hG hk hub
            have h16:=hd ⟨16,.data⟩ (by simp) rfl _ rfl
            exact Aj (by rfl) rfl (Ab rfl) (Am rfl Try.underlying119 rfl h16 (by rw [show 0+(j+9) * 1=j+9 by omega];exact Ws.cell (hG.at (show tr.length=0 from Nat.le_zero.1 (hub 0 29 rfl (by kernel_rfl)))) (by rw [spTo_len];omega))) (Mod.refl _ _) rfl
           ·intro tr act w' hm hout hsz hd hG hk hub
            have h13:=hd ⟨13,.data⟩ (by simp) rfl _ rfl
            have h17:=hd ⟨17,.data⟩ (by simp) rfl _ rfl
            exact Aj (by rfl) rfl (Ab rfl) (A7 rfl h13 h17 (Ak _ _ _ _ _ _) (Be _ _ Try.underlying119)) (Mod.refl _ _) rfl
           ·intro tr act w' hm hout hsz hd hG hk hub
            exact Aj (by rfl) rfl (Ab rfl) (Ah rfl ((hout 14 (by decide)).trans oe14)) (Mod.refl _ _) rfl
           ·intro tr act w' hm hout hsz hd hG hk hub
            have h19:=hd ⟨19,.data⟩ (by simp) rfl _ rfl
            refine B6 (args:=#[.int .u32 ((spTo D j).getD (j+14) 0),.int .u64 17]) (by rfl) rfl (Ab rfl) (by rw [A8 rfl Try.func73 (by kernel_rfl) (by kernel_rfl)];exact congrArg (fun z=>Result.ok (Next.enter _ z) _) (by simp only [List.map_toArray,List.map_cons,List.map_nil,show act.eval (.tmp 125)=_ from h19];try rfl)) (TN_17 ((spTo D j).getD (j+14) 0) _) ?_
            rintro e w2 ⟨rfl,rfl⟩
            exact ⟨_,rfl,Mod.refl _ _,rfl⟩
           ·intro tr act w' hm hout hsz hd hG hk hub
            exact Aj (by rfl) rfl (Ab rfl) (Ah rfl ((hout 14 (by decide)).trans oe14)) (Mod.refl _ _) rfl
           ·intro tr act w' hm hout hsz hd hG hk hub
            have h21:=hd ⟨21,.data⟩ (by simp) rfl _ rfl
            refine B6 (args:=#[.int .u32 ((spTo D j).getD (j+14) 0),.int .u64 19]) (by rfl) rfl (Ab rfl) (by rw [A8 rfl Try.func73 (by kernel_rfl) (by kernel_rfl)];exact congrArg (fun z=>Result.ok (Next.enter _ z) _) (by simp only [List.map_toArray,List.map_cons,List.map_nil,show act.eval (.tmp 127)=_ from h21];try rfl)) (TN_19 ((spTo D j).getD (j+14) 0) _) ?_
            rintro e w2 ⟨rfl,rfl⟩
            exact ⟨_,rfl,Mod.refl _ _,rfl⟩
           ·intro tr act w' hm hout hsz hd hG hk hub
            have h20:=hd ⟨20,.data⟩ (by simp) rfl _ rfl
            have h22:=hd ⟨22,.data⟩ (by simp) rfl _ rfl
            exact Aj (by rfl) rfl (Ab rfl) (A7 rfl h20 h22 (Ak _ _ _ _ _ _) (run_xor_i _ _)) (Mod.refl _ _) rfl
           ·intro tr act w' hm hout hsz hd hG hk hub
            exact Aj (by rfl) rfl (Ab rfl) (Ah rfl ((hout 14 (by decide)).trans oe14)) (Mod.refl _ _) rfl
           ·intro tr act w' hm hout hsz hd hG hk hub
            have h24:=hd ⟨24,.data⟩ (by simp) rfl _ rfl
            exact Aj (by rfl) rfl (Ab rfl) (A7 rfl h24 rfl (by simp [eqGuard]) (run_shr_n 10 _ (by decide))) (Mod.refl _ _) rfl
           ·intro tr act w' hm hout hsz hd hG hk hub
            have h23:=hd ⟨23,.data⟩ (by simp) rfl _ rfl
            have h25:=hd ⟨25,.data⟩ (by simp) rfl _ rfl
            exact Aj (by rfl) rfl (Ab rfl) (A7 rfl h23 h25 (Ak _ _ _ _ _ _) (run_xor_i _ _)) (Mod.refl _ _) rfl
           ·intro tr act w' hm hout hsz hd hG hk hub
            have h18:=hd ⟨18,.data⟩ (by simp) rfl _ rfl
            have h26:=hd ⟨26,.data⟩ (by simp) rfl _ rfl
            exact Aj (by rfl) rfl (Ab rfl) (A7 rfl h18 h26 (Ak _ _ _ _ _ _) (Be _ _ Try.underlying119)) (Mod.refl _ _) rfl
           ·intro tr act w' hm hout hsz hd hG hk hub
            have h0:=hd ⟨0,.data⟩ (by simp) rfl _ rfl
            exact Aj (by rfl) rfl (Ab rfl) (Bp (i:=j+16) rfl Try.underlying122 (by decide) (by kernel_rfl) ((hout 9 (by decide)).trans oe9) h0 (by omega)) (Mod.refl _ _) rfl
           ·intro tr act w' hm hout hsz hd hG hk hub
            have h27:=hd ⟨27,.data⟩ (by simp) rfl _ rfl
            have h28:=hd ⟨28,.data⟩ (by simp) rfl _ rfl
            have hl:=hk 0 rfl
            refine jc_turn (by rfl) rfl (Ab rfl) (Bx rfl (hG.at hl) (off:=0+(j+16) * 1) (vs:=[wv (spVal ((spTo D j).getD j 0) ((spTo D j).getD (j+1) 0) ((spTo D j).getD (j+9) 0) ((spTo D j).getD (j+14) 0))]) (by kernel_rfl) (by intro u hu;simp at hu;rw [hu];rfl) (by simp [spTo_len];omega) h28 (by rw [show act.eval (.tmp 133)=_ from h27];exact congrArg (fun z=>#[Value.int .u32 z]) HVAL.out)) (setRow_Mod.mono (fun _ _ h=>h)) trivial (ByLen.on hl ?_)
            rw [lay_one _ _ _ (by simp [spTo_len];omega)]
            exact setRow_Cs' (hG.at hl) (by rw [← List.map_set,Nat.zero_add,Nat.mul_one,spTo_succ];rfl)
           intro vs tr w24 hl htl hm hG hV
           obtain ⟨v0,vs0,rfl,hl0⟩:=Ae hl
           obtain ⟨v1,vs1,rfl,hl1⟩:=Ae hl0
           obtain ⟨v2,vs2,rfl,hl2⟩:=Ae hl1
           obtain ⟨v3,vs3,rfl,hl3⟩:=Ae hl2
           obtain ⟨v4,vs4,rfl,hl4⟩:=Ae hl3
           obtain ⟨v5,vs5,rfl,hl5⟩:=Ae hl4
           obtain ⟨v6,vs6,rfl,hl6⟩:=Ae hl5
           obtain ⟨v7,vs7,rfl,hl7⟩:=Ae hl6
           obtain ⟨v8,vs8,rfl,hl8⟩:=Ae hl7
           obtain ⟨v9,vs9,rfl,hl9⟩:=Ae hl8
           obtain ⟨v10,vs10,rfl,hl10⟩:=Ae hl9
           obtain ⟨v11,vs11,rfl,hl11⟩:=Ae hl10
           obtain ⟨v12,vs12,rfl,hl12⟩:=Ae hl11
           obtain ⟨v13,vs13,rfl,hl13⟩:=Ae hl12
           obtain ⟨v14,vs14,rfl,hl14⟩:=Ae hl13
           obtain ⟨v15,vs15,rfl,hl15⟩:=Ae hl14
           obtain ⟨v16,vs16,rfl,hl16⟩:=Ae hl15
           obtain ⟨v17,vs17,rfl,hl17⟩:=Ae hl16
           obtain ⟨v18,vs18,rfl,hl18⟩:=Ae hl17
           obtain ⟨v19,vs19,rfl,hl19⟩:=Ae hl18
           obtain ⟨v20,vs20,rfl,hl20⟩:=Ae hl19
           obtain ⟨v21,vs21,rfl,hl21⟩:=Ae hl20
           obtain ⟨v22,vs22,rfl,hl22⟩:=Ae hl21
           obtain ⟨v23,vs23,rfl,hl23⟩:=Ae hl22
           obtain ⟨v24,vs24,rfl,hl24⟩:=Ae hl23
           obtain ⟨v25,vs25,rfl,hl25⟩:=Ae hl24
           obtain ⟨v26,vs26,rfl,hl26⟩:=Ae hl25
           obtain ⟨v27,vs27,rfl,hl27⟩:=Ae hl26
           obtain ⟨v28,vs28,rfl,hl28⟩:=Ae hl27
           obtain ⟨v29,vs29,rfl,hl29⟩:=Ae hl28
           obtain rfl:=Bl hl29
           clear hl hl0 hl1 hl2 hl3 hl4 hl5 hl6 hl7 hl8 hl9 hl10 hl11 hl12 hl13 hl14 hl15 hl16 hl17 hl18 hl19 hl20 hl21 hl22 hl23 hl24 hl25 hl26 hl27 hl28 hl29
           have ha0:=HA0.out
           subst ha0
           clear HA0 hV hsz0 oe9 oe12 oe13 oe14
           simp only [Ar,Act.put,sIB,sCZ,sCS,List.set_nil]
           have hw:=hG.at htl
           replace KMe:=Lib.hid (KMe.out.trans hm (fun _ _ h=>h))
           clear hG hm htl HW HVAL
           go_wp2
           go_roundw
           case rel=>exact ⟨j+1,by go_num,by omega,hw,KMe.out⟩
           case measure=>first|(simp [intOf];done)|(simp [intOf];omega)
          ·obtain rfl:j=48:=by omega
           obtain ⟨F,hF⟩:∃ F,F=spTo D 48:=⟨_,rfl⟩
           have hFl:F.length=64:=by rw [hF];exact spTo_len D 48
           rw [← hF] at KW
           have HF:=Lib.hid hF
           have HFL2:=Lib.hid hFl
           clear hF hFl
           have KOe:=Lib.hid (KOa.out.mod KMe.out (by omega) (by omega) (by omega) (fun k hk=>by omega))
           have KH:=Lib.hid KOe.out.kh
           have ze:=KMe.out.size
           have zq1:q1 < we.heap.size:=by omega
           rw [show ((48+16:Nat):Int)=64 from rfl]
           go_upto_region 25 with (fail)
           generalize ha0:Act.mk _ _=a0
           have oe4:a0.eval (.tmp 4)=.pointer (some ⟨q1,0,none⟩):=by rw [← ha0];rfl
           have hsz0:a0.tmps.size=269:=by rw [← ha0];rfl
           have HA0:=Lib.hid ha0
           clear ha0
           refine wp_region_A 269 hsz0 (by kernel_rfl) (by kernel_rfl) [135,15,271] (by kernel_rfl) (by decide) (fun j=>we.heap.size≤j) (fun _ _=>False) (fun _ _ h=>h.elim) Still (fun _ _ _ h=>h) (fun _ _ _ hm h=>hm.trans h (fun _ _ h=>h.elim)) [gi (.agg (H.map wv).toArray),ga,ga] ⟨Af,Bq,Bq,trivial⟩ [] (by kernel_rfl) (by decide) (by kernel_rfl) (fun _ _=>True) (fun _ _ _ _ _=>trivial) trivial [⟨1,2,120,[.int .u32 0,.int .u32 0,.int .u32 0,.int .u32 0,.int .u32 0,.int .u32 0,.int .u32 0,.int .u32 0],H.map wv⟩] (by kernel_rfl) (by intro r hr;simp only [List.mem_cons,List.not_mem_nil,or_false] at hr;rcases hr with rfl<;>exact ⟨rfl,rfl⟩) (fun _ _ h=>h.elim) (fun _ h=>h) stillA (fun _ _ _ _ _ _=>trivial) (AllEnd.get _ ⟨gi_end,ga_end,ga_end,trivial⟩) (by intro r hr;simp only [List.mem_cons,List.not_mem_nil,or_false] at hr;rcases hr with rfl<;>exact ⟨of_decide_eq_true (by kernel_rfl),of_decide_eq_true (by kernel_rfl)⟩) (by intro r hr;simp only [List.mem_cons,List.not_mem_nil,or_false] at hr;rcases hr with rfl<;>exact fun _ _ _=>⟨trivial,trivial⟩) ⟨?_,?_,?_,trivial⟩ ?_
           ·refine ⟨fun r hr e=>?_,fun r hr e=>?_,fun hno=>?_⟩
            ·simp only [List.mem_cons,List.not_mem_nil,or_false] at hr
             rcases hr with rfl
             ·simp at e
            ·simp only [List.mem_cons,List.not_mem_nil,or_false] at hr
             rcases hr with rfl
             ·simp at e
            ·intro tr act w' hm hout hsz hd hG hk hub
             exact Aj (by rfl) rfl (Ab rfl) (Ap rfl Try.underlying120 rfl (off:=0) (cs:=H.map wv) (by rw [List.length_map,HHL.out];exact size_a8) ((hout 4 (by decide)).trans oe4) (fun j u hu=>by rw [Nat.zero_add,Cs.cell (KH.out.mod hm (by omega))];simpa using hu)) (Mod.refl _ _) rfl
           ·refine ⟨fun r hr e=>?_,fun r hr e=>?_,fun hno=>?_⟩
            ·simp only [List.mem_cons,List.not_mem_nil,or_false] at hr
             rcases hr with rfl
             ·exact ⟨rfl,rfl,by kernel_rfl,(by rw [List.length_map,HHL.out];rfl),(wv_one _),(by rw [List.length_map,HHL.out];exact size_a8)⟩
            ·simp only [List.mem_cons,List.not_mem_nil,or_false] at hr
             rcases hr with rfl
             ·simp at e
            ·exact absurd rfl (hno ⟨1,2,120,[.int .u32 0,.int .u32 0,.int .u32 0,.int .u32 0,.int .u32 0,.int .u32 0,.int .u32 0,.int .u32 0],H.map wv⟩ (by simp)).1
           ·refine ⟨fun r hr e=>?_,fun r hr e=>?_,fun hno=>?_⟩
            ·simp only [List.mem_cons,List.not_mem_nil,or_false] at hr
             rcases hr with rfl
             ·simp at e
            ·simp only [List.mem_cons,List.not_mem_nil,or_false] at hr
             rcases hr with rfl
             ·refine ⟨rfl,_,(.tmp 135),rfl,by decide,rfl,by kernel_rfl,by kernel_rfl,fun tr act w' hm hout hd hG=>?_⟩
              have h0:=hd ⟨0,.data⟩ (by simp) rfl _ rfl
              rw [show act.eval ((.tmp 135))=_ from h0]
              rfl
            ·exact absurd rfl (hno ⟨1,2,120,[.int .u32 0,.int .u32 0,.int .u32 0,.int .u32 0,.int .u32 0,.int .u32 0,.int .u32 0,.int .u32 0],H.map wv⟩ (by simp)).2
           intro vs tr wf hl htl hm hG hV hAL hNE
           obtain ⟨v0,vs0,rfl,hl0⟩:=Ae hl
           obtain ⟨v1,vs1,rfl,hl1⟩:=Ae hl0
           obtain ⟨v2,vs2,rfl,hl2⟩:=Ae hl1
           obtain rfl:=Bl hl2
           obtain ⟨q2,fq2,hqB2,hqC2⟩:=hAL _ (by simp only [List.mem_cons,List.not_mem_nil,or_false];trivial)
           obtain rfl:v1=_:=Option.some.inj fq2
           clear hl hl0 hl1 hl2
           have ha0:=HA0.out
           subst ha0
           clear HA0 hV hsz0 oe4
           simp only [Ar,Act.put,sIB,sCZ,sCS,List.set_nil]
           have zf:=hm.size
           have hq2:g9 < q2:=by omega
           have KMf:=Lib.hid (show Mod (fun k=>g9≤k) wa wf from (KMe.out.mono (S':=fun k=>g9≤k) (fun k _ h=>by omega)).trans hm (fun k _ h=>by omega))
           have KF9:=Lib.hid (KW.out.mod hm (by omega))
           have KS0:=Lib.hid (show Ws 120 wf q2 (mixTo H K256 F 0) from hqC2)
           clear hG hm htl hAL hNE hqC2 fq2 hqB2 KW KMe KH KOe zq1
           go_wp2
           go_loopw [16] (fun t16 wr=>∃ (i:Nat),t16=.int .i64 i∧i≤64∧Ws 120 wr q2 (mixTo H K256 F i)∧Mod (fun k=>k=q2) wf wr) (fun t16 _=>64 - (intOf t16).toNat)
           case atStart=>exact ⟨0,rfl,by omega,KS0.out,Mod.refl _ _⟩
           case round=>
            obtain ⟨wg,rfl⟩:∃ x,x=wr:=⟨_,rfl⟩
            obtain ⟨i,rfl,hi,hS,hmg⟩:=hrel
            clear KS0
            have KMg:=Lib.hid hmg
            have zg:=hmg.size
            clear hmg
            have hsl:=mixTo_len H K256 F HHL.out i
            have hsucc:=mixTo_succ H K256 F i
            have KMt:=Lib.hid (show Mod (fun k=>g9≤k) wa wg from KMf.out.trans KMg.out (fun k _ h=>by omega))
            have KOg:=Lib.hid (KOa.out.mod KMt.out (by omega) (by omega) (by omega) (fun k hk=>by omega))
            have KFg:=Lib.hid (KF9.out.mod KMg.out (by omega))
            by_cases hi64:i < 64
            ·obtain ⟨S,hSS⟩:∃ S,S=mixTo H K256 F i:=⟨_,rfl⟩
             rw [← hSS] at hS hsl hsucc
             clear hSS
             obtain ⟨s0,s1,s2,s3,s4,s5,s6,s7,rfl⟩:=list8 S hsl
             have KS:=Lib.hid hS
             have HSU:=Lib.hid hsucc
             have KKK:=Lib.hid KOg.out.kk
             clear hS hsl hsucc KOg KMt
             go_upto_region 29 with (fail)
             generalize ha0:Act.mk _ _=a0
             have oe3:a0.eval (.tmp 3)=.pointer (some ⟨q0,0,none⟩):=by rw [← ha0];rfl
             have oe9:a0.eval (.tmp 9)=.pointer (some ⟨g9,0,none⟩):=by rw [← ha0];rfl
             have oe15:a0.eval (.tmp 15)=.pointer (some ⟨q2,0,none⟩):=by rw [← ha0];rfl
             have oe16:a0.eval (.tmp 16)=.int .i64 ((i:Nat):Int):=by rw [← ha0];rfl
             have hsz0:a0.tmps.size=269:=by rw [← ha0];rfl
             have HA0:=Lib.hid ha0
             clear ha0
             refine Bf 269 hsz0 (by kernel_rfl) (by kernel_rfl) [140,141,142,143,17,18] (by kernel_rfl) (by decide) (fun _=>False) (fun _ _=>False) (fun _ _ h=>h) Still (fun _ _ _ h=>h) (fun _ _ _ hm h=>hm.trans h (fun _ _ h=>h.elim)) [gi (.pointer (some ⟨q2,0+4 * 1,none⟩)),gi (.int .u32 s4),gi (.pointer (some ⟨q2,0+0 * 1,none⟩)),gi (.int .u32 s0),gi (.int .u32 s4),gi (.int .u32 s0)] ⟨Af,Af,Af,Af,Af,Af,trivial⟩ [] (by kernel_rfl) (by decide) (by kernel_rfl) (fun _ _=>True) (fun _ _ _ _ _=>trivial) trivial ⟨?_,?_,?_,?_,?_,?_,trivial⟩ ?_
             ·intro tr act w' hm hout hsz hd hG hk hub
              exact Aj (by rfl) rfl (Ab rfl) (Bp (i:=4) rfl Try.underlying120 (by decide) (by kernel_rfl) ((hout 15 (by decide)).trans oe15) rfl (by omega)) (Mod.refl _ _) rfl
             ·intro tr act w' hm hout hsz hd hG hk hub
              have h0:=hd ⟨0,.data⟩ (by simp) rfl _ rfl
              exact Aj (by rfl) rfl (Ab rfl) (Am rfl Try.underlying119 rfl h0 ((KS.out.mod hm (fun h=>h)).cell (j:=4) (by simp))) (Mod.refl _ _) rfl
             ·intro tr act w' hm hout hsz hd hG hk hub
              exact Aj (by rfl) rfl (Ab rfl) (Bp (i:=0) rfl Try.underlying120 (by decide) (by kernel_rfl) ((hout 15 (by decide)).trans oe15) rfl (by omega)) (Mod.refl _ _) rfl
             ·intro tr act w' hm hout hsz hd hG hk hub
              have h2:=hd ⟨2,.data⟩ (by simp) rfl _ rfl
              exact Aj (by rfl) rfl (Ab rfl) (Am rfl Try.underlying119 rfl h2 ((KS.out.mod hm (fun h=>h)).cell (j:=0) (by simp))) (Mod.refl _ _) rfl
             ·intro tr act w' hm hout hsz hd hG hk hub
              have h1:=hd ⟨1,.data⟩ (by simp) rfl _ rfl
              exact Aj (by rfl) rfl (Ab rfl) (An rfl h1) (Mod.refl _ _) rfl
             ·intro tr act w' hm hout hsz hd hG hk hub
              have h3:=hd ⟨3,.data⟩ (by simp) rfl _ rfl
              exact Aj (by rfl) rfl (Ab rfl) (An rfl h3) (Mod.refl _ _) rfl
             intro vs tr w29 hl htl hm hG hV
             obtain ⟨v0,vs0,rfl,hl0⟩:=Ae hl
             obtain ⟨v1,vs1,rfl,hl1⟩:=Ae hl0
             obtain ⟨v2,vs2,rfl,hl2⟩:=Ae hl1
             obtain ⟨v3,vs3,rfl,hl3⟩:=Ae hl2
             obtain ⟨v4,vs4,rfl,hl4⟩:=Ae hl3
             obtain ⟨v5,vs5,rfl,hl5⟩:=Ae hl4
             obtain rfl:=Bl hl5
             clear hl hl0 hl1 hl2 hl3 hl4 hl5
             obtain rfl:v4=.int .u32 s4:=hV 4 _ rfl
             obtain rfl:v5=.int .u32 s0:=hV 5 _ rfl
             have ha0:=HA0.out
             subst ha0
             clear HA0 hV hsz0 oe3 oe9 oe15 oe16
             simp only [Ar,Act.put,sIB,sCZ,sCS]
             replace KS:=Lib.hid (KS.out.mod hm (fun h=>h))
             replace KKK:=Lib.hid (KKK.out.mod hm (fun h=>h))
             replace KFg:=Lib.hid (KFg.out.mod hm (fun h=>h))
             replace KMg:=Lib.hid (KMg.out.trans hm (fun _ _ h=>h.elim))
             clear hG hm htl
             go_upto_region 30 with (fail)
             generalize ha0:Act.mk _ _=a0
             have oe3:a0.eval (.tmp 3)=.pointer (some ⟨q0,0,none⟩):=by rw [← ha0];rfl
             have oe9:a0.eval (.tmp 9)=.pointer (some ⟨g9,0,none⟩):=by rw [← ha0];rfl
             have oe15:a0.eval (.tmp 15)=.pointer (some ⟨q2,0,none⟩):=by rw [← ha0];rfl
             have oe16:a0.eval (.tmp 16)=.int .i64 ((i:Nat):Int):=by rw [← ha0];rfl
             have oe17:a0.eval (.tmp 17)=.int .u32 s4:=by rw [← ha0];rfl
             have hsz0:a0.tmps.size=269:=by rw [← ha0];rfl
             have HA0:=Lib.hid ha0
             clear ha0
             refine Bf 269 hsz0 (by kernel_rfl) (by kernel_rfl) [144,145,146,147,148,149,150,151,152,153,154,155,156,157,158,159,160,161,162,163,164,165,166,167,168,169,170,171,172,173,19] (by kernel_rfl) (by decide) (fun _=>False) (fun _ _=>False) (fun _ _ h=>h) Still (fun _ _ _ h=>h) (fun _ _ _ hm h=>hm.trans h (fun _ _ h=>h.elim)) [gi (.pointer (some ⟨q2,0+7 * 1,none⟩)),gi (.int .u32 s7),gi (.int .u32 s4),gi (.int .u32 (rr 6 s4)),gi (.int .u32 s4),gi (.int .u32 (rr 11 s4)),gi (.int .u32 (bits .xor .u32 (rr 6 s4) (rr 11 s4))),gi (.int .u32 s4),gi (.int .u32 (rr 25 s4)),gi (.int .u32 (bits .xor .u32 (bits .xor .u32 (rr 6 s4) (rr 11 s4)) (rr 25 s4))),gi (.int .u32 (IntKind.u32.wrap (s7+(bits .xor .u32 (bits .xor .u32 (rr 6 s4) (rr 11 s4)) (rr 25 s4))))),gi (.int .u32 s4),gi (.pointer (some ⟨q2,0+5 * 1,none⟩)),gi (.int .u32 s5),gi (.int .u32 (bits .and .u32 s4 s5)),gi (.int .u32 s4),gi (.int .u32 (bits .xor .u32 4294967295 s4)),gi (.pointer (some ⟨q2,0+6 * 1,none⟩)),gi (.int .u32 s6),gi (.int .u32 (bits .and .u32 (bits .xor .u32 4294967295 s4) s6)),gi (.int .u32 (bits .xor .u32 (bits .and .u32 s4 s5) (bits .and .u32 (bits .xor .u32 4294967295 s4) s6))),gi (.int .u32 (IntKind.u32.wrap ((IntKind.u32.wrap (s7+(bits .xor .u32 (bits .xor .u32 (rr 6 s4) (rr 11 s4)) (rr 25 s4))))+(bits .xor .u32 (bits .and .u32 s4 s5) (bits .and .u32 (bits .xor .u32 4294967295 s4) s6))))),gi (.int .i64 ((i:Nat):Int)),gi (.pointer (some ⟨q0,0+i * 1,none⟩)),gi (.int .u32 (K256.getD i 0)),gi (.int .u32 (IntKind.u32.wrap ((IntKind.u32.wrap ((IntKind.u32.wrap (s7+(bits .xor .u32 (bits .xor .u32 (rr 6 s4) (rr 11 s4)) (rr 25 s4))))+(bits .xor .u32 (bits .and .u32 s4 s5) (bits .and .u32 (bits .xor .u32 4294967295 s4) s6))))+(K256.getD i 0)))),gi (.int .i64 ((i:Nat):Int)),gi (.pointer (some ⟨g9,0+i * 1,none⟩)),gi (.int .u32 (F.getD i 0)),gi (.int .u32 (IntKind.u32.wrap ((IntKind.u32.wrap ((IntKind.u32.wrap ((IntKind.u32.wrap (s7+(bits .xor .u32 (bits .xor .u32 (rr 6 s4) (rr 11 s4)) (rr 25 s4))))+(bits .xor .u32 (bits .and .u32 s4 s5) (bits .and .u32 (bits .xor .u32 4294967295 s4) s6))))+(K256.getD i 0)))+(F.getD i 0)))),gi (.int .u32 (IntKind.u32.wrap ((IntKind.u32.wrap ((IntKind.u32.wrap ((IntKind.u32.wrap (s7+(bits .xor .u32 (bits .xor .u32 (rr 6 s4) (rr 11 s4)) (rr 25 s4))))+(bits .xor .u32 (bits .and .u32 s4 s5) (bits .and .u32 (bits .xor .u32 4294967295 s4) s6))))+(K256.getD i 0)))+(F.getD i 0))))] ⟨Af,Af,Af,Af,Af,Af,Af,Af,Af,Af,Af,Af,Af,Af,Af,Af,Af,Af,Af,Af,Af,Af,Af,Af,Af,Af,Af,Af,Af,Af,Af,trivial⟩ [] (by kernel_rfl) (by decide) (by kernel_rfl) (fun _ _=>True) (fun _ _ _ _ _=>trivial) trivial ⟨?_,?_,?_,?_,?_,?_,?_,?_,?_,?_,?_,?_,?_,?_,?_,?_,?_,?_,?_,?_,?_,?_,?_,?_,?_,?_,?_,?_,?_,?_,?_,trivial⟩ ?_
             ·intro tr act w' hm hout hsz hd hG hk hub
              exact Aj (by rfl) rfl (Ab rfl) (Bp (i:=7) rfl Try.underlying120 (by decide) (by kernel_rfl) ((hout 15 (by decide)).trans oe15) rfl (by omega)) (Mod.refl _ _) rfl
             ·intro tr act w' hm hout hsz hd hG hk hub
              have h0:=hd ⟨0,.data⟩ (by simp) rfl _ rfl
              exact Aj (by rfl) rfl (Ab rfl) (Am rfl Try.underlying119 rfl h0 ((KS.out.mod hm (fun h=>h)).cell (j:=7) (by simp))) (Mod.refl _ _) rfl
             ·intro tr act w' hm hout hsz hd hG hk hub
              exact Aj (by rfl) rfl (Ab rfl) (Ah rfl ((hout 17 (by decide)).trans oe17)) (Mod.refl _ _) rfl
             ·intro tr act w' hm hout hsz hd hG hk hub
              have h2:=hd ⟨2,.data⟩ (by simp) rfl _ rfl
              refine B6 (args:=#[.int .u32 s4,.int .u64 6]) (by rfl) rfl (Ab rfl) (by rw [A8 rfl Try.func73 (by kernel_rfl) (by kernel_rfl)];exact congrArg (fun z=>Result.ok (Next.enter _ z) _) (by simp only [List.map_toArray,List.map_cons,List.map_nil,show act.eval (.tmp 146)=_ from h2];try rfl)) (TN_6 s4 _) ?_
              rintro e w2 ⟨rfl,rfl⟩
              exact ⟨_,rfl,Mod.refl _ _,rfl⟩
             ·intro tr act w' hm hout hsz hd hG hk hub
              exact Aj (by rfl) rfl (Ab rfl) (Ah rfl ((hout 17 (by decide)).trans oe17)) (Mod.refl _ _) rfl
             ·intro tr act w' hm hout hsz hd hG hk hub
              have h4:=hd ⟨4,.data⟩ (by simp) rfl _ rfl
              refine B6 (args:=#[.int .u32 s4,.int .u64 11]) (by rfl) rfl (Ab rfl) (by rw [A8 rfl Try.func73 (by kernel_rfl) (by kernel_rfl)];exact congrArg (fun z=>Result.ok (Next.enter _ z) _) (by simp only [List.map_toArray,List.map_cons,List.map_nil,show act.eval (.tmp 148)=_ from h4];try rfl)) (TN_11 s4 _) ?_
              rintro e w2 ⟨rfl,rfl⟩
              exact ⟨_,rfl,Mod.refl _ _,rfl⟩
             ·intro tr act w' hm hout hsz hd hG hk hub
              have h3:=hd ⟨3,.data⟩ (by simp) rfl _ rfl
              have h5:=hd ⟨5,.data⟩ (by simp) rfl _ rfl
              exact Aj (by rfl) rfl (Ab rfl) (A7 rfl h3 h5 (Ak _ _ _ _ _ _) (run_xor_i _ _)) (Mod.refl _ _) rfl
             ·intro tr act w' hm hout hsz hd hG hk hub
              exact Aj (by rfl) rfl (Ab rfl) (Ah rfl ((hout 17 (by decide)).trans oe17)) (Mod.refl _ _) rfl
             ·intro tr act w' hm hout hsz hd hG hk hub
              have h7:=hd ⟨7,.data⟩ (by simp) rfl _ rfl
              refine B6 (args:=#[.int .u32 s4,.int .u64 25]) (by rfl) rfl (Ab rfl) (by rw [A8 rfl Try.func73 (by kernel_rfl) (by kernel_rfl)];exact congrArg (fun z=>Result.ok (Next.enter _ z) _) (by simp only [List.map_toArray,List.map_cons,List.map_nil,show act.eval (.tmp 151)=_ from h7];try rfl)) (TN_25 s4 _) ?_
              rintro e w2 ⟨rfl,rfl⟩
              exact ⟨_,rfl,Mod.refl _ _,rfl⟩
             ·intro tr act w' hm hout hsz hd hG hk hub
              have h6:=hd ⟨6,.data⟩ (by simp) rfl _ rfl
              have h8:=hd ⟨8,.data⟩ (by simp) rfl _ rfl
              exact Aj (by rfl) rfl (Ab rfl) (A7 rfl h6 h8 (Ak _ _ _ _ _ _) (run_xor_i _ _)) (Mod.refl _ _) rfl
             ·intro tr act w' hm hout hsz hd hG hk hub
              have h1:=hd ⟨1,.data⟩ (by simp) rfl _ rfl
              have h9:=hd ⟨9,.data⟩ (by simp) rfl _ rfl
              exact Aj (by rfl) rfl (Ab rfl) (A7 rfl h1 h9 (Ak _ _ _ _ _ _) (Be _ _ Try.underlying119)) (Mod.refl _ _) rfl
             ·intro tr act w' hm hout hsz hd hG hk hub
              exact Aj (by rfl) rfl (Ab rfl) (Ah rfl ((hout 17 (by decide)).trans oe17)) (Mod.refl _ _) rfl
             ·intro tr act w' hm hout hsz hd hG hk hub
              exact Aj (by rfl) rfl (Ab rfl) (Bp (i:=5) rfl Try.underlying120 (by decide) (by kernel_rfl) ((hout 15 (by decide)).trans oe15) rfl (by omega)) (Mod.refl _ _) rfl
             ·intro tr act w' hm hout hsz hd hG hk hub
              have h12:=hd ⟨12,.data⟩ (by simp) rfl _ rfl
              exact Aj (by rfl) rfl (Ab rfl) (Am rfl Try.underlying119 rfl h12 ((KS.out.mod hm (fun h=>h)).cell (j:=5) (by simp))) (Mod.refl _ _) rfl
             ·intro tr act w' hm hout hsz hd hG hk hub
              have h11:=hd ⟨11,.data⟩ (by simp) rfl _ rfl
              have h13:=hd ⟨13,.data⟩ (by simp) rfl _ rfl
              exact Aj (by rfl) rfl (Ab rfl) (A7 rfl h11 h13 (Ak _ _ _ _ _ _) (run_and_i _ _)) (Mod.refl _ _) rfl
             ·intro tr act w' hm hout hsz hd hG hk hub
              exact Aj (by rfl) rfl (Ab rfl) (Ah rfl ((hout 17 (by decide)).trans oe17)) (Mod.refl _ _) rfl
             ·intro tr act w' hm hout hsz hd hG hk hub
              have h15:=hd ⟨15,.data⟩ (by simp) rfl _ rfl
              exact Aj (by rfl) rfl (Ab rfl) (ex_notx rfl h15) (Mod.refl _ _) rfl
             ·intro tr act w' hm hout hsz hd hG hk hub
              exact Aj (by rfl) rfl (Ab rfl) (Bp (i:=6) rfl Try.underlying120 (by decide) (by kernel_rfl) ((hout 15 (by decide)).trans oe15) rfl (by omega)) (Mod.refl _ _) rfl
             ·intro tr act w' hm hout hsz hd hG hk hub
              have h17:=hd ⟨17,.data⟩ (by simp) rfl _ rfl
              exact Aj (by rfl) rfl (Ab rfl) (Am rfl Try.underlying119 rfl h17 ((KS.out.mod hm (fun h=>h)).cell (j:=6) (by simp))) (Mod.refl _ _) rfl
             ·intro tr act w' hm hout hsz hd hG hk hub
              have h16:=hd ⟨16,.data⟩ (by simp) rfl _ rfl
              have h18:=hd ⟨18,.data⟩ (by simp) rfl _ rfl
              exact Aj (by rfl) rfl (Ab rfl) (A7 rfl h16 h18 (Ak _ _ _ _ _ _) (run_and_i _ _)) (Mod.refl _ _) rfl
             ·intro tr act w' hm hout hsz hd hG hk hub
              have h14:=hd ⟨14,.data⟩ (by simp) rfl _ rfl
              have h19:=hd ⟨19,.data⟩ (by simp) rfl _ rfl
              exact Aj (by rfl) rfl (Ab rfl) (A7 rfl h14 h19 (Ak _ _ _ _ _ _) (run_xor_i _ _)) (Mod.refl _ _) rfl
             ·intro tr act w' hm hout hsz hd hG hk hub
              have h10:=hd ⟨10,.data⟩ (by simp) rfl _ rfl
              have h20:=hd ⟨20,.data⟩ (by simp) rfl _ rfl
              exact Aj (by rfl) rfl (Ab rfl) (A7 rfl h10 h20 (Ak _ _ _ _ _ _) (Be _ _ Try.underlying119)) (Mod.refl _ _) rfl
             ·intro tr act w' hm hout hsz hd hG hk hub
              exact Aj (by rfl) rfl (Ab rfl) (Ah rfl ((hout 16 (by decide)).trans oe16)) (Mod.refl _ _) rfl
             ·intro tr act w' hm hout hsz hd hG hk hub
              have h22:=hd ⟨22,.data⟩ (by simp) rfl _ rfl
              exact Aj (by rfl) rfl (Ab rfl) (Bp (i:=i) rfl Try.underlying122 (by decide) (by kernel_rfl) ((hout 3 (by decide)).trans oe3) h22 (by omega)) (Mod.refl _ _) rfl
             ·intro tr act w' hm hout hsz hd hG hk hub
              have h23:=hd ⟨23,.data⟩ (by simp) rfl _ rfl
              exact Aj (by rfl) rfl (Ab rfl) (Am rfl Try.underlying119 rfl h23 (by rw [show 0+i * 1=i by omega];exact (KKK.out.mod hm (fun h=>h)).cell (by rw [K256_len];omega))) (Mod.refl _ _) rfl
             ·intro tr act w' hm hout hsz hd hG hk hub
              have h21:=hd ⟨21,.data⟩ (by simp) rfl _ rfl
              have h24:=hd ⟨24,.data⟩ (by simp) rfl _ rfl
              exact Aj (by rfl) rfl (Ab rfl) (A7 rfl h21 h24 (Ak _ _ _ _ _ _) (Be _ _ Try.underlying119)) (Mod.refl _ _) rfl
             ·intro tr act w' hm hout hsz hd hG hk hub
              exact Aj (by rfl) rfl (Ab rfl) (Ah rfl ((hout 16 (by decide)).trans oe16)) (Mod.refl _ _) rfl
             ·intro tr act w' hm hout hsz hd hG hk hub
              have h26:=hd ⟨26,.data⟩ (by simp) rfl _ rfl
              exact Aj (by rfl) rfl (Ab rfl) (Bp (i:=i) rfl Try.underlying122 (by decide) (by kernel_rfl) ((hout 9 (by decide)).trans oe9) h26 (by omega)) (Mod.refl _ _) rfl
             ·intro tr act w' hm hout hsz hd hG hk hub
              have h27:=hd ⟨27,.data⟩ (by simp) rfl _ rfl
              exact Aj (by rfl) rfl (Ab rfl) (Am rfl Try.underlying119 rfl h27 (by rw [show 0+i * 1=i by omega];exact (KFg.out.mod hm (fun h=>h)).cell (by rw [HFL2.out];omega))) (Mod.refl _ _) rfl
             ·intro tr act w' hm hout hsz hd hG hk hub
              have h25:=hd ⟨25,.data⟩ (by simp) rfl _ rfl
              have h28:=hd ⟨28,.data⟩ (by simp) rfl _ rfl
              exact Aj (by rfl) rfl (Ab rfl) (A7 rfl h25 h28 (Ak _ _ _ _ _ _) (Be _ _ Try.underlying119)) (Mod.refl _ _) rfl
             ·intro tr act w' hm hout hsz hd hG hk hub
              have h29:=hd ⟨29,.data⟩ (by simp) rfl _ rfl
              exact Aj (by rfl) rfl (Ab rfl) (An rfl h29) (Mod.refl _ _) rfl
             intro vs tr w30 hl htl hm hG hV
             obtain ⟨v0,vs0,rfl,hl0⟩:=Ae hl
             obtain ⟨v1,vs1,rfl,hl1⟩:=Ae hl0
             obtain ⟨v2,vs2,rfl,hl2⟩:=Ae hl1
             obtain ⟨v3,vs3,rfl,hl3⟩:=Ae hl2
             obtain ⟨v4,vs4,rfl,hl4⟩:=Ae hl3
             obtain ⟨v5,vs5,rfl,hl5⟩:=Ae hl4
             obtain ⟨v6,vs6,rfl,hl6⟩:=Ae hl5
             obtain ⟨v7,vs7,rfl,hl7⟩:=Ae hl6
             obtain ⟨v8,vs8,rfl,hl8⟩:=Ae hl7
             obtain ⟨v9,vs9,rfl,hl9⟩:=Ae hl8
             obtain ⟨v10,vs10,rfl,hl10⟩:=Ae hl9
             obtain ⟨v11,vs11,rfl,hl11⟩:=Ae hl10
             obtain ⟨v12,vs12,rfl,hl12⟩:=Ae hl11
             obtain ⟨v13,vs13,rfl,hl13⟩:=Ae hl12
             obtain ⟨v14,vs14,rfl,hl14⟩:=Ae hl13
             obtain ⟨v15,vs15,rfl,hl15⟩:=Ae hl14
             obtain ⟨v16,vs16,rfl,hl16⟩:=Ae hl15
             obtain ⟨v17,vs17,rfl,hl17⟩:=Ae hl16
             obtain ⟨v18,vs18,rfl,hl18⟩:=Ae hl17
             obtain ⟨v19,vs19,rfl,hl19⟩:=Ae hl18
             obtain ⟨v20,vs20,rfl,hl20⟩:=Ae hl19
             obtain ⟨v21,vs21,rfl,hl21⟩:=Ae hl20
             obtain ⟨v22,vs22,rfl,hl22⟩:=Ae hl21
             obtain ⟨v23,vs23,rfl,hl23⟩:=Ae hl22
             obtain ⟨v24,vs24,rfl,hl24⟩:=Ae hl23
             obtain ⟨v25,vs25,rfl,hl25⟩:=Ae hl24
             obtain ⟨v26,vs26,rfl,hl26⟩:=Ae hl25
             obtain ⟨v27,vs27,rfl,hl27⟩:=Ae hl26
             obtain ⟨v28,vs28,rfl,hl28⟩:=Ae hl27
             obtain ⟨v29,vs29,rfl,hl29⟩:=Ae hl28
             obtain ⟨v30,vs30,rfl,hl30⟩:=Ae hl29
             obtain rfl:=Bl hl30
             clear hl hl0 hl1 hl2 hl3 hl4 hl5 hl6 hl7 hl8 hl9 hl10 hl11 hl12 hl13 hl14 hl15 hl16 hl17 hl18 hl19 hl20 hl21 hl22 hl23 hl24 hl25 hl26 hl27 hl28 hl29 hl30
             obtain rfl:v30=.int .u32 (IntKind.u32.wrap ((IntKind.u32.wrap ((IntKind.u32.wrap ((IntKind.u32.wrap (s7+(bits .xor .u32 (bits .xor .u32 (rr 6 s4) (rr 11 s4)) (rr 25 s4))))+(bits .xor .u32 (bits .and .u32 s4 s5) (bits .and .u32 (bits .xor .u32 4294967295 s4) s6))))+(K256.getD i 0)))+(F.getD i 0))):=hV 30 _ rfl
             have ha0:=HA0.out
             subst ha0
             clear HA0 hV hsz0 oe3 oe9 oe15 oe16 oe17
             simp only [Ar,Act.put,sIB,sCZ,sCS]
             replace KS:=Lib.hid (KS.out.mod hm (fun h=>h))
             replace KMg:=Lib.hid (KMg.out.trans hm (fun _ _ h=>h.elim))
             clear hG hm htl KKK KFg
             obtain ⟨tt,htt⟩:∃ tt,tt=(IntKind.u32.wrap ((IntKind.u32.wrap ((IntKind.u32.wrap ((IntKind.u32.wrap (s7+(bits .xor .u32 (bits .xor .u32 (rr 6 s4) (rr 11 s4)) (rr 25 s4))))+(bits .xor .u32 (bits .and .u32 s4 s5) (bits .and .u32 (bits .xor .u32 4294967295 s4) s6))))+(K256.getD i 0)))+(F.getD i 0))):=⟨_,rfl⟩
             rw [← htt]
             have HTT:=Lib.hid (show mixT [s0,s1,s2,s3,s4,s5,s6,s7] (K256.getD i 0) (F.getD i 0)=tt by rw [htt];exact mixT_auto _ _ _ _ _ _ _ _ _ _)
             clear htt
             go_upto_region 31 with (fail)
             generalize ha0:Act.mk _ _=a0
             have oe3:a0.eval (.tmp 3)=.pointer (some ⟨q0,0,none⟩):=by rw [← ha0];rfl
             have oe9:a0.eval (.tmp 9)=.pointer (some ⟨g9,0,none⟩):=by rw [← ha0];rfl
             have oe15:a0.eval (.tmp 15)=.pointer (some ⟨q2,0,none⟩):=by rw [← ha0];rfl
             have oe16:a0.eval (.tmp 16)=.int .i64 ((i:Nat):Int):=by rw [← ha0];rfl
             have oe18:a0.eval (.tmp 18)=.int .u32 s0:=by rw [← ha0];rfl
             have hsz0:a0.tmps.size=269:=by rw [← ha0];rfl
             have HA0:=Lib.hid ha0
             clear ha0
             refine Bf 269 hsz0 (by kernel_rfl) (by kernel_rfl) [174,175,176,177,178,179,180,181,182,183,184,185,186,187,188,189,190,191,192,193,194,195,196,197,20] (by kernel_rfl) (by decide) (fun _=>False) (fun _ _=>False) (fun _ _ h=>h) Still (fun _ _ _ h=>h) (fun _ _ _ hm h=>hm.trans h (fun _ _ h=>h.elim)) [gi (.int .u32 s0),gi (.int .u32 (rr 2 s0)),gi (.int .u32 s0),gi (.int .u32 (rr 13 s0)),gi (.int .u32 (bits .xor .u32 (rr 2 s0) (rr 13 s0))),gi (.int .u32 s0),gi (.int .u32 (rr 22 s0)),gi (.int .u32 (bits .xor .u32 (bits .xor .u32 (rr 2 s0) (rr 13 s0)) (rr 22 s0))),gi (.int .u32 s0),gi (.pointer (some ⟨q2,0+1 * 1,none⟩)),gi (.int .u32 s1),gi (.int .u32 (bits .and .u32 s0 s1)),gi (.int .u32 s0),gi (.pointer (some ⟨q2,0+2 * 1,none⟩)),gi (.int .u32 s2),gi (.int .u32 (bits .and .u32 s0 s2)),gi (.int .u32 (bits .xor .u32 (bits .and .u32 s0 s1) (bits .and .u32 s0 s2))),gi (.pointer (some ⟨q2,0+1 * 1,none⟩)),gi (.int .u32 s1),gi (.pointer (some ⟨q2,0+2 * 1,none⟩)),gi (.int .u32 s2),gi (.int .u32 (bits .and .u32 s1 s2)),gi (.int .u32 (bits .xor .u32 (bits .xor .u32 (bits .and .u32 s0 s1) (bits .and .u32 s0 s2)) (bits .and .u32 s1 s2))),gi (.int .u32 (IntKind.u32.wrap ((bits .xor .u32 (bits .xor .u32 (rr 2 s0) (rr 13 s0)) (rr 22 s0))+(bits .xor .u32 (bits .xor .u32 (bits .and .u32 s0 s1) (bits .and .u32 s0 s2)) (bits .and .u32 s1 s2))))),gi (.int .u32 (IntKind.u32.wrap ((bits .xor .u32 (bits .xor .u32 (rr 2 s0) (rr 13 s0)) (rr 22 s0))+(bits .xor .u32 (bits .xor .u32 (bits .and .u32 s0 s1) (bits .and .u32 s0 s2)) (bits .and .u32 s1 s2)))))] ⟨Af,Af,Af,Af,Af,Af,Af,Af,Af,Af,Af,Af,Af,Af,Af,Af,Af,Af,Af,Af,Af,Af,Af,Af,Af,trivial⟩ [] (by kernel_rfl) (by decide) (by kernel_rfl) (fun _ _=>True) (fun _ _ _ _ _=>trivial) trivial ⟨?_,?_,?_,?_,?_,?_,?_,?_,?_,?_,?_,?_,?_,?_,?_,?_,?_,?_,?_,?_,?_,?_,?_,?_,?_,trivial⟩ ?_
             ·intro tr act w' hm hout hsz hd hG hk hub
              exact Aj (by rfl) rfl (Ab rfl) (Ah rfl ((hout 18 (by decide)).trans oe18)) (Mod.refl _ _) rfl
             ·intro tr act w' hm hout hsz hd hG hk hub
              have h0:=hd ⟨0,.data⟩ (by simp) rfl _ rfl
              refine B6 (args:=#[.int .u32 s0,.int .u64 2]) (by rfl) rfl (Ab rfl) (by rw [A8 rfl Try.func73 (by kernel_rfl) (by kernel_rfl)];exact congrArg (fun z=>Result.ok (Next.enter _ z) _) (by simp only [List.map_toArray,List.map_cons,List.map_nil,show act.eval (.tmp 174)=_ from h0];try rfl)) (TN_2 s0 _) ?_
              rintro e w2 ⟨rfl,rfl⟩
              exact ⟨_,rfl,Mod.refl _ _,rfl⟩
             ·intro tr act w' hm hout hsz hd hG hk hub
              exact Aj (by rfl) rfl (Ab rfl) (Ah rfl ((hout 18 (by decide)).trans oe18)) (Mod.refl _ _) rfl
             ·intro tr act w' hm hout hsz hd hG hk hub
              have h2:=hd ⟨2,.data⟩ (by simp) rfl _ rfl
              refine B6 (args:=#[.int .u32 s0,.int .u64 13]) (by rfl) rfl (Ab rfl) (by rw [A8 rfl Try.func73 (by kernel_rfl) (by kernel_rfl)];exact congrArg (fun z=>Result.ok (Next.enter _ z) _) (by simp only [List.map_toArray,List.map_cons,List.map_nil,show act.eval (.tmp 176)=_ from h2];try rfl)) (TN_13 s0 _) ?_
              rintro e w2 ⟨rfl,rfl⟩
              exact ⟨_,rfl,Mod.refl _ _,rfl⟩
             ·intro tr act w' hm hout hsz hd hG hk hub
              have h1:=hd ⟨1,.data⟩ (by simp) rfl _ rfl
              have h3:=hd ⟨3,.data⟩ (by simp) rfl _ rfl
              exact Aj (by rfl) rfl (Ab rfl) (A7 rfl h1 h3 (Ak _ _ _ _ _ _) (run_xor_i _ _)) (Mod.refl _ _) rfl
             ·intro tr act w' hm hout hsz hd hG hk hub
              exact Aj (by rfl) rfl (Ab rfl) (Ah rfl ((hout 18 (by decide)).trans oe18)) (Mod.refl _ _) rfl
             ·intro tr act w' hm hout hsz hd hG hk hub
              have h5:=hd ⟨5,.data⟩ (by simp) rfl _ rfl
              refine B6 (args:=#[.int .u32 s0,.int .u64 22]) (by rfl) rfl (Ab rfl) (by rw [A8 rfl Try.func73 (by kernel_rfl) (by kernel_rfl)];exact congrArg (fun z=>Result.ok (Next.enter _ z) _) (by simp only [List.map_toArray,List.map_cons,List.map_nil,show act.eval (.tmp 179)=_ from h5];try rfl)) (TN_22 s0 _) ?_
              rintro e w2 ⟨rfl,rfl⟩
              exact ⟨_,rfl,Mod.refl _ _,rfl⟩
             ·intro tr act w' hm hout hsz hd hG hk hub
              have h4:=hd ⟨4,.data⟩ (by simp) rfl _ rfl
              have h6:=hd ⟨6,.data⟩ (by simp) rfl _ rfl
              exact Aj (by rfl) rfl (Ab rfl) (A7 rfl h4 h6 (Ak _ _ _ _ _ _) (run_xor_i _ _)) (Mod.refl _ _) rfl
             ·intro tr act w' hm hout hsz hd hG hk hub
              exact Aj (by rfl) rfl (Ab rfl) (Ah rfl ((hout 18 (by decide)).trans oe18)) (Mod.refl _ _) rfl
             ·intro tr act w' hm hout hsz hd hG hk hub
              exact Aj (by rfl) rfl (Ab rfl) (Bp (i:=1) rfl Try.underlying120 (by decide) (by kernel_rfl) ((hout 15 (by decide)).trans oe15) rfl (by omega)) (Mod.refl _ _) rfl
             ·intro tr act w' hm hout hsz hd hG hk hub
              have h9:=hd ⟨9,.data⟩ (by simp) rfl _ rfl
              exact Aj (by rfl) rfl (Ab rfl) (Am rfl Try.underlying119 rfl h9 ((KS.out.mod hm (fun h=>h)).cell (j:=1) (by simp))) (Mod.refl _ _) rfl
             ·intro tr act w' hm hout hsz hd hG hk hub
              have h8:=hd ⟨8,.data⟩ (by simp) rfl _ rfl
              have h10:=hd ⟨10,.data⟩ (by simp) rfl _ rfl
              exact Aj (by rfl) rfl (Ab rfl) (A7 rfl h8 h10 (Ak _ _ _ _ _ _) (run_and_i _ _)) (Mod.refl _ _) rfl
             ·intro tr act w' hm hout hsz hd hG hk hub
              exact Aj (by rfl) rfl (Ab rfl) (Ah rfl ((hout 18 (by decide)).trans oe18)) (Mod.refl _ _) rfl
             ·intro tr act w' hm hout hsz hd hG hk hub
              exact Aj (by rfl) rfl (Ab rfl) (Bp (i:=2) rfl Try.underlying120 (by decide) (by kernel_rfl) ((hout 15 (by decide)).trans oe15) rfl (by omega)) (Mod.refl _ _) rfl
             ·intro tr act w' hm hout hsz hd hG hk hub
              have h13:=hd ⟨13,.data⟩ (by simp) rfl _ rfl
              exact Aj (by rfl) rfl (Ab rfl) (Am rfl Try.underlying119 rfl h13 ((KS.out.mod hm (fun h=>h)).cell (j:=2) (by simp))) (Mod.refl _ _) rfl
             ·intro tr act w' hm hout hsz hd hG hk hub
              have h12:=hd ⟨12,.data⟩ (by simp) rfl _ rfl
              have h14:=hd ⟨14,.data⟩ (by simp) rfl _ rfl
              exact Aj (by rfl) rfl (Ab rfl) (A7 rfl h12 h14 (Ak _ _ _ _ _ _) (run_and_i _ _)) (Mod.refl _ _) rfl
             ·intro tr act w' hm hout hsz hd hG hk hub
              have h11:=hd ⟨11,.data⟩ (by simp) rfl _ rfl
              have h15:=hd ⟨15,.data⟩ (by simp) rfl _ rfl
              exact Aj (by rfl) rfl (Ab rfl) (A7 rfl h11 h15 (Ak _ _ _ _ _ _) (run_xor_i _ _)) (Mod.refl _ _) rfl
             ·intro tr act w' hm hout hsz hd hG hk hub
              exact Aj (by rfl) rfl (Ab rfl) (Bp (i:=1) rfl Try.underlying120 (by decide) (by kernel_rfl) ((hout 15 (by decide)).trans oe15) rfl (by omega)) (Mod.refl _ _) rfl
             ·intro tr act w' hm hout hsz hd hG hk hub
              have h17:=hd ⟨17,.data⟩ (by simp) rfl _ rfl
              exact Aj (by rfl) rfl (Ab rfl) (Am rfl Try.underlying119 rfl h17 ((KS.out.mod hm (fun h=>h)).cell (j:=1) (by simp))) (Mod.refl _ _) rfl
             ·intro tr act w' hm hout hsz hd hG hk hub
              exact Aj (by rfl) rfl (Ab rfl) (Bp (i:=2) rfl Try.underlying120 (by decide) (by kernel_rfl) ((hout 15 (by decide)).trans oe15) rfl (by omega)) (Mod.refl _ _) rfl
             ·intro tr act w' hm hout hsz hd hG hk hub
              have h19:=hd ⟨19,.data⟩ (by simp) rfl _ rfl
              exact Aj (by rfl) rfl (Ab rfl) (Am rfl Try.underlying119 rfl h19 ((KS.out.mod hm (fun h=>h)).cell (j:=2) (by simp))) (Mod.refl _ _) rfl
             ·intro tr act w' hm hout hsz hd hG hk hub
              have h18:=hd ⟨18,.data⟩ (by simp) rfl _ rfl
              have h20:=hd ⟨20,.data⟩ (by simp) rfl _ rfl
              exact Aj (by rfl) rfl (Ab rfl) (A7 rfl h18 h20 (Ak _ _ _ _ _ _) (run_and_i _ _)) (Mod.refl _ _) rfl
             ·intro tr act w' hm hout hsz hd hG hk hub
              have h16:=hd ⟨16,.data⟩ (by simp) rfl _ rfl
              have h21:=hd ⟨21,.data⟩ (by simp) rfl _ rfl
              exact Aj (by rfl) rfl (Ab rfl) (A7 rfl h16 h21 (Ak _ _ _ _ _ _) (run_xor_i _ _)) (Mod.refl _ _) rfl
             ·intro tr act w' hm hout hsz hd hG hk hub
              have h7:=hd ⟨7,.data⟩ (by simp) rfl _ rfl
              have h22:=hd ⟨22,.data⟩ (by simp) rfl _ rfl
              exact Aj (by rfl) rfl (Ab rfl) (A7 rfl h7 h22 (Ak _ _ _ _ _ _) (Be _ _ Try.underlying119)) (Mod.refl _ _) rfl
             ·intro tr act w' hm hout hsz hd hG hk hub
              have h23:=hd ⟨23,.data⟩ (by simp) rfl _ rfl
              exact Aj (by rfl) rfl (Ab rfl) (An rfl h23) (Mod.refl _ _) rfl
             intro vs tr w31 hl htl hm hG hV
             obtain ⟨v0,vs0,rfl,hl0⟩:=Ae hl
             obtain ⟨v1,vs1,rfl,hl1⟩:=Ae hl0
             obtain ⟨v2,vs2,rfl,hl2⟩:=Ae hl1
             obtain ⟨v3,vs3,rfl,hl3⟩:=Ae hl2
             obtain ⟨v4,vs4,rfl,hl4⟩:=Ae hl3
             obtain ⟨v5,vs5,rfl,hl5⟩:=Ae hl4
             obtain ⟨v6,vs6,rfl,hl6⟩:=Ae hl5
             obtain ⟨v7,vs7,rfl,hl7⟩:=Ae hl6
             obtain ⟨v8,vs8,rfl,hl8⟩:=Ae hl7
             obtain ⟨v9,vs9,rfl,hl9⟩:=Ae hl8
             obtain ⟨v10,vs10,rfl,hl10⟩:=Ae hl9
             obtain ⟨v11,vs11,rfl,hl11⟩:=Ae hl10
             obtain ⟨v12,vs12,rfl,hl12⟩:=Ae hl11
             obtain ⟨v13,vs13,rfl,hl13⟩:=Ae hl12
             obtain ⟨v14,vs14,rfl,hl14⟩:=Ae hl13
             obtain ⟨v15,vs15,rfl,hl15⟩:=Ae hl14
             obtain ⟨v16,vs16,rfl,hl16⟩:=Ae hl15
             obtain ⟨v17,vs17,rfl,hl17⟩:=Ae hl16
             obtain ⟨v18,vs18,rfl,hl18⟩:=Ae hl17
             obtain ⟨v19,vs19,rfl,hl19⟩:=Ae hl18
             obtain ⟨v20,vs20,rfl,hl20⟩:=Ae hl19
             obtain ⟨v21,vs21,rfl,hl21⟩:=Ae hl20
             obtain ⟨v22,vs22,rfl,hl22⟩:=Ae hl21
             obtain ⟨v23,vs23,rfl,hl23⟩:=Ae hl22
             obtain ⟨v24,vs24,rfl,hl24⟩:=Ae hl23
             obtain rfl:=Bl hl24
             clear hl hl0 hl1 hl2 hl3 hl4 hl5 hl6 hl7 hl8 hl9 hl10 hl11 hl12 hl13 hl14 hl15 hl16 hl17 hl18 hl19 hl20 hl21 hl22 hl23 hl24
             obtain rfl:v24=.int .u32 (IntKind.u32.wrap ((bits .xor .u32 (bits .xor .u32 (rr 2 s0) (rr 13 s0)) (rr 22 s0))+(bits .xor .u32 (bits .xor .u32 (bits .and .u32 s0 s1) (bits .and .u32 s0 s2)) (bits .and .u32 s1 s2)))):=hV 24 _ rfl
             have ha0:=HA0.out
             subst ha0
             clear HA0 hV hsz0 oe3 oe9 oe15 oe16 oe18
             simp only [Ar,Act.put,sIB,sCZ,sCS]
             replace KS:=Lib.hid (KS.out.mod hm (fun h=>h))
             replace KMg:=Lib.hid (KMg.out.trans hm (fun _ _ h=>h.elim))
             clear hG hm htl
             obtain ⟨uu,huu⟩:∃ uu,uu=(IntKind.u32.wrap ((bits .xor .u32 (bits .xor .u32 (rr 2 s0) (rr 13 s0)) (rr 22 s0))+(bits .xor .u32 (bits .xor .u32 (bits .and .u32 s0 s1) (bits .and .u32 s0 s2)) (bits .and .u32 s1 s2)))):=⟨_,rfl⟩
             rw [← huu]
             have HUU:=Lib.hid (show mixU [s0,s1,s2,s3,s4,s5,s6,s7]=uu by rw [huu];exact mixU_auto _ _ _ _ _ _ _ _)
             clear huu
             have HMS:=Lib.hid (show (Value.agg #[.int .u32 (IntKind.u32.wrap (tt+uu)),.int .u32 (s0),.int .u32 (s1),.int .u32 (s2),.int .u32 (IntKind.u32.wrap (s3+tt)),.int .u32 (s4),.int .u32 (s5),.int .u32 (s6)]).cells=((mixStep [s0,s1,s2,s3,s4,s5,s6,s7] (K256.getD i 0) (F.getD i 0)).map wv).toArray by
              unfold mixStep
              rw [HTT.out,HUU.out]
              simp only [pl,IntKind.wrap_u32]
              rfl)
             have HW:=Lib.hid (show ByLen (RsW q2 120 ([s0,s1,s2,s3,s4,s5,s6,s7].map wv) ((mixStep [s0,s1,s2,s3,s4,s5,s6,s7] (K256.getD i 0) (F.getD i 0)).map wv)) [] w31 from KS.out)
             clear KS HTT HUU
             go_upto_region 32 with (fail)
             generalize ha0:Act.mk _ _=a0
             have oe3:a0.eval (.tmp 3)=.pointer (some ⟨q0,0,none⟩):=by rw [← ha0];rfl
             have oe9:a0.eval (.tmp 9)=.pointer (some ⟨g9,0,none⟩):=by rw [← ha0];rfl
             have oe15:a0.eval (.tmp 15)=.pointer (some ⟨q2,0,none⟩):=by rw [← ha0];rfl
             have oe16:a0.eval (.tmp 16)=.int .i64 ((i:Nat):Int):=by rw [← ha0];rfl
             have oe19:a0.eval (.tmp 19)=.int .u32 tt:=by rw [← ha0];rfl
             have oe20:a0.eval (.tmp 20)=.int .u32 uu:=by rw [← ha0];rfl
             have hsz0:a0.tmps.size=269:=by rw [← ha0];rfl
             have HA0:=Lib.hid ha0
             clear ha0
             refine Bf 269 hsz0 (by kernel_rfl) (by kernel_rfl) [198,199,200,201,202,203,204,205,206,207,208,209,210,211,212,213,214,215,216,217,289] (by kernel_rfl) (by decide) (fun j=>j=q2) (fun _ j=>j=q2) (fun _ _ h=>h) Still (fun _ _ _ h=>h) (fun _ _ _ hm h=>hm.trans h (fun _ _ h=>h.elim)) [gi (.int .u32 tt),gi (.int .u32 uu),gi (.int .u32 (IntKind.u32.wrap (tt+uu))),gi (.pointer (some ⟨q2,0+0 * 1,none⟩)),gi (.int .u32 s0),gi (.pointer (some ⟨q2,0+1 * 1,none⟩)),gi (.int .u32 s1),gi (.pointer (some ⟨q2,0+2 * 1,none⟩)),gi (.int .u32 s2),gi (.pointer (some ⟨q2,0+3 * 1,none⟩)),gi (.int .u32 s3),gi (.int .u32 tt),gi (.int .u32 (IntKind.u32.wrap (s3+tt))),gi (.pointer (some ⟨q2,0+4 * 1,none⟩)),gi (.int .u32 s4),gi (.pointer (some ⟨q2,0+5 * 1,none⟩)),gi (.int .u32 s5),gi (.pointer (some ⟨q2,0+6 * 1,none⟩)),gi (.int .u32 s6),gi (.agg #[.int .u32 (IntKind.u32.wrap (tt+uu)),.int .u32 (s0),.int .u32 (s1),.int .u32 (s2),.int .u32 (IntKind.u32.wrap (s3+tt)),.int .u32 (s4),.int .u32 (s5),.int .u32 (s6)]),ga] ⟨Af,Af,Af,Af,Af,Af,Af,Af,Af,Af,Af,Af,Af,Af,Af,Af,Af,Af,Af,Af,Bq,trivial⟩ [20] (by kernel_rfl) (by decide) (by kernel_rfl) (ByLen (RsW q2 120 ([s0,s1,s2,s3,s4,s5,s6,s7].map wv) ((mixStep [s0,s1,s2,s3,s4,s5,s6,s7] (K256.getD i 0) (F.getD i 0)).map wv))) (ByLen.still RsW_still) HW.out ⟨?_,?_,?_,?_,?_,?_,?_,?_,?_,?_,?_,?_,?_,?_,?_,?_,?_,?_,?_,?_,?_,trivial⟩ ?_
             ·intro tr act w' hm hout hsz hd hG hk hub
              exact Aj (by rfl) rfl (Ab rfl) (Ah rfl ((hout 19 (by decide)).trans oe19)) (Mod.refl _ _) rfl
             ·intro tr act w' hm hout hsz hd hG hk hub
              exact Aj (by rfl) rfl (Ab rfl) (Ah rfl ((hout 20 (by decide)).trans oe20)) (Mod.refl _ _) rfl
             ·intro tr act w' hm hout hsz hd hG hk hub
              have h0:=hd ⟨0,.data⟩ (by simp) rfl _ rfl
              have h1:=hd ⟨1,.data⟩ (by simp) rfl _ rfl
              exact Aj (by rfl) rfl (Ab rfl) (A7 rfl h0 h1 (Ak _ _ _ _ _ _) (Be _ _ Try.underlying119)) (Mod.refl _ _) rfl
             ·intro tr act w' hm hout hsz hd hG hk hub
              exact Aj (by rfl) rfl (Ab rfl) (Bp (i:=0) rfl Try.underlying120 (by decide) (by kernel_rfl) ((hout 15 (by decide)).trans oe15) rfl (by omega)) (Mod.refl _ _) rfl
             ·intro tr act w' hm hout hsz hd hG hk hub
              have h3:=hd ⟨3,.data⟩ (by simp) rfl _ rfl
              exact Aj (by rfl) rfl (Ab rfl) (Am rfl Try.underlying119 rfl h3 ((Ws.cell' (hG.at (show tr.length=0 from Nat.le_zero.1 (hub 0 20 rfl (by kernel_rfl))))).cell (j:=0) (by simp))) (Mod.refl _ _) rfl
             ·intro tr act w' hm hout hsz hd hG hk hub
              exact Aj (by rfl) rfl (Ab rfl) (Bp (i:=1) rfl Try.underlying120 (by decide) (by kernel_rfl) ((hout 15 (by decide)).trans oe15) rfl (by omega)) (Mod.refl _ _) rfl
             ·intro tr act w' hm hout hsz hd hG hk hub
              have h5:=hd ⟨5,.data⟩ (by simp) rfl _ rfl
              exact Aj (by rfl) rfl (Ab rfl) (Am rfl Try.underlying119 rfl h5 ((Ws.cell' (hG.at (show tr.length=0 from Nat.le_zero.1 (hub 0 20 rfl (by kernel_rfl))))).cell (j:=1) (by simp))) (Mod.refl _ _) rfl
             ·intro tr act w' hm hout hsz hd hG hk hub
              exact Aj (by rfl) rfl (Ab rfl) (Bp (i:=2) rfl Try.underlying120 (by decide) (by kernel_rfl) ((hout 15 (by decide)).trans oe15) rfl (by omega)) (Mod.refl _ _) rfl
             ·intro tr act w' hm hout hsz hd hG hk hub
              have h7:=hd ⟨7,.data⟩ (by simp) rfl _ rfl
              exact Aj (by rfl) rfl (Ab rfl) (Am rfl Try.underlying119 rfl h7 ((Ws.cell' (hG.at (show tr.length=0 from Nat.le_zero.1 (hub 0 20 rfl (by kernel_rfl))))).cell (j:=2) (by simp))) (Mod.refl _ _) rfl
             ·intro tr act w' hm hout hsz hd hG hk hub
              exact Aj (by rfl) rfl (Ab rfl) (Bp (i:=3) rfl Try.underlying120 (by decide) (by kernel_rfl) ((hout 15 (by decide)).trans oe15) rfl (by omega)) (Mod.refl _ _) rfl
             ·intro tr act w' hm hout hsz hd hG hk hub
              have h9:=hd ⟨9,.data⟩ (by simp) rfl _ rfl
              exact Aj (by rfl) rfl (Ab rfl) (Am rfl Try.underlying119 rfl h9 ((Ws.cell' (hG.at (show tr.length=0 from Nat.le_zero.1 (hub 0 20 rfl (by kernel_rfl))))).cell (j:=3) (by simp))) (Mod.refl _ _) rfl
             ·intro tr act w' hm hout hsz hd hG hk hub
              exact Aj (by rfl) rfl (Ab rfl) (Ah rfl ((hout 19 (by decide)).trans oe19)) (Mod.refl _ _) rfl
             ·intro tr act w' hm hout hsz hd hG hk hub
              have h10:=hd ⟨10,.data⟩ (by simp) rfl _ rfl
              have h11:=hd ⟨11,.data⟩ (by simp) rfl _ rfl
              exact Aj (by rfl) rfl (Ab rfl) (A7 rfl h10 h11 (Ak _ _ _ _ _ _) (Be _ _ Try.underlying119)) (Mod.refl _ _) rfl
             ·intro tr act w' hm hout hsz hd hG hk hub
              exact Aj (by rfl) rfl (Ab rfl) (Bp (i:=4) rfl Try.underlying120 (by decide) (by kernel_rfl) ((hout 15 (by decide)).trans oe15) rfl (by omega)) (Mod.refl _ _) rfl
             ·intro tr act w' hm hout hsz hd hG hk hub
              have h13:=hd ⟨13,.data⟩ (by simp) rfl _ rfl
              exact Aj (by rfl) rfl (Ab rfl) (Am rfl Try.underlying119 rfl h13 ((Ws.cell' (hG.at (show tr.length=0 from Nat.le_zero.1 (hub 0 20 rfl (by kernel_rfl))))).cell (j:=4) (by simp))) (Mod.refl _ _) rfl
             ·intro tr act w' hm hout hsz hd hG hk hub
              exact Aj (by rfl) rfl (Ab rfl) (Bp (i:=5) rfl Try.underlying120 (by decide) (by kernel_rfl) ((hout 15 (by decide)).trans oe15) rfl (by omega)) (Mod.refl _ _) rfl
             ·intro tr act w' hm hout hsz hd hG hk hub
              have h15:=hd ⟨15,.data⟩ (by simp) rfl _ rfl
              exact Aj (by rfl) rfl (Ab rfl) (Am rfl Try.underlying119 rfl h15 ((Ws.cell' (hG.at (show tr.length=0 from Nat.le_zero.1 (hub 0 20 rfl (by kernel_rfl))))).cell (j:=5) (by simp))) (Mod.refl _ _) rfl
             ·intro tr act w' hm hout hsz hd hG hk hub
              exact Aj (by rfl) rfl (Ab rfl) (Bp (i:=6) rfl Try.underlying120 (by decide) (by kernel_rfl) ((hout 15 (by decide)).trans oe15) rfl (by omega)) (Mod.refl _ _) rfl
             ·intro tr act w' hm hout hsz hd hG hk hub
              have h17:=hd ⟨17,.data⟩ (by simp) rfl _ rfl
              exact Aj (by rfl) rfl (Ab rfl) (Am rfl Try.underlying119 rfl h17 ((Ws.cell' (hG.at (show tr.length=0 from Nat.le_zero.1 (hub 0 20 rfl (by kernel_rfl))))).cell (j:=6) (by simp))) (Mod.refl _ _) rfl
             ·intro tr act w' hm hout hsz hd hG hk hub
              have h2:=hd ⟨2,.data⟩ (by simp) rfl _ rfl
              have h4:=hd ⟨4,.data⟩ (by simp) rfl _ rfl
              have h6:=hd ⟨6,.data⟩ (by simp) rfl _ rfl
              have h8:=hd ⟨8,.data⟩ (by simp) rfl _ rfl
              have h12:=hd ⟨12,.data⟩ (by simp) rfl _ rfl
              have h14:=hd ⟨14,.data⟩ (by simp) rfl _ rfl
              have h16:=hd ⟨16,.data⟩ (by simp) rfl _ rfl
              have h18:=hd ⟨18,.data⟩ (by simp) rfl _ rfl
              exact Aj (by rfl) rfl (Ab rfl) (ex_buildC rfl (parts:=[(0,.int .u32 (IntKind.u32.wrap (tt+uu))),(1,.int .u32 s0),(2,.int .u32 s1),(3,.int .u32 s2),(4,.int .u32 (IntKind.u32.wrap (s3+tt))),(5,.int .u32 s4),(6,.int .u32 s5),(7,.int .u32 s6)]) (by simp only [List.map_toArray,List.map_cons,List.map_nil,show act.eval (.tmp 200)=_ from h2,show act.eval (.tmp 202)=_ from h4,show act.eval (.tmp 204)=_ from h6,show act.eval (.tmp 206)=_ from h8,show act.eval (.tmp 210)=_ from h12,show act.eval (.tmp 212)=_ from h14,show act.eval (.tmp 214)=_ from h16,show act.eval (.tmp 216)=_ from h18]) (r:=#[.int .u32 (IntKind.u32.wrap (tt+uu)),.int .u32 s0,.int .u32 s1,.int .u32 s2,.int .u32 (IntKind.u32.wrap (s3+tt)),.int .u32 s4,.int .u32 s5,.int .u32 s6]) (by rfl)) (Mod.refl _ _) rfl
             ·intro tr act w' hm hout hsz hd hG hk hub
              have h19:=hd ⟨19,.data⟩ (by simp) rfl _ rfl
              have hl:=hk 0 rfl
              refine jc_turn (by rfl) rfl (Ab rfl) (Bx rfl (hG.at hl) (off:=0) (vs:=(mixStep [s0,s1,s2,s3,s4,s5,s6,s7] (K256.getD i 0) (F.getD i 0)).map wv) (by kernel_rfl) (wv_one _) (by simp [mixStep]) ((hout 15 (by decide)).trans oe15) (by rw [show act.eval (.tmp 217)=_ from h19];exact HMS.out)) (setRow_Mod.mono (fun _ _ h=>h)) trivial (ByLen.on hl ?_)
              rw [A0 _ _ (by simp [mixStep])]
              exact setRow_Cs (hG.at hl)
             intro vs tr w32 hl htl hm hG hV
             obtain ⟨v0,vs0,rfl,hl0⟩:=Ae hl
             obtain ⟨v1,vs1,rfl,hl1⟩:=Ae hl0
             obtain ⟨v2,vs2,rfl,hl2⟩:=Ae hl1
             obtain ⟨v3,vs3,rfl,hl3⟩:=Ae hl2
             obtain ⟨v4,vs4,rfl,hl4⟩:=Ae hl3
             obtain ⟨v5,vs5,rfl,hl5⟩:=Ae hl4
             obtain ⟨v6,vs6,rfl,hl6⟩:=Ae hl5
             obtain ⟨v7,vs7,rfl,hl7⟩:=Ae hl6
             obtain ⟨v8,vs8,rfl,hl8⟩:=Ae hl7
             obtain ⟨v9,vs9,rfl,hl9⟩:=Ae hl8
             obtain ⟨v10,vs10,rfl,hl10⟩:=Ae hl9
             obtain ⟨v11,vs11,rfl,hl11⟩:=Ae hl10
             obtain ⟨v12,vs12,rfl,hl12⟩:=Ae hl11
             obtain ⟨v13,vs13,rfl,hl13⟩:=Ae hl12
             obtain ⟨v14,vs14,rfl,hl14⟩:=Ae hl13
             obtain ⟨v15,vs15,rfl,hl15⟩:=Ae hl14
             obtain ⟨v16,vs16,rfl,hl16⟩:=Ae hl15
             obtain ⟨v17,vs17,rfl,hl17⟩:=Ae hl16
             obtain ⟨v18,vs18,rfl,hl18⟩:=Ae hl17
             obtain ⟨v19,vs19,rfl,hl19⟩:=Ae hl18
             obtain ⟨v20,vs20,rfl,hl20⟩:=Ae hl19
             obtain rfl:=Bl hl20
             clear hl hl0 hl1 hl2 hl3 hl4 hl5 hl6 hl7 hl8 hl9 hl10 hl11 hl12 hl13 hl14 hl15 hl16 hl17 hl18 hl19 hl20
             have ha0:=HA0.out
             subst ha0
             clear HA0 hV hsz0 oe3 oe9 oe15 oe16 oe19 oe20
             simp only [Ar,Act.put,sIB,sCZ,sCS,List.set_nil]
             have hw:=hG.at htl
             replace KMg:=Lib.hid (KMg.out.trans hm (fun _ _ h=>h))
             clear hG hm htl HW HMS
             go_wp2
             go_roundw
             case rel=>exact ⟨i+1,by go_num,by omega,by rw [HSU.out];exact hw,KMg.out⟩
             case measure=>first|(simp [intOf];done)|(simp [intOf];omega)
            ·obtain rfl:i=64:=by omega
             obtain ⟨S,hSS⟩:∃ S,S=mixTo H K256 F 64:=⟨_,rfl⟩
             rw [← hSS] at hS hsl
             have HSL:=Lib.hid hsl
             have HNX:=Lib.hid (show addTo H S 8=blocksTo fb (t+1) by rw [← HNEXT.out,hSS,HF.out];rfl)
             have KS8:=Lib.hid hS
             have KH:=Lib.hid KOg.out.kh
             clear hS hsl hsucc hSS HF
             rw [show ((64:Nat):Int)=64 from rfl]
             go_wp2
             go_loopw [218] (fun t218 wr=>∃ (i:Nat),t218=.int .i64 i∧i≤8∧Ws 120 wr q1 (addTo H S i)∧Mod (fun k=>k=q1) wg wr) (fun t218 _=>8 - (intOf t218).toNat)
             case atStart=>exact ⟨0,rfl,by omega,KH.out,Mod.refl _ _⟩
             case round=>
              obtain ⟨wh,rfl⟩:∃ x,x=wr:=⟨_,rfl⟩
              obtain ⟨i,rfl,hi,hA,hmh⟩:=hrel
              clear KH
              have KMh:=Lib.hid hmh
              have KH:=Lib.hid hA
              clear hmh hA
              by_cases hi8:i < 8
              ·have KSh:=Lib.hid (KS8.out.mod KMh.out (by omega))
               have HPL:=Lib.hid (show (IntKind.u32.wrap (((addTo H S i).getD i 0)+(S.getD i 0)))=pl ((addTo H S i).getD i 0) (S.getD i 0) by simp only [pl,IntKind.wrap_u32])
               have HW:=Lib.hid (show ByLen (RsW q1 120 ((addTo H S i).map wv) ((addTo H S (i+1)).map wv)) [] wh from KH.out)
               go_upto_region 36 with (fail)
               generalize ha0:Act.mk _ _=a0
               have oe4:a0.eval (.tmp 4)=.pointer (some ⟨q1,0,none⟩):=by rw [← ha0];rfl
               have oe15:a0.eval (.tmp 15)=.pointer (some ⟨q2,0,none⟩):=by rw [← ha0];rfl
               have oe21:a0.eval (.tmp 21)=.int .i64 ((i:Nat):Int):=by rw [← ha0];rfl
               have hsz0:a0.tmps.size=269:=by rw [← ha0];rfl
               have HA0:=Lib.hid ha0
               clear ha0
               refine Bf 269 hsz0 (by kernel_rfl) (by kernel_rfl) [221,222,223,224,225,226,227,228,277] (by kernel_rfl) (by decide) (fun j=>j=q1) (fun _ j=>j=q1) (fun _ _ h=>h) Still (fun _ _ _ h=>h) (fun _ _ _ hm h=>hm.trans h (fun _ _ h=>h.elim)) [gi (.int .i64 ((i:Nat):Int)),gi (.pointer (some ⟨q1,0+i * 1,none⟩)),gi (.int .u32 ((addTo H S i).getD i 0)),gi (.int .i64 ((i:Nat):Int)),gi (.pointer (some ⟨q2,0+i * 1,none⟩)),gi (.int .u32 (S.getD i 0)),gi (.int .u32 (IntKind.u32.wrap (((addTo H S i).getD i 0)+(S.getD i 0)))),gi (.pointer (some ⟨q1,0+i * 1,none⟩)),ga] ⟨Af,Af,Af,Af,Af,Af,Af,Af,Bq,trivial⟩ [8] (by kernel_rfl) (by decide) (by kernel_rfl) (ByLen (RsW q1 120 ((addTo H S i).map wv) ((addTo H S (i+1)).map wv))) (ByLen.still RsW_still) HW.out ⟨?_,?_,?_,?_,?_,?_,?_,?_,?_,trivial⟩ ?_
               ·intro tr act w' hm hout hsz hd hG hk hub
                exact Aj (by rfl) rfl (Ab rfl) (Ah rfl ((hout 21 (by decide)).trans oe21)) (Mod.refl _ _) rfl
               ·intro tr act w' hm hout hsz hd hG hk hub
                have h0:=hd ⟨0,.data⟩ (by simp) rfl _ rfl
                exact Aj (by rfl) rfl (Ab rfl) (Bp (i:=i) rfl Try.underlying120 (by decide) (by kernel_rfl) ((hout 4 (by decide)).trans oe4) h0 (by omega)) (Mod.refl _ _) rfl
               ·intro tr act w' hm hout hsz hd hG hk hub
                have h1:=hd ⟨1,.data⟩ (by simp) rfl _ rfl
                exact Aj (by rfl) rfl (Ab rfl) (Am rfl Try.underlying119 rfl h1 (by rw [show 0+i * 1=i by omega];exact Ws.cell (hG.at (show tr.length=0 from Nat.le_zero.1 (hub 0 8 rfl (by kernel_rfl)))) (by rw [addTo_len,HHL.out];omega))) (Mod.refl _ _) rfl
               ·intro tr act w' hm hout hsz hd hG hk hub
                exact Aj (by rfl) rfl (Ab rfl) (Ah rfl ((hout 21 (by decide)).trans oe21)) (Mod.refl _ _) rfl
               ·intro tr act w' hm hout hsz hd hG hk hub
                have h3:=hd ⟨3,.data⟩ (by simp) rfl _ rfl
                exact Aj (by rfl) rfl (Ab rfl) (Bp (i:=i) rfl Try.underlying120 (by decide) (by kernel_rfl) ((hout 15 (by decide)).trans oe15) h3 (by omega)) (Mod.refl _ _) rfl
               ·intro tr act w' hm hout hsz hd hG hk hub
                have h4:=hd ⟨4,.data⟩ (by simp) rfl _ rfl
                exact Aj (by rfl) rfl (Ab rfl) (Am rfl Try.underlying119 rfl h4 (by rw [show 0+i * 1=i by omega];exact (KSh.out.mod hm (by omega)).cell (by rw [HSL.out];omega))) (Mod.refl _ _) rfl
               ·intro tr act w' hm hout hsz hd hG hk hub
                have h2:=hd ⟨2,.data⟩ (by simp) rfl _ rfl
                have h5:=hd ⟨5,.data⟩ (by simp) rfl _ rfl
                exact Aj (by rfl) rfl (Ab rfl) (A7 rfl h2 h5 (Ak _ _ _ _ _ _) (Be _ _ Try.underlying119)) (Mod.refl _ _) rfl
               ·intro tr act w' hm hout hsz hd hG hk hub
                have h0:=hd ⟨0,.data⟩ (by simp) rfl _ rfl
                exact Aj (by rfl) rfl (Ab rfl) (Bp (i:=i) rfl Try.underlying120 (by decide) (by kernel_rfl) ((hout 4 (by decide)).trans oe4) h0 (by omega)) (Mod.refl _ _) rfl
               ·intro tr act w' hm hout hsz hd hG hk hub
                have h6:=hd ⟨6,.data⟩ (by simp) rfl _ rfl
                have h7:=hd ⟨7,.data⟩ (by simp) rfl _ rfl
                have hl:=hk 0 rfl
                refine jc_turn (by rfl) rfl (Ab rfl) (Bx rfl (hG.at hl) (off:=0+i * 1) (vs:=[wv (pl ((addTo H S i).getD i 0) (S.getD i 0))]) (by kernel_rfl) (by intro u hu;simp at hu;rw [hu];rfl) (by simp [addTo_len,HHL.out];omega) h7 (by rw [show act.eval (.tmp 227)=_ from h6];exact congrArg (fun z=>#[Value.int .u32 z]) HPL.out)) (setRow_Mod.mono (fun _ _ h=>h)) trivial (ByLen.on hl ?_)
                rw [lay_one _ _ _ (by simp [addTo_len,HHL.out];omega)]
                exact setRow_Cs' (hG.at hl) (by rw [← List.map_set,Nat.zero_add,Nat.mul_one,addTo_succ])
               intro vs tr w36 hl htl hm hG hV
               obtain ⟨v0,vs0,rfl,hl0⟩:=Ae hl
               obtain ⟨v1,vs1,rfl,hl1⟩:=Ae hl0
               obtain ⟨v2,vs2,rfl,hl2⟩:=Ae hl1
               obtain ⟨v3,vs3,rfl,hl3⟩:=Ae hl2
               obtain ⟨v4,vs4,rfl,hl4⟩:=Ae hl3
               obtain ⟨v5,vs5,rfl,hl5⟩:=Ae hl4
               obtain ⟨v6,vs6,rfl,hl6⟩:=Ae hl5
               obtain ⟨v7,vs7,rfl,hl7⟩:=Ae hl6
               obtain ⟨v8,vs8,rfl,hl8⟩:=Ae hl7
               obtain rfl:=Bl hl8
               clear hl hl0 hl1 hl2 hl3 hl4 hl5 hl6 hl7 hl8
               have ha0:=HA0.out
               subst ha0
               clear HA0 hV hsz0 oe4 oe15 oe21
               simp only [Ar,Act.put,sIB,sCZ,sCS,List.set_nil]
               have hw:=hG.at htl
               replace KMh:=Lib.hid (KMh.out.trans hm (fun _ _ h=>h))
               clear hG hm htl HW HPL KSh KH
               go_wp2
               go_roundw
               case rel=>exact ⟨i+1,by go_num,by omega,hw,KMh.out⟩
               case measure=>first|(simp [intOf];done)|(simp [intOf];omega)
              ·obtain rfl:i=8:=by omega
               have hh:=KH.out
               rw [HNX.out] at hh
               have zh:=KMh.out.size
               have KMz:=Lib.hid (show Mod (fun k=>k=q1∨g9≤k) wa wh from (KMt.out.mono (S':=fun k=>k=q1∨g9≤k) (fun k _ h=>Or.inr h)).trans KMh.out (fun k _ h=>Or.inl h))
               have hC9:∀ j,j < fb.length→wh.cell? ⟨gm,om+j,none⟩=some (bv (fb.getD j 0)):=fun j hj=>KMz.out.cell (HCfa.out j hj) (by show ¬ (gm=q1∨g9≤gm);omega)
               have hO9:RefO w q0 q1 (blocksTo fb (t+1)) wh:=⟨KOa.out.k2.mod KMz.out (by omega),KOa.out.kk.mod KMz.out (by omega),hh,KOa.out.m.trans KMz.out (fun k hk hs=>by omega)⟩
               have HC9:=Lib.hid hC9
               have HO9:=Lib.hid hO9
               have hq9:=HQ.out
               clear hh hC9 hO9 KMh KMt KMg KMf KS8 KFg KF9 KOg KOa HCfa HCa KH
               rw [show ((8:Nat):Int)=8 from rfl]
               go_wp2
               go_roundw
               case rel=>exact ⟨t+1,by go_num,by omega,HO9.out,HC9.out,by omega,by omega⟩
               case measure=>have:=HQ.out;first|(simp [intOf];done)|(simp [intOf];omega)
      ·have h64:t=fb.length / 64:=by omega
       have hres:shaF bs=outTo H 32:=by rw [hH,h64,HFB.out];simp [shaF,outTo]
       have HRES:=Lib.hid hres
       have KOj2:=Lib.hid KOj.out
       clear HLn HDn hH hq HQ hres h64 KOj HCj
       go_upto_region 39 with (fail)
       obtain ⟨wk,hwk⟩:∃ z,z=wj.alloc (.cells ((List.replicate 32 0).map bv).toArray 32):=⟨_,rfl⟩
       change Code.wp _ _ _ _ (wj.alloc (.cells ((List.replicate 32 0).map bv).toArray 32))
       rw [← hwk]
       obtain ⟨g22,hg22⟩:∃ g,g=wj.heap.size:=⟨_,rfl⟩
       rw [← hg22]
       have hmk:Mod (fun _=>False) wj wk:=by rw [hwk];exact (Mod.refl _ _).alloc _
       have KT0:=Lib.hid (show Cs wk g22 ((outTo H (4 * 0)).map bv).toArray 32 by rw [hwk,hg22];exact Cs.new _ _ _)
       have KOk:=Lib.hid (KOj2.out.still hmk)
       have KH0:=Lib.hid KOk.out.kh
       have zk:wk.heap.size=g22+1:=by rw [hwk,hg22];simp
       have hq22:q1 < g22:=by omega
       have hw22:w.heap.size < g22:=by omega
       clear hwk hmk KOj2 hg22 zj hgj
       go_wp2
       go_loopw [23] (fun t23 wr=>∃ (i:Nat),t23=.int .i64 i∧i≤8∧Cs wr g22 ((outTo H (4 * i)).map bv).toArray 32∧Mod (fun k=>k=g22) wk wr) (fun t23 _=>8 - (intOf t23).toNat)
       case atStart=>exact ⟨0,rfl,by omega,KT0.out,Mod.refl _ _⟩
       case round=>
        obtain ⟨wl,rfl⟩:∃ x,x=wr:=⟨_,rfl⟩
        obtain ⟨i,rfl,hi,hT,hml⟩:=hrel
        clear KT0
        have KT:=Lib.hid hT
        have KMl:=Lib.hid hml
        clear hT hml
        by_cases hi8:i < 8
        ·have KH:=Lib.hid (KH0.out.mod KMl.out (by omega))
         have HO0:=Lib.hid (show (IntKind.u8.wrap ((H.getD i 0) / 2 ^ 24))=outB H (4 * i+0) by rw [outB_at H i 0 (by decide)];simp only [IntKind.wrap_u8])
         have HO1:=Lib.hid (show (IntKind.u8.wrap ((H.getD i 0) / 2 ^ 16))=outB H (4 * i+1) by rw [outB_at H i 1 (by decide)];simp only [IntKind.wrap_u8])
         have HO2:=Lib.hid (show (IntKind.u8.wrap ((H.getD i 0) / 2 ^ 8))=outB H (4 * i+2) by rw [outB_at H i 2 (by decide)];simp only [IntKind.wrap_u8])
         have HO3:=Lib.hid (show (IntKind.u8.wrap (H.getD i 0))=outB H (4 * i+3) by rw [outB_at H i 3 (by decide)];simp only [IntKind.wrap_u8];rw [show (2:Int) ^ (24 - 8 * 3)=1 from rfl,Int.ediv_one])
         have HW:=Lib.hid (show ByLen (OuSt g22 H i) [] wl from KT.out)
         clear KT
         go_upto_region 42 with (fail)
         generalize ha0:Act.mk _ _=a0
         have oe4:a0.eval (.tmp 4)=.pointer (some ⟨q1,0,none⟩):=by rw [← ha0];rfl
         have oe22:a0.eval (.tmp 22)=.pointer (some ⟨g22,0,none⟩):=by rw [← ha0];rfl
         have oe23:a0.eval (.tmp 23)=.int .i64 ((i:Nat):Int):=by rw [← ha0];rfl
         have hsz0:a0.tmps.size=269:=by rw [← ha0];rfl
         have HA0:=Lib.hid ha0
         clear ha0
         refine Bf 269 hsz0 (by kernel_rfl) (by kernel_rfl) [234,235,236,237,238,239,240,241,242,243,244,245,246,247,248,249,250,251,252,253,254,255,256,257,258,259,260,261,262,263,264,300,265,302,266,304,267,306] (by kernel_rfl) (by decide) (fun j=>j=g22) (fun _ j=>j=g22) (fun _ _ h=>h) Still (fun _ _ _ h=>h) (fun _ _ _ hm h=>hm.trans h (fun _ _ h=>h.elim)) [gi (.int .i64 ((i:Nat):Int)),gi (.int .i64 ((4 * i:Nat):Int)),gi (.int .i64 ((i:Nat):Int)),gi (.int .i64 ((4 * i:Nat):Int)),gi (.int .i64 ((4 * i+1:Nat):Int)),gi (.int .i64 ((i:Nat):Int)),gi (.int .i64 ((4 * i:Nat):Int)),gi (.int .i64 ((4 * i+2:Nat):Int)),gi (.int .i64 ((i:Nat):Int)),gi (.int .i64 ((4 * i:Nat):Int)),gi (.int .i64 ((4 * i+3:Nat):Int)),gi (.int .i64 ((i:Nat):Int)),gi (.pointer (some ⟨q1,0+i * 1,none⟩)),gi (.int .u32 (H.getD i 0)),gi (.int .u32 ((H.getD i 0) / 2 ^ 24)),gi (.int .u8 (IntKind.u8.wrap ((H.getD i 0) / 2 ^ 24))),gi (.int .i64 ((i:Nat):Int)),gi (.pointer (some ⟨q1,0+i * 1,none⟩)),gi (.int .u32 (H.getD i 0)),gi (.int .u32 ((H.getD i 0) / 2 ^ 16)),gi (.int .u8 (IntKind.u8.wrap ((H.getD i 0) / 2 ^ 16))),gi (.int .i64 ((i:Nat):Int)),gi (.pointer (some ⟨q1,0+i * 1,none⟩)),gi (.int .u32 (H.getD i 0)),gi (.int .u32 ((H.getD i 0) / 2 ^ 8)),gi (.int .u8 (IntKind.u8.wrap ((H.getD i 0) / 2 ^ 8))),gi (.int .i64 ((i:Nat):Int)),gi (.pointer (some ⟨q1,0+i * 1,none⟩)),gi (.int .u32 (H.getD i 0)),gi (.int .u8 (IntKind.u8.wrap (H.getD i 0))),gi (.pointer (some ⟨g22,0+(4 * i) * 1,none⟩)),ga,gi (.pointer (some ⟨g22,0+(4 * i+1) * 1,none⟩)),ga,gi (.pointer (some ⟨g22,0+(4 * i+2) * 1,none⟩)),ga,gi (.pointer (some ⟨g22,0+(4 * i+3) * 1,none⟩)),ga] ⟨Af,Af,Af,Af,Af,Af,Af,Af,Af,Af,Af,Af,Af,Af,Af,Af,Af,Af,Af,Af,Af,Af,Af,Af,Af,Af,Af,Af,Af,Af,Af,Bq,Af,Bq,Af,Bq,Af,Bq,trivial⟩ [31,33,35,37] (by kernel_rfl) (by decide) (by kernel_rfl) (ByLen (OuSt g22 H i)) (ByLen.still OuSt_still) HW.out ⟨?_,?_,?_,?_,?_,?_,?_,?_,?_,?_,?_,?_,?_,?_,?_,?_,?_,?_,?_,?_,?_,?_,?_,?_,?_,?_,?_,?_,?_,?_,?_,?_,?_,?_,?_,?_,?_,?_,trivial⟩ ?_
         ·intro tr act w' hm hout hsz hd hG hk hub
          exact Aj (by rfl) rfl (Ab rfl) (Ah rfl ((hout 23 (by decide)).trans oe23)) (Mod.refl _ _) rfl
         ·intro tr act w' hm hout hsz hd hG hk hub
          have h0:=hd ⟨0,.data⟩ (by simp) rfl _ rfl
          refine Aj (by rfl) rfl (Ab rfl) (A7 rfl rfl h0 (Ak _ _ _ _ _ _) (run_mul_i _ _)) (Mod.refl _ _) ?_
          exact congrArg (Value.int .i64) (by rw [IntWalk.i64_in _ (by omega)];omega)
         ·intro tr act w' hm hout hsz hd hG hk hub
          exact Aj (by rfl) rfl (Ab rfl) (Ah rfl ((hout 23 (by decide)).trans oe23)) (Mod.refl _ _) rfl
         ·intro tr act w' hm hout hsz hd hG hk hub
          have h2:=hd ⟨2,.data⟩ (by simp) rfl _ rfl
          refine Aj (by rfl) rfl (Ab rfl) (A7 rfl rfl h2 (Ak _ _ _ _ _ _) (run_mul_i _ _)) (Mod.refl _ _) ?_
          exact congrArg (Value.int .i64) (by rw [IntWalk.i64_in _ (by omega)];omega)
         ·intro tr act w' hm hout hsz hd hG hk hub
          have h3:=hd ⟨3,.data⟩ (by simp) rfl _ rfl
          refine Aj (by rfl) rfl (Ab rfl) (A7 rfl h3 rfl (Ak _ _ _ _ _ _) (Be _ _ Try.underlying3)) (Mod.refl _ _) ?_
          exact congrArg (Value.int .i64) (by rw [IntWalk.i64_in _ (by omega)];omega)
         ·intro tr act w' hm hout hsz hd hG hk hub
          exact Aj (by rfl) rfl (Ab rfl) (Ah rfl ((hout 23 (by decide)).trans oe23)) (Mod.refl _ _) rfl
         ·intro tr act w' hm hout hsz hd hG hk hub
          have h5:=hd ⟨5,.data⟩ (by simp) rfl _ rfl
          refine Aj (by rfl) rfl (Ab rfl) (A7 rfl rfl h5 (Ak _ _ _ _ _ _) (run_mul_i _ _)) (Mod.refl _ _) ?_
          exact congrArg (Value.int .i64) (by rw [IntWalk.i64_in _ (by omega)];omega)
         ·intro tr act w' hm hout hsz hd hG hk hub
          have h6:=hd ⟨6,.data⟩ (by simp) rfl _ rfl
          refine Aj (by rfl) rfl (Ab rfl) (A7 rfl h6 rfl (Ak _ _ _ _ _ _) (Be _ _ Try.underlying3)) (Mod.refl _ _) ?_
          exact congrArg (Value.int .i64) (by rw [IntWalk.i64_in _ (by omega)];omega)
         ·intro tr act w' hm hout hsz hd hG hk hub
          exact Aj (by rfl) rfl (Ab rfl) (Ah rfl ((hout 23 (by decide)).trans oe23)) (Mod.refl _ _) rfl
         ·intro tr act w' hm hout hsz hd hG hk hub
          have h8:=hd ⟨8,.data⟩ (by simp) rfl _ rfl
          refine Aj (by rfl) rfl (Ab rfl) (A7 rfl rfl h8 (Ak _ _ _ _ _ _) (run_mul_i _ _)) (Mod.refl _ _) ?_
          exact congrArg (Value.int .i64) (by rw [IntWalk.i64_in _ (by omega)];omega)
         ·intro tr act w' hm hout hsz hd hG hk hub
          have h9:=hd ⟨9,.data⟩ (by simp) rfl _ rfl
          refine Aj (by rfl) rfl (Ab rfl) (A7 rfl h9 rfl (Ak _ _ _ _ _ _) (Be _ _ Try.underlying3)) (Mod.refl _ _) ?_
          exact congrArg (Value.int .i64) (by rw [IntWalk.i64_in _ (by omega)];omega)
         ·intro tr act w' hm hout hsz hd hG hk hub
          exact Aj (by rfl) rfl (Ab rfl) (Ah rfl ((hout 23 (by decide)).trans oe23)) (Mod.refl _ _) rfl
         ·intro tr act w' hm hout hsz hd hG hk hub
          have h11:=hd ⟨11,.data⟩ (by simp) rfl _ rfl
          exact Aj (by rfl) rfl (Ab rfl) (Bp (i:=i) rfl Try.underlying120 (by decide) (by kernel_rfl) ((hout 4 (by decide)).trans oe4) h11 (by omega)) (Mod.refl _ _) rfl
         ·intro tr act w' hm hout hsz hd hG hk hub
          have h12:=hd ⟨12,.data⟩ (by simp) rfl _ rfl
          exact Aj (by rfl) rfl (Ab rfl) (Am rfl Try.underlying119 rfl h12 (by rw [show 0+i * 1=i by omega];exact (KH.out.mod hm (by omega)).cell (by rw [HHL.out];omega))) (Mod.refl _ _) rfl
         ·intro tr act w' hm hout hsz hd hG hk hub
          have h13:=hd ⟨13,.data⟩ (by simp) rfl _ rfl
          exact Aj (by rfl) rfl (Ab rfl) (A7 rfl h13 rfl (by simp [eqGuard]) (run_shr_n 24 _ (by decide))) (Mod.refl _ _) rfl
         ·intro tr act w' hm hout hsz hd hG hk hub
          have h14:=hd ⟨14,.data⟩ (by simp) rfl _ rfl
          exact Aj (by rfl) rfl (Ab rfl) (ex_convI rfl (by kernel_rfl) Try.underlying5 h14) (Mod.refl _ _) rfl
         ·intro tr act w' hm hout hsz hd hG hk hub
          exact Aj (by rfl) rfl (Ab rfl) (Ah rfl ((hout 23 (by decide)).trans oe23)) (Mod.refl _ _) rfl
         ·intro tr act w' hm hout hsz hd hG hk hub
          have h16:=hd ⟨16,.data⟩ (by simp) rfl _ rfl
          exact Aj (by rfl) rfl (Ab rfl) (Bp (i:=i) rfl Try.underlying120 (by decide) (by kernel_rfl) ((hout 4 (by decide)).trans oe4) h16 (by omega)) (Mod.refl _ _) rfl
         ·intro tr act w' hm hout hsz hd hG hk hub
          have h17:=hd ⟨17,.data⟩ (by simp) rfl _ rfl
          exact Aj (by rfl) rfl (Ab rfl) (Am rfl Try.underlying119 rfl h17 (by rw [show 0+i * 1=i by omega];exact (KH.out.mod hm (by omega)).cell (by rw [HHL.out];omega))) (Mod.refl _ _) rfl
         ·intro tr act w' hm hout hsz hd hG hk hub
          have h18:=hd ⟨18,.data⟩ (by simp) rfl _ rfl
          exact Aj (by rfl) rfl (Ab rfl) (A7 rfl h18 rfl (by simp [eqGuard]) (run_shr_n 16 _ (by decide))) (Mod.refl _ _) rfl
         ·intro tr act w' hm hout hsz hd hG hk hub
          have h19:=hd ⟨19,.data⟩ (by simp) rfl _ rfl
          exact Aj (by rfl) rfl (Ab rfl) (ex_convI rfl (by kernel_rfl) Try.underlying5 h19) (Mod.refl _ _) rfl
         ·intro tr act w' hm hout hsz hd hG hk hub
          exact Aj (by rfl) rfl (Ab rfl) (Ah rfl ((hout 23 (by decide)).trans oe23)) (Mod.refl _ _) rfl
         ·intro tr act w' hm hout hsz hd hG hk hub
          have h21:=hd ⟨21,.data⟩ (by simp) rfl _ rfl
          exact Aj (by rfl) rfl (Ab rfl) (Bp (i:=i) rfl Try.underlying120 (by decide) (by kernel_rfl) ((hout 4 (by decide)).trans oe4) h21 (by omega)) (Mod.refl _ _) rfl
         ·intro tr act w' hm hout hsz hd hG hk hub
          have h22:=hd ⟨22,.data⟩ (by simp) rfl _ rfl
          exact Aj (by rfl) rfl (Ab rfl) (Am rfl Try.underlying119 rfl h22 (by rw [show 0+i * 1=i by omega];exact (KH.out.mod hm (by omega)).cell (by rw [HHL.out];omega))) (Mod.refl _ _) rfl
         ·intro tr act w' hm hout hsz hd hG hk hub
          have h23:=hd ⟨23,.data⟩ (by simp) rfl _ rfl
          exact Aj (by rfl) rfl (Ab rfl) (A7 rfl h23 rfl (by simp [eqGuard]) (run_shr_n 8 _ (by decide))) (Mod.refl _ _) rfl
         ·intro tr act w' hm hout hsz hd hG hk hub
          have h24:=hd ⟨24,.data⟩ (by simp) rfl _ rfl
          exact Aj (by rfl) rfl (Ab rfl) (ex_convI rfl (by kernel_rfl) Try.underlying5 h24) (Mod.refl _ _) rfl
         ·intro tr act w' hm hout hsz hd hG hk hub
          exact Aj (by rfl) rfl (Ab rfl) (Ah rfl ((hout 23 (by decide)).trans oe23)) (Mod.refl _ _) rfl
         ·intro tr act w' hm hout hsz hd hG hk hub
          have h26:=hd ⟨26,.data⟩ (by simp) rfl _ rfl
          exact Aj (by rfl) rfl (Ab rfl) (Bp (i:=i) rfl Try.underlying120 (by decide) (by kernel_rfl) ((hout 4 (by decide)).trans oe4) h26 (by omega)) (Mod.refl _ _) rfl
         ·intro tr act w' hm hout hsz hd hG hk hub
          have h27:=hd ⟨27,.data⟩ (by simp) rfl _ rfl
          exact Aj (by rfl) rfl (Ab rfl) (Am rfl Try.underlying119 rfl h27 (by rw [show 0+i * 1=i by omega];exact (KH.out.mod hm (by omega)).cell (by rw [HHL.out];omega))) (Mod.refl _ _) rfl
         ·intro tr act w' hm hout hsz hd hG hk hub
          have h28:=hd ⟨28,.data⟩ (by simp) rfl _ rfl
          exact Aj (by rfl) rfl (Ab rfl) (ex_convI rfl (by kernel_rfl) Try.underlying5 h28) (Mod.refl _ _) rfl
         ·intro tr act w' hm hout hsz hd hG hk hub
          have h1:=hd ⟨1,.data⟩ (by simp) rfl _ rfl
          exact Aj (by rfl) rfl (Ab rfl) (Bp (i:=4 * i) rfl Try.underlying32 (by decide) (by kernel_rfl) ((hout 22 (by decide)).trans oe22) h1 (by omega)) (Mod.refl _ _) rfl
         ·intro tr act w' hm hout hsz hd hG hk hub
          have h15:=hd ⟨15,.data⟩ (by simp) rfl _ rfl
          have h30:=hd ⟨30,.data⟩ (by simp) rfl _ rfl
          have hl:=hk 0 rfl
          refine jc_turn (by rfl) rfl (Ab rfl) (Bx rfl (hG.at hl) (off:=0+(4 * i) * 1) (vs:=[bv (outB H (4 * i+0))]) (by kernel_rfl) (by intro u hu;simp at hu;rw [hu];rfl) (by simp [outTo_len H (4 * i) (by omega)];omega) h30 (by rw [show act.eval (.tmp 249)=_ from h15];exact congrArg (fun z=>#[Value.int .u8 z]) HO0.out)) (setRow_Mod.mono (fun _ _ h=>h)) trivial (ByLen.on hl ?_)
          rw [lay_one _ _ _ (by simp [outTo_len H (4 * i) (by omega)];omega)]
          exact setRow_Cs' (hG.at hl) (by rw [← List.map_set,Nat.zero_add,Nat.mul_one];exact congrArg (fun z:List Int=>z.map bv) (outTo_succ H (4 * i+0) (by omega)))
         ·intro tr act w' hm hout hsz hd hG hk hub
          have h4:=hd ⟨4,.data⟩ (by simp) rfl _ rfl
          exact Aj (by rfl) rfl (Ab rfl) (Bp (i:=4 * i+1) rfl Try.underlying32 (by decide) (by kernel_rfl) ((hout 22 (by decide)).trans oe22) h4 (by omega)) (Mod.refl _ _) rfl
         ·intro tr act w' hm hout hsz hd hG hk hub
          have h20:=hd ⟨20,.data⟩ (by simp) rfl _ rfl
          have h32:=hd ⟨32,.data⟩ (by simp) rfl _ rfl
          have hl:=hk 1 rfl
          refine jc_turn (by rfl) rfl (Ab rfl) (Bx rfl (hG.at hl) (off:=0+(4 * i+1) * 1) (vs:=[bv (outB H (4 * i+1))]) (by kernel_rfl) (by intro u hu;simp at hu;rw [hu];rfl) (by simp [outTo_len H (4 * i+1) (by omega)];omega) h32 (by rw [show act.eval (.tmp 254)=_ from h20];exact congrArg (fun z=>#[Value.int .u8 z]) HO1.out)) (setRow_Mod.mono (fun _ _ h=>h)) trivial (ByLen.on hl ?_)
          rw [lay_one _ _ _ (by simp [outTo_len H (4 * i+1) (by omega)];omega)]
          exact setRow_Cs' (hG.at hl) (by rw [← List.map_set,Nat.zero_add,Nat.mul_one];exact congrArg (fun z:List Int=>z.map bv) (outTo_succ H (4 * i+1) (by omega)))
         ·intro tr act w' hm hout hsz hd hG hk hub
          have h7:=hd ⟨7,.data⟩ (by simp) rfl _ rfl
          exact Aj (by rfl) rfl (Ab rfl) (Bp (i:=4 * i+2) rfl Try.underlying32 (by decide) (by kernel_rfl) ((hout 22 (by decide)).trans oe22) h7 (by omega)) (Mod.refl _ _) rfl
         ·intro tr act w' hm hout hsz hd hG hk hub
          have h25:=hd ⟨25,.data⟩ (by simp) rfl _ rfl
          have h34:=hd ⟨34,.data⟩ (by simp) rfl _ rfl
          have hl:=hk 2 rfl
          refine jc_turn (by rfl) rfl (Ab rfl) (Bx rfl (hG.at hl) (off:=0+(4 * i+2) * 1) (vs:=[bv (outB H (4 * i+2))]) (by kernel_rfl) (by intro u hu;simp at hu;rw [hu];rfl) (by simp [outTo_len H (4 * i+2) (by omega)];omega) h34 (by rw [show act.eval (.tmp 259)=_ from h25];exact congrArg (fun z=>#[Value.int .u8 z]) HO2.out)) (setRow_Mod.mono (fun _ _ h=>h)) trivial (ByLen.on hl ?_)
          rw [lay_one _ _ _ (by simp [outTo_len H (4 * i+2) (by omega)];omega)]
          exact setRow_Cs' (hG.at hl) (by rw [← List.map_set,Nat.zero_add,Nat.mul_one];exact congrArg (fun z:List Int=>z.map bv) (outTo_succ H (4 * i+2) (by omega)))
         ·intro tr act w' hm hout hsz hd hG hk hub
          have h10:=hd ⟨10,.data⟩ (by simp) rfl _ rfl
          exact Aj (by rfl) rfl (Ab rfl) (Bp (i:=4 * i+3) rfl Try.underlying32 (by decide) (by kernel_rfl) ((hout 22 (by decide)).trans oe22) h10 (by omega)) (Mod.refl _ _) rfl
         ·intro tr act w' hm hout hsz hd hG hk hub
          have h29:=hd ⟨29,.data⟩ (by simp) rfl _ rfl
          have h36:=hd ⟨36,.data⟩ (by simp) rfl _ rfl
          have hl:=hk 3 rfl
          refine jc_turn (by rfl) rfl (Ab rfl) (Bx rfl (hG.at hl) (off:=0+(4 * i+3) * 1) (vs:=[bv (outB H (4 * i+3))]) (by kernel_rfl) (by intro u hu;simp at hu;rw [hu];rfl) (by simp [outTo_len H (4 * i+3) (by omega)];omega) h36 (by rw [show act.eval (.tmp 263)=_ from h29];exact congrArg (fun z=>#[Value.int .u8 z]) HO3.out)) (setRow_Mod.mono (fun _ _ h=>h)) trivial (ByLen.on hl ?_)
          rw [lay_one _ _ _ (by simp [outTo_len H (4 * i+3) (by omega)];omega)]
          exact setRow_Cs' (hG.at hl) (by rw [← List.map_set,Nat.zero_add,Nat.mul_one];exact congrArg (fun z:List Int=>z.map bv) (outTo_succ H (4 * i+3) (by omega)))
         intro vs tr w42 hl htl hm hG hV
         obtain ⟨v0,vs0,rfl,hl0⟩:=Ae hl
         obtain ⟨v1,vs1,rfl,hl1⟩:=Ae hl0
         obtain ⟨v2,vs2,rfl,hl2⟩:=Ae hl1
         obtain ⟨v3,vs3,rfl,hl3⟩:=Ae hl2
         obtain ⟨v4,vs4,rfl,hl4⟩:=Ae hl3
         obtain ⟨v5,vs5,rfl,hl5⟩:=Ae hl4
         obtain ⟨v6,vs6,rfl,hl6⟩:=Ae hl5
         obtain ⟨v7,vs7,rfl,hl7⟩:=Ae hl6
         obtain ⟨v8,vs8,rfl,hl8⟩:=Ae hl7
         obtain ⟨v9,vs9,rfl,hl9⟩:=Ae hl8
         obtain ⟨v10,vs10,rfl,hl10⟩:=Ae hl9
         obtain ⟨v11,vs11,rfl,hl11⟩:=Ae hl10
         obtain ⟨v12,vs12,rfl,hl12⟩:=Ae hl11
         obtain ⟨v13,vs13,rfl,hl13⟩:=Ae hl12
         obtain ⟨v14,vs14,rfl,hl14⟩:=Ae hl13
         obtain ⟨v15,vs15,rfl,hl15⟩:=Ae hl14
         obtain ⟨v16,vs16,rfl,hl16⟩:=Ae hl15
         obtain ⟨v17,vs17,rfl,hl17⟩:=Ae hl16
         obtain ⟨v18,vs18,rfl,hl18⟩:=Ae hl17
         obtain ⟨v19,vs19,rfl,hl19⟩:=Ae hl18
         obtain ⟨v20,vs20,rfl,hl20⟩:=Ae hl19
         obtain ⟨v21,vs21,rfl,hl21⟩:=Ae hl20
         obtain ⟨v22,vs22,rfl,hl22⟩:=Ae hl21
         obtain ⟨v23,vs23,rfl,hl23⟩:=Ae hl22
         obtain ⟨v24,vs24,rfl,hl24⟩:=Ae hl23
         obtain ⟨v25,vs25,rfl,hl25⟩:=Ae hl24
         obtain ⟨v26,vs26,rfl,hl26⟩:=Ae hl25
         obtain ⟨v27,vs27,rfl,hl27⟩:=Ae hl26
         obtain ⟨v28,vs28,rfl,hl28⟩:=Ae hl27
         obtain ⟨v29,vs29,rfl,hl29⟩:=Ae hl28
         obtain ⟨v30,vs30,rfl,hl30⟩:=Ae hl29
         obtain ⟨v31,vs31,rfl,hl31⟩:=Ae hl30
         obtain ⟨v32,vs32,rfl,hl32⟩:=Ae hl31
         obtain ⟨v33,vs33,rfl,hl33⟩:=Ae hl32
         obtain ⟨v34,vs34,rfl,hl34⟩:=Ae hl33
         obtain ⟨v35,vs35,rfl,hl35⟩:=Ae hl34
         obtain ⟨v36,vs36,rfl,hl36⟩:=Ae hl35
         obtain ⟨v37,vs37,rfl,hl37⟩:=Ae hl36
         obtain rfl:=Bl hl37
         clear hl hl0 hl1 hl2 hl3 hl4 hl5 hl6 hl7 hl8 hl9 hl10 hl11 hl12 hl13 hl14 hl15 hl16 hl17 hl18 hl19 hl20 hl21 hl22 hl23 hl24 hl25 hl26 hl27 hl28 hl29 hl30 hl31 hl32 hl33 hl34 hl35 hl36 hl37
         have ha0:=HA0.out
         subst ha0
         clear HA0 hV hsz0 oe4 oe22 oe23
         simp only [Ar,Act.put,sIB,sCZ,sCS,List.set_nil]
         have hw:=hG.at htl
         replace KMl:=Lib.hid (KMl.out.trans hm (fun _ _ h=>h))
         clear hG hm htl HW HO0 HO1 HO2 HO3 KH
         go_wp2
         go_roundw
         case rel=>exact ⟨i+1,by go_num,by omega,hw,KMl.out⟩
         case measure=>first|(simp [intOf];done)|(simp [intOf];omega)
        ·obtain rfl:i=8:=by omega
         have hT2:=KT.out
         rw [show 4 * 8=32 from rfl,← HRES.out] at hT2
         have KT2:=Lib.hid hT2
         have K2:=Lib.hid (KOk.out.k2.mod KMl.out (by omega))
         have hmf:=KOk.out.m.trans KMl.out (fun k h1 h2=>by omega)
         have KMF:=Lib.hid hmf
         have HW:=Lib.hid (show ByLen (RsW w.heap.size 32 ((List.replicate 32 0).map bv) ((shaF bs).map bv)) [] wl from K2.out)
         have KT:=Lib.hid KT2.out
         clear hT2 KT2 K2 hmf KOk KMl KH0
         rw [show ((8:Nat):Int)=8 from rfl]
         go_upto_region 43 with (fail)
         generalize ha0:Act.mk _ _=a0
         have oe2:a0.eval (.tmp 2)=.pointer (some ⟨w.heap.size,0,none⟩):=by rw [← ha0];rfl
         have oe22:a0.eval (.tmp 22)=.pointer (some ⟨g22,0,none⟩):=by rw [← ha0];rfl
         have hsz0:a0.tmps.size=269:=by rw [← ha0];rfl
         have HA0:=Lib.hid ha0
         clear ha0
         refine Bf 269 hsz0 (by kernel_rfl) (by kernel_rfl) [268,270] (by kernel_rfl) (by decide) (fun j=>j=w.heap.size) (fun _ j=>j=w.heap.size) (fun _ _ h=>h) Still (fun _ _ _ h=>h) (fun _ _ _ hm h=>hm.trans h (fun _ _ h=>h.elim)) [gi (hv (shaF bs)),ga] ⟨Af,Bq,trivial⟩ [1] (by kernel_rfl) (by decide) (by kernel_rfl) (ByLen (RsW w.heap.size 32 ((List.replicate 32 0).map bv) ((shaF bs).map bv))) (ByLen.still RsW_still) HW.out ⟨?_,?_,trivial⟩ ?_
         ·intro tr act w' hm hout hsz hd hG hk hub
          exact Aj (by rfl) rfl (Ab rfl) (Ap rfl Try.underlying32 rfl (off:=0) (cs:=(shaF bs).map bv) (by rw [List.length_map,Bu];exact Bj) ((hout 22 (by decide)).trans oe22) (fun j u hu=>by rw [Nat.zero_add,Cs.cell (KT.out.mod hm (by omega))];simpa using hu)) (Mod.refl _ _) rfl
         ·intro tr act w' hm hout hsz hd hG hk hub
          have h0:=hd ⟨0,.data⟩ (by simp) rfl _ rfl
          have hl:=hk 0 rfl
          refine jc_turn (by rfl) rfl (Ab rfl) (Bx rfl (hG.at hl) (off:=0) (vs:=(shaF bs).map bv) (by rw [List.length_map,Bu];exact Bj) (ints_oneCell .u8 _) (by simp [Bu]) ((hout 2 (by decide)).trans oe2) (by rw [show act.eval (.tmp 268)=_ from h0];rfl)) (setRow_Mod.mono (fun _ _ h=>h)) trivial (ByLen.on hl ?_)
          rw [A0 _ _ (by simp [Bu])]
          exact setRow_Cs (hG.at hl)
         intro vs tr w43 hl htl hm hG hV
         obtain ⟨v0,vs0,rfl,hl0⟩:=Ae hl
         obtain ⟨v1,vs1,rfl,hl1⟩:=Ae hl0
         obtain rfl:=Bl hl1
         clear hl hl0 hl1
         have ha0:=HA0.out
         subst ha0
         clear HA0 hV hsz0 oe2 oe22
         simp only [Ar,Act.put,sIB,sCZ,sCS,List.set_nil]
         have hw:Cs w43 w.heap.size ((shaF bs).map bv).toArray 32:=hG.at htl
         have KMG:=Lib.hid (KMF.out.trans hm (fun k h1 h2=>by omega))
         have HC:=Lib.hid hw
         clear hG hm htl HW KMF hw
         go_wp2
         refine bodyPost_ret (Br rfl _ _ w.heap.size ((shaF bs).map bv) rfl (fun k u hu=>by rw [Cs.cell HC.out];simpa using hu) Try.underlying32 rfl (by rw [List.length_map,Bu];exact Bj)) rfl ⟨rfl,KMG.out⟩
end Go.Proofs.Ytbifincepglilaa

/- A hash that comes in as an argument. -/
namespace Go.Proofs.Ytbifincepglilaa
open Go Go.RowKit Go.Gv Go.ChangeShapes Go.WideShapes Go.ChangeAt Go.Deep
end Go.Proofs.Ytbifincepglilaa

/- Made again; names as arguments. -/
namespace Go.Proofs.Ytbifincepglilaa
open Go Go.RowKit Go.Gv Go.ChangeShapes Go.WideShapes Go.ChangeAt Go.Deep
end Go.Proofs.Ytbifincepglilaa

/- The reference's commitments. -/
namespace Go.Proofs.Ytbifincepglilaa
open Go Go.RowKit Go.Gv
theorem RdB_arr1 {w:World} {g:Nat} {h:List Int} {T:TypeId} (hc:Cs w g (h.map bv).toArray T) (hl:h.length=32) (hb:Bytes h):RdB w (.slice (some ⟨g,0,none⟩) 32 32) h:=by
 refine ⟨hb,?_⟩
 rw [hl]
 exact Rd.mk (Nat.le_refl _) (by rw [Bk];omega) (by simp [hl]) fun j y hy=>by rw [Nat.zero_add,Cs.cell hc];simpa using hy
theorem RsM_still {B K:Nat} {g:Nat} {z c:List Value}:∀ t w w',ByLen (RsW g 32 z c) t w→StillM B 5 K t.length w w'→ByLen (RsW g 32 z c) t w':=by
 intro t w w' h hr
 unfold ByLen at h ⊢
 revert h
 generalize t.length=k at *
 intro h
 match k,h with
 | 0,h=>exact StillM.obj hr h (by decide)
 | k+1,h=>exact StillM.obj hr h (by decide)
set_option maxHeartbeats 2000000 in
theorem RefOf_any (a b:Int) (h bs:List Int) (v:Value) (w:World) (ha:I64 a) (hb:I64 b) (hh:HK h) (hr:RdB w v bs) (hl:bs.length≤800000) :
 Calls Try.prog 55 #[.agg #[.int .i64 a,.int .i64 b],hv h,v] w fun e w'=>e=.returned (hv (shaF (ofT a b h bs)))∧Mod (fun _=>False) w w':=by
 have hbl:=hr.block_lt
 have HR:=Lib.hid hr
 have HBL:=Lib.hid hbl
 have HA:=Lib.hid ha
 have HBb:=Lib.hid hb
 have HH:=Lib.hid hh
 have HLB:=Lib.hid hl
 have EQT:=Lib.hid (show [encN commitLit.length ++ commitLit,encI a,encI b,h,encN bs.length ++ bs].flatten=ofT a b h bs by simp [ofT,ofC])
 have HFL:=Lib.hid (show ([encN commitLit.length ++ commitLit,encI a,encI b,h,encN bs.length ++ bs].flatten).length≤900000 by
  have h1:=encI_len a ha.2
  have h2:=encI_len b hb.2
  have h3:=(encN_len10 (n:=bs.length) (by unfold U64;omega)).2
  have h4:=(encN_len10 (n:=commitLit.length) (by decide)).2
  have h5:commitLit.length=6:=rfl
  have h6:=hh.1
  simp only [List.flatten_cons,List.flatten_nil,List.length_append,List.length_nil]
  omega)
 clear hbl hr ha hb hh hl
 change Calls _ _ #[.agg #[.int .i64 a,.int .i64 b],.agg (h.map bv).toArray,v] _ _
 go_enter Try.func55,Try.ntmps55
 go_upto_region 1 with (fail)
 obtain ⟨w1,hw1⟩:∃ x,x=((w.alloc (.cells #[.int .i64 a,.int .i64 b] 30)).alloc (.cells (h.map bv).toArray 32)).alloc (.cells ((List.replicate 32 0).map bv).toArray 32):=⟨_,rfl⟩
 change Code.wp _ _ _ _ (((w.alloc (.cells #[.int .i64 a,.int .i64 b] 30)).alloc (.cells (h.map bv).toArray 32)).alloc (.cells ((List.replicate 32 0).map bv).toArray 32))
 rw [← hw1]
 have KN:=Lib.hid (show Cs w1 w.heap.size #[.int .i64 a,.int .i64 b] 30 by rw [hw1];exact ((Cs.new _ _ _).alloc _).alloc _)
 have KH:=Lib.hid (show Cs w1 (w.heap.size+1) (h.map bv).toArray 32 by rw [hw1];exact (Cs_new1 _ _ _ _).alloc _)
 have KR:=Lib.hid (show Cs w1 (w.heap.size+1+1) ((List.replicate 32 0).map bv).toArray 32 by
  rw [hw1]
  have:=Cs_new1 (w.alloc (.cells #[.int .i64 a,.int .i64 b] 30)) (.cells (h.map bv).toArray 32) ((List.replicate 32 0).map bv).toArray 32
  rwa [show (w.alloc (.cells #[.int .i64 a,.int .i64 b] 30)).heap.size=w.heap.size+1 by simp] at this)
 have KM:=Lib.hid (show Mod (fun _=>False) w w1 by rw [hw1];exact (((Mod.refl _ _).alloc _).alloc _).alloc _)
 have hs1:w1.heap.size=w.heap.size+3:=by rw [hw1];simp
 clear hw1
 obtain ⟨B,hBB⟩:∃ B,B=w1.heap.size:=⟨_,rfl⟩
 have HBE:=Lib.hid hBB
 have hB3:B=w.heap.size+3:=by omega
 clear hBB
 generalize ha0:Act.mk _ _=a0
 have oe2:a0.eval (.tmp 2)=v:=by rw [← ha0];rfl
 have oe3:a0.eval (.tmp 3)=.pointer (some ⟨w.heap.size,0,none⟩):=by rw [← ha0];rfl
 have oe4:a0.eval (.tmp 4)=.pointer (some ⟨w.heap.size+1,0,none⟩):=by rw [← ha0];rfl
 have oe6:a0.eval (.tmp 6)=.pointer (some ⟨w.heap.size+1+1,0,none⟩):=by rw [← ha0];rfl
 have hsz0:a0.tmps.size=22:=by rw [← ha0];rfl
 have HA0:=Lib.hid ha0
 clear ha0
 refine Bf 22 hsz0 (by kernel_rfl) (by kernel_rfl) [7,8,9,10,11,12,13,14,15,16,17,18,19,20,21,37] (by kernel_rfl) (by decide) (fun j=>B≤j∨j=w.heap.size+1+1) (fun _ j=>j=w.heap.size+1+1) (fun _ _ h=>Or.inr h) (StillM B 5 0) stillM_still (stillM_T2 (fun _ h=>Or.inl h)) [litG B 5 0 (commitLit.map bv).toArray,litG B 5 0 (commitLit.map bv).toArray,rdP (encN commitLit.length ++ commitLit),gi (.pointer (some ⟨w.heap.size,0,none⟩)),gi (.int .i64 a),rdP (encI a),gi (.pointer (some ⟨w.heap.size,1,none⟩)),gi (.int .i64 b),rdP (encI b),gi (.slice (some ⟨w.heap.size+1,0,none⟩) 32 32),gi (v),rdP (encN bs.length ++ bs),rowsP [encN commitLit.length ++ commitLit,encI a,encI b,h,encN bs.length ++ bs],rdP ([encN commitLit.length ++ commitLit,encI a,encI b,h,encN bs.length ++ bs].flatten),gi (hv (shaF ([encN commitLit.length ++ commitLit,encI a,encI b,h,encN bs.length ++ bs].flatten))),ga] ⟨litG_stable (fun k hk j h=>by omega),litG_stable (fun k hk j h=>by omega),rdP_stable,Af,Af,rdP_stable,Af,Af,rdP_stable,Af,Af,rdP_stable,rowsP_stable,rdP_stable,Af,Bq,trivial⟩ [15] (by kernel_rfl) (by decide) (by kernel_rfl) (ByLen (RsW (w.heap.size+1+1) 32 ((List.replicate 32 0).map bv) ((shaF (ofT a b h bs)).map bv))) RsM_still KR.out ⟨?_,?_,?_,?_,?_,?_,?_,?_,?_,?_,?_,?_,?_,?_,?_,?_,trivial⟩ ?_
 ·intro tr act w' hm hout hsz hd hG hk hub
  refine Aj (by rfl) rfl (Ab rfl) (ex_lit rfl Try.underlying38 (by kernel_rfl) (by decide) (C:=(commitLit.map bv).toArray) (by simp only [List.map_toArray,List.map_cons,List.map_nil,Act.eval];kernel_rfl)) (Or.inl ((Mod.refl _ _).alloc _)) ?_
  exact fun _=>⟨_,rfl,Nat.le_trans (Nat.le_of_eq HBE.out) hm.size,_,Or.inl rfl,heap_alloc_new _ _⟩
 ·intro tr act w' hm hout hsz hd hG hk hub
  have h0:=hd ⟨0,.data⟩ (by simp) rfl _ rfl
  have h00:tr.length=0:=Nat.le_zero.1 (hub 0 15 rfl (by kernel_rfl))
  have hle:=Nat.le_of_eq h00
  obtain ⟨g,e1,hB,m,h0',hb⟩:=h0 hle
  exact jg_mark (by rfl) rfl (Ab rfl) rfl Try.underlying38 Try.underlying5 h0' hB hb e1 (fun _ hmk=>Or.inr ⟨hle,hmk⟩) (fun _ hb2 _=>⟨g,rfl,hB,_,Or.inr rfl,hb2⟩)
 ·intro tr act w' hm hout hsz hd hG hk hub
  have h1:=hd ⟨1,.data⟩ (by simp) rfl _ rfl
  have h00:tr.length=0:=Nat.le_zero.1 (hub 0 15 rfl (by kernel_rfl))
  refine B6 (args:=#[act.eval (.tmp 8)]) (by rfl) rfl (Ab rfl) (by rw [A8 rfl Try.func65 (by kernel_rfl) (by kernel_rfl)];exact congrArg (fun z=>Result.ok (Next.enter _ z) _) (by simp only [List.map_toArray,List.map_cons,List.map_nil];try rfl)) (RefRow_R (R:=fun _=>True) (N:=50) ⟨litG.rd h1 (Nat.le_of_eq h00) (by unfold Bytes;decide) (by decide),(fun _ _ _=>trivial),by decide⟩ (by decide)) ?_
  rintro e w2 ⟨v',rfl,ho,hm2⟩
  exact ⟨v',rfl,Or.inl hm2,fun _=>ho.1.rd⟩
 ·intro tr act w' hm hout hsz hd hG hk hub
  refine Aj (by rfl) rfl (Ab rfl) (Ai rfl Try.underlying30 rfl (by kernel_rfl) ((hout 3 (by decide)).trans oe3)) (Or.inl (Mod.refl _ _)) ?_
  rfl
 ·intro tr act w' hm hout hsz hd hG hk hub
  have h3:=hd ⟨3,.data⟩ (by simp) rfl _ rfl
  exact Aj (by rfl) rfl (Ab rfl) (Am rfl Try.underlying3 rfl h3 (by rw [(KN.out.mod hm (by omega)).cell];rfl)) (Or.inl (Mod.refl _ _)) rfl
 ·intro tr act w' hm hout hsz hd hG hk hub
  have h4:=hd ⟨4,.data⟩ (by simp) rfl _ rfl
  have h00:tr.length=0:=Nat.le_zero.1 (hub 0 15 rfl (by kernel_rfl))
  refine B6 (args:=#[.int .i64 a]) (by rfl) rfl (Ab rfl) (by rw [A8 rfl Try.func66 (by kernel_rfl) (by kernel_rfl)];exact congrArg (fun z=>Result.ok (Next.enter _ z) _) (by simp only [List.map_toArray,List.map_cons,List.map_nil,show act.eval (.tmp 11)=_ from h4];try rfl)) (RefInt_R a HA.out _) ?_
  rintro e w2 ⟨v',rfl,ho,hm2⟩
  exact ⟨v',rfl,Or.inl hm2,fun _=>ho.1.rd⟩
 ·intro tr act w' hm hout hsz hd hG hk hub
  refine Aj (by rfl) rfl (Ab rfl) (Ai rfl Try.underlying30 rfl (by kernel_rfl) ((hout 3 (by decide)).trans oe3)) (Or.inl (Mod.refl _ _)) ?_
  rfl
 ·intro tr act w' hm hout hsz hd hG hk hub
  have h6:=hd ⟨6,.data⟩ (by simp) rfl _ rfl
  exact Aj (by rfl) rfl (Ab rfl) (Am rfl Try.underlying3 rfl h6 (by rw [(KN.out.mod hm (by omega)).cell];rfl)) (Or.inl (Mod.refl _ _)) rfl
 ·intro tr act w' hm hout hsz hd hG hk hub
  have h7:=hd ⟨7,.data⟩ (by simp) rfl _ rfl
  have h00:tr.length=0:=Nat.le_zero.1 (hub 0 15 rfl (by kernel_rfl))
  refine B6 (args:=#[.int .i64 b]) (by rfl) rfl (Ab rfl) (by rw [A8 rfl Try.func66 (by kernel_rfl) (by kernel_rfl)];exact congrArg (fun z=>Result.ok (Next.enter _ z) _) (by simp only [List.map_toArray,List.map_cons,List.map_nil,show act.eval (.tmp 14)=_ from h7];try rfl)) (RefInt_R b HBb.out _) ?_
  rintro e w2 ⟨v',rfl,ho,hm2⟩
  exact ⟨v',rfl,Or.inl hm2,fun _=>ho.1.rd⟩
 ·intro tr act w' hm hout hsz hd hG hk hub
  exact Aj (by rfl) rfl (Ab rfl) (ex_sliceArr rfl Try.underlying32 (by kernel_rfl) ((hout 4 (by decide)).trans oe4) (by decide)) (Or.inl (Mod.refl _ _)) rfl
 ·intro tr act w' hm hout hsz hd hG hk hub
  exact Aj (by rfl) rfl (Ab rfl) (Ah rfl ((hout 2 (by decide)).trans oe2)) (Or.inl (Mod.refl _ _)) rfl
 ·intro tr act w' hm hout hsz hd hG hk hub
  have h10:=hd ⟨10,.data⟩ (by simp) rfl _ rfl
  have h00:tr.length=0:=Nat.le_zero.1 (hub 0 15 rfl (by kernel_rfl))
  refine B6 (args:=#[v]) (by rfl) rfl (Ab rfl) (by rw [A8 rfl Try.func65 (by kernel_rfl) (by kernel_rfl)];exact congrArg (fun z=>Result.ok (Next.enter _ z) _) (by simp only [List.map_toArray,List.map_cons,List.map_nil,show act.eval (.tmp 17)=_ from h10];try rfl)) (RefRow_R (R:=fun k=>k < w.heap.size) (N:=800000) (RdR.mod ⟨HR.out.mod KM.out (fun _ _ _ h=>h),HBL.out,HLB.out⟩ hm (fun k h1 h2=>by omega)) (by decide)) ?_
  rintro e w2 ⟨v',rfl,ho,hm2⟩
  exact ⟨v',rfl,Or.inl hm2,fun _=>ho.1.rd⟩
 ·intro tr act w' hm hout hsz hd hG hk hub
  have h2:=hd ⟨2,.data⟩ (by simp) rfl _ rfl
  have h5:=hd ⟨5,.data⟩ (by simp) rfl _ rfl
  have h8:=hd ⟨8,.data⟩ (by simp) rfl _ rfl
  have h9:=hd ⟨9,.data⟩ (by simp) rfl _ rfl
  have h11:=hd ⟨11,.data⟩ (by simp) rfl _ rfl
  have h00:tr.length=0:=Nat.le_zero.1 (hub 0 15 rfl (by kernel_rfl))
  obtain ⟨a0,c0,e0,-,-⟩:=(h2 h00).shape
  have r0:=h2 h00
  rw [e0] at r0
  obtain ⟨a1,c1,e1,-,-⟩:=(h5 h00).shape
  have r1:=h5 h00
  rw [e1] at r1
  obtain ⟨a2,c2,e2,-,-⟩:=(h8 h00).shape
  have r2:=h8 h00
  rw [e2] at r2
  have e3:act.eval (.tmp 16)=.slice (some ⟨w.heap.size+1,0,none⟩) 32 32:=h9
  have r3:=RdB_arr1 (KH.out.mod hm (by omega)) HH.out.1 HH.out.2
  obtain ⟨a4,c4,e4,-,-⟩:=(h11 h00).shape
  have r4:=h11 h00
  rw [e4] at r4
  refine Aj (by rfl) rfl (Ab rfl) (ex_buildSl rfl Try.underlying132 (by kernel_rfl) (by decide) (C:=#[.slice a0 (encN commitLit.length ++ commitLit).length c0,.slice a1 (encI a).length c1,.slice a2 (encI b).length c2,.slice (some ⟨w.heap.size+1,0,none⟩) 32 32,.slice a4 (encN bs.length ++ bs).length c4]) (by simp only [List.map_toArray,List.map_cons,List.map_nil,show act.eval (.tmp 9)=_ from e0,show act.eval (.tmp 12)=_ from e1,show act.eval (.tmp 15)=_ from e2,show act.eval (.tmp 16)=_ from e3,show act.eval (.tmp 18)=_ from e4];kernel_rfl)) (Or.inl ((Mod.refl _ _).alloc _)) (fun _=>⟨[(.slice a0 (encN commitLit.length ++ commitLit).length c0,encN commitLit.length ++ commitLit),(.slice a1 (encI a).length c1,encI a),(.slice a2 (encI b).length c2,encI b),(.slice (some ⟨w.heap.size+1,0,none⟩) 32 32,h),(.slice a4 (encN bs.length ++ bs).length c4,encN bs.length ++ bs)],rfl,RdJ.new (rs:=[(.slice a0 (encN commitLit.length ++ commitLit).length c0,encN commitLit.length ++ commitLit),(.slice a1 (encI a).length c1,encI a),(.slice a2 (encI b).length c2,encI b),(.slice (some ⟨w.heap.size+1,0,none⟩) 32 32,h),(.slice a4 (encN bs.length ++ bs).length c4,encN bs.length ++ bs)]) (fun p hp=>?_) (by simp) rfl rfl⟩)
  simp only [List.mem_cons,List.not_mem_nil,or_false] at hp
  rcases hp with rfl|rfl|rfl|rfl|rfl
  ·exact r0
  ·exact r1
  ·exact r2
  ·exact r3
  ·exact r4
 ·intro tr act w' hm hout hsz hd hG hk hub
  have h12:=hd ⟨12,.data⟩ (by simp) rfl _ rfl
  have h00:tr.length=0:=Nat.le_zero.1 (hub 0 15 rfl (by kernel_rfl))
  refine B6 (args:=#[act.eval (.tmp 19)]) (by rfl) rfl (Ab rfl) (by rw [A8 rfl Try.func64 (by kernel_rfl) (by kernel_rfl)];exact congrArg (fun z=>Result.ok (Next.enter _ z) _) (by simp only [List.map_toArray,List.map_cons,List.map_nil];try rfl)) (Join_P _ [encN commitLit.length ++ commitLit,encI a,encI b,h,encN bs.length ++ bs] _ h12 h00 (by simp) HFL.out) ?_
  rintro e w2 ⟨v',rfl,ho,hm2⟩
  exact ⟨v',rfl,Or.inl hm2,fun _=>ho.1.rd⟩
 ·intro tr act w' hm hout hsz hd hG hk hub
  have h13:=hd ⟨13,.data⟩ (by simp) rfl _ rfl
  have h00:tr.length=0:=Nat.le_zero.1 (hub 0 15 rfl (by kernel_rfl))
  refine B6 (args:=#[act.eval (.tmp 20)]) (by rfl) rfl (Ab rfl) (by rw [A8 rfl Try.func63 (by kernel_rfl) (by kernel_rfl)];exact congrArg (fun z=>Result.ok (Next.enter _ z) _) (by simp only [List.map_toArray,List.map_cons,List.map_nil];try rfl)) (RefSum_any _ _ _ (h13 h00) HFL.out) ?_
  rintro e w2 ⟨rfl,hm2⟩
  exact ⟨_,rfl,Or.inl hm2,rfl⟩
 ·intro tr act w' hm hout hsz hd hG hk hub
  have h14:=hd ⟨14,.data⟩ (by simp) rfl _ rfl
  have hl:=hk 0 rfl
  have hE:(act.eval (.tmp 21)).cells=((shaF (ofT a b h bs)).map bv).toArray:=by rw [show act.eval (.tmp 21)=_ from h14,← EQT.out];rfl
  refine jc_turn (by rfl) rfl (Ab rfl) (Bx rfl (hG.at hl) (off:=0) (vs:=(shaF (ofT a b h bs)).map bv) (by rw [List.length_map,Bu];exact Bj) (ints_oneCell .u8 _) (by simp [Bu]) ((hout 6 (by decide)).trans oe6) hE) (setRow_Mod.mono (fun _ _ h=>h)) trivial (ByLen.on hl ?_)
  rw [A0 _ _ (by simp [Bu])]
  exact setRow_Cs (hG.at hl)
 intro vs tr w2 hl htl hm hG hV
 obtain ⟨v0,vs0,rfl,hl0⟩:=Ae hl
 obtain ⟨v1,vs1,rfl,hl1⟩:=Ae hl0
 obtain ⟨v2,vs2,rfl,hl2⟩:=Ae hl1
 obtain ⟨v3,vs3,rfl,hl3⟩:=Ae hl2
 obtain ⟨v4,vs4,rfl,hl4⟩:=Ae hl3
 obtain ⟨v5,vs5,rfl,hl5⟩:=Ae hl4
 obtain ⟨v6,vs6,rfl,hl6⟩:=Ae hl5
 obtain ⟨v7,vs7,rfl,hl7⟩:=Ae hl6
 obtain ⟨v8,vs8,rfl,hl8⟩:=Ae hl7
 obtain ⟨v9,vs9,rfl,hl9⟩:=Ae hl8
 obtain ⟨v10,vs10,rfl,hl10⟩:=Ae hl9
 obtain ⟨v11,vs11,rfl,hl11⟩:=Ae hl10
 obtain ⟨v12,vs12,rfl,hl12⟩:=Ae hl11
 obtain ⟨v13,vs13,rfl,hl13⟩:=Ae hl12
 obtain ⟨v14,vs14,rfl,hl14⟩:=Ae hl13
 obtain ⟨v15,vs15,rfl,hl15⟩:=Ae hl14
 obtain rfl:=Bl hl15
 clear hl hl0 hl1 hl2 hl3 hl4 hl5 hl6 hl7 hl8 hl9 hl10 hl11 hl12 hl13 hl14 hl15
 have ha0:=HA0.out
 subst ha0
 clear HA0 hV hsz0 oe2 oe3 oe4 oe6
 simp only [Ar,Act.put,sIB,sCZ,sCS,List.set_nil]
 have hs:Cs w2 (w.heap.size+1+1) ((shaF (ofT a b h bs)).map bv).toArray 32:=hG.at htl
 have hsz:(Try.prog.info? 32).map (·.size)=some ((shaF (ofT a b h bs)).map bv).length:=by rw [List.length_map,Bu];exact Bj
 have KM2:=Lib.hid (KM.out.trans hm (fun k h1 h2=>by omega))
 clear hG hm htl
 go_wp2
 exact bodyPost_ret (Br rfl _ _ (w.heap.size+1+1) ((shaF (ofT a b h bs)).map bv) rfl (fun k u hu=>by rw [Cs.cell hs];simpa using hu) Try.underlying32 rfl hsz) rfl ⟨rfl,KM2.out⟩
set_option maxHeartbeats 4000000 in
theorem RefValid_any (f k:Int) (c:Cm) (hc:c.OK) (w:World):Calls Try.prog 67 #[.agg #[.int .i64 f,.int .i64 k],c.val] w fun e w'=>e=.returned (.bool (validF k c))∧Mod (fun _=>False) w w':=by
 have HC:=Lib.hid hc
 clear hc
 change Calls _ _ #[.agg #[.int .i64 f,.int .i64 k],c.val] _ _
 go_enter Try.func67,Try.ntmps67
 go_upto_region 1 with (fail)
 obtain ⟨w1,hw1⟩:∃ zz,zz=((w.alloc (.cells #[.int .i64 f,.int .i64 k] 26)).alloc (.cells (c.cells:List Value).toArray 36)):=⟨_,rfl⟩
 change Code.wp _ _ _ _ ((w.alloc (.cells #[.int .i64 f,.int .i64 k] 26)).alloc (.cells (c.cells:List Value).toArray 36))
 rw [← hw1]
 have HB2:=hid (show Cs w1 (w.heap.size) #[.int .i64 f,.int .i64 k] 26 by rw [hw1];exact (Cs.new _ _ _).alloc _)
 have HB3:=hid (show Cs w1 (w.heap.size+1) (c.cells:List Value).toArray 36 by rw [hw1];exact Cs_newN _ _ _ (by simp))
 have hm:Mod (fun _=>False) w w1:=by rw [hw1];exact ((Mod.refl _ _).alloc _).alloc _
 have HM0:=hid (show Mod (fun _=>False) w w1 from hm.mono (fun _ _ h=>h.elim))
 have hs1:w1.heap.size=w.heap.size+2:=by rw [hw1];simp
 clear hw1 hm
 go_upto_region 1 with (fail)
 refine Al 39 [5,6,7,8,9,10,11,12,13,14,15,16,17,18,19,20,21,22,23,24,25,26,27,28,29,30,31,32,33,34,35,36,37,38,4] [0,1,2,3,4,5,6,7,8,9,10,11,12,13,14,15,16,17,18,19,20,21,22,23,24,25,26,27,28,29,30,31,32,33,34] (fun a0 HA0=>?_)
 have oe2:=ev HA0 2 rfl
 have oe3:=ev HA0 3 rfl
 refine QSeq.pure rfl (.pointer (some ⟨w.heap.size+1,0,none⟩)) (fun E=>Ai rfl Try.underlying36 rfl (by kernel_rfl) (E.v oe3)) ?_
 refine QSeq.pure rfl (.pointer (some ⟨w.heap.size+1,0,none⟩)) (fun E=>Ai rfl Try.underlying30 rfl (by kernel_rfl) (E.d 0 0)) ?_
 refine QSeq.pure rfl (.int .i64 c.cl) (fun E=>Am rfl Try.underlying3 rfl (E.d 1 0) (HB3.out.c0)) ?_
 refine QSeq.pure rfl (.bool (decide (0≤c.cl))) (fun E=>A7 rfl (E.d 2 0) rfl (Ak _ _ _ _ _ _) (B3 _ _ _ Try.underlying3)) ?_
 refine QSeq.pure rfl _ (fun E=>Ah rfl (E.d 3 0)) ?_
 refine QSeq.may (b:=(decide (0≤c.cl))) rfl (.pointer (some ⟨w.heap.size+1,0,none⟩)) (fun E=>((Ad rfl rfl (E.sz 9 (by decide)) (E.d 4 0)).trans (Cc _))) (fun E hb=>Ai rfl Try.underlying36 rfl (by kernel_rfl) (E.v oe3)) ?_
 intro v1_5 hw
 have hv1_5:=hid hw
 clear hw
 refine QSeq.may (b:=(decide (0≤c.cl))) rfl (.pointer (some ⟨w.heap.size+1,0,none⟩)) (fun E=>((Ad rfl rfl (E.sz 9 (by decide)) (E.d 4 1)).trans (Cc _))) (fun E hb=>Ai rfl Try.underlying30 rfl (by kernel_rfl) ((E.q 5 0 hv1_5.out).1 hb)) ?_
 intro v1_6 hw
 have hv1_6:=hid hw
 clear hw
 refine QSeq.may (b:=(decide (0≤c.cl))) rfl (.int .i64 c.cl) (fun E=>((Ad rfl rfl (E.sz 9 (by decide)) (E.d 4 2)).trans (Cc _))) (fun E hb=>Am rfl Try.underlying3 rfl ((E.q 6 0 hv1_6.out).1 hb) (HB3.out.c0)) ?_
 intro v1_7 hw
 have hv1_7:=hid hw
 clear hw
 refine QSeq.may (b:=(decide (0≤c.cl))) rfl (.pointer (some ⟨w.heap.size,1,none⟩)) (fun E=>((Ad rfl rfl (E.sz 9 (by decide)) (E.d 4 3)).trans (Cc _))) (fun E hb=>Ai rfl Try.underlying26 rfl (by kernel_rfl) (E.v oe2)) ?_
 intro v1_8 hw
 have hv1_8:=hid hw
 clear hw
 refine QSeq.may (b:=(decide (0≤c.cl))) rfl (.int .i64 k) (fun E=>((Ad rfl rfl (E.sz 9 (by decide)) (E.d 4 4)).trans (Cc _))) (fun E hb=>Am rfl Try.underlying3 rfl ((E.q 8 0 hv1_8.out).1 hb) (Cs.lit1 HB2.out rfl)) ?_
 intro v1_9 hw
 have hv1_9:=hid hw
 clear hw
 refine QSeq.may (b:=(decide (0≤c.cl))) rfl (.bool (decide (c.cl < k))) (fun E=>((Ad rfl rfl (E.sz 9 (by decide)) (E.d 4 5)).trans (Cc _))) (fun E hb=>A7 rfl ((E.q 7 2 hv1_7.out).1 hb) ((E.q 9 0 hv1_9.out).1 hb) (Ak _ _ _ _ _ _) (run_lss_i _ _ _ Try.underlying3)) ?_
 intro v1_10 hw
 have hv1_10:=hid hw
 clear hw
 obtain ⟨pb11,hb11⟩:∃ b:Bool,b=((decide (0≤c.cl)) && (decide (c.cl < k))):=⟨_,rfl⟩
 have HB11:=hid hb11
 clear hb11
 refine QSeq.pure rfl (.bool pb11) (fun E=>ex_pickE rfl (E.d 4 6) rfl rfl ((and_val fun hb=>(E.q 10 0 hv1_10.out).1 hb).trans (congrArg Value.bool HB11.out.symm))) ?_
 refine QSeq.pure rfl _ (fun E=>Ah rfl (E.d 11 0)) ?_
 refine QSeq.may (b:=pb11) rfl (.pointer (some ⟨w.heap.size+1,0,none⟩)) (fun E=>((Ad rfl rfl (E.sz 17 (by decide)) (E.d 12 0)).trans (Cc _))) (fun E hb=>Ai rfl Try.underlying36 rfl (by kernel_rfl) (E.v oe3)) ?_
 intro v1_13 hw
 have hv1_13:=hid hw
 clear hw
 refine QSeq.may (b:=pb11) rfl (.pointer (some ⟨w.heap.size+1,1,none⟩)) (fun E=>((Ad rfl rfl (E.sz 17 (by decide)) (E.d 12 1)).trans (Cc _))) (fun E hb=>Ai rfl Try.underlying30 rfl (by kernel_rfl) ((E.q 13 0 hv1_13.out).1 hb)) ?_
 intro v1_14 hw
 have hv1_14:=hid hw
 clear hw
 refine QSeq.may (b:=pb11) rfl (.int .i64 c.sq) (fun E=>((Ad rfl rfl (E.sz 17 (by decide)) (E.d 12 2)).trans (Cc _))) (fun E hb=>Am rfl Try.underlying3 rfl ((E.q 14 0 hv1_14.out).1 hb) (HB3.out.c1)) ?_
 intro v1_15 hw
 have hv1_15:=hid hw
 clear hw
 refine QSeq.may (b:=pb11) rfl (.bool (decide (1≤c.sq))) (fun E=>((Ad rfl rfl (E.sz 17 (by decide)) (E.d 12 3)).trans (Cc _))) (fun E hb=>A7 rfl ((E.q 15 0 hv1_15.out).1 hb) rfl (Ak _ _ _ _ _ _) (B3 _ _ _ Try.underlying3)) ?_
 intro v1_16 hw
 have hv1_16:=hid hw
 clear hw
 obtain ⟨pb17,hb17⟩:∃ b:Bool,b=(pb11 && (decide (1≤c.sq))):=⟨_,rfl⟩
 have HB17:=hid hb17
 clear hb17
 refine QSeq.pure rfl (.bool pb17) (fun E=>ex_pickE rfl (E.d 12 4) rfl rfl ((and_val fun hb=>(E.q 16 0 hv1_16.out).1 hb).trans (congrArg Value.bool HB17.out.symm))) ?_
 refine QSeq.pure rfl _ (fun E=>Ah rfl (E.d 17 0)) ?_
 refine QSeq.may (b:=pb17) rfl (.pointer (some ⟨w.heap.size+1,0,none⟩)) (fun E=>((Ad rfl rfl (E.sz 23 (by decide)) (E.d 18 0)).trans (Cc _))) (fun E hb=>Ai rfl Try.underlying36 rfl (by kernel_rfl) (E.v oe3)) ?_
 intro v1_19 hw
 have hv1_19:=hid hw
 clear hw
 refine QSeq.may (b:=pb17) rfl (.pointer (some ⟨w.heap.size+1,1,none⟩)) (fun E=>((Ad rfl rfl (E.sz 23 (by decide)) (E.d 18 1)).trans (Cc _))) (fun E hb=>Ai rfl Try.underlying30 rfl (by kernel_rfl) ((E.q 19 0 hv1_19.out).1 hb)) ?_
 intro v1_20 hw
 have hv1_20:=hid hw
 clear hw
 refine QSeq.may (b:=pb17) rfl (.int .i64 c.sq) (fun E=>((Ad rfl rfl (E.sz 23 (by decide)) (E.d 18 2)).trans (Cc _))) (fun E hb=>Am rfl Try.underlying3 rfl ((E.q 20 0 hv1_20.out).1 hb) (HB3.out.c1)) ?_
 intro v1_21 hw
 have hv1_21:=hid hw
 clear hw
 refine QSeq.may (b:=pb17) rfl (.bool (decide (c.sq≤1048576))) (fun E=>((Ad rfl rfl (E.sz 23 (by decide)) (E.d 18 3)).trans (Cc _))) (fun E hb=>A7 rfl ((E.q 21 0 hv1_21.out).1 hb) rfl (Ak _ _ _ _ _ _) (run_leq_i _ _ _ Try.underlying3)) ?_
 intro v1_22 hw
 have hv1_22:=hid hw
 clear hw
 obtain ⟨pb23,hb23⟩:∃ b:Bool,b=(pb17 && (decide (c.sq≤1048576))):=⟨_,rfl⟩
 have HB23:=hid hb23
 clear hb23
 refine QSeq.pure rfl (.bool pb23) (fun E=>ex_pickE rfl (E.d 18 4) rfl rfl ((and_val fun hb=>(E.q 22 0 hv1_22.out).1 hb).trans (congrArg Value.bool HB23.out.symm))) ?_
 refine QSeq.pure rfl _ (fun E=>Ah rfl (E.d 23 0)) ?_
 refine QSeq.may (b:=pb23) rfl (.pointer (some ⟨w.heap.size+1,34,none⟩)) (fun E=>((Ad rfl rfl (E.sz 29 (by decide)) (E.d 24 0)).trans (Cc _))) (fun E hb=>Ai rfl Try.underlying36 rfl (by kernel_rfl) (E.v oe3)) ?_
 intro v1_25 hw
 have hv1_25:=hid hw
 clear hw
 refine QSeq.may (b:=pb23) rfl (.int .i64 c.ln) (fun E=>((Ad rfl rfl (E.sz 29 (by decide)) (E.d 24 1)).trans (Cc _))) (fun E hb=>Am rfl Try.underlying3 rfl ((E.q 25 0 hv1_25.out).1 hb) (HB3.out.c34 HC.out.2.1)) ?_
 intro v1_26 hw
 have hv1_26:=hid hw
 clear hw
 refine QSeq.may (b:=pb23) rfl (.bool (decide (0≤c.ln))) (fun E=>((Ad rfl rfl (E.sz 29 (by decide)) (E.d 24 2)).trans (Cc _))) (fun E hb=>A7 rfl ((E.q 26 0 hv1_26.out).1 hb) rfl (Ak _ _ _ _ _ _) (B3 _ _ _ Try.underlying3)) ?_
 intro v1_27 hw
 have hv1_27:=hid hw
 clear hw
 obtain ⟨pb28,hb28⟩:∃ b:Bool,b=(pb23 && (decide (0≤c.ln))):=⟨_,rfl⟩
 have HB28:=hid hb28
 clear hb28
 refine QSeq.pure rfl (.bool pb28) (fun E=>ex_pickE rfl (E.d 24 3) rfl rfl ((and_val fun hb=>(E.q 27 0 hv1_27.out).1 hb).trans (congrArg Value.bool HB28.out.symm))) ?_
 refine QSeq.pure rfl _ (fun E=>Ah rfl (E.d 28 0)) ?_
 refine QSeq.may (b:=pb28) rfl (.pointer (some ⟨w.heap.size+1,34,none⟩)) (fun E=>((Ad rfl rfl (E.sz 34 (by decide)) (E.d 29 0)).trans (Cc _))) (fun E hb=>Ai rfl Try.underlying36 rfl (by kernel_rfl) (E.v oe3)) ?_
 intro v1_30 hw
 have hv1_30:=hid hw
 clear hw
 refine QSeq.may (b:=pb28) rfl (.int .i64 c.ln) (fun E=>((Ad rfl rfl (E.sz 34 (by decide)) (E.d 29 1)).trans (Cc _))) (fun E hb=>Am rfl Try.underlying3 rfl ((E.q 30 0 hv1_30.out).1 hb) (HB3.out.c34 HC.out.2.1)) ?_
 intro v1_31 hw
 have hv1_31:=hid hw
 clear hw
 refine QSeq.may (b:=pb28) rfl (.bool (decide (c.ln≤256))) (fun E=>((Ad rfl rfl (E.sz 34 (by decide)) (E.d 29 2)).trans (Cc _))) (fun E hb=>A7 rfl ((E.q 31 0 hv1_31.out).1 hb) rfl (Ak _ _ _ _ _ _) (run_leq_i _ _ _ Try.underlying3)) ?_
 intro v1_32 hw
 have hv1_32:=hid hw
 clear hw
 obtain ⟨pb33,hb33⟩:∃ b:Bool,b=(pb28 && (decide (c.ln≤256))):=⟨_,rfl⟩
 have HB33:=hid hb33
 clear hb33
 refine QSeq.pure rfl (.bool pb33) (fun E=>ex_pickE rfl (E.d 29 3) rfl rfl ((and_val fun hb=>(E.q 32 0 hv1_32.out).1 hb).trans (congrArg Value.bool HB33.out.symm))) ?_
 refine QSeq.pure rfl _ (fun E=>An rfl (E.d 33 0)) ?_
 clear hv1_5 hv1_6 hv1_7 hv1_8 hv1_9 hv1_10 hv1_13 hv1_14 hv1_15 hv1_16 hv1_19 hv1_20 hv1_21 hv1_22 hv1_25 hv1_26 hv1_27 hv1_30 hv1_31 hv1_32
 refine QSeq.nil (t':=[_,_,_,_,_,_,_,_,_,_,_,_,_,_,_,_,_,_,_,_,_,_,_,_,_,_,_,_,_,_,_,_,_,_,_]) rfl ?_
 obtain rfl:=HA0.out
 clear HA0 oe2 oe3
 simp only [pz,Act.put,sIB,sCZ,sCS]
 go_wp2
 go_ret
 have hv:_=validF k c:=HB33.out.trans (by rw [HB28.out,HB23.out,HB17.out,HB11.out];rfl)
 exact ⟨congrArg (fun z=>Ending.returned (Value.bool z)) hv,HM0.out⟩
end Go.Proofs.Ytbifincepglilaa

/- The reference's bytes of small things. -/
namespace Go.Proofs.Ytbifincepglilaa
open Go Go.RowKit Go.Gv
theorem RefInt_Q (n:Int) (hn:I64 n) (w:World):Calls Try.prog 66 #[.int .i64 n] w fun e w'=>∃ v',e=.returned v'∧OwR (New w w') 900000 w' v' (encI n)∧Mod (fun _=>False) w w':=
 (RefInt_R n hn w).mono fun e w' ⟨v',he,ho,hm⟩=>⟨v',he,ho.widen (fun _ h=>h) (by omega),hm⟩
theorem RefNum_Q (n:Nat) (hn:n < U64) (w:World):Calls Try.prog 74 #[.int .u64 n] w fun e w'=>∃ v',e=.returned v'∧OwR (New w w') 900000 w' v' (encN n)∧Mod (fun _=>False) w w':=
 (RefNum_R n hn w).mono fun e w' ⟨v',he,ho,hm⟩=>⟨v',he,ho.widen (fun _ h=>h) (by omega),hm⟩
theorem RefRow_Q {R:Nat→Prop} {N:Nat} {v:Value} {bs:List Int} {w:World} (hr:RdR R N w v bs) (hl:(encN bs.length ++ bs).length≤900000):Calls Try.prog 65 #[v] w fun e w'=>∃ v',e=.returned v'∧OwR (New w w') 900000 w' v' (encN bs.length ++ bs)∧Mod (fun _=>False) w w':=by
 have h1:bs.length≤900000:=by simp only [List.length_append] at hl;omega
 exact (RefRow_R (N:=bs.length) ⟨hr.1,hr.2.1,Nat.le_refl _⟩ h1).mono fun e w' ⟨v',he,ho,hm⟩=>⟨v',he,⟨ho.1,ho.2.1,hl⟩,hm⟩
theorem RdB_arr3 {w:World} {g off:Nat} {h:List Int} (hc:∀ j u,(h.map bv)[j]? = some u→w.cell? ⟨g,off+j,none⟩=some u) (hk:HK h):RdB w (.slice (some ⟨g,off,none⟩) 32 32) h:=by
 refine ⟨hk.2,?_⟩
 rw [hk.1]
 exact Rd.mk (Nat.le_refl _) (by rw [Bk];omega) (by simp [hk.1]) fun j y hy=>hc j y hy
theorem RefRow_W (s:ByteArray) {L:List Int} (hL:bytesOf s=L) {R:Nat→Prop} {N:Nat} {v:Value} {w:World} (hr:RdR R N w v L) (hl:(wordB s).length≤900000):Calls Try.prog 65 #[v] w fun e w'=>∃ v',e=.returned v'∧OwR (New w w') 900000 w' v' (wordB s)∧Mod (fun _=>False) w w':=by
 subst hL
 exact RefRow_Q hr hl
def bareT (x:St):List Int:=encI x.rp ++ (nameB x.cl x.sq ++ (x.h ++ encN x.tm))
set_option maxHeartbeats 2000000 in
theorem RefName_Q {a b:Int} (ha:I64 a) (hb:I64 b) (w:World):Calls Try.prog 75 #[.agg #[.int .i64 a,.int .i64 b]] w fun e w'=>∃ v',e=.returned v'∧OwR (New w w') 900000 w' v' (nameB a b)∧Mod (fun _=>False) w w':=by
 have HA:=Lib.hid ha
 have HB:=Lib.hid hb
 have HL:=hid (show (encI a ++ encI b).length≤900000 by have:=encI_len a ha.2;have:=encI_len b hb.2;simp only [List.length_append];omega)
 clear ha hb
 change Calls _ _ #[.agg #[.int .i64 a,.int .i64 b]] _ _
 go_enter Try.func75,Try.ntmps75
 go_upto_region 1 with (fail)
 obtain ⟨w1,hw1⟩:∃ zz,zz=(w.alloc (.cells #[.int .i64 a,.int .i64 b] 30)):=⟨_,rfl⟩
 change Code.wp _ _ _ _ (w.alloc (.cells #[.int .i64 a,.int .i64 b] 30))
 rw [← hw1]
 have HB1:=hid (show Cs w1 (w.heap.size) #[.int .i64 a,.int .i64 b] 30 by rw [hw1];exact Cs.new _ _ _)
 have hm:Mod (fun _=>False) w w1:=by rw [hw1];exact (Mod.refl _ _).alloc _
 have HM0:=hid (show Mod (fun _=>False) w w1 from hm.mono (fun _ _ h=>h.elim))
 have hs1:w1.heap.size=w.heap.size+1:=by rw [hw1];simp
 clear hw1 hm
 go_upto_region 1 with (fail)
 generalize ha0:Act.mk _ _=a0
 have oe1:a0.eval (.tmp 1)=.pointer (some ⟨w.heap.size,0,none⟩):=by rw [← ha0];rfl
 have hsz0:a0.tmps.size=11:=by rw [← ha0];rfl
 have HA0:=hid ha0
 clear ha0
 refine Az 11 hsz0 [3,4,5,6,7,8,9,10,2] [qi (.pointer (some ⟨w.heap.size,0,none⟩)),qi (.int .i64 a),qv 0,qi (.pointer (some ⟨w.heap.size,1,none⟩)),qi (.int .i64 b),qv 1,qv 2,qv 3,qv 3] ⟨Aa,Aa,Ay,Aa,Aa,Ay,Ay,Ay,Ay,trivial⟩ [2,5,6,7] ⟨?_,?_,?_,?_,?_,?_,?_,?_,?_,trivial⟩ ?_
 ·exact stq (fun E=>Ai rfl Try.underlying30 rfl (by kernel_rfl) (E.v oe1))
 ·exact stq (fun E=>Am rfl Try.underlying3 rfl (E.d 0) (Cs.lit1 (HB1.out.mod E.m.old (by intro h2;omega)) rfl))
 ·exact Au rfl
 ·exact stq (fun E=>Ai rfl Try.underlying30 rfl (by kernel_rfl) (E.v oe1))
 ·exact stq (fun E=>Am rfl Try.underlying3 rfl (E.d 3) (Cs.lit1 (HB1.out.mod E.m.old (by intro h2;omega)) rfl))
 ·exact Au rfl
 ·exact Au rfl
 ·exact Au rfl
 ·refine Ag rfl rfl rfl fun _ _ _ _ _ _ _ _ _ hd _ _=>?_
  have h7:=hd ⟨7,.data⟩ (by simp) rfl _ rfl
  exact Aq rfl (Ab rfl) (An rfl rfl) QE.refl h7
 intro u1_0 hr
 have zu1_0:=hr.size
 have Cx1:=hid (hr.new (S:=(fun _=>False)))
 clear hr
 refine QChain.go fun Z act E=>?_
 refine Ax (args:=#[.int .i64 a]) rfl (Ab rfl) rfl Try.func66 (Ca (E.d 1)) (RefInt_Q _ HA.out _) ?_
 rintro e u1_1a ⟨v_a1,rfl,qa1,hm⟩
 obtain ⟨ao_a1,cap_a1,rfl⟩:=qa1.shape
 have zu1_1a:=hm.size
 refine ⟨_,rfl,hm.mono (fun _ _ h=>h.elim),(fun _=>rfl),?_⟩
 intro u1_1 hr
 have zu1_1:=hr.size
 have Hx2:=hid ((qa1.widen (R':=(fun k=>(New u1_0 u1_1a k))) (fun _ h=>h) (Nat.le_refl _)).mod hr (by intro k h1 h2;omega))
 have Cx3:=hid (Cx1.out.go hm hr)
 clear Cx1 hm hr Z act E qa1
 refine QChain.go fun Z act E=>?_
 refine Ax (args:=#[.int .i64 b]) rfl (Ab rfl) rfl Try.func66 (Ca (E.d 4)) (RefInt_Q _ HB.out _) ?_
 rintro e u1_2a ⟨v_a2,rfl,qa2,hm⟩
 obtain ⟨ao_a2,cap_a2,rfl⟩:=qa2.shape
 have zu1_2a:=hm.size
 refine ⟨_,rfl,hm.mono (fun _ _ h=>h.elim),(fun _=>rfl),?_⟩
 intro u1_2 hr
 have zu1_2:=hr.size
 have Hx4:=hid ((qa2.widen (R':=(fun k=>(New u1_1 u1_2a k))) (fun _ h=>h) (Nat.le_refl _)).mod hr (by intro k h1 h2;omega))
 have hmr:=Mod.after hm hr
 have Hx5:=hid (Hx2.out.mod hmr (by intro k h1 h2;omega))
 clear Hx2
 clear hmr
 have Cx6:=hid (Cx3.out.go hm hr)
 clear Cx3 hm hr Z act E qa2
 refine QChain.go fun Z act E=>?_
 have ea5:act.eval (.tmp 5)=.slice ao_a1 ((encI a).length) cap_a1:=(chv (v:=.slice ao_a1 ((encI a).length) cap_a1) (E.d 2))
 have ea8:act.eval (.tmp 8)=.slice ao_a2 ((encI b).length) cap_a2:=(chv (v:=.slice ao_a2 ((encI b).length) cap_a2) (E.d 5))
 refine qc_rows rfl (Ab rfl) rfl Try.underlying132 (by decide) (C:=#[.slice ao_a1 ((encI a).length) cap_a1,.slice ao_a2 ((encI b).length) cap_a2]) (by simp only [List.map_toArray,List.map_cons,List.map_nil,ea5,ea8];kernel_rfl) ?_
 intro u1_3a qrow6 hm
 have zl1_6:=qrow6.lt
 have zu1_3a:=hm.size
 refine ⟨hm.mono (fun _ _ h=>h.elim),(fun _=>rfl),?_⟩
 intro u1_3 hr
 have zu1_3:=hr.size
 have Hx7:=hid (qrow6.mod hr (by intro h2;omega))
 have hmr:=Mod.after hm hr
 have Hx8:=hid (Hx5.out.mod hmr (by intro k h1 h2;omega))
 have Hx9:=hid (Hx4.out.mod hmr (by intro k h1 h2;omega))
 clear Hx5 Hx4
 clear hmr
 have Cx10:=hid (Cx6.out.go hm hr)
 clear Cx6 hm hr Z act E qrow6 ea5 ea8
 refine QChain.go fun Z act E=>?_
 refine Ax (args:=#[.slice (some ⟨u1_2.heap.size,0,none⟩) 2 2]) rfl (Ab rfl) rfl Try.func64 (Ca (chv (v:=.slice (some ⟨u1_2.heap.size,0,none⟩) 2 2) (E.d 6))) (Join_Q (n:=2)  Hx7.out [(.slice ao_a1 ((encI a).length) cap_a1,encI a),(.slice ao_a2 ((encI b).length) cap_a2,encI b)] rfl rfl (by intro p hp;simp only [List.mem_cons,List.not_mem_nil,or_false] at hp;rcases hp with rfl|rfl<;>first|exact Hx8.out.rd.1|exact Hx9.out.rd.1) (by simp) (show flat _=encI a ++ encI b from by simp only [flat,List.map_cons,List.map_nil,List.flatten_cons,List.flatten_nil,List.append_nil]) (by have:=HL.out;simp only [List.length_append] at this ⊢; omega)) ?_
 rintro e u1_4a ⟨v_join1,rfl,qjoin1,hm⟩
 have zu1_4a:=hm.size
 refine ⟨_,rfl,hm.mono (fun _ _ h=>h.elim),(fun _=>rfl),?_⟩
 intro u1_4 hr
 have zu1_4:=hr.size
 have Hx11:=hid ((qjoin1.widen (R':=(fun k=>(New u1_3 u1_4a k))) (fun _ h=>h) (Nat.le_refl _)).mod hr (by intro k h1 h2;omega))
 have hmr:=Mod.after hm hr
 have Hx12:=hid (Hx8.out.mod hmr (by intro k h1 h2;omega))
 have Hx13:=hid (Hx9.out.mod hmr (by intro k h1 h2;omega))
 have Hx14:=hid (Hx7.out.mod hmr (by intro h2;omega))
 clear Hx8 Hx9 Hx7
 clear hmr
 have Cx15:=hid (Cx10.out.go hm hr)
 clear Cx10 hm hr Z act E qjoin1
 refine QChain.nil fun vs hl hzz hrows hne=>?_
 obtain ⟨Z,hYZ,hZb,hV⟩:=hzz
 have f2:=fvc hV hl 2
 have f5:=fvc hV hl 5
 have f6:=fvc hV hl 6
 have f7:=fvc hV hl 7
 have f8:=fvc hV hl 8
 rw [show vs=[gw vs 0,gw vs 1,gw vs 2,gw vs 3,gw vs 4,gw vs 5,gw vs 6,gw vs 7,gw vs 8] from (Bh hl).trans rfl]
 have ha0:=HA0.out
 subst ha0
 clear HA0 hV hYZ hZb hsz0 hrows hne oe1
 simp only [Ar,Act.put,sIB,sCZ,sCS,f2,f5,f6,f7,f8]
 clear hl f2 f5 f6 f7 f8
 go_wp2
 go_ret
 exact ⟨v_join1,rfl,(Hx11.out.widen (R':=(fun k=>New w u1_4 k)) (by intro k h1;omega) (Nat.le_refl _)),(HM0.out.trans Cx15.out (fun _ _ h=>h.elim))⟩
set_option maxHeartbeats 4000000 in
theorem RefBare_Q:Makes StR 69 bareT:=by
 intro R2 cs x w hx hB2 hl
 obtain ⟨rfl,hok⟩:=hx
 have HBT:=Lib.hid hB2
 have HOK:=Lib.hid hok
 have HL:=Lib.hid hl
 clear hB2 hl hok
 unfold bareT at HL
 go_enter Try.func69,Try.ntmps69
 go_upto_region 1 with (fail)
 obtain ⟨w1,hw1⟩:∃ zz,zz=(w.alloc (.cells (x.cells:List Value).toArray 47)):=⟨_,rfl⟩
 change Code.wp _ _ _ _ (w.alloc (.cells (x.cells:List Value).toArray 47))
 rw [← hw1]
 have HB1:=hid (show Cs w1 (w.heap.size) (x.cells:List Value).toArray 47 by rw [hw1];exact Cs.new _ _ _)
 have hm:Mod (fun _=>False) w w1:=by rw [hw1];exact (Mod.refl _ _).alloc _
 have HM0:=hid (show Mod (fun _=>False) w w1 from hm.mono (fun _ _ h=>h.elim))
 have hs1:w1.heap.size=w.heap.size+1:=by rw [hw1];simp
 clear hw1 hm
 go_upto_region 1 with (fail)
 generalize ha0:Act.mk _ _=a0
 have oe1:a0.eval (.tmp 1)=.pointer (some ⟨w.heap.size,0,none⟩):=by rw [← ha0];rfl
 have hsz0:a0.tmps.size=16:=by rw [← ha0];rfl
 have HA0:=hid ha0
 clear ha0
 refine Az 16 hsz0 [3,4,5,6,7,8,9,10,11,12,13,14,15,2] [qi (.pointer (some ⟨w.heap.size,0,none⟩)),qi (.int .i64 x.rp),qv 0,qi (.pointer (some ⟨w.heap.size,1,none⟩)),qi (.agg #[.int .i64 x.cl,.int .i64 x.sq]),qv 1,qi (.pointer (some ⟨w.heap.size,3,none⟩)),qi (.slice (some ⟨w.heap.size,3,none⟩) 32 32),qi (.pointer (some ⟨w.heap.size,35,none⟩)),qi (.int .u64 (x.tm:Nat)),qv 2,qv 3,qv 4,qv 4] ⟨Aa,Aa,Ay,Aa,Aa,Ay,Aa,Aa,Aa,Aa,Ay,Ay,Ay,Ay,trivial⟩ [2,5,10,11,12] ⟨?_,?_,?_,?_,?_,?_,?_,?_,?_,?_,?_,?_,?_,?_,trivial⟩ ?_
 ·exact stq (fun E=>Ai rfl Try.underlying47 rfl (by kernel_rfl) (E.v oe1))
 ·exact stq (fun E=>Am rfl Try.underlying3 rfl (E.d 0) (Cs.pre1 (HB1.out.mod E.m.old (by intro h2;omega)) rfl))
 ·exact Au rfl
 ·exact stq (fun E=>Ai rfl Try.underlying47 rfl (by kernel_rfl) (E.v oe1))
 ·exact stq (fun E=>Ap rfl Try.underlying30 rfl (off:=1) (cs:=[.int .i64 x.cl,.int .i64 x.sq]) (by kernel_rfl) (E.d 3) (Cs.preA (HB1.out.mod E.m.old (by intro h2;omega)) rfl))
 ·exact Au rfl
 ·exact stq (fun E=>Ai rfl Try.underlying47 rfl (by kernel_rfl) (E.v oe1))
 ·exact stq (fun E=>ex_sliceArr rfl Try.underlying32 (by kernel_rfl) (E.d 6) (by decide))
 ·exact stq (fun E=>Ai rfl Try.underlying47 rfl (by kernel_rfl) (E.v oe1))
 ·exact stq (fun E=>Am rfl Try.underlying45 rfl (E.d 8) (Cs.post1 (m:=32) (k:=0) (HB1.out.mod E.m.old (by intro h2;omega)) (by rw [List.length_map];exact HOK.out.h.1) rfl rfl))
 ·exact Au rfl
 ·exact Au rfl
 ·exact Au rfl
 ·refine Ag rfl rfl rfl fun _ _ _ _ _ _ _ _ _ hd _ _=>?_
  have h12:=hd ⟨12,.data⟩ (by simp) rfl _ rfl
  exact Aq rfl (Ab rfl) (An rfl rfl) QE.refl h12
 intro u1_0 hr
 have zu1_0:=hr.size
 have Cx1:=hid (hr.new (S:=(fun _=>False)))
 clear hr
 refine QChain.go fun Z act E=>?_
 refine Ax (args:=#[.int .i64 x.rp]) rfl (Ab rfl) rfl Try.func66 (Ca (E.d 1)) (RefInt_Q _ HOK.out.rp _) ?_
 rintro e u1_1a ⟨v_a1,rfl,qa1,hm⟩
 obtain ⟨ao_a1,cap_a1,rfl⟩:=qa1.shape
 have zu1_1a:=hm.size
 refine ⟨_,rfl,hm.mono (fun _ _ h=>h.elim),(fun _=>rfl),?_⟩
 intro u1_1 hr
 have zu1_1:=hr.size
 have Hx2:=hid ((qa1.widen (R':=(fun k=>(New u1_0 u1_1a k))) (fun _ h=>h) (Nat.le_refl _)).mod hr (by intro k h1 h2;omega))
 have Cx3:=hid (Cx1.out.go hm hr)
 clear Cx1 hm hr Z act E qa1
 refine QChain.go fun Z act E=>?_
 refine Ax (args:=#[.agg #[.int .i64 x.cl,.int .i64 x.sq]]) rfl (Ab rfl) rfl Try.func75 (Ca (E.d 4)) (RefName_Q HOK.out.cl HOK.out.sq _) ?_
 rintro e u1_2a ⟨v_a2,rfl,qa2,hm⟩
 obtain ⟨ao_a2,cap_a2,rfl⟩:=qa2.shape
 have zu1_2a:=hm.size
 refine ⟨_,rfl,hm.mono (fun _ _ h=>h.elim),(fun _=>rfl),?_⟩
 intro u1_2 hr
 have zu1_2:=hr.size
 have Hx4:=hid ((qa2.widen (R':=(fun k=>(New u1_1 u1_2a k))) (fun _ h=>h) (Nat.le_refl _)).mod hr (by intro k h1 h2;omega))
 have hmr:=Mod.after hm hr
 have Hx5:=hid (Hx2.out.mod hmr (by intro k h1 h2;omega))
 clear Hx2
 clear hmr
 have Cx6:=hid (Cx3.out.go hm hr)
 clear Cx3 hm hr Z act E qa2
 refine QChain.go fun Z act E=>?_
 refine Ax (args:=#[.int .u64 (x.tm:Nat)]) rfl (Ab rfl) rfl Try.func74 (Ca (E.d 9)) (RefNum_Q _ HOK.out.tm _) ?_
 rintro e u1_3a ⟨v_a3,rfl,qa3,hm⟩
 obtain ⟨ao_a3,cap_a3,rfl⟩:=qa3.shape
 have zu1_3a:=hm.size
 refine ⟨_,rfl,hm.mono (fun _ _ h=>h.elim),(fun _=>rfl),?_⟩
 intro u1_3 hr
 have zu1_3:=hr.size
 have Hx7:=hid ((qa3.widen (R':=(fun k=>(New u1_2 u1_3a k))) (fun _ h=>h) (Nat.le_refl _)).mod hr (by intro k h1 h2;omega))
 have hmr:=Mod.after hm hr
 have Hx8:=hid (Hx5.out.mod hmr (by intro k h1 h2;omega))
 have Hx9:=hid (Hx4.out.mod hmr (by intro k h1 h2;omega))
 clear Hx5 Hx4
 clear hmr
 have Cx10:=hid (Cx6.out.go hm hr)
 clear Cx6 hm hr Z act E qa3
 refine QChain.go fun Z act E=>?_
 have ea5:act.eval (.tmp 5)=.slice ao_a1 ((encI x.rp).length) cap_a1:=(chv (v:=.slice ao_a1 ((encI x.rp).length) cap_a1) (E.d 2))
 have ea8:act.eval (.tmp 8)=.slice ao_a2 ((nameB x.cl x.sq).length) cap_a2:=(chv (v:=.slice ao_a2 ((nameB x.cl x.sq).length) cap_a2) (E.d 5))
 have ea10:act.eval (.tmp 10)=.slice (some ⟨w.heap.size,3,none⟩) 32 32:=(E.d 7)
 have ea13:act.eval (.tmp 13)=.slice ao_a3 ((encN x.tm).length) cap_a3:=(chv (v:=.slice ao_a3 ((encN x.tm).length) cap_a3) (E.d 10))
 refine qc_rows rfl (Ab rfl) rfl Try.underlying132 (by decide) (C:=#[.slice ao_a1 ((encI x.rp).length) cap_a1,.slice ao_a2 ((nameB x.cl x.sq).length) cap_a2,.slice (some ⟨w.heap.size,3,none⟩) 32 32,.slice ao_a3 ((encN x.tm).length) cap_a3]) (by simp only [List.map_toArray,List.map_cons,List.map_nil,ea5,ea8,ea10,ea13];kernel_rfl) ?_
 intro u1_4a qrow11 hm
 have zl1_11:=qrow11.lt
 have zu1_4a:=hm.size
 refine ⟨hm.mono (fun _ _ h=>h.elim),(fun _=>rfl),?_⟩
 intro u1_4 hr
 have zu1_4:=hr.size
 have Hx11:=hid (qrow11.mod hr (by intro h2;omega))
 have hmr:=Mod.after hm hr
 have Hx12:=hid (Hx8.out.mod hmr (by intro k h1 h2;omega))
 have Hx13:=hid (Hx9.out.mod hmr (by intro k h1 h2;omega))
 have Hx14:=hid (Hx7.out.mod hmr (by intro k h1 h2;omega))
 clear Hx8 Hx9 Hx7
 clear hmr
 have Cx15:=hid (Cx10.out.go hm hr)
 clear Cx10 hm hr Z act E qrow11 ea5 ea8 ea10 ea13
 refine QChain.go fun Z act E=>?_
 refine Ax (args:=#[.slice (some ⟨u1_3.heap.size,0,none⟩) 4 4]) rfl (Ab rfl) rfl Try.func64 (Ca (chv (v:=.slice (some ⟨u1_3.heap.size,0,none⟩) 4 4) (E.d 11))) (Join_Q (n:=4)  Hx11.out [(.slice ao_a1 ((encI x.rp).length) cap_a1,encI x.rp),(.slice ao_a2 ((nameB x.cl x.sq).length) cap_a2,nameB x.cl x.sq),(.slice (some ⟨w.heap.size,3,none⟩) 32 32,x.h),(.slice ao_a3 ((encN x.tm).length) cap_a3,encN x.tm)] rfl rfl (by intro p hp;simp only [List.mem_cons,List.not_mem_nil,or_false] at hp;rcases hp with rfl|rfl|rfl|rfl<;>first|exact Hx12.out.rd.1|exact Hx13.out.rd.1|exact RdB_arr3 (Cs.midA (HB1.out.mod Cx15.out (fun h=>h)) rfl) HOK.out.h|exact Hx14.out.rd.1) (by simp) (show flat _=encI x.rp ++ (nameB x.cl x.sq ++ (x.h ++ encN x.tm)) from by simp only [flat,List.map_cons,List.map_nil,List.flatten_cons,List.flatten_nil,List.append_nil]) (by have:=HL.out;simp only [List.length_append] at this ⊢; omega)) ?_
 rintro e u1_5a ⟨v_join1,rfl,qjoin1,hm⟩
 have zu1_5a:=hm.size
 refine ⟨_,rfl,hm.mono (fun _ _ h=>h.elim),(fun _=>rfl),?_⟩
 intro u1_5 hr
 have zu1_5:=hr.size
 have Hx16:=hid ((qjoin1.widen (R':=(fun k=>(New u1_4 u1_5a k))) (fun _ h=>h) (Nat.le_refl _)).mod hr (by intro k h1 h2;omega))
 have hmr:=Mod.after hm hr
 have Hx17:=hid (Hx12.out.mod hmr (by intro k h1 h2;omega))
 have Hx18:=hid (Hx13.out.mod hmr (by intro k h1 h2;omega))
 have Hx19:=hid (Hx14.out.mod hmr (by intro k h1 h2;omega))
 have Hx20:=hid (Hx11.out.mod hmr (by intro h2;omega))
 clear Hx12 Hx13 Hx14 Hx11
 clear hmr
 have Cx21:=hid (Cx15.out.go hm hr)
 clear Cx15 hm hr Z act E qjoin1
 refine QChain.nil fun vs hl hzz hrows hne=>?_
 obtain ⟨Z,hYZ,hZb,hV⟩:=hzz
 have f2:=fvc hV hl 2
 have f5:=fvc hV hl 5
 have f10:=fvc hV hl 10
 have f11:=fvc hV hl 11
 have f12:=fvc hV hl 12
 have f13:=fvc hV hl 13
 rw [show vs=[gw vs 0,gw vs 1,gw vs 2,gw vs 3,gw vs 4,gw vs 5,gw vs 6,gw vs 7,gw vs 8,gw vs 9,gw vs 10,gw vs 11,gw vs 12,gw vs 13] from (Bh hl).trans rfl]
 have ha0:=HA0.out
 subst ha0
 clear HA0 hV hYZ hZb hsz0 hrows hne oe1
 simp only [Ar,Act.put,sIB,sCZ,sCS,f2,f5,f10,f11,f12,f13]
 clear hl f2 f5 f10 f11 f12 f13
 go_wp2
 go_ret
 have hq:=(Hx16.out.widen (R':=(fun k=>New w u1_5 k)) (by intro k h1;omega) (Nat.le_refl _))
 (try simp only [List.append_assoc] at hq)
 exact ⟨v_join1,rfl,by simpa only [bareT,List.append_assoc] using hq,(HM0.out.trans Cx21.out (fun _ _ h=>h.elim))⟩
end Go.Proofs.Ytbifincepglilaa
