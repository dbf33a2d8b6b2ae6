/- StampPlays: whatever is stamped, whenever time goes on, wherever the floor is raised to, each call answers what the document says; a clone goes its own way: for every configuration, every replica and every two lists of calls the law returns true. No condition. -/
import Derived.Test.YtbifincepglilaaSpP8
import Derived.Deep.CutBlock
import Derived.ProofKit
import Derived.OpenShut
import Derived.ChangeOld
set_option maxRecDepth 100000
set_option linter.unusedVariables false
open List renaming setIfInBounds_toArray → sIB, set_cons_zero → sCZ, set_cons_succ → sCS
/- StampPlays: the walk. -/
namespace Go.Proofs.Ytbifincepglilaa
open Go Go.RowKit Go.Gv
set_option maxHeartbeats 16000000 in
theorem StampPlays_walk (f k rep:Int) (l m:List Sa) (vl vm:Value) (w:World) (hl:RdS SaR (fun k=>k < w.heap.size) w vl l) (hm:RdS SaR (fun k=>k < w.heap.size) w vm m) :
 Calls Try.prog 7 #[.agg #[.int .i64 f,.int .i64 k],.int .i64 rep,vl,vm] w fun e w'=>e=.returned (.bool true)∧Mod (fun _=>False) w w':=by
 obtain ⟨al,capl,rfl⟩:=hl.shape
 obtain ⟨am,capm,rfl⟩:=hm.shape
 have HL:=Lib.hid hl
 have HMM:=Lib.hid hm
 clear hl hm
 change Calls _ _ #[.agg #[.int .i64 f,.int .i64 k],.int .i64 rep,.slice al l.length capl,.slice am m.length capm] _ _
 go_enter Try.func7,Try.ntmps7
 go_upto_region 1 with (fail)
 obtain ⟨w1,hw1⟩:∃ zz,zz=(w.alloc (.cells #[.int .i64 f,.int .i64 k] 26)):=⟨_,rfl⟩
 change Code.wp _ _ _ _ (w.alloc (.cells #[.int .i64 f,.int .i64 k] 26))
 rw [← hw1]
 have HB4:=hid (show Cs w1 (w.heap.size) #[.int .i64 f,.int .i64 k] 26 by rw [hw1];exact Cs.new _ _ _)
 have hm:Mod (fun _=>False) w w1:=by rw [hw1];exact (Mod.refl _ _).alloc _
 have HM0:=hid (show Mod (fun _=>False) w w1 from hm.mono (fun _ _ h=>h.elim))
 have hs1:w1.heap.size=w.heap.size+1:=by rw [hw1];simp
 have Hx1:=hid (HL.out.mod hm (fun _ _ h=>h))
 clear HL
 have Hx2:=hid (HMM.out.mod hm (fun _ _ h=>h))
 clear HMM
 clear hw1 hm
 go_upto_region 1 with (fail)
 refine Al 89 [16,17,18,9,10] [0,1,2,3,4] (fun a0 HA0=>?_)
 refine QSeq.call rfl rfl Try.func9 (Book_new_Q _) (fun E=>args0) ?_
 rintro e u1_0 ⟨g,rfl,qbk,hm⟩
 refine ⟨_,rfl,?_⟩
 have Hx3:=hid qbk
 have zu1_0:=hm.size
 have Cx4:=hid (show Mod (fun _=>False) w1 u1_0 from hm)
 clear hm
 clear qbk
 refine QSeq.pure rfl (.agg #[Value.slice none 0 0]) (fun E=>ex_build0 rfl (r:=#[Value.slice none 0 0]) (by kernel_rfl)) ?_
 refine QSeq.go fun act E=>?_
 refine qc_box rfl (Ab rfl) rfl (vs:=[Value.slice none 0 0]) (by rw [show act.eval (.tmp 17)=_ from (E.d 1 0)];rfl) ?_
 intro u1_2 qbx hm
 have zl1_2:=qbx.lt
 have Hx5:=hid qbx
 have zu1_2:=hm.size
 have HMu1_2:=hid hm
 have Cx6:=hid (Cx4.out.goE hm)
 clear hm Cx4
 clear act E qbx
 refine QSeq.pure rfl _ (fun E=>An rfl (E.d 0 2)) ?_
 refine QSeq.pure rfl _ (fun E=>An rfl (E.d 2 1)) ?_
 have Hx7:=hid (Hx3.out.mod HMu1_2.out (fun _ _ h=>h))
 clear Hx3 HMu1_2
 refine QSeq.nil (t':=[_,_,_,_,_]) rfl ?_
 obtain rfl:=HA0.out
 clear HA0
 simp only [pz,Act.put,sIB,sCZ,sCS]
 have HRB0:=hid (RbO.fresh Hx5.out)
 clear Hx5
 cases hmay:mayR f k rep with
 | false=>
  have HMAY:=Lib.hid hmay
  clear hmay
  go_upto_region 2 with (fail)
  refine Al 89 [20,21,22,19,23,24,11,12] [0,1,2,3,4,5,6,7] (fun a0 HA0=>?_)
  have oe1:=ev HA0 1 rfl
  have oe4:=ev HA0 4 rfl
  refine QSeq.pure rfl _ (fun E=>Ap rfl Try.underlying26 rfl (off:=0) (cs:=[.int .i64 f,.int .i64 k]) (by kernel_rfl) (E.v oe4) (Cs.litA (HB4.out.mod Cx6.out (fun h=>h)) rfl)) ?_
  refine QSeq.pure rfl _ (fun E=>Ah rfl (E.v oe1)) ?_
  refine QSeq.call rfl rfl Try.func11 (New_no HMAY.out _) (fun E=>args2 (E.d 0 1) (E.d 1 0)) ?_
  rintro e u2_2 ⟨rfl,hm⟩
  refine ⟨_,rfl,?_⟩
  have zu2_2:=hm.size
  have Cx8:=hid (show Mod (fun _=>False) u1_2 u2_2 from hm)
  clear hm
  refine QSeq.pure rfl _ (fun E=>Ah rfl (E.d 2 0)) ?_
  refine QSeq.pure rfl (.pointer none) (fun E=>A9 rfl (E.d 3 0) rfl) ?_
  refine QSeq.pure rfl (.int .i64 1) (fun E=>A9 rfl (E.d 3 1) rfl) ?_
  refine QSeq.pure rfl _ (fun E=>An rfl (E.d 4 1)) ?_
  refine QSeq.pure rfl _ (fun E=>An rfl (E.d 5 1)) ?_
  refine QSeq.nil (t':=[_,_,_,_,_,_,_,_]) rfl ?_
  obtain rfl:=HA0.out
  clear HA0 oe1 oe4
  simp only [pz,Act.put,sIB,sCZ,sCS]
  go_upto_region 3 with (fail)
  refine Al 89 [25,26,27,28] [0,1,2,3] (fun a0 HA0=>?_)
  have oe1:=ev HA0 1 rfl
  have oe4:=ev HA0 4 rfl
  refine QSeq.pure rfl _ (fun E=>Ap rfl Try.underlying26 rfl (off:=0) (cs:=[.int .i64 f,.int .i64 k]) (by kernel_rfl) (E.v oe4) (Cs.litA ((HB4.out.mod Cx6.out (fun h=>h)).mod Cx8.out (fun h=>h)) rfl)) ?_
  refine QSeq.pure rfl _ (fun E=>Ah rfl (E.v oe1)) ?_
  refine QSeq.call rfl rfl Try.func22 (May_no HMAY.out _) (fun E=>args2 (E.d 0 1) (E.d 1 0)) ?_
  rintro e u3_2 ⟨rfl,hm⟩
  refine ⟨_,rfl,?_⟩
  have zu3_2:=hm.size
  have Cx9:=hid (show Mod (fun _=>False) u2_2 u3_2 from hm)
  clear hm
  refine QSeq.pure rfl (.bool true) (fun E=>ex_not rfl (E.d 2 0)) ?_
  refine QSeq.nil (t':=[_,_,_,_]) rfl ?_
  obtain rfl:=HA0.out
  clear HA0 oe1 oe4
  simp only [pz,Act.put,sIB,sCZ,sCS]
  go_upto_region 4 with (fail)
  refine Al 89 [29,30,31,32,33,34,35,36,37,8] [0,1,2,3,4,5,6,7,8,9] (fun a0 HA0=>?_)
  have oe11:=ev HA0 11 rfl
  have oe12:=ev HA0 12 rfl
  refine QSeq.pure rfl _ (fun E=>Ah rfl (E.v oe12)) ?_
  refine QSeq.pure rfl (.bool true) (fun E=>Av rfl (E.d 0 0) rfl (Ak _ _ _ _ _ _) (Bg _ _ _ Try.underlying40) (congrArg Value.bool (eq_tt rfl))) ?_
  refine QSeq.pure rfl _ (fun E=>Ah rfl (E.d 1 0)) ?_
  refine QSeq.pureG rfl (.pointer none) (fun E=>((Ad rfl rfl (E.sz 31 (by decide)) (E.d 2 0)).trans rfl)) (fun E=>Ah rfl (E.v oe11)) ?_
  refine QSeq.pureG rfl (.bool true) (fun E=>((Ad rfl rfl (E.sz 31 (by decide)) (E.d 2 1)).trans rfl)) (fun E=>Av rfl (E.d 3 0) rfl (guard_ptr _ _ _ _ _ _ _) (run_eql_n2 _ Try.underlying39 (by kernel_rfl)) rfl) ?_
  refine QSeq.pure rfl (.bool true) (fun E=>A5 rfl (E.d 2 2) (E.d 4 0) rfl) ?_
  refine QSeq.pure rfl _ (fun E=>Ah rfl (E.d 5 0)) ?_
  refine QSeq.go fun act E=>?_
  refine Ax (args:=#[]) rfl ((Ad rfl rfl (E.sz 35 (by decide)) (E.d 6 0)).trans rfl) rfl Try.func18 args0 (wakes09 _) ?_
  rintro e u4_7 ⟨rfl,hm⟩
  refine ⟨_,rfl,?_⟩
  have zu4_7:=hm.size
  have Cx10:=hid (show Mod (fun _=>False) u3_2 u4_7 from hm)
  clear hm
  clear act E
  refine QSeq.pure rfl (.bool true) (fun E=>A5 rfl (E.d 6 1) (E.d 7 0) rfl) ?_
  refine QSeq.pure rfl _ (fun E=>An rfl (E.d 8 0)) ?_
  refine QSeq.nil (t':=[_,_,_,_,_,_,_,_,_,_]) rfl ?_
  obtain rfl:=HA0.out
  clear HA0 oe11 oe12
  simp only [pz,Act.put,sIB,sCZ,sCS]
  go_wp2
  go_ret
  exact ⟨rfl,((((HM0.out.trans Cx6.out (fun _ _ h=>h.elim)).trans Cx8.out (fun _ _ h=>h.elim)).trans Cx9.out (fun _ _ h=>h.elim)).trans Cx10.out (fun _ _ h=>h.elim))⟩
 | true=>
  obtain ⟨hV,hF,hC,hr⟩:=mayR_bd hmay
  have HV:=Lib.hid hV
  clear hmay hV
  have hrp:I64 rep:=by unfold I64;omega
  go_upto_region 2 with (fail)
  refine Al 89 [20,21,22,19,23,24,11,12] [0,1,2,3,4,5,6,7] (fun a0 HA0=>?_)
  have oe1:=ev HA0 1 rfl
  have oe4:=ev HA0 4 rfl
  refine QSeq.pure rfl _ (fun E=>Ap rfl Try.underlying26 rfl (off:=0) (cs:=[.int .i64 f,.int .i64 k]) (by kernel_rfl) (E.v oe4) (Cs.litA (HB4.out.mod Cx6.out (fun h=>h)) rfl)) ?_
  refine QSeq.pure rfl _ (fun E=>Ah rfl (E.v oe1)) ?_
  refine QSeq.call rfl rfl Try.func11 (New_Q hF hC hr _) (fun E=>args2 (E.d 0 1) (E.d 1 0)) ?_
  rintro e u2_2 ⟨p,rfl,qsp,hm⟩
  refine ⟨_,rfl,?_⟩
  have Hx11:=hid qsp
  have zu2_2:=hm.size
  have Cx12:=hid (show Mod (fun _=>False) u1_2 u2_2 from hm)
  clear hm
  clear qsp
  refine QSeq.pure rfl _ (fun E=>Ah rfl (E.d 2 0)) ?_
  refine QSeq.pure rfl (.pointer (some ⟨p,0,none⟩)) (fun E=>A9 rfl (E.d 3 0) rfl) ?_
  refine QSeq.pure rfl (.int .i64 0) (fun E=>A9 rfl (E.d 3 1) rfl) ?_
  refine QSeq.pure rfl _ (fun E=>An rfl (E.d 4 1)) ?_
  refine QSeq.pure rfl _ (fun E=>An rfl (E.d 5 1)) ?_
  refine QSeq.nil (t':=[_,_,_,_,_,_,_,_]) rfl ?_
  obtain rfl:=HA0.out
  clear HA0 oe1 oe4
  simp only [pz,Act.put,sIB,sCZ,sCS]
  go_upto_region 3 with (fail)
  refine Al 89 [25,26,27,28] [0,1,2,3] (fun a0 HA0=>?_)
  have oe1:=ev HA0 1 rfl
  have oe4:=ev HA0 4 rfl
  refine QSeq.pure rfl _ (fun E=>Ap rfl Try.underlying26 rfl (off:=0) (cs:=[.int .i64 f,.int .i64 k]) (by kernel_rfl) (E.v oe4) (Cs.litA ((HB4.out.mod Cx6.out (fun h=>h)).mod Cx12.out (fun h=>h)) rfl)) ?_
  refine QSeq.pure rfl _ (fun E=>Ah rfl (E.v oe1)) ?_
  refine QSeq.call rfl rfl Try.func22 (May_yes HV.out hF hr _) (fun E=>args2 (E.d 0 1) (E.d 1 0)) ?_
  rintro e u3_2 ⟨rfl,hm⟩
  refine ⟨_,rfl,?_⟩
  have zu3_2:=hm.size
  have Cx13:=hid (show Mod (fun _=>False) u2_2 u3_2 from hm)
  clear hm
  refine QSeq.pure rfl (.bool false) (fun E=>ex_not rfl (E.d 2 0)) ?_
  refine QSeq.nil (t':=[_,_,_,_]) rfl ?_
  obtain rfl:=HA0.out
  clear HA0 oe1 oe4
  simp only [pz,Act.put,sIB,sCZ,sCS]
  go_upto_region 5 with (fail)
  refine Al 89 [38,39,40,41,13] [0,1,2,3,4] (fun a0 HA0=>?_)
  have oe1:=ev HA0 1 rfl
  have oe4:=ev HA0 4 rfl
  refine QSeq.pure rfl _ (fun E=>Ap rfl Try.underlying26 rfl (off:=0) (cs:=[.int .i64 f,.int .i64 k]) (by kernel_rfl) (E.v oe4) (Cs.litA (((HB4.out.mod Cx6.out (fun h=>h)).mod Cx12.out (fun h=>h)).mod Cx13.out (fun h=>h)) rfl)) ?_
  refine QSeq.pure rfl _ (fun E=>Ah rfl (E.v oe1)) ?_
  refine QSeq.go fun act E=>?_
  refine qc_run rfl (Ab rfl) (v:=.agg #[.int .i64 f,.int .i64 k,.int .i64 rep,.int .u64 0,.int .u64 0,.int .u64 0,.slice none 0 0]) (ex_build rfl (z:=[.int .i64 0,.int .i64 0,.int .i64 0,.int .u64 0,.int .u64 0,.int .u64 0,.slice none 0 0]) (places:=[(0,2),(2,1),(3,1),(4,1),(5,1),(6,1)]) (by kernel_rfl) (parts:=[(0,.agg #[.int .i64 f,.int .i64 k]),(1,.int .i64 rep)]) (by simp only [List.map_toArray,List.map_cons,List.map_nil,show act.eval (.tmp 38)=.agg #[.int .i64 f,.int .i64 k] from (E.d 0 1),show act.eval (.tmp 39)=.int .i64 rep from (E.d 1 0)];try rfl) (r:=[.int .i64 f,.int .i64 k,.int .i64 rep,.int .u64 0,.int .u64 0,.int .u64 0,.slice none 0 0]) (by rfl)) ?_
  clear act E
  refine QSeq.go fun act E=>?_
  refine qc_box rfl (Ab rfl) rfl (vs:=[.int .i64 f,.int .i64 k,.int .i64 rep,.int .u64 0,.int .u64 0,.int .u64 0,.slice none 0 0]) (by rw [show act.eval (.tmp 40)=_ from (E.d 2 0)];rfl) ?_
  intro u5_3 qby_ hm
  have zl5_3:=qby_.lt
  have Hx14:=hid qby_
  have zu5_3:=hm.size
  have Cx15:=hid (show Mod (fun _=>False) u3_2 u5_3 from hm)
  clear hm
  clear act E qby_
  refine QSeq.pure rfl _ (fun E=>An rfl (E.d 3 0)) ?_
  refine QSeq.nil (t':=[_,_,_,_,_]) rfl ?_
  obtain rfl:=HA0.out
  clear HA0 oe1 oe4
  simp only [pz,Act.put,sIB,sCZ,sCS]
  have HRP0:=hid (RpR.fresh Hx14.out)
  clear Hx14
  obtain ⟨R1,R2,R3,R4,h1,h2,h3,h4,hb1,hb2,hb3,hb4,hdj⟩:∃ R1 R2 R3 R4:Nat→Prop,SpR R1 u5_3 p f k rep ss0∧RpR R2 u5_3 (u3_2.heap.size) f k rep ss0∧BkR R3 u5_3 g []∧RbO R4 u5_3 (u1_0.heap.size) []∧(∀ k,R1 k→w.heap.size+1≤k∧k < u5_3.heap.size)∧(∀ k,R2 k→w.heap.size+1≤k∧k < u5_3.heap.size)∧(∀ k,R3 k→w.heap.size+1≤k∧k < u5_3.heap.size)∧(∀ k,R4 k→w.heap.size+1≤k∧k < u5_3.heap.size)∧Dj5 (fun k=>k < w.heap.size) R1 R2 R3 R4:=by
   exact ⟨(fun k=>(New u1_2 u2_2 k)),(fun k=>(k=u3_2.heap.size)),(fun k=>(New w1 u1_0 k)),(fun k=>(k=u1_0.heap.size)),((Hx11.out.mod Cx13.out (fun _ _ h=>h)).mod Cx15.out (fun _ _ h=>h)),HRP0.out,(((Hx7.out.mod Cx12.out (fun _ _ h=>h)).mod Cx13.out (fun _ _ h=>h)).mod Cx15.out (fun _ _ h=>h)),(((HRB0.out.mod Cx12.out (fun _ _ h=>h)).mod Cx13.out (fun _ _ h=>h)).mod Cx15.out (fun _ _ h=>h)),(by intro k h1;omega),(by intro k h1;omega),(by intro k h1;omega),(by intro k h1;omega),⟨(by intro k h1 h2;omega),(by intro k h1 h2;omega),(by intro k h1 h2;omega),(by intro k h1 h2;omega),(by intro k h1 h2;omega),(by intro k h1 h2;omega),(by intro k h1 h2;omega),(by intro k h1 h2;omega),(by intro k h1 h2;omega),(by intro k h1 h2;omega)⟩⟩
  have HSP:=Lib.hid h1
  have HRP:=Lib.hid h2
  have HBK:=Lib.hid h3
  have HRB:=Lib.hid h4
  have HBR1:=Lib.hid hb1
  have HBR2:=Lib.hid hb2
  have HBR3:=Lib.hid hb3
  have HBR4:=Lib.hid hb4
  have HD12:=hid hdj.d12
  have HD13:=hid hdj.d13
  have HD14:=hid hdj.d14
  have HD23:=hid hdj.d23
  have HD24:=hid hdj.d24
  have HD34:=hid hdj.d34
  clear h1 h2 h3 h4 hb1 hb2 hb3 hb4 hdj
  clear Hx11
  clear HRP0
  clear Hx7
  clear HRB0
  go_upto_region 6 with (fail)
  refine Al 89 [42,43,44,45,46,47,48,49,50,51,52,53,54,55,56,57,58,59,60,61] [0,1,2,3,4,5,6,7,8,9,10,11,12,13,14,15,16,17,18,19] (fun a0 HA0=>?_)
  have oe2:=ev HA0 2 rfl
  have oe4:=ev HA0 4 rfl
  have oe9:=ev HA0 9 rfl
  have oe10:=ev HA0 10 rfl
  have oe11:=ev HA0 11 rfl
  have oe12:=ev HA0 12 rfl
  have oe13:=ev HA0 13 rfl
  refine QSeq.pure rfl _ (fun E=>Ah rfl (E.v oe9)) ?_
  refine QSeq.pure rfl (.bool false) (fun E=>A7 rfl (E.d 0 0) rfl (guard_ptr _ _ _ _ _ _ _) (run_eql_nil _ Try.underlying27 (by kernel_rfl) _)) ?_
  refine QSeq.pure rfl _ (fun E=>Ah rfl (E.d 1 0)) ?_
  refine QSeq.pureG rfl (.int .i64 0) (fun E=>((Ad rfl rfl (E.sz 44 (by decide)) (E.d 2 0)).trans rfl)) (fun E=>Ah rfl (E.v oe12)) ?_
  refine QSeq.pureG rfl (.bool false) (fun E=>((Ad rfl rfl (E.sz 44 (by decide)) (E.d 2 1)).trans rfl)) (fun E=>Av rfl (E.d 3 0) rfl (Ak _ _ _ _ _ _) (run_neq_i _ _ _ Try.underlying40) (congrArg Value.bool (show _=false from rfl))) ?_
  refine QSeq.pure rfl (.bool false) (fun E=>A5 rfl (E.d 2 2) rfl (E.d 4 0)) ?_
  refine QSeq.pure rfl _ (fun E=>Ah rfl (E.d 5 0)) ?_
  refine QSeq.pureG rfl (.pointer (some ⟨p,0,none⟩)) (fun E=>((Ad rfl rfl (E.sz 48 (by decide)) (E.d 6 0)).trans rfl)) (fun E=>Ah rfl (E.v oe11)) ?_
  refine QSeq.pureG rfl (.bool false) (fun E=>((Ad rfl rfl (E.sz 48 (by decide)) (E.d 6 1)).trans rfl)) (fun E=>A7 rfl (E.d 7 0) rfl (guard_ptr _ _ _ _ _ _ _) (run_eql_nil _ Try.underlying39 (by kernel_rfl) _)) ?_
  refine QSeq.pure rfl (.bool false) (fun E=>A5 rfl (E.d 6 2) rfl (E.d 8 0)) ?_
  refine QSeq.pure rfl _ (fun E=>Ah rfl (E.d 9 0)) ?_
  refine QSeq.pureG rfl (.agg #[.int .i64 f,.int .i64 k]) (fun E=>((Ad rfl rfl (E.sz 52 (by decide)) (E.d 10 0)).trans rfl)) (fun E=>Ap rfl Try.underlying26 rfl (off:=0) (cs:=[.int .i64 f,.int .i64 k]) (by kernel_rfl) (E.v oe4) (Cs.litA ((((HB4.out.mod Cx6.out (fun h=>h)).mod Cx12.out (fun h=>h)).mod Cx13.out (fun h=>h)).mod Cx15.out (fun h=>h)) rfl)) ?_
  refine QSeq.pureG rfl (.pointer (some ⟨p,0,none⟩)) (fun E=>((Ad rfl rfl (E.sz 52 (by decide)) (E.d 10 1)).trans rfl)) (fun E=>Ah rfl (E.v oe11)) ?_
  refine QSeq.pureG rfl (.pointer (some ⟨u3_2.heap.size,0,none⟩)) (fun E=>((Ad rfl rfl (E.sz 52 (by decide)) (E.d 10 2)).trans rfl)) (fun E=>Ah rfl (E.v oe13)) ?_
  refine QSeq.pureG rfl (.pointer (some ⟨g,0,none⟩)) (fun E=>((Ad rfl rfl (E.sz 52 (by decide)) (E.d 10 3)).trans rfl)) (fun E=>Ah rfl (E.v oe9)) ?_
  refine QSeq.pureG rfl (.pointer (some ⟨u1_0.heap.size,0,none⟩)) (fun E=>((Ad rfl rfl (E.sz 52 (by decide)) (E.d 10 4)).trans rfl)) (fun E=>Ah rfl (E.v oe10)) ?_
  refine QSeq.pureG rfl (.slice al l.length capl) (fun E=>((Ad rfl rfl (E.sz 52 (by decide)) (E.d 10 5)).trans rfl)) (fun E=>Ah rfl (E.v oe2)) ?_
  refine QSeq.go fun act E=>?_
  have ea53:act.eval (.tmp 53)=.agg #[.int .i64 f,.int .i64 k]:=(E.d 11 5)
  have ea54:act.eval (.tmp 54)=.pointer (some ⟨p,0,none⟩):=(E.d 12 4)
  have ea55:act.eval (.tmp 55)=.pointer (some ⟨u3_2.heap.size,0,none⟩):=(E.d 13 3)
  have ea56:act.eval (.tmp 56)=.pointer (some ⟨g,0,none⟩):=(E.d 14 2)
  have ea57:act.eval (.tmp 57)=.pointer (some ⟨u1_0.heap.size,0,none⟩):=(E.d 15 1)
  have ea58:act.eval (.tmp 58)=.slice al l.length capl:=(E.d 16 0)
  refine qc_call (args:=#[.agg #[.int .i64 f,.int .i64 k],.pointer (some ⟨p,0,none⟩),.pointer (some ⟨u3_2.heap.size,0,none⟩),.pointer (some ⟨g,0,none⟩),.pointer (some ⟨u1_0.heap.size,0,none⟩),.slice al l.length capl]) rfl ((Ad rfl rfl (E.sz 52 (by decide)) (E.d 10 6)).trans rfl) (by rw [A8 rfl Try.func23 (by kernel_rfl) (by kernel_rfl)];exact congrArg (fun z=>Result.ok (Next.enter _ z) _) (by simp only [List.map_toArray,List.map_cons,List.map_nil,ea53,ea54,ea55,ea56,ea57,ea58];try rfl)) (SPlay_P (N0:=0) (s:=ss0) (L:=[]) HSP.out HRP.out HBK.out HRB.out ((((Hx1.out.mod Cx6.out (fun _ _ h=>h)).mod Cx12.out (fun _ _ h=>h)).mod Cx13.out (fun _ _ h=>h)).mod Cx15.out (fun _ _ h=>h)) (by intro k h1;omega) (by intro k h1;have hb:=HBR1.out k h1;omega) (by intro k h1;have hb:=HBR2.out k h1;omega) (by intro k h1;have hb:=HBR3.out k h1;omega) (by intro k h1;have hb:=HBR4.out k h1;omega) ⟨HD12.out,HD13.out,HD14.out,HD23.out,HD24.out,HD34.out,(fun k h1 h2=>by have hb:=HBR1.out k h2;omega),(fun k h1 h2=>by have hb:=HBR2.out k h2;omega),(fun k h1 h2=>by have hb:=HBR3.out k h2;omega),(fun k h1 h2=>by have hb:=HBR4.out k h2;omega)⟩ apart_nil (by first|exact Nat.le_refl _|omega) (by first|exact Nat.le_refl _|omega) (by omega) hrp) ?_
  rintro e u6_17 ⟨sa,La,A2a,A4a,rfl,qsp,qrp,qbk,qrb,hpla,hm⟩
  have HPLa:=Lib.hid hpla
  have hzza:=hm.size
  have hpma:=hpla.ml
  have hpLa:=hpla.ll
  have HBA2a:=hid (show ∀ k,A2a k→w.heap.size+1≤k∧k < u6_17.heap.size from fun k hk=>by rcases HPLa.out.s2 k hk with h|h;(have hb:=HBR2.out k h;omega);(have h1:=h.1;have h2:=h.2;omega))
  have HBA4a:=hid (show ∀ k,A4a k→w.heap.size+1≤k∧k < u6_17.heap.size from fun k hk=>by rcases HPLa.out.s4 k hk with h|h;(have hb:=HBR4.out k h;omega);(have h1:=h.1;have h2:=h.2;omega))
  have HXA2a_A4a:=hid HPLa.out.dj
  have HXR1_A2a:=hid (show ∀ k,R1 k→A2a k→False from fun k h1 h2=>by rcases HPLa.out.s2 k h2 with h|h;exact HD12.out k h1 h;(have hb:=HBR1.out k h1;have:=h.1;omega))
  have HXR1_A4a:=hid (show ∀ k,R1 k→A4a k→False from fun k h1 h2=>by rcases HPLa.out.s4 k h2 with h|h;exact HD14.out k h1 h;(have hb:=HBR1.out k h1;have:=h.1;omega))
  have HXR3_A2a:=hid (show ∀ k,R3 k→A2a k→False from fun k h1 h2=>by rcases HPLa.out.s2 k h2 with h|h;exact HD23.out k h h1;(have hb:=HBR3.out k h1;have:=h.1;omega))
  have HXR3_A4a:=hid (show ∀ k,R3 k→A4a k→False from fun k h1 h2=>by rcases HPLa.out.s4 k h2 with h|h;exact HD34.out k h1 h;(have hb:=HBR3.out k h1;have:=h.1;omega))
  clear hpla
  refine ⟨_,rfl,?_⟩
  have Hx16:=hid qsp
  have Hx17:=hid qrp
  have Hx18:=hid qbk
  have Hx19:=hid qrb
  have zu6_17:=hm.size
  have Cx20:=hid (show Mod (fun k=>(R1 k)∨(R2 k)∨(R3 k)∨(R4 k)) u5_3 u6_17 from hm)
  clear hm
  clear act E qsp qrp qbk qrb HSP HRP HBK HRB ea53 ea54 ea55 ea56 ea57 ea58
  refine QSeq.pureG rfl (.bool false) (fun E=>((Ad rfl rfl (E.sz 52 (by decide)) (E.d 10 7)).trans rfl)) (fun E=>ex_not rfl (E.d 17 0)) ?_
  refine QSeq.pure rfl (.bool false) (fun E=>A5 rfl (E.d 10 8) rfl (E.d 18 0)) ?_
  refine QSeq.nil (t':=[_,_,_,_,_,_,_,_,_,_,_,_,_,_,_,_,_,_,_,_]) rfl ?_
  obtain rfl:=HA0.out
  clear HA0 oe2 oe4 oe9 oe10 oe11 oe12 oe13
  simp only [pz,Act.put,sIB,sCZ,sCS]
  go_upto_region 8 with (fail)
  refine Al 89 [62,63,64,65,14,15] [0,1,2,3,4,5] (fun a0 HA0=>?_)
  have oe11:=ev HA0 11 rfl
  have oe13:=ev HA0 13 rfl
  refine QSeq.pure rfl _ (fun E=>Ah rfl (E.v oe11)) ?_
  refine QSeq.call rfl rfl Try.func24 (Clone_Q Hx16.out (by intro k h1;have hb:=HBR1.out k h1;omega)) (fun E=>Ca (E.d 0 0)) ?_
  rintro e u8_1 ⟨c,rfl,qsp2,hm⟩
  refine ⟨_,rfl,?_⟩
  have Hx21:=hid qsp2
  have zu8_1:=hm.size
  have Cx22:=hid (show Mod (fun _=>False) u6_17 u8_1 from hm)
  clear hm
  clear qsp2
  refine QSeq.pure rfl _ (fun E=>Ah rfl (E.v oe13)) ?_
  refine QSeq.call rfl rfl Try.func25 (RCopy_Q (Hx17.out.mod Cx22.out (fun _ _ h=>h)) (by intro k h1;have hb:=HBA2a.out k h1;omega) (by omega)) (fun E=>Ca (E.d 2 0)) ?_
  rintro e u8_3 ⟨d,rfl,qrp2,hm⟩
  refine ⟨_,rfl,?_⟩
  have Hx23:=hid qrp2
  have zu8_3:=hm.size
  have HMu8_3:=hid hm
  have Cx24:=hid (Cx22.out.goE hm)
  clear hm Cx22
  clear qrp2
  refine QSeq.pure rfl _ (fun E=>An rfl (E.d 1 2)) ?_
  refine QSeq.pure rfl _ (fun E=>An rfl (E.d 3 1)) ?_
  have Hx25:=hid (Hx21.out.mod HMu8_3.out (fun _ _ h=>h))
  clear Hx21 HMu8_3
  refine QSeq.nil (t':=[_,_,_,_,_,_]) rfl ?_
  obtain rfl:=HA0.out
  clear HA0 oe11 oe13
  simp only [pz,Act.put,sIB,sCZ,sCS]
  obtain ⟨C1,C2,h1,h2,hb1,hb2,hdj⟩:∃ C1 C2:Nat→Prop,SpR C1 u8_3 c f k rep sa∧RpR C2 u8_3 d f k rep sa∧(∀ k,C1 k→u6_17.heap.size≤k∧k < u8_3.heap.size)∧(∀ k,C2 k→u6_17.heap.size≤k∧k < u8_3.heap.size)∧(∀ k,C1 k→C2 k→False):=⟨(fun k=>(New u6_17 u8_1 k)),(fun k=>(New u8_1 u8_3 k)),Hx25.out,Hx23.out,(by intro k h1;omega),(by intro k h1;omega),(by intro k h1 h2;omega)⟩
  have HSC:=Lib.hid h1
  have HRC:=Lib.hid h2
  have HBC1:=hid (show ∀ k,C1 k→w.heap.size+1≤k∧k < u8_3.heap.size from fun k hk=>by have:=hb1 k hk;omega)
  have HBC2:=hid (show ∀ k,C2 k→w.heap.size+1≤k∧k < u8_3.heap.size from fun k hk=>by have:=hb2 k hk;omega)
  have HX0_0:=Lib.hid hdj
  have HXR1_C1:=hid (show ∀ k,R1 k→C1 k→False from fun k h1 h2=>by have hb:=HBR1.out k h1;have:=hb1 k h2;omega)
  have HXR1_C2:=hid (show ∀ k,R1 k→C2 k→False from fun k h1 h2=>by have hb:=HBR1.out k h1;have:=hb2 k h2;omega)
  have HXA2a_C1:=hid (show ∀ k,A2a k→C1 k→False from fun k h1 h2=>by have hb:=HBA2a.out k h1;have:=hb1 k h2;omega)
  have HXA2a_C2:=hid (show ∀ k,A2a k→C2 k→False from fun k h1 h2=>by have hb:=HBA2a.out k h1;have:=hb2 k h2;omega)
  have HXR3_C1:=hid (show ∀ k,R3 k→C1 k→False from fun k h1 h2=>by have hb:=HBR3.out k h1;have:=hb1 k h2;omega)
  have HXR3_C2:=hid (show ∀ k,R3 k→C2 k→False from fun k h1 h2=>by have hb:=HBR3.out k h1;have:=hb2 k h2;omega)
  have HXA4a_C1:=hid (show ∀ k,A4a k→C1 k→False from fun k h1 h2=>by have hb:=HBA4a.out k h1;have:=hb1 k h2;omega)
  have HXA4a_C2:=hid (show ∀ k,A4a k→C2 k→False from fun k h1 h2=>by have hb:=HBA4a.out k h1;have:=hb2 k h2;omega)
  clear h1 h2 hb1 hb2 hdj
  clear Hx25
  clear Hx23
  go_upto_region 9 with (fail)
  refine Al 89 [66,67,68,69,70,71,72,73,74,75,76,77,78,79,80,81,82,83,84,85,86,87,88,8] [0,1,2,3,4,5,6,7,8,9,10,11,12,13,14,15,16,17,18,19,20,21,22,23] (fun a0 HA0=>?_)
  have oe2:=ev HA0 2 rfl
  have oe3:=ev HA0 3 rfl
  have oe4:=ev HA0 4 rfl
  have oe9:=ev HA0 9 rfl
  have oe10:=ev HA0 10 rfl
  have oe11:=ev HA0 11 rfl
  have oe13:=ev HA0 13 rfl
  have oe14:=ev HA0 14 rfl
  have oe15:=ev HA0 15 rfl
  refine QSeq.pure rfl _ (fun E=>Ah rfl (E.v oe14)) ?_
  refine QSeq.pure rfl (.bool true) (fun E=>A7 rfl (E.d 0 0) rfl (guard_ptr _ _ _ _ _ _ _) (run_neq_nil _ Try.underlying39 (by kernel_rfl) _)) ?_
  refine QSeq.pure rfl _ (fun E=>Ah rfl (E.d 1 0)) ?_
  refine QSeq.pureG rfl (.agg #[.int .i64 f,.int .i64 k]) (fun E=>((Ad rfl rfl (E.sz 68 (by decide)) (E.d 2 0)).trans rfl)) (fun E=>Ap rfl Try.underlying26 rfl (off:=0) (cs:=[.int .i64 f,.int .i64 k]) (by kernel_rfl) (E.v oe4) (Cs.litA ((((((HB4.out.mod Cx6.out (fun h=>h)).mod Cx12.out (fun h=>h)).mod Cx13.out (fun h=>h)).mod Cx15.out (fun h=>h)).mod Cx20.out (by intro h2;rcases h2 with h2|h2|h2|h2<;>first|omega|(have hb:=HBR1.out _ h2;omega)|(have hb:=HBR2.out _ h2;omega)|(have hb:=HBR3.out _ h2;omega)|(have hb:=HBR4.out _ h2;omega))).mod Cx24.out (fun h=>h)) rfl)) ?_
  refine QSeq.pureG rfl (.pointer (some ⟨c,0,none⟩)) (fun E=>((Ad rfl rfl (E.sz 68 (by decide)) (E.d 2 1)).trans rfl)) (fun E=>Ah rfl (E.v oe14)) ?_
  refine QSeq.pureG rfl (.pointer (some ⟨d,0,none⟩)) (fun E=>((Ad rfl rfl (E.sz 68 (by decide)) (E.d 2 2)).trans rfl)) (fun E=>Ah rfl (E.v oe15)) ?_
  refine QSeq.pureG rfl (.pointer (some ⟨g,0,none⟩)) (fun E=>((Ad rfl rfl (E.sz 68 (by decide)) (E.d 2 3)).trans rfl)) (fun E=>Ah rfl (E.v oe9)) ?_
  refine QSeq.pureG rfl (.pointer (some ⟨u1_0.heap.size,0,none⟩)) (fun E=>((Ad rfl rfl (E.sz 68 (by decide)) (E.d 2 4)).trans rfl)) (fun E=>Ah rfl (E.v oe10)) ?_
  refine QSeq.pureG rfl (.slice am m.length capm) (fun E=>((Ad rfl rfl (E.sz 68 (by decide)) (E.d 2 5)).trans rfl)) (fun E=>Ah rfl (E.v oe3)) ?_
  refine QSeq.go fun act E=>?_
  have ea69:act.eval (.tmp 69)=.agg #[.int .i64 f,.int .i64 k]:=(E.d 3 5)
  have ea70:act.eval (.tmp 70)=.pointer (some ⟨c,0,none⟩):=(E.d 4 4)
  have ea71:act.eval (.tmp 71)=.pointer (some ⟨d,0,none⟩):=(E.d 5 3)
  have ea72:act.eval (.tmp 72)=.pointer (some ⟨g,0,none⟩):=(E.d 6 2)
  have ea73:act.eval (.tmp 73)=.pointer (some ⟨u1_0.heap.size,0,none⟩):=(E.d 7 1)
  have ea74:act.eval (.tmp 74)=.slice am m.length capm:=(E.d 8 0)
  refine qc_call (args:=#[.agg #[.int .i64 f,.int .i64 k],.pointer (some ⟨c,0,none⟩),.pointer (some ⟨d,0,none⟩),.pointer (some ⟨g,0,none⟩),.pointer (some ⟨u1_0.heap.size,0,none⟩),.slice am m.length capm]) rfl ((Ad rfl rfl (E.sz 68 (by decide)) (E.d 2 6)).trans rfl) (by rw [A8 rfl Try.func23 (by kernel_rfl) (by kernel_rfl)];exact congrArg (fun z=>Result.ok (Next.enter _ z) _) (by simp only [List.map_toArray,List.map_cons,List.map_nil,ea69,ea70,ea71,ea72,ea73,ea74];try rfl)) (SPlay_P (N0:=50) (s:=sa) (L:=La) HSC.out HRC.out (Hx18.out.mod Cx24.out (fun _ _ h=>h)) (Hx19.out.mod Cx24.out (fun _ _ h=>h)) ((((((Hx2.out.mod Cx6.out (fun _ _ h=>h)).mod Cx12.out (fun _ _ h=>h)).mod Cx13.out (fun _ _ h=>h)).mod Cx15.out (fun _ _ h=>h)).mod Cx20.out (by intro k h1 h2;rcases h2 with h2|h2|h2|h2<;>first|omega|(have hb:=HBR1.out k h2;omega)|(have hb:=HBR2.out k h2;omega)|(have hb:=HBR3.out k h2;omega)|(have hb:=HBR4.out k h2;omega))).mod Cx24.out (fun _ _ h=>h)) (by intro k h1;omega) (by intro k h1;have hb:=HBC1.out k h1;omega) (by intro k h1;have hb:=HBC2.out k h1;omega) (by intro k h1;have hb:=HBR3.out k h1;omega) (by intro k h1;have hb:=HBA4a.out k h1;omega) ⟨HX0_0.out,(fun k h1 h2=>HXR3_C1.out k h2 h1),(fun k h1 h2=>HXA4a_C1.out k h2 h1),(fun k h1 h2=>HXR3_C2.out k h2 h1),(fun k h1 h2=>HXA4a_C2.out k h2 h1),HXR3_A4a.out,(fun k h1 h2=>by have hb:=HBC1.out k h2;omega),(fun k h1 h2=>by have hb:=HBC2.out k h2;omega),(fun k h1 h2=>by have hb:=HBR3.out k h2;omega),(fun k h1 h2=>by have hb:=HBA4a.out k h2;omega)⟩ HPLa.out.ap (by first|exact Nat.le_refl _|omega) (by first|exact Nat.le_refl _|omega) (by omega) hrp) ?_
  rintro e u9_9 ⟨sb,Lb,A2b,A4b,rfl,qsp2,qrp2,qbk,qrb,hplb,hm⟩
  have HPLb:=Lib.hid hplb
  have hzzb:=hm.size
  have hpmb:=hplb.ml
  have hpLb:=hplb.ll
  have HBA2b:=hid (show ∀ k,A2b k→w.heap.size+1≤k∧k < u9_9.heap.size from fun k hk=>by rcases HPLb.out.s2 k hk with h|h;(have hb:=HBC2.out k h;omega);(have h1:=h.1;have h2:=h.2;omega))
  have HBA4b:=hid (show ∀ k,A4b k→w.heap.size+1≤k∧k < u9_9.heap.size from fun k hk=>by rcases HPLb.out.s4 k hk with h|h;(have hb:=HBA4a.out k h;omega);(have h1:=h.1;have h2:=h.2;omega))
  have HXA2b_A4b:=hid HPLb.out.dj
  have HXC1_A2b:=hid (show ∀ k,C1 k→A2b k→False from fun k h1 h2=>by rcases HPLb.out.s2 k h2 with h|h;exact HX0_0.out k h1 h;(have hb:=HBC1.out k h1;have:=h.1;omega))
  have HXC1_A4b:=hid (show ∀ k,C1 k→A4b k→False from fun k h1 h2=>by rcases HPLb.out.s4 k h2 with h|h;exact HXA4a_C1.out k h h1;(have hb:=HBC1.out k h1;have:=h.1;omega))
  have HXR3_A2b:=hid (show ∀ k,R3 k→A2b k→False from fun k h1 h2=>by rcases HPLb.out.s2 k h2 with h|h;exact HXR3_C2.out k h1 h;(have hb:=HBR3.out k h1;have:=h.1;omega))
  have HXR3_A4b:=hid (show ∀ k,R3 k→A4b k→False from fun k h1 h2=>by rcases HPLb.out.s4 k h2 with h|h;exact HXR3_A4a.out k h1 h;(have hb:=HBR3.out k h1;have:=h.1;omega))
  have HXR1_A2b:=hid (show ∀ k,R1 k→A2b k→False from fun k h1 h2=>by rcases HPLb.out.s2 k h2 with h|h;exact HXR1_C2.out k h1 h;(have hb:=HBR1.out k h1;have:=h.1;omega))
  have HXR1_A4b:=hid (show ∀ k,R1 k→A4b k→False from fun k h1 h2=>by rcases HPLb.out.s4 k h2 with h|h;exact HXR1_A4a.out k h1 h;(have hb:=HBR1.out k h1;have:=h.1;omega))
  have HXA2a_A2b:=hid (show ∀ k,A2a k→A2b k→False from fun k h1 h2=>by rcases HPLb.out.s2 k h2 with h|h;exact HXA2a_C2.out k h1 h;(have hb:=HBA2a.out k h1;have:=h.1;omega))
  have HXA2a_A4b:=hid (show ∀ k,A2a k→A4b k→False from fun k h1 h2=>by rcases HPLb.out.s4 k h2 with h|h;exact HXA2a_A4a.out k h1 h;(have hb:=HBA2a.out k h1;have:=h.1;omega))
  clear hplb
  refine ⟨_,rfl,?_⟩
  have Hx26:=hid qsp2
  have Hx27:=hid qrp2
  have Hx28:=hid qbk
  have Hx29:=hid qrb
  have zu9_9:=hm.size
  have Cx30:=hid (show Mod (fun k=>(C1 k)∨(C2 k)∨(R3 k)∨(A4a k)) u8_3 u9_9 from hm)
  clear hm
  clear act E qsp2 qrp2 qbk qrb HSC HRC Hx18 Hx19 ea69 ea70 ea71 ea72 ea73 ea74
  clear Hx26
  clear Hx27
  refine QSeq.pure rfl (.bool true) (fun E=>A5 rfl (E.d 2 7) (E.d 9 0) rfl) ?_
  refine QSeq.pure rfl _ (fun E=>Ah rfl (E.d 10 0)) ?_
  refine QSeq.pureG rfl (.agg #[.int .i64 f,.int .i64 k]) (fun E=>((Ad rfl rfl (E.sz 77 (by decide)) (E.d 11 0)).trans rfl)) (fun E=>Ap rfl Try.underlying26 rfl (off:=0) (cs:=[.int .i64 f,.int .i64 k]) (by kernel_rfl) (E.v oe4) (Cs.litA (((((((HB4.out.mod Cx6.out (fun h=>h)).mod Cx12.out (fun h=>h)).mod Cx13.out (fun h=>h)).mod Cx15.out (fun h=>h)).mod Cx20.out (by intro h2;rcases h2 with h2|h2|h2|h2<;>first|omega|(have hb:=HBR1.out _ h2;omega)|(have hb:=HBR2.out _ h2;omega)|(have hb:=HBR3.out _ h2;omega)|(have hb:=HBR4.out _ h2;omega))).mod Cx24.out (fun h=>h)).mod Cx30.out (by intro h2;rcases h2 with h2|h2|h2|h2<;>first|omega|(have hb:=HBC1.out _ h2;omega)|(have hb:=HBC2.out _ h2;omega)|(have hb:=HBR3.out _ h2;omega)|(have hb:=HBA4a.out _ h2;omega))) rfl)) ?_
  refine QSeq.pureG rfl (.pointer (some ⟨p,0,none⟩)) (fun E=>((Ad rfl rfl (E.sz 77 (by decide)) (E.d 11 1)).trans rfl)) (fun E=>Ah rfl (E.v oe11)) ?_
  refine QSeq.pureG rfl (.pointer (some ⟨u3_2.heap.size,0,none⟩)) (fun E=>((Ad rfl rfl (E.sz 77 (by decide)) (E.d 11 2)).trans rfl)) (fun E=>Ah rfl (E.v oe13)) ?_
  refine QSeq.pureG rfl (.pointer (some ⟨g,0,none⟩)) (fun E=>((Ad rfl rfl (E.sz 77 (by decide)) (E.d 11 3)).trans rfl)) (fun E=>Ah rfl (E.v oe9)) ?_
  refine QSeq.pureG rfl (.pointer (some ⟨u1_0.heap.size,0,none⟩)) (fun E=>((Ad rfl rfl (E.sz 77 (by decide)) (E.d 11 4)).trans rfl)) (fun E=>Ah rfl (E.v oe10)) ?_
  refine QSeq.pureG rfl (.slice al l.length capl) (fun E=>((Ad rfl rfl (E.sz 77 (by decide)) (E.d 11 5)).trans rfl)) (fun E=>Ah rfl (E.v oe2)) ?_
  refine QSeq.go fun act E=>?_
  have ea78:act.eval (.tmp 78)=.agg #[.int .i64 f,.int .i64 k]:=(E.d 12 5)
  have ea79:act.eval (.tmp 79)=.pointer (some ⟨p,0,none⟩):=(E.d 13 4)
  have ea80:act.eval (.tmp 80)=.pointer (some ⟨u3_2.heap.size,0,none⟩):=(E.d 14 3)
  have ea81:act.eval (.tmp 81)=.pointer (some ⟨g,0,none⟩):=(E.d 15 2)
  have ea82:act.eval (.tmp 82)=.pointer (some ⟨u1_0.heap.size,0,none⟩):=(E.d 16 1)
  have ea83:act.eval (.tmp 83)=.slice al l.length capl:=(E.d 17 0)
  refine qc_call (args:=#[.agg #[.int .i64 f,.int .i64 k],.pointer (some ⟨p,0,none⟩),.pointer (some ⟨u3_2.heap.size,0,none⟩),.pointer (some ⟨g,0,none⟩),.pointer (some ⟨u1_0.heap.size,0,none⟩),.slice al l.length capl]) rfl ((Ad rfl rfl (E.sz 77 (by decide)) (E.d 11 6)).trans rfl) (by rw [A8 rfl Try.func23 (by kernel_rfl) (by kernel_rfl)];exact congrArg (fun z=>Result.ok (Next.enter _ z) _) (by simp only [List.map_toArray,List.map_cons,List.map_nil,ea78,ea79,ea80,ea81,ea82,ea83];try rfl)) (SPlay_P (N0:=100) (s:=sa) (L:=Lb) ((Hx16.out.mod Cx24.out (fun _ _ h=>h)).mod Cx30.out (by intro k h1 h2;rcases h2 with h2|h2|h2|h2<;>first|omega|(have hb:=HBR1.out k h1;omega)|(have hb:=HBC1.out k h2;omega)|(have hb:=HBC2.out k h2;omega)|(have hb:=HBR3.out k h2;omega)|(have hb:=HBA4a.out k h2;omega)|exact HD12.out k h1 h2|exact HD12.out k h2 h1|exact HD13.out k h1 h2|exact HD13.out k h2 h1|exact HD14.out k h1 h2|exact HD14.out k h2 h1|exact HD23.out k h1 h2|exact HD23.out k h2 h1|exact HD24.out k h1 h2|exact HD24.out k h2 h1|exact HD34.out k h1 h2|exact HD34.out k h2 h1|exact HXA2a_A4a.out k h1 h2|exact HXA2a_A4a.out k h2 h1|exact HXR1_A2a.out k h1 h2|exact HXR1_A2a.out k h2 h1|exact HXR1_A4a.out k h1 h2|exact HXR1_A4a.out k h2 h1|exact HXR3_A2a.out k h1 h2|exact HXR3_A2a.out k h2 h1|exact HXR3_A4a.out k h1 h2|exact HXR3_A4a.out k h2 h1|exact HX0_0.out k h1 h2|exact HX0_0.out k h2 h1|exact HXR1_C1.out k h1 h2|exact HXR1_C1.out k h2 h1|exact HXR1_C2.out k h1 h2|exact HXR1_C2.out k h2 h1|exact HXA2a_C1.out k h1 h2|exact HXA2a_C1.out k h2 h1|exact HXA2a_C2.out k h1 h2|exact HXA2a_C2.out k h2 h1|exact HXR3_C1.out k h1 h2|exact HXR3_C1.out k h2 h1|exact HXR3_C2.out k h1 h2|exact HXR3_C2.out k h2 h1|exact HXA4a_C1.out k h1 h2|exact HXA4a_C1.out k h2 h1|exact HXA4a_C2.out k h1 h2|exact HXA4a_C2.out k h2 h1|exact HXA2b_A4b.out k h1 h2|exact HXA2b_A4b.out k h2 h1|exact HXC1_A2b.out k h1 h2|exact HXC1_A2b.out k h2 h1|exact HXC1_A4b.out k h1 h2|exact HXC1_A4b.out k h2 h1|exact HXR3_A2b.out k h1 h2|exact HXR3_A2b.out k h2 h1|exact HXR3_A4b.out k h1 h2|exact HXR3_A4b.out k h2 h1|exact HXR1_A2b.out k h1 h2|exact HXR1_A2b.out k h2 h1|exact HXR1_A4b.out k h1 h2|exact HXR1_A4b.out k h2 h1|exact HXA2a_A2b.out k h1 h2|exact HXA2a_A2b.out k h2 h1|exact HXA2a_A4b.out k h1 h2|exact HXA2a_A4b.out k h2 h1|exact HXA2c_A4c.out k h1 h2|exact HXA2c_A4c.out k h2 h1|exact HXR1_A2c.out k h1 h2|exact HXR1_A2c.out k h2 h1|exact HXR1_A4c.out k h1 h2|exact HXR1_A4c.out k h2 h1|exact HXR3_A2c.out k h1 h2|exact HXR3_A2c.out k h2 h1|exact HXR3_A4c.out k h1 h2|exact HXR3_A4c.out k h2 h1|(have hb:=HBR1.out k h1;have hb2:=HBC1.out k h2;omega)|(have hb:=HBR1.out k h1;have hb2:=HBC2.out k h2;omega)|(have hb:=HBR1.out k h1;have hb2:=HBR3.out k h2;omega)|(have hb:=HBR1.out k h1;have hb2:=HBA4a.out k h2;omega))) ((Hx17.out.mod Cx24.out (fun _ _ h=>h)).mod Cx30.out (by intro k h1 h2;rcases h2 with h2|h2|h2|h2<;>first|omega|(have hb:=HBA2a.out k h1;omega)|(have hb:=HBC1.out k h2;omega)|(have hb:=HBC2.out k h2;omega)|(have hb:=HBR3.out k h2;omega)|(have hb:=HBA4a.out k h2;omega)|exact HD12.out k h1 h2|exact HD12.out k h2 h1|exact HD13.out k h1 h2|exact HD13.out k h2 h1|exact HD14.out k h1 h2|exact HD14.out k h2 h1|exact HD23.out k h1 h2|exact HD23.out k h2 h1|exact HD24.out k h1 h2|exact HD24.out k h2 h1|exact HD34.out k h1 h2|exact HD34.out k h2 h1|exact HXA2a_A4a.out k h1 h2|exact HXA2a_A4a.out k h2 h1|exact HXR1_A2a.out k h1 h2|exact HXR1_A2a.out k h2 h1|exact HXR1_A4a.out k h1 h2|exact HXR1_A4a.out k h2 h1|exact HXR3_A2a.out k h1 h2|exact HXR3_A2a.out k h2 h1|exact HXR3_A4a.out k h1 h2|exact HXR3_A4a.out k h2 h1|exact HX0_0.out k h1 h2|exact HX0_0.out k h2 h1|exact HXR1_C1.out k h1 h2|exact HXR1_C1.out k h2 h1|exact HXR1_C2.out k h1 h2|exact HXR1_C2.out k h2 h1|exact HXA2a_C1.out k h1 h2|exact HXA2a_C1.out k h2 h1|exact HXA2a_C2.out k h1 h2|exact HXA2a_C2.out k h2 h1|exact HXR3_C1.out k h1 h2|exact HXR3_C1.out k h2 h1|exact HXR3_C2.out k h1 h2|exact HXR3_C2.out k h2 h1|exact HXA4a_C1.out k h1 h2|exact HXA4a_C1.out k h2 h1|exact HXA4a_C2.out k h1 h2|exact HXA4a_C2.out k h2 h1|exact HXA2b_A4b.out k h1 h2|exact HXA2b_A4b.out k h2 h1|exact HXC1_A2b.out k h1 h2|exact HXC1_A2b.out k h2 h1|exact HXC1_A4b.out k h1 h2|exact HXC1_A4b.out k h2 h1|exact HXR3_A2b.out k h1 h2|exact HXR3_A2b.out k h2 h1|exact HXR3_A4b.out k h1 h2|exact HXR3_A4b.out k h2 h1|exact HXR1_A2b.out k h1 h2|exact HXR1_A2b.out k h2 h1|exact HXR1_A4b.out k h1 h2|exact HXR1_A4b.out k h2 h1|exact HXA2a_A2b.out k h1 h2|exact HXA2a_A2b.out k h2 h1|exact HXA2a_A4b.out k h1 h2|exact HXA2a_A4b.out k h2 h1|exact HXA2c_A4c.out k h1 h2|exact HXA2c_A4c.out k h2 h1|exact HXR1_A2c.out k h1 h2|exact HXR1_A2c.out k h2 h1|exact HXR1_A4c.out k h1 h2|exact HXR1_A4c.out k h2 h1|exact HXR3_A2c.out k h1 h2|exact HXR3_A2c.out k h2 h1|exact HXR3_A4c.out k h1 h2|exact HXR3_A4c.out k h2 h1|(have hb:=HBA2a.out k h1;have hb2:=HBC1.out k h2;omega)|(have hb:=HBA2a.out k h1;have hb2:=HBC2.out k h2;omega)|(have hb:=HBA2a.out k h1;have hb2:=HBR3.out k h2;omega)|(have hb:=HBA2a.out k h1;have hb2:=HBA4a.out k h2;omega))) Hx28.out Hx29.out (((((((Hx1.out.mod Cx6.out (fun _ _ h=>h)).mod Cx12.out (fun _ _ h=>h)).mod Cx13.out (fun _ _ h=>h)).mod Cx15.out (fun _ _ h=>h)).mod Cx20.out (by intro k h1 h2;rcases h2 with h2|h2|h2|h2<;>first|omega|(have hb:=HBR1.out k h2;omega)|(have hb:=HBR2.out k h2;omega)|(have hb:=HBR3.out k h2;omega)|(have hb:=HBR4.out k h2;omega))).mod Cx24.out (fun _ _ h=>h)).mod Cx30.out (by intro k h1 h2;rcases h2 with h2|h2|h2|h2<;>first|omega|(have hb:=HBC1.out k h2;omega)|(have hb:=HBC2.out k h2;omega)|(have hb:=HBR3.out k h2;omega)|(have hb:=HBA4a.out k h2;omega))) (by intro k h1;omega) (by intro k h1;have hb:=HBR1.out k h1;omega) (by intro k h1;have hb:=HBA2a.out k h1;omega) (by intro k h1;have hb:=HBR3.out k h1;omega) (by intro k h1;have hb:=HBA4b.out k h1;omega) ⟨HXR1_A2a.out,HD13.out,HXR1_A4b.out,(fun k h1 h2=>HXR3_A2a.out k h2 h1),HXA2a_A4b.out,HXR3_A4b.out,(fun k h1 h2=>by have hb:=HBR1.out k h2;omega),(fun k h1 h2=>by have hb:=HBA2a.out k h2;omega),(fun k h1 h2=>by have hb:=HBR3.out k h2;omega),(fun k h1 h2=>by have hb:=HBA4b.out k h2;omega)⟩ HPLb.out.ap (by first|exact Nat.le_refl _|omega) (by first|exact Nat.le_refl _|omega) (by omega) hrp) ?_
  rintro e u9_18 ⟨sc,Lc,A2c,A4c,rfl,qsp,qrp,qbk,qrb,hplc,hm⟩
  have HPLc:=Lib.hid hplc
  have hzzc:=hm.size
  have hpmc:=hplc.ml
  have hpLc:=hplc.ll
  have HBA2c:=hid (show ∀ k,A2c k→w.heap.size+1≤k∧k < u9_18.heap.size from fun k hk=>by rcases HPLc.out.s2 k hk with h|h;(have hb:=HBA2a.out k h;omega);(have h1:=h.1;have h2:=h.2;omega))
  have HBA4c:=hid (show ∀ k,A4c k→w.heap.size+1≤k∧k < u9_18.heap.size from fun k hk=>by rcases HPLc.out.s4 k hk with h|h;(have hb:=HBA4b.out k h;omega);(have h1:=h.1;have h2:=h.2;omega))
  have HXA2c_A4c:=hid HPLc.out.dj
  have HXR1_A2c:=hid (show ∀ k,R1 k→A2c k→False from fun k h1 h2=>by rcases HPLc.out.s2 k h2 with h|h;exact HXR1_A2a.out k h1 h;(have hb:=HBR1.out k h1;have:=h.1;omega))
  have HXR1_A4c:=hid (show ∀ k,R1 k→A4c k→False from fun k h1 h2=>by rcases HPLc.out.s4 k h2 with h|h;exact HXR1_A4b.out k h1 h;(have hb:=HBR1.out k h1;have:=h.1;omega))
  have HXR3_A2c:=hid (show ∀ k,R3 k→A2c k→False from fun k h1 h2=>by rcases HPLc.out.s2 k h2 with h|h;exact HXR3_A2a.out k h1 h;(have hb:=HBR3.out k h1;have:=h.1;omega))
  have HXR3_A4c:=hid (show ∀ k,R3 k→A4c k→False from fun k h1 h2=>by rcases HPLc.out.s4 k h2 with h|h;exact HXR3_A4b.out k h1 h;(have hb:=HBR3.out k h1;have:=h.1;omega))
  clear hplc
  refine ⟨_,rfl,?_⟩
  have Hx31:=hid qsp
  have Hx32:=hid qrp
  have Hx33:=hid qbk
  have Hx34:=hid qrb
  have zu9_18:=hm.size
  have HMu9_18:=hid hm
  have Cx35:=hid (Mod.goS (S':=(fun k=>(C1 k)∨(C2 k)∨(R3 k)∨(A4a k)∨(R1 k)∨(A2a k)∨(A4b k))) Cx30.out hm (by intro k h;rcases h with h|h|h|h;exact Or.inl h;exact Or.inr (Or.inl h);exact Or.inr (Or.inr (Or.inl h));exact Or.inr (Or.inr (Or.inr (Or.inl h)))) (by intro k h0 h2;rcases h2 with h2|h2|h2|h2;exact Or.inr (Or.inr (Or.inr (Or.inr (Or.inl h2))));exact Or.inr (Or.inr (Or.inr (Or.inr (Or.inr (Or.inl h2)))));exact Or.inr (Or.inr (Or.inl h2));exact Or.inr (Or.inr (Or.inr (Or.inr (Or.inr (Or.inr (h2))))))))
  clear hm Cx30
  clear act E qsp qrp qbk qrb Hx16 Hx17 Hx28 Hx29 ea78 ea79 ea80 ea81 ea82 ea83
  refine QSeq.pure rfl (.bool true) (fun E=>A5 rfl (E.d 11 7) (E.d 18 0) rfl) ?_
  refine QSeq.pure rfl _ (fun E=>Ah rfl (E.d 19 0)) ?_
  refine QSeq.go fun act E=>?_
  refine Ax (args:=#[]) rfl ((Ad rfl rfl (E.sz 86 (by decide)) (E.d 20 0)).trans rfl) rfl Try.func18 args0 (wakes09 _) ?_
  rintro e u9_21 ⟨rfl,hm⟩
  refine ⟨_,rfl,?_⟩
  have zu9_21:=hm.size
  have HMu9_21:=hid hm
  have Cx36:=hid (Cx35.out.goE hm)
  clear hm Cx35
  clear act E
  refine QSeq.pure rfl (.bool true) (fun E=>A5 rfl (E.d 20 1) (E.d 21 0) rfl) ?_
  refine QSeq.pure rfl _ (fun E=>An rfl (E.d 22 0)) ?_
  have Hx37:=hid (Hx31.out.mod HMu9_21.out (fun _ _ h=>h))
  have Hx38:=hid (Hx32.out.mod HMu9_21.out (fun _ _ h=>h))
  have Hx39:=hid (Hx33.out.mod HMu9_21.out (fun _ _ h=>h))
  have Hx40:=hid (Hx34.out.mod HMu9_21.out (fun _ _ h=>h))
  clear Hx31 Hx32 Hx33 Hx34 HMu9_18 HMu9_21
  refine QSeq.nil (t':=[_,_,_,_,_,_,_,_,_,_,_,_,_,_,_,_,_,_,_,_,_,_,_,_]) rfl ?_
  obtain rfl:=HA0.out
  clear HA0 oe2 oe3 oe4 oe9 oe10 oe11 oe13 oe14 oe15
  simp only [pz,Act.put,sIB,sCZ,sCS]
  go_wp2
  go_ret
  exact ⟨rfl,(((((((HM0.out.trans Cx6.out (fun _ _ h=>h.elim)).trans Cx12.out (fun _ _ h=>h.elim)).trans Cx13.out (fun _ _ h=>h.elim)).trans Cx15.out (fun _ _ h=>h.elim)).trans Cx20.out (by intro k h1 h2;rcases h2 with h2|h2|h2|h2<;>first|exact h2|omega|(have hb:=HBR1.out k h2;omega)|(have hb:=HBR2.out k h2;omega)|(have hb:=HBR3.out k h2;omega)|(have hb:=HBR4.out k h2;omega))).trans Cx24.out (fun _ _ h=>h.elim)).trans Cx36.out (by intro k h1 h2;rcases h2 with h2|h2|h2|h2|h2|h2|h2<;>first|exact h2|omega|(have hb:=HBC1.out k h2;omega)|(have hb:=HBC2.out k h2;omega)|(have hb:=HBR3.out k h2;omega)|(have hb:=HBA4a.out k h2;omega)|(have hb:=HBR1.out k h2;omega)|(have hb:=HBA2a.out k h2;omega)|(have hb:=HBA4b.out k h2;omega)))⟩
end Go.Proofs.Ytbifincepglilaa

/- Commitments, configurations as arguments. -/
namespace Go.Proofs.Ytbifincepglilaa
open Go Go.RowKit Go.Gv Go.ChangeShapes Go.WideShapes Go.ChangeAt Go.Deep
section
variable {H:Type} {enc:TypeId × Value→H} {W:World}
theorem trod_two {t:TypeId} {fs:Array Field} {fuel:Nat} {cs:List Value} {x:DataW H × List MemPlace} (ht:Try.prog.underlying t=some (.struct fs)) (hs:fs.size=2) (h0:(fs[0]?).map (fun f=>(f.offset,f.type))=some (0,3)) (h1:(fs[1]?).map (fun f=>(f.offset,f.type))=some (1,3)) (hc:Try.prog.cellsOf t=2)
 (h:DataW.trod enc Try.prog W 0 (fun _=>true) true fuel t cs=some x):∃ a b:Int,cs=[.int .i64 a,.int .i64 b]∧I64 a∧I64 b:=by
 obtain ⟨xs,n,_,-,hl,hn,hf⟩:=DataW.trod_struct ht h
 rw [hc] at hl
 have hxs:xs.length=2:=hn.trans hs
 obtain ⟨q0,e0,hq0⟩:∃ f,fs[0]? = some f∧(f.offset,f.type)=(0,3):=by
  cases hh:fs[0]? with
  | none=>rw [hh] at h0;cases h0
  | some f=>rw [hh] at h0;exact ⟨f,rfl,Option.some.inj h0⟩
 obtain ⟨q1,e1,hq1⟩:∃ f,fs[1]? = some f∧(f.offset,f.type)=(1,3):=by
  cases hh:fs[1]? with
  | none=>rw [hh] at h1;cases h1
  | some f=>rw [hh] at h1;exact ⟨f,rfl,Option.some.inj h1⟩
 have f0:=hf 0 _ e0
 have f1:=hf 1 _ e1
 rw [show q0.offset=0 from congrArg Prod.fst hq0,show q0.type=3 from congrArg Prod.snd hq0] at f0
 rw [show q1.offset=1 from congrArg Prod.fst hq1,show q1.type=3 from congrArg Prod.snd hq1] at f1
 rw [List.getElem?_eq_getElem (by omega),show Try.prog.cellsOf 3=1 from by kernel_rfl] at f0 f1
 match cs,hl with
 | [c0,c1],_=>
  simp only [List.drop_zero,List.drop_succ_cons,List.take_succ_cons,List.take_zero] at f0 f1
  obtain ⟨p0,e0,_,w0⟩:=DataW.trod_int Try.underlying3 f0
  obtain ⟨p1,e1,_,w1⟩:=DataW.trod_int Try.underlying3 f1
  simp at e0 e1
  subst e0 e1
  exact ⟨p0,p1,rfl,bounds_i64 w0,bounds_i64 w1⟩
theorem conf_of_trod {base:Nat} {v:Value} {d:DataW H} {p:List MemPlace} (hv':Value.okWide Try.prog W .any base 26 v)
 (h:DataW.Trod enc Try.prog W 0 (fun _=>true) true 26 v d p):∃ a b:Int,v=.agg #[.int .i64 a,.int .i64 b]∧I64 a∧I64 b:=by
 obtain ⟨fuel,hf⟩:=h
 simp only [Value.okWide,Try.underlying26] at hv'
 obtain ⟨cs,rfl,-,-⟩:=hv'
 obtain ⟨a,b,e,h1,h2⟩:=trod_two Try.underlying26 rfl rfl rfl (by kernel_rfl) hf
 refine ⟨a,b,?_,h1,h2⟩
 congr 1
 apply Array.ext'
 simpa [Value.cells] using e
end
end Go.Proofs.Ytbifincepglilaa

namespace Go.Proofs.Ytbifincepglilaa.stampPlays
open Go Go.RowKit Go.Gv Go.ChangeShapes Go.WideShapes Go.ChangeAt
open Go.ChangeMaps (open_string shut_string)
theorem own:ownKnob Try.prog.godebug=none:=by kernel_rfl
theorem laidOut:laidOutB Try.prog=true:=by kernel_rfl
theorem lifted (os:Os) (started:os.Started) (H:Type) (enc:TypeId × Value→H) :
 ReturnsInHanded {} Try.checked os 7 .any (Rows.stampPlaysSpec.pre6 enc Try.prog Try.f7 Rows.stampPlaysRow.domain false) (Rows.stampPlaysSpec.post enc Try.prog Try.f7 false true false false):=by
 refine returnsInHanded_of_change (C:=Try.checked) own started (by kernel_rfl) Try.func7
  (ChangeSpec.witness6 (enc:=enc) (C:=Try.checked) false ⟨#[],#[.agg #[.int .i64 0,.int .i64 0],.int .i64 0,.slice none 0 0,.slice none 0 0],[]⟩ 8 (by kernel_rfl) (by kernel_rfl) (by kernel_rfl) (by kernel_rfl)) ?_
 intro W base args ds gs before hval0 hW hcnd _
 have hval:∀ (j:Nat) t v,Try.f7.params[j]? = some t→args[j]? = some v→Value.okWide Try.prog W .any base t v:=hval0
 have hW':=hW
 obtain ⟨p,q,hA0,hV,rfl,hfz,hnd⟩:=hW
 have hA:DataW.TrodAll enc Try.prog W 0 (fun _=>true) true Try.f7.params.toList args.toList ds p:=hA0
 rw [Try.params7] at hA hval
 obtain ⟨v0,vs0,d0,ds0,p0,q0,hargs,rfl,rfl,h0,r0⟩:=trodAll_cons hA
 obtain ⟨v1,vs1,d1,ds1,p1,q1,rfl,rfl,rfl,h1,r1⟩:=trodAll_cons r0
 obtain ⟨v2,vs2,d2,ds2,p2,q2,rfl,rfl,rfl,h2,r2⟩:=trodAll_cons r1
 obtain ⟨v3,vs3,d3,ds3,p3,q3,rfl,rfl,rfl,h3,r3⟩:=trodAll_cons r2
 obtain ⟨rfl,rfl,rfl⟩:=trodAll_nil r3
 obtain rfl:args=#[v0,v1,v2,v3]:=by cases args;simp_all
 obtain ⟨rfl,rfl⟩:=trodVars_none hV
 have k0:=h0
 have lt0:∀ x ∈ p0,x.block < W.heap.size:=by obtain ⟨m,hm⟩:=k0;exact DataW.trod_lt m _ _ _ hm
 have k1:=h1
 have lt1:∀ x ∈ p1,x.block < W.heap.size:=by obtain ⟨m,hm⟩:=k1;exact DataW.trod_lt m _ _ _ hm
 have k2:=h2
 have lt2:∀ x ∈ p2,x.block < W.heap.size:=by obtain ⟨m,hm⟩:=k2;exact DataW.trod_lt m _ _ _ hm
 have k3:=h3
 have lt3:∀ x ∈ p3,x.block < W.heap.size:=by obtain ⟨m,hm⟩:=k3;exact DataW.trod_lt m _ _ _ hm
 obtain ⟨a0,c0,e0,n0,b0⟩:=conf_of_trod (hval 0 26 v0 rfl rfl) h0
 subst e0
 obtain ⟨a1,rfl,rfl,rfl,w1⟩:=open_int Try.underlying3 (hval 1 3 v1 rfl rfl) h1
 obtain ⟨l2,e2⟩:=slice_arg reads_sa Try.underlying56 (by kernel_rfl) k2 (hval 2 56 v2 rfl rfl)
 obtain ⟨l3,e3⟩:=slice_arg reads_sa Try.underlying56 (by kernel_rfl) k3 (hval 3 56 v3 rfl rfl)
 clear hA0 hval0
 refine (StampPlays_walk a0 c0 a1 l2 l3 v2 v3 W e2 e3).mono fun e W' ⟨he,hmod⟩=>?_
 subst he
 have bel:Below W.heap.size W W':=hmod.below (Nat.le_refl _) (fun _ _=>id)
 exact ⟨_,rfl,_,_,_,[],_,[],hW',trodAll_mk1 (shut_bool Try.underlying4 _),(trodAll_cons_mk (Below.trod laidOut (by kernel_rfl) (of_decide_eq_true (by kernel_rfl)) k0 bel lt0) (trodAll_cons_mk (Below.trod laidOut (by kernel_rfl) (of_decide_eq_true (by kernel_rfl)) k1 bel lt1) (trodAll_cons_mk (Below.trod laidOut (by kernel_rfl) (of_decide_eq_true (by kernel_rfl)) k2 bel lt2) (trodAll_cons_mk (Below.trod laidOut (by kernel_rfl) (of_decide_eq_true (by kernel_rfl)) k3 bel lt3) trodAll_mk0)))),rfl,bel.frame _,fun h=>by cases h⟩
theorem over:Rows.stampPlaysRow.holds Try.pinned (OpenSpec.ofChange Rows.stampPlaysSpec):=
 OpenClaim.holds_of_wide 7 Try.f7 rfl rfl rfl rfl rfl rfl rfl ⟨rfl,rfl,rfl,rfl,rfl⟩ rfl rfl rfl rfl rfl (by kernel_rfl) Try.func7 (by kernel_rfl)
  (of_decide_eq_true (by kernel_rfl)) (by unfold Func.isWrapper;first|(rw [if_pos (by decide +kernel)];kernel_rfl)|(rw [if_neg (by decide +kernel)];exact ⟨rfl,rfl⟩))
  (fun os started H enc _=>lifted os started H enc)
theorem proved:Rows.StampPlaysSaid:=over
end Go.Proofs.Ytbifincepglilaa.stampPlays
