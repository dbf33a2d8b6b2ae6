/- MsgPacks: for every reading the law returns true. No condition. -/
import Derived.Test.YtnaoeginonpicaaGreatMaF8
import Derived.ProofKit
import Derived.OpenShut
import Derived.ChangeOld
set_option maxRecDepth 100000
set_option linter.unusedVariables false
open List renaming setIfInBounds_toArray → sIB, set_cons_zero → sCZ, set_cons_succ → sCS
/- Messages as arguments. -/
namespace Go.Proofs.YtnaoeginonpicaaGreat
open Go Go.RowKit Go.Gv Go.ChangeShapes Go.WideShapes Go.ChangeAt Go.Deep
theorem reads_dc:Reads DcR 59:=by
 intro H enc W fuel cs x h
 obtain ⟨xs,n,_,-,hl,hn,hf⟩:=DataW.trod_struct Tryz.underlying59 h
 rw [show Tryz.prog.cellsOf 59=8 from by kernel_rfl] at hl
 have hxs:xs.length=4:=hn
 have f0:DataW.trod enc Tryz.prog W 0 (fun _=>true) true n 3 ((cs.drop 0).take (Tryz.prog.cellsOf 3))=xs[0]?:=hf 0 _ rfl
 rw [List.getElem?_eq_getElem (by omega),show Tryz.prog.cellsOf 3=1 from by kernel_rfl] at f0
 have f1:DataW.trod enc Tryz.prog W 0 (fun _=>true) true n 3 ((cs.drop 1).take (Tryz.prog.cellsOf 3))=xs[1]?:=hf 1 _ rfl
 rw [List.getElem?_eq_getElem (by omega),show Tryz.prog.cellsOf 3=1 from by kernel_rfl] at f1
 have f2:DataW.trod enc Tryz.prog W 0 (fun _=>true) true n 45 ((cs.drop 2).take (Tryz.prog.cellsOf 45))=xs[2]?:=hf 2 _ rfl
 rw [List.getElem?_eq_getElem (by omega),show Tryz.prog.cellsOf 45=5 from by kernel_rfl] at f2
 have f3:DataW.trod enc Tryz.prog W 0 (fun _=>true) true n 57 ((cs.drop 7).take (Tryz.prog.cellsOf 57))=xs[3]?:=hf 3 _ rfl
 rw [List.getElem?_eq_getElem (by omega),show Tryz.prog.cellsOf 57=1 from by kernel_rfl] at f3
 obtain ⟨ep,e0,_,w0⟩:=DataW.trod_int Tryz.underlying3 f0
 obtain ⟨rn,e1,_,w1⟩:=DataW.trod_int Tryz.underlying3 f1
 obtain ⟨ba,w2⟩:=reads_ba _ _ _ _ _ _ f2
 obtain ⟨vp,vo,vt,e2,w2,w2'⟩:=w2
 obtain ⟨vl,e3⟩:=seg_one (cs:=cs) (off:=7) (by omega)
 rw [e3] at f3
 obtain ⟨l,w3⟩:=trod_slice reads_vt Tryz.underlying57 (by kernel_rfl) f3
 have hcs:=segs_all cs [1,1,5,1] 0 (by simpa using hl)
 simp only [List.drop_zero,segs,List.flatten_cons,List.flatten_nil,List.append_nil,Nat.zero_add,Nat.reduceAdd,e0,e1,e2,e3] at hcs
 (try rw [List.drop_zero] at e0)
 (try simp only [e0] at hcs)
 exact ⟨⟨ep,rn,ba,l⟩,vp,vo,vt,vl,hcs,⟨bounds_i64 w0,bounds_i64 w1,w2⟩,w2'.1,w2'.2.1,w2'.2.2,w3⟩
theorem reads_en:Reads EnR 51:=by
 intro H enc W fuel cs x h
 obtain ⟨xs,n,_,-,hl,hn,hf⟩:=DataW.trod_struct Tryz.underlying51 h
 rw [show Tryz.prog.cellsOf 51=35 from by kernel_rfl] at hl
 have hxs:xs.length=3:=hn
 have f0:DataW.trod enc Tryz.prog W 0 (fun _=>true) true n 23 ((cs.drop 0).take (Tryz.prog.cellsOf 23))=xs[0]?:=hf 0 _ rfl
 rw [List.getElem?_eq_getElem (by omega),show Tryz.prog.cellsOf 23=2 from by kernel_rfl] at f0
 have f1:DataW.trod enc Tryz.prog W 0 (fun _=>true) true n 25 ((cs.drop 2).take (Tryz.prog.cellsOf 25))=xs[1]?:=hf 1 _ rfl
 rw [List.getElem?_eq_getElem (by omega),show Tryz.prog.cellsOf 25=32 from by kernel_rfl] at f1
 have f2:DataW.trod enc Tryz.prog W 0 (fun _=>true) true n 30 ((cs.drop 34).take (Tryz.prog.cellsOf 30))=xs[2]?:=hf 2 _ rfl
 rw [List.getElem?_eq_getElem (by omega),show Tryz.prog.cellsOf 30=1 from by kernel_rfl] at f2
 obtain ⟨cl,sq,e0,w0,w0'⟩:=trod_pair Tryz.underlying23 rfl rfl rfl (by kernel_rfl) f0
 obtain ⟨hh,e1,w1,w1'⟩:=trod_arr Tryz.underlying25 Tryz.underlying5 (by kernel_rfl) (by kernel_rfl) f1
 obtain ⟨tm',e2,_,w2⟩:=DataW.trod_int Tryz.underlying30 f2
 obtain ⟨tm,rfl,w2'⟩:=u64_nat w2
 have hcs:=segs_all cs [2,32,1] 0 (by simpa using hl)
 simp only [List.drop_zero,segs,List.flatten_cons,List.flatten_nil,List.append_nil,Nat.zero_add,Nat.reduceAdd,e0,e1,e2] at hcs
 (try rw [List.drop_zero] at e0)
 (try simp only [e0] at hcs)
 exact ⟨⟨cl,sq,hh,tm⟩,(by first|exact hcs|(rw [hcs];rfl)),⟨w0,w0',⟨w1',w1⟩,w2'⟩⟩
theorem trod_str1 {H:Type} {enc:TypeId × Value→H} {W:World} {n:Nat} {cs:List Value} {x:DataW H × List MemPlace} (h:DataW.trod enc Tryz.prog W 0 (fun _=>true) true n 9 cs=some x):∃ s:ByteArray,cs=[.string s]:=by
 obtain ⟨s,hc,_,_⟩:=DataW.trod_string Tryz.underlying9 h
 exact ⟨s,hc⟩
theorem reads_mg:Reads MgR 61:=by
 intro H enc W fuel cs x h
 obtain ⟨xs,n,_,-,hl,hn,hf⟩:=DataW.trod_struct Tryz.underlying61 h
 rw [show Tryz.prog.cellsOf 61=295 from by kernel_rfl] at hl
 have hxs:xs.length=19:=hn
 have f0:DataW.trod enc Tryz.prog W 0 (fun _=>true) true n 3 ((cs.drop 0).take (Tryz.prog.cellsOf 3))=xs[0]?:=hf 0 _ rfl
 rw [List.getElem?_eq_getElem (by omega),show Tryz.prog.cellsOf 3=1 from by kernel_rfl] at f0
 have f1:DataW.trod enc Tryz.prog W 0 (fun _=>true) true n 3 ((cs.drop 1).take (Tryz.prog.cellsOf 3))=xs[1]?:=hf 1 _ rfl
 rw [List.getElem?_eq_getElem (by omega),show Tryz.prog.cellsOf 3=1 from by kernel_rfl] at f1
 have f2:DataW.trod enc Tryz.prog W 0 (fun _=>true) true n 3 ((cs.drop 2).take (Tryz.prog.cellsOf 3))=xs[2]?:=hf 2 _ rfl
 rw [List.getElem?_eq_getElem (by omega),show Tryz.prog.cellsOf 3=1 from by kernel_rfl] at f2
 have f3:DataW.trod enc Tryz.prog W 0 (fun _=>true) true n 29 ((cs.drop 3).take (Tryz.prog.cellsOf 29))=xs[3]?:=hf 3 _ rfl
 rw [List.getElem?_eq_getElem (by omega),show Tryz.prog.cellsOf 29=37 from by kernel_rfl] at f3
 have f4:DataW.trod enc Tryz.prog W 0 (fun _=>true) true n 32 ((cs.drop 40).take (Tryz.prog.cellsOf 32))=xs[4]?:=hf 4 _ rfl
 rw [List.getElem?_eq_getElem (by omega),show Tryz.prog.cellsOf 32=38 from by kernel_rfl] at f4
 have f5:DataW.trod enc Tryz.prog W 0 (fun _=>true) true n 35 ((cs.drop 78).take (Tryz.prog.cellsOf 35))=xs[5]?:=hf 5 _ rfl
 rw [List.getElem?_eq_getElem (by omega),show Tryz.prog.cellsOf 35=38 from by kernel_rfl] at f5
 have f6:DataW.trod enc Tryz.prog W 0 (fun _=>true) true n 37 ((cs.drop 116).take (Tryz.prog.cellsOf 37))=xs[6]?:=hf 6 _ rfl
 rw [List.getElem?_eq_getElem (by omega),show Tryz.prog.cellsOf 37=38 from by kernel_rfl] at f6
 have f7:DataW.trod enc Tryz.prog W 0 (fun _=>true) true n 3 ((cs.drop 154).take (Tryz.prog.cellsOf 3))=xs[7]?:=hf 7 _ rfl
 rw [List.getElem?_eq_getElem (by omega),show Tryz.prog.cellsOf 3=1 from by kernel_rfl] at f7
 have f8:DataW.trod enc Tryz.prog W 0 (fun _=>true) true n 3 ((cs.drop 155).take (Tryz.prog.cellsOf 3))=xs[8]?:=hf 8 _ rfl
 rw [List.getElem?_eq_getElem (by omega),show Tryz.prog.cellsOf 3=1 from by kernel_rfl] at f8
 have f9:DataW.trod enc Tryz.prog W 0 (fun _=>true) true n 30 ((cs.drop 156).take (Tryz.prog.cellsOf 30))=xs[9]?:=hf 9 _ rfl
 rw [List.getElem?_eq_getElem (by omega),show Tryz.prog.cellsOf 30=1 from by kernel_rfl] at f9
 have f10:DataW.trod enc Tryz.prog W 0 (fun _=>true) true n 40 ((cs.drop 157).take (Tryz.prog.cellsOf 40))=xs[10]?:=hf 10 _ rfl
 rw [List.getElem?_eq_getElem (by omega),show Tryz.prog.cellsOf 40=6 from by kernel_rfl] at f10
 have f11:DataW.trod enc Tryz.prog W 0 (fun _=>true) true n 47 ((cs.drop 163).take (Tryz.prog.cellsOf 47))=xs[11]?:=hf 11 _ rfl
 rw [List.getElem?_eq_getElem (by omega),show Tryz.prog.cellsOf 47=11 from by kernel_rfl] at f11
 have f12:DataW.trod enc Tryz.prog W 0 (fun _=>true) true n 49 ((cs.drop 174).take (Tryz.prog.cellsOf 49))=xs[12]?:=hf 12 _ rfl
 rw [List.getElem?_eq_getElem (by omega),show Tryz.prog.cellsOf 49=38 from by kernel_rfl] at f12
 have f13:DataW.trod enc Tryz.prog W 0 (fun _=>true) true n 3 ((cs.drop 212).take (Tryz.prog.cellsOf 3))=xs[13]?:=hf 13 _ rfl
 rw [List.getElem?_eq_getElem (by omega),show Tryz.prog.cellsOf 3=1 from by kernel_rfl] at f13
 have f14:DataW.trod enc Tryz.prog W 0 (fun _=>true) true n 51 ((cs.drop 213).take (Tryz.prog.cellsOf 51))=xs[14]?:=hf 14 _ rfl
 rw [List.getElem?_eq_getElem (by omega),show Tryz.prog.cellsOf 51=35 from by kernel_rfl] at f14
 have f15:DataW.trod enc Tryz.prog W 0 (fun _=>true) true n 54 ((cs.drop 248).take (Tryz.prog.cellsOf 54))=xs[15]?:=hf 15 _ rfl
 rw [List.getElem?_eq_getElem (by omega),show Tryz.prog.cellsOf 54=34 from by kernel_rfl] at f15
 have f16:DataW.trod enc Tryz.prog W 0 (fun _=>true) true n 56 ((cs.drop 282).take (Tryz.prog.cellsOf 56))=xs[16]?:=hf 16 _ rfl
 rw [List.getElem?_eq_getElem (by omega),show Tryz.prog.cellsOf 56=4 from by kernel_rfl] at f16
 have f17:DataW.trod enc Tryz.prog W 0 (fun _=>true) true n 9 ((cs.drop 286).take (Tryz.prog.cellsOf 9))=xs[17]?:=hf 17 _ rfl
 rw [List.getElem?_eq_getElem (by omega),show Tryz.prog.cellsOf 9=1 from by kernel_rfl] at f17
 have f18:DataW.trod enc Tryz.prog W 0 (fun _=>true) true n 59 ((cs.drop 287).take (Tryz.prog.cellsOf 59))=xs[18]?:=hf 18 _ rfl
 rw [List.getElem?_eq_getElem (by omega),show Tryz.prog.cellsOf 59=8 from by kernel_rfl] at f18
 obtain ⟨kd,e0,_,w0⟩:=DataW.trod_int Tryz.underlying3 f0
 obtain ⟨fr,e1,_,w1⟩:=DataW.trod_int Tryz.underlying3 f1
 obtain ⟨to_,e2,_,w2⟩:=DataW.trod_int Tryz.underlying3 f2
 obtain ⟨cm,e3,w3⟩:=reads_cm _ _ _ _ _ _ f3
 obtain ⟨st,e4,w4⟩:=reads_st _ _ _ _ _ _ f4
 obtain ⟨ce,w5⟩:=reads_ce _ _ _ _ _ _ f5
 obtain ⟨ak,e6,w6⟩:=reads_ak _ _ _ _ _ _ f6
 obtain ⟨ep,e7,_,w7⟩:=DataW.trod_int Tryz.underlying3 f7
 obtain ⟨rn,e8,_,w8⟩:=DataW.trod_int Tryz.underlying3 f8
 obtain ⟨tm',e9,_,w9⟩:=DataW.trod_int Tryz.underlying30 f9
 obtain ⟨tm,rfl,w9'⟩:=u64_nat w9
 obtain ⟨pm,w10⟩:=reads_pm _ _ _ _ _ _ f10
 obtain ⟨pr,w11⟩:=reads_pr _ _ _ _ _ _ f11
 obtain ⟨vt,e12,w12⟩:=reads_vt _ _ _ _ _ _ f12
 obtain ⟨ix,e13,_,w13⟩:=DataW.trod_int Tryz.underlying3 f13
 obtain ⟨en,e14,w14⟩:=reads_en _ _ _ _ _ _ f14
 obtain ⟨op,w15⟩:=reads_op _ _ _ _ _ _ f15
 obtain ⟨dn,e16,w16⟩:=reads_dn _ _ _ _ _ _ f16
 obtain ⟨rp,e17⟩:=trod_str1 f17
 obtain ⟨dc,w18⟩:=reads_dc _ _ _ _ _ _ f18
 have hcs:=segs_all cs [1,1,1,37,38,38,38,1,1,1,6,11,38,1,35,34,4,1,8] 0 (by simpa using hl)
 simp only [List.drop_zero,segs,Nat.zero_add,Nat.reduceAdd,e1,e2,e3,e4,e6,e7,e8,e9,e12,e13,e14,e16,e17] at hcs
 (try rw [List.drop_zero] at e0)
 (try simp only [e0] at hcs)
 exact ⟨⟨kd,fr,to_,cm,st,ce,ak,ep,rn,tm,pm,pr,vt,ix,en,op,dn,rp,dc⟩,(cs.drop 78).take 38,(cs.drop 157).take 6,(cs.drop 163).take 11,(cs.drop 248).take 34,(cs.drop 287).take 8,hcs,⟨bounds_i64 w0,bounds_i64 w1,bounds_i64 w2,w3,w4,w6,bounds_i64 w7,bounds_i64 w8,w9',w12,bounds_i64 w13,w14,w16⟩,w5,w10,w11,w15,w18⟩
end Go.Proofs.YtnaoeginonpicaaGreat

namespace Go.Proofs.YtnaoeginonpicaaGreat.msgPacks
open Go Go.RowKit Go.Gv Go.ChangeShapes Go.WideShapes Go.ChangeAt
open Go.ChangeMaps (open_string shut_string)
theorem own:ownKnob Tryz.prog.godebug=none:=by kernel_rfl
theorem laidOut:laidOutB Tryz.prog=true:=by kernel_rfl
theorem lifted (os:Os) (started:os.Started) (H:Type) (enc:TypeId × Value→H) :
 ReturnsInHanded {} Tryz.checked os 4 .any (Rows.msgPacksSpec.pre6 enc Tryz.prog Tryz.f4 Rows.msgPacksRow.domain false) (Rows.msgPacksSpec.post enc Tryz.prog Tryz.f4 false true false false):=by
 refine returnsInHanded_of_change (C:=Tryz.checked) own started (by kernel_rfl) Tryz.func4
  (ChangeSpec.witness6 (enc:=enc) (C:=Tryz.checked) false ⟨#[],#[.agg #[.int .i64 0,.int .i64 0,.int .i64 0,.int .i64 0,.int .i64 0,.int .u8 0,.int .u8 0,.int .u8 0,.int .u8 0,.int .u8 0,.int .u8 0,.int .u8 0,.int .u8 0,.int .u8 0,.int .u8 0,.int .u8 0,.int .u8 0,.int .u8 0,.int .u8 0,.int .u8 0,.int .u8 0,.int .u8 0,.int .u8 0,.int .u8 0,.int .u8 0,.int .u8 0,.int .u8 0,.int .u8 0,.int .u8 0,.int .u8 0,.int .u8 0,.int .u8 0,.int .u8 0,.int .u8 0,.int .u8 0,.int .u8 0,.int .u8 0,.int .i64 0,.int .i64 0,.int .i64 0,.int .i64 0,.int .i64 0,.int .i64 0,.int .u8 0,.int .u8 0,.int .u8 0,.int .u8 0,.int .u8 0,.int .u8 0,.int .u8 0,.int .u8 0,.int .u8 0,.int .u8 0,.int .u8 0,.int .u8 0,.int .u8 0,.int .u8 0,.int .u8 0,.int .u8 0,.int .u8 0,.int .u8 0,.int .u8 0,.int .u8 0,.int .u8 0,.int .u8 0,.int .u8 0,.int .u8 0,.int .u8 0,.int .u8 0,.int .u8 0,.int .u8 0,.int .u8 0,.int .u8 0,.int .u8 0,.int .u8 0,.int .u64 0,.int .i64 0,.int .i64 0,.int .i64 0,.int .i64 0,.int .u8 0,.int .u8 0,.int .u8 0,.int .u8 0,.int .u8 0,.int .u8 0,.int .u8 0,.int .u8 0,.int .u8 0,.int .u8 0,.int .u8 0,.int .u8 0,.int .u8 0,.int .u8 0,.int .u8 0,.int .u8 0,.int .u8 0,.int .u8 0,.int .u8 0,.int .u8 0,.int .u8 0,.int .u8 0,.int .u8 0,.int .u8 0,.int .u8 0,.int .u8 0,.int .u8 0,.int .u8 0,.int .u8 0,.int .u8 0,.int .u8 0,.int .u8 0,.int .i64 0,.int .i64 0,.int .i64 0,.slice none 0 0,.int .i64 0,.int .i64 0,.int .i64 0,.int .u8 0,.int .u8 0,.int .u8 0,.int .u8 0,.int .u8 0,.int .u8 0,.int .u8 0,.int .u8 0,.int .u8 0,.int .u8 0,.int .u8 0,.int .u8 0,.int .u8 0,.int .u8 0,.int .u8 0,.int .u8 0,.int .u8 0,.int .u8 0,.int .u8 0,.int .u8 0,.int .u8 0,.int .u8 0,.int .u8 0,.int .u8 0,.int .u8 0,.int .u8 0,.int .u8 0,.int .u8 0,.int .u8 0,.int .u8 0,.int .u8 0,.int .u8 0,.int .u64 0,.int .i64 0,.int .i64 0,.int .i64 0,.int .i64 0,.int .u64 0,.int .i64 0,.int .i64 0,.int .u64 0,.slice none 0 0,.int .i64 0,.int .i64 0,.int .i64 0,.int .i64 0,.int .i64 0,.int .i64 0,.int .i64 0,.int .u64 0,.slice none 0 0,.slice none 0 0,.slice none 0 0,.int .i64 0,.int .i64 0,.int .i64 0,.int .i64 0,.int .i64 0,.int .i64 0,.int .u8 0,.int .u8 0,.int .u8 0,.int .u8 0,.int .u8 0,.int .u8 0,.int .u8 0,.int .u8 0,.int .u8 0,.int .u8 0,.int .u8 0,.int .u8 0,.int .u8 0,.int .u8 0,.int .u8 0,.int .u8 0,.int .u8 0,.int .u8 0,.int .u8 0,.int .u8 0,.int .u8 0,.int .u8 0,.int .u8 0,.int .u8 0,.int .u8 0,.int .u8 0,.int .u8 0,.int .u8 0,.int .u8 0,.int .u8 0,.int .u8 0,.int .u8 0,.int .i64 0,.int .i64 0,.int .i64 0,.int .i64 0,.int .i64 0,.int .u8 0,.int .u8 0,.int .u8 0,.int .u8 0,.int .u8 0,.int .u8 0,.int .u8 0,.int .u8 0,.int .u8 0,.int .u8 0,.int .u8 0,.int .u8 0,.int .u8 0,.int .u8 0,.int .u8 0,.int .u8 0,.int .u8 0,.int .u8 0,.int .u8 0,.int .u8 0,.int .u8 0,.int .u8 0,.int .u8 0,.int .u8 0,.int .u8 0,.int .u8 0,.int .u8 0,.int .u8 0,.int .u8 0,.int .u8 0,.int .u8 0,.int .u8 0,.int .u64 0,.int .i64 0,.slice none 0 0,.int .u8 0,.int .u8 0,.int .u8 0,.int .u8 0,.int .u8 0,.int .u8 0,.int .u8 0,.int .u8 0,.int .u8 0,.int .u8 0,.int .u8 0,.int .u8 0,.int .u8 0,.int .u8 0,.int .u8 0,.int .u8 0,.int .u8 0,.int .u8 0,.int .u8 0,.int .u8 0,.int .u8 0,.int .u8 0,.int .u8 0,.int .u8 0,.int .u8 0,.int .u8 0,.int .u8 0,.int .u8 0,.int .u8 0,.int .u8 0,.int .u8 0,.int .u8 0,.int .i64 0,.int .i64 0,.int .i64 0,.int .i64 0,.string ByteArray.empty,.int .i64 0,.int .i64 0,.int .i64 0,.int .u64 0,.slice none 0 0,.slice none 0 0,.slice none 0 0,.slice none 0 0]],[]⟩ 8 (by kernel_rfl) (by kernel_rfl) (by kernel_rfl) (by kernel_rfl)) ?_
 intro W base args ds gs before hval0 hW hcnd _
 have hval:∀ (j:Nat) t v,Tryz.f4.params[j]? = some t→args[j]? = some v→Value.okWide Tryz.prog W .any base t v:=hval0
 have hW':=hW
 obtain ⟨p,q,hA0,hV,rfl,hfz,hnd⟩:=hW
 have hA:DataW.TrodAll enc Tryz.prog W 0 (fun _=>true) true Tryz.f4.params.toList args.toList ds p:=hA0
 rw [Tryz.params4] at hA hval
 obtain ⟨v0,vs0,d0,ds0,p0,q0,hargs,rfl,rfl,h0,r0⟩:=trodAll_cons hA
 obtain ⟨rfl,rfl,rfl⟩:=trodAll_nil r0
 obtain rfl:args=#[v0]:=by cases args;simp_all
 obtain ⟨rfl,rfl⟩:=trodVars_none hV
 have k0:=h0
 have lt0:∀ x ∈ p0,x.block < W.heap.size:=by obtain ⟨m,hm⟩:=k0;exact DataW.trod_lt m _ _ _ hm
 obtain ⟨cs0,x0,e0,n0⟩:=reads_arg reads_mg Tryz.underlying61 (hval 0 61 v0 rfl rfl) h0
 subst e0
 clear hA0 hval0
 refine (LPacks_any (fun k=>k < W.heap.size) x0 cs0 W n0 (fun _ h=>h)).mono fun e W' ⟨he,hmod⟩=>?_
 subst he
 have bel:Below W.heap.size W W':=hmod.below (Nat.le_refl _) (fun _ _=>id)
 exact ⟨_,rfl,_,_,_,[],_,[],hW',trodAll_mk1 (shut_bool Tryz.underlying4 _),(trodAll_cons_mk (Below.trod laidOut (by kernel_rfl) (of_decide_eq_true (by kernel_rfl)) k0 bel lt0) trodAll_mk0),rfl,bel.frame _,fun h=>by cases h⟩
theorem over:Rows.msgPacksRow.holds Tryz.pinned (OpenSpec.ofChange Rows.msgPacksSpec):=
 OpenClaim.holds_of_wide 4 Tryz.f4 rfl rfl rfl rfl rfl rfl rfl ⟨rfl,rfl,rfl,rfl,rfl⟩ rfl rfl rfl rfl rfl (by kernel_rfl) Tryz.func4 (by kernel_rfl)
  (of_decide_eq_true (by kernel_rfl)) (by unfold Func.isWrapper;first|(rw [if_pos (by decide +kernel)];kernel_rfl)|(rw [if_neg (by decide +kernel)];exact ⟨rfl,rfl⟩))
  (fun os started H enc _=>lifted os started H enc)
theorem proved:Rows.MsgPacksSaid:=over
end Go.Proofs.YtnaoeginonpicaaGreat.msgPacks
