/- Texts that are built one behind the other: XMq, XMl, XCmEq, XEq, XEb, XMp, XMk. No condition. -/
import Derived.Test.YtnaoeginonpicaaGreatMbF5
import Derived.Deep.CutBlock
set_option maxRecDepth 100000
set_option linter.unusedVariables false
open Go renaming Lib.hid→B5
open Go.Proofs renaming Tryz.underlying3→B6,Tryz.underlying61→B7,Tryz.underlying45→C2,Tryz.underlying47→C6,Tryz.underlying43→C8,Tryz.underlying52→D1,Tryz.underlying127→D2,Tryz.underlying59→D3,Tryz.underlying25→D5,Tryz.underlying100→D6,Tryz.func67→D7,Tryz.underlying30→D8,Tryz.underlying4→E0
open List renaming append_assoc→B8,length_append→C0,size_toArray→C3,length_nil→C4,length_cons→C5,map_toArray→C7,map_cons→C9,map_nil→D0,not_mem_nil→D4,mem_cons→D9
open Nat renaming le_refl→B9,le_trans→C1
open List renaming setIfInBounds_toArray → sIB, set_cons_zero → sCZ, set_cons_succ → sCS
namespace Go.Proofs.YtnaoeginonpicaaGreat
open Go Go.RowKit Go.Gv
/-- what is read of a message, behind its kind, whom it is from and to -/
def Az (m:Mg) (s:RSt):Mg × RSt:=
 if m.kd=1 then gb gCm (fun c s=>({ m with cm:=c },s)) s else
 if m.kd=2 then gb gSt (fun c s=>({ m with st:=c },s)) s else
 if m.kd=3 then gb gCe (fun c s=>({ m with ce:=c },s)) s else
 if m.kd=4 then gb gSt (fun c s=>({ m with ak:=c },s)) s else
 if m.kd=5 then gb gI (fun a=>gb gI fun b=>gb rNum fun c s=>({ m with ep:=a,rn:=b,tm:=c },s)) s else
 if m.kd=6 then gb gPm (fun c s=>({ m with pm:=c },s)) s else
 if m.kd=7 then gb gPr (fun c s=>({ m with pr:=c },s)) s else
 if m.kd=8 then gb gVt (fun c s=>({ m with vt:=c },s)) s else
 if m.kd=9 then gb gI (fun a=>gb gEn fun c s=>({ m with ix:=a,en:=c },s)) s else
 if m.kd=10 then gb gOp (fun c s=>({ m with op:=c },s)) s else
 if m.kd=11 then gb gI (fun c s=>({ m with ix:=c },s)) s else
 if m.kd=12 then gb gDn (fun c s=>({ m with dn:=c },s)) s else
 if m.kd=13 then gb gI (fun a=>gb (rRow 256) fun b s=>({ m with ix:=a,rp:=strOfNums b },s)) s else
 if m.kd=14 then gb gI (fun a=>gb gI fun b=>gb gBa fun c=>gb (Av gVt) fun l s=>({ m with dc:=⟨a,b,c,l⟩ },s)) s else (m,s)
def gMg:RSt→Mg × RSt:=gb gI fun k=>gb gI fun f=>gb gI fun t=>Az { zMg with kd:=k,fr:=f,«to»:=t }
set_option maxHeartbeats 8000000 in
theorem get_Q:∀ (R R2:Nat→Prop) (r:Nat) (s:RSt) (cs:List Value) (x:Mg) (w:World),RrR 132 R w r s→(∀ k,R k→k < w.heap.size)→MgR.rd R2 w cs x→(∀ k,R2 k→k < w.heap.size)→(∀ k,R k→R2 k→False)→(s.getD []).length≤900000→
 Calls Tryz.prog 41 #[.pointer (some ⟨r,0,none⟩),.agg cs.toArray] w fun e w'=>∃ cs',e=.returned (.agg cs'.toArray)∧MgR.rd (fun k=>R2 k∨New w w' k) w' cs' (Az x s).1∧RrR 132 R w' r (Az x s).2∧Mod R w w':=by
 intro R R2 r s cs x w hR hB hx hB2 hD hl
 obtain ⟨c5,c10,c11,c15,c18,rfl,hok,h5,h10,h11,h15,h18⟩:=hx
 have HLN:=hid (Mg.lns hok h5 h10 h11 h15 h18)
 have HC5:=hid (CeR.len h5)
 have H5:=B5 h5
 have HC10:=hid (PmR.len h10)
 have H10:=B5 h10
 have HC11:=hid (PrR.len h11)
 have H11:=B5 h11
 have HC15:=hid (OpR.len h15)
 have H15:=B5 h15
 have HC18:=hid (DcR.len h18)
 have H18:=B5 h18
 have HRD:=B5 hR
 have HBR:=B5 hB
 have HBT:=B5 hB2
 have HDJ:=B5 hD
 have HOK:=B5 hok
 have HLE:=B5 hl
 have HBY:=hid hR.bytes
 clear hR hB hB2 hD hl hok h5 h10 h11 h15 h18
 go_enter Tryz.func41,Tryz.ntmps41
 go_upto_region 1 with (fail)
 obtain ⟨w1,hw1⟩:∃ zz,zz=((w.alloc (.cells ((x.segs c5 c10 c11 c15 c18).flatten:List Value).toArray 61)).alloc (.cells #[.int .i64 0,.int .i64 0,.int .i64 0,.int .i64 0,.int .i64 0,.int .u8 0,.int .u8 0,.int .u8 0,.int .u8 0,.int .u8 0,.int .u8 0,.int .u8 0,.int .u8 0,.int .u8 0,.int .u8 0,.int .u8 0,.int .u8 0,.int .u8 0,.int .u8 0,.int .u8 0,.int .u8 0,.int .u8 0,.int .u8 0,.int .u8 0,.int .u8 0,.int .u8 0,.int .u8 0,.int .u8 0,.int .u8 0,.int .u8 0,.int .u8 0,.int .u8 0,.int .u8 0,.int .u8 0,.int .u8 0,.int .u8 0,.int .u8 0,.int .i64 0,.int .i64 0,.int .i64 0,.int .i64 0,.int .i64 0,.int .i64 0,.int .u8 0,.int .u8 0,.int .u8 0,.int .u8 0,.int .u8 0,.int .u8 0,.int .u8 0,.int .u8 0,.int .u8 0,.int .u8 0,.int .u8 0,.int .u8 0,.int .u8 0,.int .u8 0,.int .u8 0,.int .u8 0,.int .u8 0,.int .u8 0,.int .u8 0,.int .u8 0,.int .u8 0,.int .u8 0,.int .u8 0,.int .u8 0,.int .u8 0,.int .u8 0,.int .u8 0,.int .u8 0,.int .u8 0,.int .u8 0,.int .u8 0,.int .u8 0,.int .u64 0,.int .i64 0,.int .i64 0,.int .i64 0,.int .i64 0,.int .u8 0,.int .u8 0,.int .u8 0,.int .u8 0,.int .u8 0,.int .u8 0,.int .u8 0,.int .u8 0,.int .u8 0,.int .u8 0,.int .u8 0,.int .u8 0,.int .u8 0,.int .u8 0,.int .u8 0,.int .u8 0,.int .u8 0,.int .u8 0,.int .u8 0,.int .u8 0,.int .u8 0,.int .u8 0,.int .u8 0,.int .u8 0,.int .u8 0,.int .u8 0,.int .u8 0,.int .u8 0,.int .u8 0,.int .u8 0,.int .u8 0,.int .u8 0,.int .i64 0,.int .i64 0,.int .i64 0,.slice none 0 0,.int .i64 0,.int .i64 0,.int .i64 0,.int .u8 0,.int .u8 0,.int .u8 0,.int .u8 0,.int .u8 0,.int .u8 0,.int .u8 0,.int .u8 0,.int .u8 0,.int .u8 0,.int .u8 0,.int .u8 0,.int .u8 0,.int .u8 0,.int .u8 0,.int .u8 0,.int .u8 0,.int .u8 0,.int .u8 0,.int .u8 0,.int .u8 0,.int .u8 0,.int .u8 0,.int .u8 0,.int .u8 0,.int .u8 0,.int .u8 0,.int .u8 0,.int .u8 0,.int .u8 0,.int .u8 0,.int .u8 0,.int .u64 0,.int .i64 0,.int .i64 0,.int .i64 0,.int .i64 0,.int .u64 0,.int .i64 0,.int .i64 0,.int .u64 0,.slice none 0 0,.int .i64 0,.int .i64 0,.int .i64 0,.int .i64 0,.int .i64 0,.int .i64 0,.int .i64 0,.int .u64 0,.slice none 0 0,.slice none 0 0,.slice none 0 0,.int .i64 0,.int .i64 0,.int .i64 0,.int .i64 0,.int .i64 0,.int .i64 0,.int .u8 0,.int .u8 0,.int .u8 0,.int .u8 0,.int .u8 0,.int .u8 0,.int .u8 0,.int .u8 0,.int .u8 0,.int .u8 0,.int .u8 0,.int .u8 0,.int .u8 0,.int .u8 0,.int .u8 0,.int .u8 0,.int .u8 0,.int .u8 0,.int .u8 0,.int .u8 0,.int .u8 0,.int .u8 0,.int .u8 0,.int .u8 0,.int .u8 0,.int .u8 0,.int .u8 0,.int .u8 0,.int .u8 0,.int .u8 0,.int .u8 0,.int .u8 0,.int .i64 0,.int .i64 0,.int .i64 0,.int .i64 0,.int .i64 0,.int .u8 0,.int .u8 0,.int .u8 0,.int .u8 0,.int .u8 0,.int .u8 0,.int .u8 0,.int .u8 0,.int .u8 0,.int .u8 0,.int .u8 0,.int .u8 0,.int .u8 0,.int .u8 0,.int .u8 0,.int .u8 0,.int .u8 0,.int .u8 0,.int .u8 0,.int .u8 0,.int .u8 0,.int .u8 0,.int .u8 0,.int .u8 0,.int .u8 0,.int .u8 0,.int .u8 0,.int .u8 0,.int .u8 0,.int .u8 0,.int .u8 0,.int .u8 0,.int .u64 0,.int .i64 0,.slice none 0 0,.int .u8 0,.int .u8 0,.int .u8 0,.int .u8 0,.int .u8 0,.int .u8 0,.int .u8 0,.int .u8 0,.int .u8 0,.int .u8 0,.int .u8 0,.int .u8 0,.int .u8 0,.int .u8 0,.int .u8 0,.int .u8 0,.int .u8 0,.int .u8 0,.int .u8 0,.int .u8 0,.int .u8 0,.int .u8 0,.int .u8 0,.int .u8 0,.int .u8 0,.int .u8 0,.int .u8 0,.int .u8 0,.int .u8 0,.int .u8 0,.int .u8 0,.int .u8 0,.int .i64 0,.int .i64 0,.int .i64 0,.int .i64 0,.string ByteArray.empty,.int .i64 0,.int .i64 0,.int .i64 0,.int .u64 0,.slice none 0 0,.slice none 0 0,.slice none 0 0,.slice none 0 0] 61)):=⟨_,rfl⟩
 change Code.wp _ _ _ _ ((w.alloc (.cells ((x.segs c5 c10 c11 c15 c18).flatten:List Value).toArray 61)).alloc (.cells #[.int .i64 0,.int .i64 0,.int .i64 0,.int .i64 0,.int .i64 0,.int .u8 0,.int .u8 0,.int .u8 0,.int .u8 0,.int .u8 0,.int .u8 0,.int .u8 0,.int .u8 0,.int .u8 0,.int .u8 0,.int .u8 0,.int .u8 0,.int .u8 0,.int .u8 0,.int .u8 0,.int .u8 0,.int .u8 0,.int .u8 0,.int .u8 0,.int .u8 0,.int .u8 0,.int .u8 0,.int .u8 0,.int .u8 0,.int .u8 0,.int .u8 0,.int .u8 0,.int .u8 0,.int .u8 0,.int .u8 0,.int .u8 0,.int .u8 0,.int .i64 0,.int .i64 0,.int .i64 0,.int .i64 0,.int .i64 0,.int .i64 0,.int .u8 0,.int .u8 0,.int .u8 0,.int .u8 0,.int .u8 0,.int .u8 0,.int .u8 0,.int .u8 0,.int .u8 0,.int .u8 0,.int .u8 0,.int .u8 0,.int .u8 0,.int .u8 0,.int .u8 0,.int .u8 0,.int .u8 0,.int .u8 0,.int .u8 0,.int .u8 0,.int .u8 0,.int .u8 0,.int .u8 0,.int .u8 0,.int .u8 0,.int .u8 0,.int .u8 0,.int .u8 0,.int .u8 0,.int .u8 0,.int .u8 0,.int .u8 0,.int .u64 0,.int .i64 0,.int .i64 0,.int .i64 0,.int .i64 0,.int .u8 0,.int .u8 0,.int .u8 0,.int .u8 0,.int .u8 0,.int .u8 0,.int .u8 0,.int .u8 0,.int .u8 0,.int .u8 0,.int .u8 0,.int .u8 0,.int .u8 0,.int .u8 0,.int .u8 0,.int .u8 0,.int .u8 0,.int .u8 0,.int .u8 0,.int .u8 0,.int .u8 0,.int .u8 0,.int .u8 0,.int .u8 0,.int .u8 0,.int .u8 0,.int .u8 0,.int .u8 0,.int .u8 0,.int .u8 0,.int .u8 0,.int .u8 0,.int .i64 0,.int .i64 0,.int .i64 0,.slice none 0 0,.int .i64 0,.int .i64 0,.int .i64 0,.int .u8 0,.int .u8 0,.int .u8 0,.int .u8 0,.int .u8 0,.int .u8 0,.int .u8 0,.int .u8 0,.int .u8 0,.int .u8 0,.int .u8 0,.int .u8 0,.int .u8 0,.int .u8 0,.int .u8 0,.int .u8 0,.int .u8 0,.int .u8 0,.int .u8 0,.int .u8 0,.int .u8 0,.int .u8 0,.int .u8 0,.int .u8 0,.int .u8 0,.int .u8 0,.int .u8 0,.int .u8 0,.int .u8 0,.int .u8 0,.int .u8 0,.int .u8 0,.int .u64 0,.int .i64 0,.int .i64 0,.int .i64 0,.int .i64 0,.int .u64 0,.int .i64 0,.int .i64 0,.int .u64 0,.slice none 0 0,.int .i64 0,.int .i64 0,.int .i64 0,.int .i64 0,.int .i64 0,.int .i64 0,.int .i64 0,.int .u64 0,.slice none 0 0,.slice none 0 0,.slice none 0 0,.int .i64 0,.int .i64 0,.int .i64 0,.int .i64 0,.int .i64 0,.int .i64 0,.int .u8 0,.int .u8 0,.int .u8 0,.int .u8 0,.int .u8 0,.int .u8 0,.int .u8 0,.int .u8 0,.int .u8 0,.int .u8 0,.int .u8 0,.int .u8 0,.int .u8 0,.int .u8 0,.int .u8 0,.int .u8 0,.int .u8 0,.int .u8 0,.int .u8 0,.int .u8 0,.int .u8 0,.int .u8 0,.int .u8 0,.int .u8 0,.int .u8 0,.int .u8 0,.int .u8 0,.int .u8 0,.int .u8 0,.int .u8 0,.int .u8 0,.int .u8 0,.int .i64 0,.int .i64 0,.int .i64 0,.int .i64 0,.int .i64 0,.int .u8 0,.int .u8 0,.int .u8 0,.int .u8 0,.int .u8 0,.int .u8 0,.int .u8 0,.int .u8 0,.int .u8 0,.int .u8 0,.int .u8 0,.int .u8 0,.int .u8 0,.int .u8 0,.int .u8 0,.int .u8 0,.int .u8 0,.int .u8 0,.int .u8 0,.int .u8 0,.int .u8 0,.int .u8 0,.int .u8 0,.int .u8 0,.int .u8 0,.int .u8 0,.int .u8 0,.int .u8 0,.int .u8 0,.int .u8 0,.int .u8 0,.int .u8 0,.int .u64 0,.int .i64 0,.slice none 0 0,.int .u8 0,.int .u8 0,.int .u8 0,.int .u8 0,.int .u8 0,.int .u8 0,.int .u8 0,.int .u8 0,.int .u8 0,.int .u8 0,.int .u8 0,.int .u8 0,.int .u8 0,.int .u8 0,.int .u8 0,.int .u8 0,.int .u8 0,.int .u8 0,.int .u8 0,.int .u8 0,.int .u8 0,.int .u8 0,.int .u8 0,.int .u8 0,.int .u8 0,.int .u8 0,.int .u8 0,.int .u8 0,.int .u8 0,.int .u8 0,.int .u8 0,.int .u8 0,.int .i64 0,.int .i64 0,.int .i64 0,.int .i64 0,.string ByteArray.empty,.int .i64 0,.int .i64 0,.int .i64 0,.int .u64 0,.slice none 0 0,.slice none 0 0,.slice none 0 0,.slice none 0 0] 61))
 rw [← hw1]
 have HB3:=hid (show Cs w1 (w.heap.size) ((x.segs c5 c10 c11 c15 c18).flatten:List Value).toArray 61 by rw [hw1];exact (Cs.new _ _ _).alloc _)
 have HB4:=hid (show Cs w1 (w.heap.size+1) #[.int .i64 0,.int .i64 0,.int .i64 0,.int .i64 0,.int .i64 0,.int .u8 0,.int .u8 0,.int .u8 0,.int .u8 0,.int .u8 0,.int .u8 0,.int .u8 0,.int .u8 0,.int .u8 0,.int .u8 0,.int .u8 0,.int .u8 0,.int .u8 0,.int .u8 0,.int .u8 0,.int .u8 0,.int .u8 0,.int .u8 0,.int .u8 0,.int .u8 0,.int .u8 0,.int .u8 0,.int .u8 0,.int .u8 0,.int .u8 0,.int .u8 0,.int .u8 0,.int .u8 0,.int .u8 0,.int .u8 0,.int .u8 0,.int .u8 0,.int .i64 0,.int .i64 0,.int .i64 0,.int .i64 0,.int .i64 0,.int .i64 0,.int .u8 0,.int .u8 0,.int .u8 0,.int .u8 0,.int .u8 0,.int .u8 0,.int .u8 0,.int .u8 0,.int .u8 0,.int .u8 0,.int .u8 0,.int .u8 0,.int .u8 0,.int .u8 0,.int .u8 0,.int .u8 0,.int .u8 0,.int .u8 0,.int .u8 0,.int .u8 0,.int .u8 0,.int .u8 0,.int .u8 0,.int .u8 0,.int .u8 0,.int .u8 0,.int .u8 0,.int .u8 0,.int .u8 0,.int .u8 0,.int .u8 0,.int .u8 0,.int .u64 0,.int .i64 0,.int .i64 0,.int .i64 0,.int .i64 0,.int .u8 0,.int .u8 0,.int .u8 0,.int .u8 0,.int .u8 0,.int .u8 0,.int .u8 0,.int .u8 0,.int .u8 0,.int .u8 0,.int .u8 0,.int .u8 0,.int .u8 0,.int .u8 0,.int .u8 0,.int .u8 0,.int .u8 0,.int .u8 0,.int .u8 0,.int .u8 0,.int .u8 0,.int .u8 0,.int .u8 0,.int .u8 0,.int .u8 0,.int .u8 0,.int .u8 0,.int .u8 0,.int .u8 0,.int .u8 0,.int .u8 0,.int .u8 0,.int .i64 0,.int .i64 0,.int .i64 0,.slice none 0 0,.int .i64 0,.int .i64 0,.int .i64 0,.int .u8 0,.int .u8 0,.int .u8 0,.int .u8 0,.int .u8 0,.int .u8 0,.int .u8 0,.int .u8 0,.int .u8 0,.int .u8 0,.int .u8 0,.int .u8 0,.int .u8 0,.int .u8 0,.int .u8 0,.int .u8 0,.int .u8 0,.int .u8 0,.int .u8 0,.int .u8 0,.int .u8 0,.int .u8 0,.int .u8 0,.int .u8 0,.int .u8 0,.int .u8 0,.int .u8 0,.int .u8 0,.int .u8 0,.int .u8 0,.int .u8 0,.int .u8 0,.int .u64 0,.int .i64 0,.int .i64 0,.int .i64 0,.int .i64 0,.int .u64 0,.int .i64 0,.int .i64 0,.int .u64 0,.slice none 0 0,.int .i64 0,.int .i64 0,.int .i64 0,.int .i64 0,.int .i64 0,.int .i64 0,.int .i64 0,.int .u64 0,.slice none 0 0,.slice none 0 0,.slice none 0 0,.int .i64 0,.int .i64 0,.int .i64 0,.int .i64 0,.int .i64 0,.int .i64 0,.int .u8 0,.int .u8 0,.int .u8 0,.int .u8 0,.int .u8 0,.int .u8 0,.int .u8 0,.int .u8 0,.int .u8 0,.int .u8 0,.int .u8 0,.int .u8 0,.int .u8 0,.int .u8 0,.int .u8 0,.int .u8 0,.int .u8 0,.int .u8 0,.int .u8 0,.int .u8 0,.int .u8 0,.int .u8 0,.int .u8 0,.int .u8 0,.int .u8 0,.int .u8 0,.int .u8 0,.int .u8 0,.int .u8 0,.int .u8 0,.int .u8 0,.int .u8 0,.int .i64 0,.int .i64 0,.int .i64 0,.int .i64 0,.int .i64 0,.int .u8 0,.int .u8 0,.int .u8 0,.int .u8 0,.int .u8 0,.int .u8 0,.int .u8 0,.int .u8 0,.int .u8 0,.int .u8 0,.int .u8 0,.int .u8 0,.int .u8 0,.int .u8 0,.int .u8 0,.int .u8 0,.int .u8 0,.int .u8 0,.int .u8 0,.int .u8 0,.int .u8 0,.int .u8 0,.int .u8 0,.int .u8 0,.int .u8 0,.int .u8 0,.int .u8 0,.int .u8 0,.int .u8 0,.int .u8 0,.int .u8 0,.int .u8 0,.int .u64 0,.int .i64 0,.slice none 0 0,.int .u8 0,.int .u8 0,.int .u8 0,.int .u8 0,.int .u8 0,.int .u8 0,.int .u8 0,.int .u8 0,.int .u8 0,.int .u8 0,.int .u8 0,.int .u8 0,.int .u8 0,.int .u8 0,.int .u8 0,.int .u8 0,.int .u8 0,.int .u8 0,.int .u8 0,.int .u8 0,.int .u8 0,.int .u8 0,.int .u8 0,.int .u8 0,.int .u8 0,.int .u8 0,.int .u8 0,.int .u8 0,.int .u8 0,.int .u8 0,.int .u8 0,.int .u8 0,.int .i64 0,.int .i64 0,.int .i64 0,.int .i64 0,.string ByteArray.empty,.int .i64 0,.int .i64 0,.int .i64 0,.int .u64 0,.slice none 0 0,.slice none 0 0,.slice none 0 0,.slice none 0 0] 61 by rw [hw1];exact Cs_newN _ _ _ bD)
 have hm:Mod (fun _=>False) w w1:=by rw [hw1];exact ((Mod.refl _ _).alloc _).alloc _
 have HM0:=hid (show Mod (fun k=>(R k)) w w1 from hm.mono (fun _ _ h=>h.elim))
 have hs1:w1.heap.size=w.heap.size+2:=by rw [hw1];simp
 have c6:=hid (HRD.o.mod hm (fun _ _ h=>h))
 clear HRD
 have c7:=hid (H5.o.mod hm (fun _ _ h=>h))
 clear H5
 have c8:=hid (H10.o.mod hm (fun _ _ h=>h))
 clear H10
 have c9:=hid (H11.o.mod hm (fun _ _ h=>h))
 clear H11
 have d5:=hid (H15.o.mod hm (fun _ _ h=>h))
 clear H15
 have d6:=hid (H18.o.mod hm (fun _ _ h=>h))
 clear H18
 clear hw1 hm
 go_upto_region 1 with (fail)
 refine Aa 98 [5,6] [0,1] (fun a0 HA0=>?_)
 have c3:=ev HA0 3 rfl
 refine qfd rfl 0 B7 c3 ?_
 refine QSeq.pure rfl (.int .i64 x.kd) (fun E=>Af rfl B6 rfl (E.d 0 0) (AE HB3.o HLN.o 0 rfl (o:=0) (k:=0) rfl rfl rfl)) ?_
 refine qe ?_
 clear HA0 c3 a0
 go_upto_block 0 with (fail)
 go_cut [] from 7 (fun w'=>∃ (y:Mg) (st:RSt) (cz:List Value),Az x s=(y,st)∧Cs w' (w.heap.size) cz.toArray 61∧MgR.rd (fun k=>R2 k∨New w1 w' k) w' cz y∧RrR 132 R w' r st∧Mod (fun k=>(R k)∨(k=w.heap.size)) w1 w')
 case first=>
  have hmz:=hid (Mod.refl (fun k=>(R k)∨(k=w.heap.size)) w1)
  by_cases h1:x.kd=1
  ·have KK:=B5 h1
   clear h1
   go_upto_region 2 with (fail)
   refine tst 98 B6 (Bl KK.o) rfl (qs ?_)
   have HE:=hid (show Az x s=({ x with cm:=(gCm s).1 },(gCm s).2) by unfold Az;rw [KK.o];rfl)
   go_upto_region 3 with (fail)
   refine Aa 98 [9,10,11,101] [0,1,2,3] (fun a0 HA0=>?_)
   have c4:=ev HA0 0 rfl
   have c3:=ev HA0 3 rfl
   refine qmo rfl c4 ?_
   refine QSeq.call rfl rfl Tryz.func76 (cCm_Q _ _ _ _ c6.out aL) (fun E=>A0 (E.d 0 0)) ?_
   rintro e bj ⟨rfl,qrd,hm⟩
   refine ⟨_,rfl,?_⟩
   have p5:=hid qrd
   have ez:=hm.size
   have j7:=hid (show Mod (fun k=>(R k)) w1 bj from hm)
   clear hm
   clear qrd c6
   refine qfd rfl 3 B7 c3 ?_
   refine QSeq.go fun act E=>?_
   refine Ah rfl (Ab rfl) rfl (HB3.o.mod j7.out aH) (off:=3) (vs:=((gCm s).1.cells)) (by rw [Cm.len (gCm_OK HBY.o).2.1];kernel_rfl) (Cm_one _) gR (E.d 2 0) (ec (E.d 1 1)) ?_
   intro p6 qc0 hm
   have qB3:=qc0.eqv (b:=((Mg.segs ({ x with cm:=(gCm s).1 }:Mg) c5 c10 c11 c15 c18).flatten:List Value).toArray) ((A2 HLN.o 3 (by rw [Cm.len (gCm_OK HBY.o).2.1];rfl) rfl).trans rfl)
   clear qc0
   have bk:=hid qB3
   have fc:=hm.size
   have p7:=hid hm
   have d7:=hid (AB (S':=(fun k=>(R k)∨(k=w.heap.size))) j7.out hm (fun _ h=>Or.inl h) aT)
   clear hm j7
   clear act E qB3 HB3
   have bl:=hid (p5.out.mod p7.out (sB HBR))
   clear p5 p7
   refine qe ?_
   clear HA0 c4 c3 a0
   have hrz:MgR.rd (fun k=>R2 k∨New w1 p6 k) p6 ((Mg.segs ({ x with cm:=(gCm s).1 }:Mg) c5 c10 c11 c15 c18).flatten) ({ x with cm:=(gCm s).1 }:Mg):=⟨_,_,_,_,_,rfl,{ HOK.o with cm:=gCm_OK HBY.o },(c7.out.mod d7.out aA).widen (fun _ h=>Or.inl h),(c8.out.mod d7.out aA).widen (fun _ h=>Or.inl h),(c9.out.mod d7.out aA).widen (fun _ h=>Or.inl h),(d5.out.mod d7.out aA).widen (fun _ h=>Or.inl h),(d6.out.mod d7.out aA).widen (fun _ h=>Or.inl h)⟩
   have HRZ:=B5 hrz
   clear hrz
   go_wp2_with fail
   go_meet
   case rel=>exact ⟨_,_,_,HE.o,bk.out,HRZ.o,bl.out,(hmz.out.trans d7.out (fun _ _ h=>h))⟩
  have K1:=B5 h1
  clear h1
  go_upto_region 2 with (fail)
  refine tst 98 B6 (Bk K1.o) rfl (qs ?_)
  by_cases h2:x.kd=2
  ·have KK:=B5 h2
   clear h2
   go_upto_region 4 with (fail)
   refine tst 98 B6 (Bl KK.o) rfl (qs ?_)
   have HE:=hid (show Az x s=({ x with st:=(gSt s).1 },(gSt s).2) by unfold Az;rw [KK.o];rfl)
   go_upto_region 5 with (fail)
   refine Aa 98 [14,15,16,101] [0,1,2,3] (fun a0 HA0=>?_)
   have c4:=ev HA0 0 rfl
   have c3:=ev HA0 3 rfl
   refine qmo rfl c4 ?_
   refine QSeq.call rfl rfl Tryz.func77 (cSt_Q _ _ _ _ c6.out aL) (fun E=>A0 (E.d 0 0)) ?_
   rintro e bm ⟨rfl,qrd,hm⟩
   refine ⟨_,rfl,?_⟩
   have p8:=hid qrd
   have fe:=hm.size
   have j8:=hid (show Mod (fun k=>(R k)) w1 bm from hm)
   clear hm
   clear qrd c6
   refine qfd rfl 40 B7 c3 ?_
   refine QSeq.go fun act E=>?_
   refine Ah rfl (Ab rfl) rfl (HB3.o.mod j8.out aH) (off:=40) (vs:=((gSt s).1.cells)) fY (St.one _) gY (E.d 2 0) (ec (E.d 1 1)) ?_
   intro p9 qc0 hm
   have qB3:=qc0.eqv (b:=((Mg.segs ({ x with st:=(gSt s).1 }:Mg) c5 c10 c11 c15 c18).flatten:List Value).toArray) ((A2 HLN.o 4 gN rfl).trans rfl)
   clear qc0
   have bn:=hid qB3
   have ff:=hm.size
   have q6:=hid hm
   have d8:=hid (AB (S':=(fun k=>(R k)∨(k=w.heap.size))) j8.out hm (fun _ h=>Or.inl h) aT)
   clear hm j8
   clear act E qB3 HB3
   have bp:=hid (p8.out.mod q6.out (sB HBR))
   clear p8 q6
   refine qe ?_
   clear HA0 c4 c3 a0
   have hrz:MgR.rd (fun k=>R2 k∨New w1 p9 k) p9 ((Mg.segs ({ x with st:=(gSt s).1 }:Mg) c5 c10 c11 c15 c18).flatten) ({ x with st:=(gSt s).1 }:Mg):=⟨_,_,_,_,_,rfl,{ HOK.o with st:=gSt_OK HBY.o },(c7.out.mod d8.out aA).widen (fun _ h=>Or.inl h),(c8.out.mod d8.out aA).widen (fun _ h=>Or.inl h),(c9.out.mod d8.out aA).widen (fun _ h=>Or.inl h),(d5.out.mod d8.out aA).widen (fun _ h=>Or.inl h),(d6.out.mod d8.out aA).widen (fun _ h=>Or.inl h)⟩
   have HRZ:=B5 hrz
   clear hrz
   go_wp2_with fail
   go_meet
   case rel=>exact ⟨_,_,_,HE.o,bn.out,HRZ.o,bp.out,(hmz.out.trans d8.out (fun _ _ h=>h))⟩
  have K2:=B5 h2
  clear h2
  go_upto_region 4 with (fail)
  refine tst 98 B6 (Bk K2.o) rfl (qs ?_)
  by_cases h3:x.kd=3
  ·have KK:=B5 h3
   clear h3
   go_upto_region 6 with (fail)
   refine tst 98 B6 (Bl KK.o) rfl (qs ?_)
   have HE:=hid (show Az x s=({ x with ce:=(gCe s).1 },(gCe s).2) by unfold Az;rw [KK.o];rfl)
   go_upto_region 7 with (fail)
   refine Aa 98 [19,20,21,101] [0,1,2,3] (fun a0 HA0=>?_)
   have c4:=ev HA0 0 rfl
   have c3:=ev HA0 3 rfl
   refine qmo rfl c4 ?_
   refine QSeq.call rfl rfl Tryz.func78 (cCe_G _ _ _ _ c6.out aL HLE.o) (fun E=>A0 (E.d 0 0)) ?_
   rintro e bq ⟨cn,rfl,qnw,qrd,hm⟩
   have HCN:=hid (CeR.len qnw)
   have HCO:=hid (CeR.one qnw)
   refine ⟨_,rfl,?_⟩
   have q7:=hid qnw
   have q8:=hid qrd
   have fg:=hm.size
   have j9:=hid (show Mod (fun k=>(R k)) w1 bq from hm)
   clear hm
   clear qnw qrd c6
   refine qfd rfl 78 B7 c3 ?_
   refine QSeq.go fun act E=>?_
   refine Ah rfl (Ab rfl) rfl (HB3.o.mod j9.out aH) (off:=78) (vs:=cn) fG HCO.o (by rw [C3,Bb,HLN.o];show 78+_≤295;rw [HCN.o];decide) (E.d 2 0) (ec (E.d 1 1)) ?_
   intro q9 qc0 hm
   have qB3:=qc0.eqv (b:=((Mg.segs ({ x with ce:=(gCe s).1 }:Mg) cn c10 c11 c15 c18).flatten:List Value).toArray) ((A2 HLN.o 5 gE rfl).trans rfl)
   clear qc0
   have br:=hid qB3
   have fh:=hm.size
   have l7:=hid hm
   have i9:=hid (AB (S':=(fun k=>(R k)∨(k=w.heap.size))) j9.out hm (fun _ h=>Or.inl h) aT)
   clear hm j9
   clear act E qB3 HB3
   have bt:=hid (q8.out.mod l7.out (sB HBR))
   have bu:=hid (q7.out.mod l7.out aE)
   clear q8 q7 l7
   refine qe ?_
   clear HA0 c4 c3 a0
   have hrz:MgR.rd (fun k=>R2 k∨New w1 q9 k) q9 ((Mg.segs ({ x with ce:=(gCe s).1 }:Mg) cn c10 c11 c15 c18).flatten) ({ x with ce:=(gCe s).1 }:Mg):=⟨_,_,_,_,_,rfl,{ HOK.o with },bu.out.widen fD,(c8.out.mod i9.out aA).widen (fun _ h=>Or.inl h),(c9.out.mod i9.out aA).widen (fun _ h=>Or.inl h),(d5.out.mod i9.out aA).widen (fun _ h=>Or.inl h),(d6.out.mod i9.out aA).widen (fun _ h=>Or.inl h)⟩
   have HRZ:=B5 hrz
   clear hrz
   go_wp2_with fail
   go_meet
   case rel=>exact ⟨_,_,_,HE.o,br.out,HRZ.o,bt.out,(hmz.out.trans i9.out (fun _ _ h=>h))⟩
  have K3:=B5 h3
  clear h3
  go_upto_region 6 with (fail)
  refine tst 98 B6 (Bk K3.o) rfl (qs ?_)
  by_cases h4:x.kd=4
  ·have KK:=B5 h4
   clear h4
   go_upto_region 8 with (fail)
   refine tst 98 B6 (Bl KK.o) rfl (qs ?_)
   have HE:=hid (show Az x s=({ x with ak:=(gSt s).1 },(gSt s).2) by unfold Az;rw [KK.o];rfl)
   go_upto_region 9 with (fail)
   refine Aa 98 [24,25,26,101] [0,1,2,3] (fun a0 HA0=>?_)
   have c4:=ev HA0 0 rfl
   have c3:=ev HA0 3 rfl
   refine qmo rfl c4 ?_
   refine QSeq.call rfl rfl Tryz.func79 (cAk_Q _ _ _ _ c6.out aL) (fun E=>A0 (E.d 0 0)) ?_
   rintro e bw ⟨rfl,qrd,hm⟩
   refine ⟨_,rfl,?_⟩
   have r3:=hid qrd
   have fi:=hm.size
   have l8:=hid (show Mod (fun k=>(R k)) w1 bw from hm)
   clear hm
   clear qrd c6
   refine qfd rfl 116 B7 c3 ?_
   refine QSeq.go fun act E=>?_
   refine Ah rfl (Ab rfl) rfl (HB3.o.mod l8.out aH) (off:=116) (vs:=((gSt s).1.cells)) fY (St.one _) gV (E.d 2 0) (ec (E.d 1 1)) ?_
   intro r4 qc0 hm
   have qB3:=qc0.eqv (b:=((Mg.segs ({ x with ak:=(gSt s).1 }:Mg) c5 c10 c11 c15 c18).flatten:List Value).toArray) ((A2 HLN.o 6 gN rfl).trans rfl)
   clear qc0
   have bx:=hid qB3
   have fj:=hm.size
   have r5:=hid hm
   have d9:=hid (AB (S':=(fun k=>(R k)∨(k=w.heap.size))) l8.out hm (fun _ h=>Or.inl h) aT)
   clear hm l8
   clear act E qB3 HB3
   have bz:=hid (r3.out.mod r5.out (sB HBR))
   clear r3 r5
   refine qe ?_
   clear HA0 c4 c3 a0
   have hrz:MgR.rd (fun k=>R2 k∨New w1 r4 k) r4 ((Mg.segs ({ x with ak:=(gSt s).1 }:Mg) c5 c10 c11 c15 c18).flatten) ({ x with ak:=(gSt s).1 }:Mg):=⟨_,_,_,_,_,rfl,{ HOK.o with ak:=gSt_OK HBY.o },(c7.out.mod d9.out aA).widen (fun _ h=>Or.inl h),(c8.out.mod d9.out aA).widen (fun _ h=>Or.inl h),(c9.out.mod d9.out aA).widen (fun _ h=>Or.inl h),(d5.out.mod d9.out aA).widen (fun _ h=>Or.inl h),(d6.out.mod d9.out aA).widen (fun _ h=>Or.inl h)⟩
   have HRZ:=B5 hrz
   clear hrz
   go_wp2_with fail
   go_meet
   case rel=>exact ⟨_,_,_,HE.o,bx.out,HRZ.o,bz.out,(hmz.out.trans d9.out (fun _ _ h=>h))⟩
  have K4:=B5 h4
  clear h4
  go_upto_region 8 with (fail)
  refine tst 98 B6 (Bk K4.o) rfl (qs ?_)
  by_cases h5:x.kd=5
  ·have KK:=B5 h5
   clear h5
   go_upto_region 10 with (fail)
   refine tst 98 B6 (Bl KK.o) rfl (qs ?_)
   have HE:=hid (show Az x s=({ x with ep:=(gI s).1,rn:=(gI (gI s).2).1,tm:=(rNum (gI (gI s).2).2).1 },(rNum (gI (gI s).2).2).2) by unfold Az;rw [KK.o];rfl)
   go_upto_region 11 with (fail)
   refine Aa 98 [29,30,31,32,33,34,35,105,36,107,37,109] [0,1,2,3,4,5,6,7,8,9,10,11] (fun a0 HA0=>?_)
   have c4:=ev HA0 0 rfl
   have c3:=ev HA0 3 rfl
   refine qmo rfl c4 ?_
   refine QSeq.call rfl rfl Tryz.func42 (cI_Q c6.out) (fun E=>An (E.d 0 0) rfl) ?_
   rintro e cd ⟨rfl,qrd,hm⟩
   refine ⟨_,rfl,?_⟩
   have r6:=hid qrd
   have fk:=hm.size
   have r7:=hid (show Mod (fun k=>(R k)) w1 cd from hm)
   clear hm
   clear qrd c6
   refine qmo rfl c4 ?_
   refine QSeq.call rfl rfl Tryz.func42 (cI_Q r6.out) (fun E=>An (E.d 2 0) rfl) ?_
   rintro e fm ⟨rfl,qrd,hm⟩
   refine ⟨_,rfl,?_⟩
   have r8:=hid qrd
   have fo:=hm.size
   have cf:=hid hm
   have r9:=hid (AB (S':=(fun k=>(R k))) r7.out hm (fun _ h=>h) aQ)
   clear hm r7
   clear qrd r6
   refine qmo rfl c4 ?_
   refine QSeq.call rfl rfl Tryz.func80 (RNum_R r8.out) (fun E=>A0 (E.d 4 0)) ?_
   rintro e fp ⟨rfl,qrd,hm⟩
   refine ⟨_,rfl,?_⟩
   have s0:=hid qrd
   have fq:=hm.size
   have cg:=hid hm
   have m7:=hid (AB (S':=(fun k=>(R k))) r9.out hm (fun _ h=>h) aQ)
   clear hm r9
   clear qrd r8
   refine qfd rfl 154 B7 c3 ?_
   refine QSeq.go fun act E=>?_
   refine Ah rfl (Ab rfl) rfl (HB3.o.mod m7.out aH) (off:=154) (vs:=[Value.int .i64 (gI s).1]) aD one1 (by rw [C3,Bb,HLN.o];show 154+1≤295;decide) (E.d 6 0) (ec (E.d 1 5)) ?_
   intro ft qc0 hm
   have qB3:=qc0.eqv (b:=((Mg.segs ({ x with ep:=(gI s).1 }:Mg) c5 c10 c11 c15 c18).flatten:List Value).toArray) ((A2 HLN.o 7 (rfl) rfl).trans rfl)
   clear qc0
   have s5:=hid qB3
   have fv:=hm.size
   have s6:=hid hm
   have s7:=hid (AB (S':=(fun k=>(R k)∨(k=w.heap.size))) m7.out hm (fun _ h=>Or.inl h) aT)
   clear hm m7
   clear act E qB3 HB3
   refine qfd rfl 155 B7 c3 ?_
   refine QSeq.go fun act E=>?_
   refine Ah rfl (Ab rfl) rfl s5.out (off:=155) (vs:=[Value.int .i64 (gI (gI s).2).1]) aD one1 eZ (E.d 8 0) (ec (E.d 3 5)) ?_
   intro fw qc0 hm
   have qB3:=qc0.eqv (b:=((Mg.segs ({ x with ep:=(gI s).1,rn:=(gI (gI s).2).1 }:Mg) c5 c10 c11 c15 c18).flatten:List Value).toArray) ((A2 (show (Mg.segs ({ x with ep:=(gI s).1 }:Mg) c5 c10 c11 c15 c18).map List.length=mgN from HLN.o) 8 (rfl) rfl).trans rfl)
   clear qc0
   have s8:=hid qB3
   have fx:=hm.size
   have t0:=hid hm
   have t1:=hid (AB (S':=(fun k=>(R k)∨(k=w.heap.size))) s7.out hm (fun _ h=>h) aT)
   clear hm s7
   clear act E qB3 s5
   refine qfd rfl 156 B7 c3 ?_
   refine QSeq.go fun act E=>?_
   refine Ah rfl (Ab rfl) rfl s8.out (off:=156) (vs:=[Value.int .u64 ((rNum (gI (gI s).2).2).1:Nat)]) aD one1 eP (E.d 10 0) (ec (E.d 5 5)) ?_
   intro t2 qc0 hm
   have qB3:=qc0.eqv (b:=((Mg.segs ({ x with ep:=(gI s).1,rn:=(gI (gI s).2).1,tm:=(rNum (gI (gI s).2).2).1 }:Mg) c5 c10 c11 c15 c18).flatten:List Value).toArray) ((A2 (show (Mg.segs ({ x with ep:=(gI s).1,rn:=(gI (gI s).2).1 }:Mg) c5 c10 c11 c15 c18).map List.length=mgN from HLN.o) 9 (rfl) rfl).trans rfl)
   clear qc0
   have ch:=hid qB3
   have fy:=hm.size
   have t4:=hid hm
   have g5:=hid (AB (S':=(fun k=>(R k)∨(k=w.heap.size))) t1.out hm (fun _ h=>h) aT)
   clear hm t1
   clear act E qB3 s8
   have ci:=hid (((s0.out.mod s6.out (sB HBR)).mod t0.out (sB HBR)).mod t4.out (sB HBR))
   clear s0 cf cg s6 t0 t4
   refine qe ?_
   clear HA0 c4 c3 a0
   have hrz:MgR.rd (fun k=>R2 k∨New w1 t2 k) t2 ((Mg.segs ({ x with ep:=(gI s).1,rn:=(gI (gI s).2).1,tm:=(rNum (gI (gI s).2).2).1 }:Mg) c5 c10 c11 c15 c18).flatten) ({ x with ep:=(gI s).1,rn:=(gI (gI s).2).1,tm:=(rNum (gI (gI s).2).2).1 }:Mg):=⟨_,_,_,_,_,rfl,{ HOK.o with ep:=A9 _,rn:=A9 _,tm:=rNum_lt (gI_suf.bytes (gI_suf.bytes HBY.o)) },(c7.out.mod g5.out aA).widen (fun _ h=>Or.inl h),(c8.out.mod g5.out aA).widen (fun _ h=>Or.inl h),(c9.out.mod g5.out aA).widen (fun _ h=>Or.inl h),(d5.out.mod g5.out aA).widen (fun _ h=>Or.inl h),(d6.out.mod g5.out aA).widen (fun _ h=>Or.inl h)⟩
   have HRZ:=B5 hrz
   clear hrz
   go_wp2_with fail
   go_meet
   case rel=>exact ⟨_,_,_,HE.o,ch.out,HRZ.o,ci.out,(hmz.out.trans g5.out (fun _ _ h=>h))⟩
  have K5:=B5 h5
  clear h5
  go_upto_region 10 with (fail)
  refine tst 98 B6 (Bk K5.o) rfl (qs ?_)
  by_cases h6:x.kd=6
  ·have KK:=B5 h6
   clear h6
   go_upto_region 12 with (fail)
   refine tst 98 B6 (Bl KK.o) rfl (qs ?_)
   have HE:=hid (show Az x s=({ x with pm:=(gPm s).1 },(gPm s).2) by unfold Az;rw [KK.o];rfl)
   go_upto_region 13 with (fail)
   refine Aa 98 [40,41,42,101] [0,1,2,3] (fun a0 HA0=>?_)
   have c4:=ev HA0 0 rfl
   have c3:=ev HA0 3 rfl
   refine qmo rfl c4 ?_
   refine QSeq.call rfl rfl Tryz.func81 (cPm_G _ _ _ _ c6.out aL HLE.o) (fun E=>A0 (E.d 0 0)) ?_
   rintro e cj ⟨cn,rfl,qnw,qrd,hm⟩
   have HCN:=hid (PmR.len qnw)
   have HCO:=hid (PmR.one qnw)
   refine ⟨_,rfl,?_⟩
   have t8:=hid qnw
   have t9:=hid qrd
   have fz:=hm.size
   have m8:=hid (show Mod (fun k=>(R k)) w1 cj from hm)
   clear hm
   clear qnw qrd c6
   refine qfd rfl 157 B7 c3 ?_
   refine QSeq.go fun act E=>?_
   refine Ah rfl (Ab rfl) rfl (HB3.o.mod m8.out aH) (off:=157) (vs:=cn) fG HCO.o (by rw [C3,Bb,HLN.o];show 157+_≤295;rw [HCN.o];decide) (E.d 2 0) (ec (E.d 1 1)) ?_
   intro u0 qc0 hm
   have qB3:=qc0.eqv (b:=((Mg.segs ({ x with pm:=(gPm s).1 }:Mg) c5 cn c11 c15 c18).flatten:List Value).toArray) ((A2 HLN.o 10 gE rfl).trans rfl)
   clear qc0
   have ck:=hid qB3
   have gc:=hm.size
   have m9:=hid hm
   have j0:=hid (AB (S':=(fun k=>(R k)∨(k=w.heap.size))) m8.out hm (fun _ h=>Or.inl h) aT)
   clear hm m8
   clear act E qB3 HB3
   have co:=hid (t9.out.mod m9.out (sB HBR))
   have cq:=hid (t8.out.mod m9.out aE)
   clear t9 t8 m9
   refine qe ?_
   clear HA0 c4 c3 a0
   have hrz:MgR.rd (fun k=>R2 k∨New w1 u0 k) u0 ((Mg.segs ({ x with pm:=(gPm s).1 }:Mg) c5 cn c11 c15 c18).flatten) ({ x with pm:=(gPm s).1 }:Mg):=⟨_,_,_,_,_,rfl,{ HOK.o with },(c7.out.mod j0.out aA).widen (fun _ h=>Or.inl h),cq.out.widen fD,(c9.out.mod j0.out aA).widen (fun _ h=>Or.inl h),(d5.out.mod j0.out aA).widen (fun _ h=>Or.inl h),(d6.out.mod j0.out aA).widen (fun _ h=>Or.inl h)⟩
   have HRZ:=B5 hrz
   clear hrz
   go_wp2_with fail
   go_meet
   case rel=>exact ⟨_,_,_,HE.o,ck.out,HRZ.o,co.out,(hmz.out.trans j0.out (fun _ _ h=>h))⟩
  have K6:=B5 h6
  clear h6
  go_upto_region 12 with (fail)
  refine tst 98 B6 (Bk K6.o) rfl (qs ?_)
  by_cases h7:x.kd=7
  ·have KK:=B5 h7
   clear h7
   go_upto_region 14 with (fail)
   refine tst 98 B6 (Bl KK.o) rfl (qs ?_)
   have HE:=hid (show Az x s=({ x with pr:=(gPr s).1 },(gPr s).2) by unfold Az;rw [KK.o];rfl)
   go_upto_region 15 with (fail)
   refine Aa 98 [45,46,47,101] [0,1,2,3] (fun a0 HA0=>?_)
   have c4:=ev HA0 0 rfl
   have c3:=ev HA0 3 rfl
   refine qmo rfl c4 ?_
   refine QSeq.call rfl rfl Tryz.func82 (cPr_G _ _ _ _ c6.out aL HLE.o) (fun E=>A0 (E.d 0 0)) ?_
   rintro e cr ⟨cn,rfl,qnw,qrd,hm⟩
   have HCN:=hid (PrR.len qnw)
   have HCO:=hid (PrR.one qnw)
   refine ⟨_,rfl,?_⟩
   have u1:=hid qnw
   have u2:=hid qrd
   have gd:=hm.size
   have n5:=hid (show Mod (fun k=>(R k)) w1 cr from hm)
   clear hm
   clear qnw qrd c6
   refine qfd rfl 163 B7 c3 ?_
   refine QSeq.go fun act E=>?_
   refine Ah rfl (Ab rfl) rfl (HB3.o.mod n5.out aH) (off:=163) (vs:=cn) fG HCO.o (by rw [C3,Bb,HLN.o];show 163+_≤295;rw [HCN.o];decide) (E.d 2 0) (ec (E.d 1 1)) ?_
   intro u3 qc0 hm
   have qB3:=qc0.eqv (b:=((Mg.segs ({ x with pr:=(gPr s).1 }:Mg) c5 c10 cn c15 c18).flatten:List Value).toArray) ((A2 HLN.o 11 gE rfl).trans rfl)
   clear qc0
   have ct:=hid qB3
   have ge:=hm.size
   have n6:=hid hm
   have j3:=hid (AB (S':=(fun k=>(R k)∨(k=w.heap.size))) n5.out hm (fun _ h=>Or.inl h) aT)
   clear hm n5
   clear act E qB3 HB3
   have cx:=hid (u2.out.mod n6.out (sB HBR))
   have da:=hid (u1.out.mod n6.out aE)
   clear u2 u1 n6
   refine qe ?_
   clear HA0 c4 c3 a0
   have hrz:MgR.rd (fun k=>R2 k∨New w1 u3 k) u3 ((Mg.segs ({ x with pr:=(gPr s).1 }:Mg) c5 c10 cn c15 c18).flatten) ({ x with pr:=(gPr s).1 }:Mg):=⟨_,_,_,_,_,rfl,{ HOK.o with },(c7.out.mod j3.out aA).widen (fun _ h=>Or.inl h),(c8.out.mod j3.out aA).widen (fun _ h=>Or.inl h),da.out.widen fD,(d5.out.mod j3.out aA).widen (fun _ h=>Or.inl h),(d6.out.mod j3.out aA).widen (fun _ h=>Or.inl h)⟩
   have HRZ:=B5 hrz
   clear hrz
   go_wp2_with fail
   go_meet
   case rel=>exact ⟨_,_,_,HE.o,ct.out,HRZ.o,cx.out,(hmz.out.trans j3.out (fun _ _ h=>h))⟩
  have K7:=B5 h7
  clear h7
  go_upto_region 14 with (fail)
  refine tst 98 B6 (Bk K7.o) rfl (qs ?_)
  by_cases h8:x.kd=8
  ·have KK:=B5 h8
   clear h8
   go_upto_region 16 with (fail)
   refine tst 98 B6 (Bl KK.o) rfl (qs ?_)
   have HE:=hid (show Az x s=({ x with vt:=(gVt s).1 },(gVt s).2) by unfold Az;rw [KK.o];rfl)
   go_upto_region 17 with (fail)
   refine Aa 98 [50,51,52,101] [0,1,2,3] (fun a0 HA0=>?_)
   have c4:=ev HA0 0 rfl
   have c3:=ev HA0 3 rfl
   refine qmo rfl c4 ?_
   refine QSeq.call rfl rfl Tryz.func83 (cVt_Q _ _ _ _ c6.out aL) (fun E=>A0 (E.d 0 0)) ?_
   rintro e db ⟨rfl,qrd,hm⟩
   refine ⟨_,rfl,?_⟩
   have u4:=hid qrd
   have gf:=hm.size
   have n7:=hid (show Mod (fun k=>(R k)) w1 db from hm)
   clear hm
   clear qrd c6
   refine qfd rfl 174 B7 c3 ?_
   refine QSeq.go fun act E=>?_
   refine Ah rfl (Ab rfl) rfl (HB3.o.mod n7.out aH) (off:=174) (vs:=((gVt s).1.cells)) (by rw [Vt.len (gVt_OK HBY.o)];kernel_rfl) (Vt.one _) gU (E.d 2 0) (ec (E.d 1 1)) ?_
   intro u5 qc0 hm
   have qB3:=qc0.eqv (b:=((Mg.segs ({ x with vt:=(gVt s).1 }:Mg) c5 c10 c11 c15 c18).flatten:List Value).toArray) ((A2 HLN.o 12 (by rw [Vt.len (gVt_OK HBY.o)];rfl) rfl).trans rfl)
   clear qc0
   have dd:=hid qB3
   have gg:=hm.size
   have u6:=hid hm
   have g6:=hid (AB (S':=(fun k=>(R k)∨(k=w.heap.size))) n7.out hm (fun _ h=>Or.inl h) aT)
   clear hm n7
   clear act E qB3 HB3
   have df:=hid (u4.out.mod u6.out (sB HBR))
   clear u4 u6
   refine qe ?_
   clear HA0 c4 c3 a0
   have hrz:MgR.rd (fun k=>R2 k∨New w1 u5 k) u5 ((Mg.segs ({ x with vt:=(gVt s).1 }:Mg) c5 c10 c11 c15 c18).flatten) ({ x with vt:=(gVt s).1 }:Mg):=⟨_,_,_,_,_,rfl,{ HOK.o with vt:=gVt_OK HBY.o },(c7.out.mod g6.out aA).widen (fun _ h=>Or.inl h),(c8.out.mod g6.out aA).widen (fun _ h=>Or.inl h),(c9.out.mod g6.out aA).widen (fun _ h=>Or.inl h),(d5.out.mod g6.out aA).widen (fun _ h=>Or.inl h),(d6.out.mod g6.out aA).widen (fun _ h=>Or.inl h)⟩
   have HRZ:=B5 hrz
   clear hrz
   go_wp2_with fail
   go_meet
   case rel=>exact ⟨_,_,_,HE.o,dd.out,HRZ.o,df.out,(hmz.out.trans g6.out (fun _ _ h=>h))⟩
  have K8:=B5 h8
  clear h8
  go_upto_region 16 with (fail)
  refine tst 98 B6 (Bk K8.o) rfl (qs ?_)
  by_cases h9:x.kd=9
  ·have KK:=B5 h9
   clear h9
   go_upto_region 18 with (fail)
   refine tst 98 B6 (Bl KK.o) rfl (qs ?_)
   have HE:=hid (show Az x s=({ x with ix:=(gI s).1,en:=(gEn (gI s).2).1 },(gEn (gI s).2).2) by unfold Az;rw [KK.o];rfl)
   go_upto_region 19 with (fail)
   refine Aa 98 [55,56,57,58,59,103,60,105] [0,1,2,3,4,5,6,7] (fun a0 HA0=>?_)
   have c4:=ev HA0 0 rfl
   have c3:=ev HA0 3 rfl
   refine qmo rfl c4 ?_
   refine QSeq.call rfl rfl Tryz.func42 (cI_Q c6.out) (fun E=>An (E.d 0 0) rfl) ?_
   rintro e dg ⟨rfl,qrd,hm⟩
   refine ⟨_,rfl,?_⟩
   have u7:=hid qrd
   have gh:=hm.size
   have u9:=hid (show Mod (fun k=>(R k)) w1 dg from hm)
   clear hm
   clear qrd c6
   refine qmo rfl c4 ?_
   refine QSeq.call rfl rfl Tryz.func84 (cEn_Q _ _ _ _ u7.out aL) (fun E=>A0 (E.d 2 0)) ?_
   rintro e gi ⟨rfl,qrd,hm⟩
   refine ⟨_,rfl,?_⟩
   have v5:=hid qrd
   have gj:=hm.size
   have dh:=hid hm
   have n8:=hid (AB (S':=(fun k=>(R k))) u9.out hm (fun _ h=>h) aQ)
   clear hm u9
   clear qrd u7
   refine qfd rfl 212 B7 c3 ?_
   refine QSeq.go fun act E=>?_
   refine Ah rfl (Ab rfl) rfl (HB3.o.mod n8.out aH) (off:=212) (vs:=[Value.int .i64 (gI s).1]) aD one1 cP (E.d 4 0) (ec (E.d 1 3)) ?_
   intro gk qc0 hm
   have qB3:=qc0.eqv (b:=((Mg.segs ({ x with ix:=(gI s).1 }:Mg) c5 c10 c11 c15 c18).flatten:List Value).toArray) ((A2 HLN.o 13 (rfl) rfl).trans rfl)
   clear qc0
   have v6:=hid qB3
   have gm:=hm.size
   have v7:=hid hm
   have v8:=hid (AB (S':=(fun k=>(R k)∨(k=w.heap.size))) n8.out hm (fun _ h=>Or.inl h) aT)
   clear hm n8
   clear act E qB3 HB3
   refine qfd rfl 213 B7 c3 ?_
   refine QSeq.go fun act E=>?_
   refine Ah rfl (Ab rfl) rfl v6.out (off:=213) (vs:=((gEn (gI s).2).1.cells)) (by rw [En.len (gEn_OK (gI_suf.bytes HBY.o))];kernel_rfl) (En.one _) eG (E.d 6 0) (ec (E.d 3 3)) ?_
   intro x4 qc0 hm
   have qB3:=qc0.eqv (b:=((Mg.segs ({ x with ix:=(gI s).1,en:=(gEn (gI s).2).1 }:Mg) c5 c10 c11 c15 c18).flatten:List Value).toArray) ((A2 (show (Mg.segs ({ x with ix:=(gI s).1 }:Mg) c5 c10 c11 c15 c18).map List.length=mgN from HLN.o) 14 (by rw [En.len (gEn_OK (gI_suf.bytes HBY.o))];rfl) rfl).trans rfl)
   clear qc0
   have di:=hid qB3
   have gn:=hm.size
   have x5:=hid hm
   have g7:=hid (AB (S':=(fun k=>(R k)∨(k=w.heap.size))) v8.out hm (fun _ h=>h) aT)
   clear hm v8
   clear act E qB3 v6
   have dj:=hid ((v5.out.mod v7.out (sB HBR)).mod x5.out (sB HBR))
   clear v5 dh v7 x5
   refine qe ?_
   clear HA0 c4 c3 a0
   have hrz:MgR.rd (fun k=>R2 k∨New w1 x4 k) x4 ((Mg.segs ({ x with ix:=(gI s).1,en:=(gEn (gI s).2).1 }:Mg) c5 c10 c11 c15 c18).flatten) ({ x with ix:=(gI s).1,en:=(gEn (gI s).2).1 }:Mg):=⟨_,_,_,_,_,rfl,{ HOK.o with ix:=A9 _,en:=gEn_OK (gI_suf.bytes HBY.o) },(c7.out.mod g7.out aA).widen (fun _ h=>Or.inl h),(c8.out.mod g7.out aA).widen (fun _ h=>Or.inl h),(c9.out.mod g7.out aA).widen (fun _ h=>Or.inl h),(d5.out.mod g7.out aA).widen (fun _ h=>Or.inl h),(d6.out.mod g7.out aA).widen (fun _ h=>Or.inl h)⟩
   have HRZ:=B5 hrz
   clear hrz
   go_wp2_with fail
   go_meet
   case rel=>exact ⟨_,_,_,HE.o,di.out,HRZ.o,dj.out,(hmz.out.trans g7.out (fun _ _ h=>h))⟩
  have K9:=B5 h9
  clear h9
  go_upto_region 18 with (fail)
  refine tst 98 B6 (Bk K9.o) rfl (qs ?_)
  by_cases h10:x.kd=10
  ·have KK:=B5 h10
   clear h10
   go_upto_region 20 with (fail)
   refine tst 98 B6 (Bl KK.o) rfl (qs ?_)
   have HE:=hid (show Az x s=({ x with op:=(gOp s).1 },(gOp s).2) by unfold Az;rw [KK.o];rfl)
   go_upto_region 21 with (fail)
   refine Aa 98 [63,64,65,101] [0,1,2,3] (fun a0 HA0=>?_)
   have c4:=ev HA0 0 rfl
   have c3:=ev HA0 3 rfl
   refine qmo rfl c4 ?_
   refine QSeq.call rfl rfl Tryz.func85 (cOp_G _ _ _ _ c6.out aL HLE.o) (fun E=>A0 (E.d 0 0)) ?_
   rintro e dk ⟨cn,rfl,qnw,qrd,hm⟩
   have HCN:=hid (OpR.len qnw)
   have HCO:=hid (OpR.one qnw)
   refine ⟨_,rfl,?_⟩
   have x6:=hid qnw
   have x7:=hid qrd
   have gq:=hm.size
   have o4:=hid (show Mod (fun k=>(R k)) w1 dk from hm)
   clear hm
   clear qnw qrd c6
   refine qfd rfl 248 B7 c3 ?_
   refine QSeq.go fun act E=>?_
   refine Ah rfl (Ab rfl) rfl (HB3.o.mod o4.out aH) (off:=248) (vs:=cn) fG HCO.o (by rw [C3,Bb,HLN.o];show 248+_≤295;rw [HCN.o];decide) (E.d 2 0) (ec (E.d 1 1)) ?_
   intro x8 qc0 hm
   have qB3:=qc0.eqv (b:=((Mg.segs ({ x with op:=(gOp s).1 }:Mg) c5 c10 c11 cn c18).flatten:List Value).toArray) ((A2 HLN.o 15 gE rfl).trans rfl)
   clear qc0
   have dl:=hid qB3
   have gr:=hm.size
   have o5:=hid hm
   have j4:=hid (AB (S':=(fun k=>(R k)∨(k=w.heap.size))) o4.out hm (fun _ h=>Or.inl h) aT)
   clear hm o4
   clear act E qB3 HB3
   have dm:=hid (x7.out.mod o5.out (sB HBR))
   have dp:=hid (x6.out.mod o5.out aE)
   clear x7 x6 o5
   refine qe ?_
   clear HA0 c4 c3 a0
   have hrz:MgR.rd (fun k=>R2 k∨New w1 x8 k) x8 ((Mg.segs ({ x with op:=(gOp s).1 }:Mg) c5 c10 c11 cn c18).flatten) ({ x with op:=(gOp s).1 }:Mg):=⟨_,_,_,_,_,rfl,{ HOK.o with },(c7.out.mod j4.out aA).widen (fun _ h=>Or.inl h),(c8.out.mod j4.out aA).widen (fun _ h=>Or.inl h),(c9.out.mod j4.out aA).widen (fun _ h=>Or.inl h),dp.out.widen fD,(d6.out.mod j4.out aA).widen (fun _ h=>Or.inl h)⟩
   have HRZ:=B5 hrz
   clear hrz
   go_wp2_with fail
   go_meet
   case rel=>exact ⟨_,_,_,HE.o,dl.out,HRZ.o,dm.out,(hmz.out.trans j4.out (fun _ _ h=>h))⟩
  have K10:=B5 h10
  clear h10
  go_upto_region 20 with (fail)
  refine tst 98 B6 (Bk K10.o) rfl (qs ?_)
  by_cases h11:x.kd=11
  ·have KK:=B5 h11
   clear h11
   go_upto_region 22 with (fail)
   refine tst 98 B6 (Bl KK.o) rfl (qs ?_)
   have HE:=hid (show Az x s=({ x with ix:=(gI s).1 },(gI s).2) by unfold Az;rw [KK.o];rfl)
   go_upto_region 23 with (fail)
   refine Aa 98 [68,69,70,101] [0,1,2,3] (fun a0 HA0=>?_)
   have c4:=ev HA0 0 rfl
   have c3:=ev HA0 3 rfl
   refine qmo rfl c4 ?_
   refine QSeq.call rfl rfl Tryz.func42 (cI_Q c6.out) (fun E=>An (E.d 0 0) rfl) ?_
   rintro e dq ⟨rfl,qrd,hm⟩
   refine ⟨_,rfl,?_⟩
   have x9:=hid qrd
   have gu:=hm.size
   have o6:=hid (show Mod (fun k=>(R k)) w1 dq from hm)
   clear hm
   clear qrd c6
   refine qfd rfl 212 B7 c3 ?_
   refine QSeq.go fun act E=>?_
   refine Ah rfl (Ab rfl) rfl (HB3.o.mod o6.out aH) (off:=212) (vs:=[Value.int .i64 (gI s).1]) aD one1 cP (E.d 2 0) (ec (E.d 1 1)) ?_
   intro y0 qc0 hm
   have qB3:=qc0.eqv (b:=((Mg.segs ({ x with ix:=(gI s).1 }:Mg) c5 c10 c11 c15 c18).flatten:List Value).toArray) ((A2 HLN.o 13 (rfl) rfl).trans rfl)
   clear qc0
   have dr:=hid qB3
   have gv:=hm.size
   have y5:=hid hm
   have g8:=hid (AB (S':=(fun k=>(R k)∨(k=w.heap.size))) o6.out hm (fun _ h=>Or.inl h) aT)
   clear hm o6
   clear act E qB3 HB3
   have dt:=hid (x9.out.mod y5.out (sB HBR))
   clear x9 y5
   refine qe ?_
   clear HA0 c4 c3 a0
   have hrz:MgR.rd (fun k=>R2 k∨New w1 y0 k) y0 ((Mg.segs ({ x with ix:=(gI s).1 }:Mg) c5 c10 c11 c15 c18).flatten) ({ x with ix:=(gI s).1 }:Mg):=⟨_,_,_,_,_,rfl,{ HOK.o with ix:=A9 _ },(c7.out.mod g8.out aA).widen (fun _ h=>Or.inl h),(c8.out.mod g8.out aA).widen (fun _ h=>Or.inl h),(c9.out.mod g8.out aA).widen (fun _ h=>Or.inl h),(d5.out.mod g8.out aA).widen (fun _ h=>Or.inl h),(d6.out.mod g8.out aA).widen (fun _ h=>Or.inl h)⟩
   have HRZ:=B5 hrz
   clear hrz
   go_wp2_with fail
   go_meet
   case rel=>exact ⟨_,_,_,HE.o,dr.out,HRZ.o,dt.out,(hmz.out.trans g8.out (fun _ _ h=>h))⟩
  have K11:=B5 h11
  clear h11
  go_upto_region 22 with (fail)
  refine tst 98 B6 (Bk K11.o) rfl (qs ?_)
  by_cases h12:x.kd=12
  ·have KK:=B5 h12
   clear h12
   go_upto_region 24 with (fail)
   refine tst 98 B6 (Bl KK.o) rfl (qs ?_)
   have HE:=hid (show Az x s=({ x with dn:=(gDn s).1 },(gDn s).2) by unfold Az;rw [KK.o];rfl)
   go_upto_region 25 with (fail)
   refine Aa 98 [73,74,75,101] [0,1,2,3] (fun a0 HA0=>?_)
   have c4:=ev HA0 0 rfl
   have c3:=ev HA0 3 rfl
   refine qmo rfl c4 ?_
   refine QSeq.call rfl rfl Tryz.func86 (cDn_Q _ _ _ _ c6.out aL) (fun E=>A0 (E.d 0 0)) ?_
   rintro e du ⟨rfl,qrd,hm⟩
   refine ⟨_,rfl,?_⟩
   have y6:=hid qrd
   have gx:=hm.size
   have o7:=hid (show Mod (fun k=>(R k)) w1 du from hm)
   clear hm
   clear qrd c6
   refine qfd rfl 282 B7 c3 ?_
   refine QSeq.go fun act E=>?_
   refine Ah rfl (Ab rfl) rfl (HB3.o.mod o7.out aH) (off:=282) (vs:=((gDn s).1.cells)) aD (Dn.one _) (by rw [C3,Bb,HLN.o];show 282+4≤295;decide) (E.d 2 0) (ec (E.d 1 1)) ?_
   intro y7 qc0 hm
   have qB3:=qc0.eqv (b:=((Mg.segs ({ x with dn:=(gDn s).1 }:Mg) c5 c10 c11 c15 c18).flatten:List Value).toArray) ((A2 HLN.o 16 rfl rfl).trans rfl)
   clear qc0
   have dv:=hid qB3
   have gy:=hm.size
   have y8:=hid hm
   have g9:=hid (AB (S':=(fun k=>(R k)∨(k=w.heap.size))) o7.out hm (fun _ h=>Or.inl h) aT)
   clear hm o7
   clear act E qB3 HB3
   have dw:=hid (y6.out.mod y8.out (sB HBR))
   clear y6 y8
   refine qe ?_
   clear HA0 c4 c3 a0
   have hrz:MgR.rd (fun k=>R2 k∨New w1 y7 k) y7 ((Mg.segs ({ x with dn:=(gDn s).1 }:Mg) c5 c10 c11 c15 c18).flatten) ({ x with dn:=(gDn s).1 }:Mg):=⟨_,_,_,_,_,rfl,{ HOK.o with dn:=gDn_OK HBY.o },(c7.out.mod g9.out aA).widen (fun _ h=>Or.inl h),(c8.out.mod g9.out aA).widen (fun _ h=>Or.inl h),(c9.out.mod g9.out aA).widen (fun _ h=>Or.inl h),(d5.out.mod g9.out aA).widen (fun _ h=>Or.inl h),(d6.out.mod g9.out aA).widen (fun _ h=>Or.inl h)⟩
   have HRZ:=B5 hrz
   clear hrz
   go_wp2_with fail
   go_meet
   case rel=>exact ⟨_,_,_,HE.o,dv.out,HRZ.o,dw.out,(hmz.out.trans g9.out (fun _ _ h=>h))⟩
  have K12:=B5 h12
  clear h12
  go_upto_region 24 with (fail)
  refine tst 98 B6 (Bk K12.o) rfl (qs ?_)
  by_cases h13:x.kd=13
  ·have KK:=B5 h13
   clear h13
   go_upto_region 26 with (fail)
   refine tst 98 B6 (Bl KK.o) rfl (qs ?_)
   have HE:=hid (show Az x s=({ x with ix:=(gI s).1,rp:=strOfNums (rRow 256 (gI s).2).1 },(rRow 256 (gI s).2).2) by unfold Az;rw [KK.o];rfl)
   go_upto_region 27 with (fail)
   generalize ha0:Act.mk _ _=a0
   have c4:a0.eval (.tmp 0)=.pointer (some ⟨r,0,none⟩):=by rw [← ha0];rfl
   have c3:a0.eval (.tmp 3)=.pointer (some ⟨w.heap.size,0,none⟩):=by rw [← ha0];rfl
   have hsz0:a0.tmps.size=98:=by rw [← ha0];rfl
   have HA0:=hid ha0
   clear ha0
   refine A8 98 hsz0 [78,79,80,81,82,83,104,84,106] (fun k=>(R k)∨(k=w.heap.size)) (fun k j=>(k=0∧((R j)))∨(k=1∧((R j)))∨(k=2∧((j=w.heap.size)))∨(k=3∧((j=w.heap.size)))) (by intro k j h;(try dsimp only at h ⊢);rcases h with ⟨-,h⟩|⟨-,h⟩|⟨-,h⟩|⟨-,h⟩;(exact Or.inl (h));(exact Or.inl (h));(exact Or.inr (h));(exact Or.inr (h))) [qi (.pointer (some ⟨r,0,none⟩)),qi (.int .i64 (gI s).1),qi (.pointer (some ⟨r,0,none⟩)),qx 1 w1.heap.size (fun k=>(R k)∨(k=w.heap.size)) (fun R w v=>RdR R ((rRow 256 (gI s).2).1).length w v (rRow 256 (gI s).2).1),qi (.string (strOfNums (rRow 256 (gI s).2).1)),qi (.pointer (some ⟨w.heap.size,212,none⟩)),qv 2,qi (.pointer (some ⟨w.heap.size,286,none⟩)),qv 3] ⟨Ad,Ad,Ad,(qx_stable (qr_stable rdR_cells)),Ad,Ad,Ar,Ad,Ar,trivial⟩ [1,3,6,8] ⟨?_,?_,?_,?_,?_,?_,?_,?_,?_,trivial⟩ ?_
   ·exact stq (fun E=>Al rfl (E.v c4))
   ·exact Ai rfl
   ·exact stq (fun E=>Al rfl (E.v c4))
   ·exact Ai rfl
   ·refine A5 rfl rfl rfl fun _ _ _ _ _ _ _ _ _ hd _ _=>?_
    obtain ⟨-,Rq,-,hrd⟩:=hd ⟨3,.data⟩ bD rfl _ rfl
    exact Bo rfl (Ab rfl) (ex_conv rfl rfl (bytes_string hrd.1)) QE.refl rfl
   ·exact stq (fun E=>Ae rfl B7 rfl aD (E.v c3))
   ·exact Ai rfl
   ·exact stq (fun E=>Ae rfl B7 rfl aD (E.v c3))
   ·exact Ai rfl
   intro gz hr
   have ia:=hr.size
   have z0:=hid (hr.new (S:=(fun k=>(R k)∨(k=w.heap.size))))
   have z7:=hid (c6.out.mod hr aO)
   clear c6
   have z9:=hid (HB3.o.mod hr aJ)
   clear HB3
   clear hr
   refine QChain.go fun Z act E=>?_
   refine Aq (args:=#[.pointer (some ⟨r,0,none⟩),.int .i64 1099511627776]) rfl (Ab rfl) rfl Tryz.func42 (An (E.d 0) rfl) (cI_Q z7.out) ?_
   rintro e ib ⟨rfl,qrd,hm⟩
   have ic:=hm.size
   refine ⟨_,rfl,hm.mono aX,(fun _=>rfl),?_⟩
   intro dx hr
   have ig:=hr.size
   have aa:=hid (qrd.mod hr aO)
   have hmr:=hm.two hr
   have ab:=hid (z9.out.mod hmr bL)
   clear z9
   clear hmr
   have ac:=hid (z0.out.goM hm hr eJ)
   clear z0 hm hr Z act E qrd z7
   refine QChain.goP fun Z act E=>?_
   refine Aq (args:=#[.pointer (some ⟨r,0,none⟩),.int .i64 256]) rfl (Ab rfl) rfl Tryz.func87 (An (E.d 2) rfl) (cRow_Q aa.out) ?_
   rintro e dy ⟨vr,rfl,qrow,qrd,hm⟩
   have ii:=hm.size
   refine ⟨_,rfl,hm.mono (by intro k hk h;first|omega|exact Or.inl ⟨bA,Or.inr (Or.inl ⟨rfl,h⟩)⟩),(fun Z hZ=>⟨rfl,New dx dy,fun j hj=>⟨by omega,fun h=>by omega,fun h=>by have hz:=hZ j h.2;(try dsimp only at hz);(try simp only [false_or] at hz);omega⟩,qrow⟩),?_⟩
   clear qrow
   intro ij hr
   have ik:=hr.size
   have ae:=hid (qrd.mod hr aO)
   have hmr:=hm.two hr
   have af:=hid (ab.out.mod hmr bL)
   clear ab
   clear hmr
   have ag:=hid (ac.out.goM hm hr eJ)
   clear ac hm hr Z act E qrd aa
   refine QChain.go fun Z act E=>?_
   refine Ah rfl (Ab rfl) rfl af.out (off:=212) (vs:=[Value.int .i64 (gI s).1]) aD one1 cP (E.d 5) (ec (E.d 1)) ?_
   intro il qc0 hm
   have qB3:=qc0.eqv (b:=((Mg.segs ({ x with ix:=(gI s).1 }:Mg) c5 c10 c11 c15 c18).flatten:List Value).toArray) ((A2 HLN.o 13 (rfl) rfl).trans rfl)
   clear qc0
   have im:=hm.size
   refine ⟨hm.mono bM,(fun _=>rfl),?_⟩
   intro io hr
   have ip:=hr.size
   have ah:=hid (qB3.mod hr aJ)
   have hmr:=hm.two hr
   have ai:=hid (ae.out.mod hmr aO)
   clear ae
   clear hmr
   have aj:=hid (ag.out.goM hm hr eJ)
   clear ag hm hr Z act E qB3 af
   refine QChain.go fun Z act E=>?_
   refine Ah rfl (Ab rfl) rfl ah.out (off:=286) (vs:=[Value.string (strOfNums (rRow 256 (gI s).2).1)]) aD one1 eY (E.d 7) (ec (E.d 4)) ?_
   intro iq qc0 hm
   have qB3:=qc0.eqv (b:=((Mg.segs ({ x with ix:=(gI s).1,rp:=strOfNums (rRow 256 (gI s).2).1 }:Mg) c5 c10 c11 c15 c18).flatten:List Value).toArray) ((A2 (show (Mg.segs ({ x with ix:=(gI s).1 }:Mg) c5 c10 c11 c15 c18).map List.length=mgN from HLN.o) 17 (rfl) rfl).trans rfl)
   clear qc0
   have ir:=hm.size
   refine ⟨hm.mono bM,(fun _=>rfl),?_⟩
   intro am hr
   have iu:=hr.size
   have dz:=hid (qB3.mod hr aJ)
   have hmr:=hm.two hr
   have eb:=hid (ai.out.mod hmr aO)
   clear ai
   clear hmr
   have i7:=hid (aj.out.goM hm hr eJ)
   clear aj hm hr Z act E qB3 ah
   refine QChain.nil fun vs hl hzz hrows hne=>?_
   obtain ⟨Z,hYZ,hZb,hV⟩:=hzz
   have f0:=fvi hV hl 0
   have f1:=fvi hV hl 1
   have f2:=fvi hV hl 2
   have k3:=hV 3 _ (getq hl aF)
   rw [show vs=[gw vs 0,gw vs 1,gw vs 2,gw vs 3,gw vs 4,gw vs 5,gw vs 6,gw vs 7,gw vs 8] from (Bv hl).trans rfl]
   have ha0:=HA0.o
   subst ha0
   clear HA0 hV hYZ hZb hsz0 hrows hne c4 c3
   simp only [Ax,Act.put,sIB,sCZ,sCS,List.set_nil,f0,f1,f2]
   clear hl f0 f1 f2
   have hrz:MgR.rd (fun k=>R2 k∨New w1 am k) am ((Mg.segs ({ x with ix:=(gI s).1,rp:=strOfNums (rRow 256 (gI s).2).1 }:Mg) c5 c10 c11 c15 c18).flatten) ({ x with ix:=(gI s).1,rp:=strOfNums (rRow 256 (gI s).2).1 }:Mg):=⟨_,_,_,_,_,rfl,{ HOK.o with ix:=A9 _ },(c7.out.mod i7.out aA).widen (fun _ h=>Or.inl h),(c8.out.mod i7.out aA).widen (fun _ h=>Or.inl h),(c9.out.mod i7.out aA).widen (fun _ h=>Or.inl h),(d5.out.mod i7.out aA).widen (fun _ h=>Or.inl h),(d6.out.mod i7.out aA).widen (fun _ h=>Or.inl h)⟩
   have HRZ:=B5 hrz
   clear hrz
   go_wp2_with fail
   go_meet
   case rel=>exact ⟨_,_,_,HE.o,dz.out,HRZ.o,eb.out,(hmz.out.trans i7.out (fun _ _ h=>h))⟩
  have K13:=B5 h13
  clear h13
  go_upto_region 26 with (fail)
  refine tst 98 B6 (Bk K13.o) rfl (qs ?_)
  by_cases h14:x.kd=14
  ·have KK:=B5 h14
   clear h14
   go_upto_region 28 with (fail)
   refine tst 98 B6 (Bl KK.o) rfl (qs ?_)
   have HE:=hid (show Az x s=({ x with dc:=(Dc.mk (gI s).1 (gI (gI s).2).1 (gBa (gI (gI s).2).2).1 (Av gVt (gBa (gI (gI s).2).2).2).1) },(Av gVt (gBa (gI (gI s).2).2).2).2) by unfold Az;rw [KK.o];rfl)
   go_upto_region 29 with (fail)
   refine Aa 98 [87,88,89,90,91,92,93,94,95,96,108] [0,1,2,3,4,5,6,7,8,9,10] (fun a0 HA0=>?_)
   have c4:=ev HA0 0 rfl
   have c3:=ev HA0 3 rfl
   refine qmo rfl c4 ?_
   refine QSeq.call rfl rfl Tryz.func42 (cI_Q c6.out) (fun E=>An (E.d 0 0) rfl) ?_
   rintro e ed ⟨rfl,qrd,hm⟩
   refine ⟨_,rfl,?_⟩
   have ap:=hid qrd
   have iv:=hm.size
   have aq:=hid (show Mod (fun k=>(R k)) w1 ed from hm)
   clear hm
   clear qrd c6
   refine qmo rfl c4 ?_
   refine QSeq.call rfl rfl Tryz.func42 (cI_Q ap.out) (fun E=>An (E.d 2 0) rfl) ?_
   rintro e ee ⟨rfl,qrd,hm⟩
   refine ⟨_,rfl,?_⟩
   have ar:=hid qrd
   have iw:=hm.size
   have eg:=hid hm
   have au:=hid (AB (S':=(fun k=>(R k))) aq.out hm (fun _ h=>h) aQ)
   clear hm aq
   clear qrd ap
   refine qmo rfl c4 ?_
   refine QSeq.call rfl rfl Tryz.func88 (cBa_G _ _ _ _ ar.out aL (C1 (gI_suf.len _) (C1 (gI_suf.len _) HLE.o))) (fun E=>A0 (E.d 4 0)) ?_
   rintro e av ⟨cb,rfl,qba,qrd,hm⟩
   obtain ⟨v1,v2,v3,rfl,hokb,qba,qbo,qbt⟩:=qba
   obtain ⟨aob0,capb0,rfl⟩:=qba.shape
   obtain ⟨aob1,capb1,rfl⟩:=qbo.shape
   obtain ⟨aob2,capb2,rfl⟩:=qbt.shape
   clear hokb
   refine ⟨_,rfl,?_⟩
   have aw:=hid qba
   have ax:=hid qrd
   have ay:=hid qbo
   have az:=hid qbt
   have iy:=hm.size
   have eh:=hid hm
   have bc:=hid (AB (S':=(fun k=>(R k))) au.out hm (fun _ h=>h) aQ)
   clear hm au
   clear qba qrd qbo qbt ar
   refine qmo rfl c4 ?_
   refine QSeq.call rfl rfl Tryz.func89 (cList_Vt _ _ _ _ ax.out aL (C1 (gBa_suf.len _) (C1 (gI_suf.len _) (C1 (gI_suf.len _) HLE.o)))) (fun E=>An (E.d 6 0) rfl) ?_
   rintro e ei ⟨vl,rfl,qvl,qrd,hm⟩
   obtain ⟨aol,capl,rfl⟩:=qvl.shape
   refine ⟨_,rfl,?_⟩
   have bf:=hid qvl
   have bg:=hid qrd
   have iz:=hm.size
   have j6:=hid hm
   have o8:=hid (AB (S':=(fun k=>(R k))) bc.out hm (fun _ h=>h) aQ)
   clear hm bc
   clear qvl qrd ax
   refine QSeq.go fun act E=>?_
   refine Br rfl (Ab rfl) (v:=.agg (((Dc.mk (gI s).1 (gI (gI s).2).1 (gBa (gI (gI s).2).2).1 (Av gVt (gBa (gI (gI s).2).2).2).1).cells (Value.slice aob0 (gBa (gI (gI s).2).2).1.ps.length capb0) (Value.slice aob1 (gBa (gI (gI s).2).2).1.os.length capb1) (Value.slice aob2 (gBa (gI (gI s).2).2).1.ts.length capb2) (Value.slice aol (Av gVt (gBa (gI (gI s).2).2).2).1.length capl)):List Value).toArray) (Bj rfl (z:=[.int .i64 0,.int .i64 0,.int .i64 0,.int .u64 0,.slice none 0 0,.slice none 0 0,.slice none 0 0,.slice none 0 0]) (places:=[(0,1),(1,1),(2,5),(7,1)]) aD (parts:=[(0,.int .i64 (gI s).1),(1,.int .i64 (gI (gI s).2).1),(2,.agg #[.int .i64 (gBa (gI (gI s).2).2).1.ep,.int .u64 ((gBa (gI (gI s).2).2).1.tm:Nat),Value.slice aob0 (gBa (gI (gI s).2).2).1.ps.length capb0,Value.slice aob1 (gBa (gI (gI s).2).2).1.os.length capb1,Value.slice aob2 (gBa (gI (gI s).2).2).1.ts.length capb2]),(3,.slice aol (Av gVt (gBa (gI (gI s).2).2).2).1.length capl)]) (by simp only [C7,C9,D0,show act.eval (.tmp 88)=.int .i64 (gI s).1 from (E.d 1 6),show act.eval (.tmp 90)=.int .i64 (gI (gI s).2).1 from (E.d 3 4),show act.eval (.tmp 92)=.agg #[.int .i64 (gBa (gI (gI s).2).2).1.ep,.int .u64 ((gBa (gI (gI s).2).2).1.tm:Nat),Value.slice aob0 (gBa (gI (gI s).2).2).1.ps.length capb0,Value.slice aob1 (gBa (gI (gI s).2).2).1.os.length capb1,Value.slice aob2 (gBa (gI (gI s).2).2).1.ts.length capb2] from (E.d 5 2),show act.eval (.tmp 94)=.slice aol (Av gVt (gBa (gI (gI s).2).2).2).1.length capl from (E.d 7 0)];try rfl) (r:=((Dc.mk (gI s).1 (gI (gI s).2).1 (gBa (gI (gI s).2).2).1 (Av gVt (gBa (gI (gI s).2).2).2).1).cells (Value.slice aob0 (gBa (gI (gI s).2).2).1.ps.length capb0) (Value.slice aob1 (gBa (gI (gI s).2).2).1.os.length capb1) (Value.slice aob2 (gBa (gI (gI s).2).2).1.ts.length capb2) (Value.slice aol (Av gVt (gBa (gI (gI s).2).2).2).1.length capl))) (by exact Bi (ns:=[1,1,5,1]) rfl [(0,.int .i64 (gI s).1),(1,.int .i64 (gI (gI s).2).1),(2,.agg #[.int .i64 (gBa (gI (gI s).2).2).1.ep,.int .u64 ((gBa (gI (gI s).2).2).1.tm:Nat),Value.slice aob0 (gBa (gI (gI s).2).2).1.ps.length capb0,Value.slice aob1 (gBa (gI (gI s).2).2).1.os.length capb1,Value.slice aob2 (gBa (gI (gI s).2).2).1.ts.length capb2]),(3,.slice aol (Av gVt (gBa (gI (gI s).2).2).2).1.length capl)] [[.int .i64 0],[.int .i64 0],[.int .i64 0,.int .u64 0,.slice none 0 0,.slice none 0 0,.slice none 0 0],[.slice none 0 0]] rfl ⟨rfl,rfl,rfl,rfl,trivial⟩)) ?_
   clear act E
   refine qfd rfl 287 B7 c3 ?_
   refine QSeq.go fun act E=>?_
   refine Ah rfl (Ab rfl) rfl (HB3.o.mod o8.out aH) (off:=287) (vs:=((Dc.mk (gI s).1 (gI (gI s).2).1 (gBa (gI (gI s).2).2).1 (Av gVt (gBa (gI (gI s).2).2).2).1).cells (Value.slice aob0 (gBa (gI (gI s).2).2).1.ps.length capb0) (Value.slice aob1 (gBa (gI (gI s).2).2).1.os.length capb1) (Value.slice aob2 (gBa (gI (gI s).2).2).1.ts.length capb2) (Value.slice aol (Av gVt (gBa (gI (gI s).2).2).2).1.length capl))) aD fK (by rw [C3,Bb,HLN.o];show 287+8≤295;decide) (E.d 9 0) (ec (E.d 8 1)) ?_
   intro o9 qc0 hm
   have qB3:=qc0.eqv (b:=((Mg.segs ({ x with dc:=(Dc.mk (gI s).1 (gI (gI s).2).1 (gBa (gI (gI s).2).2).1 (Av gVt (gBa (gI (gI s).2).2).2).1) }:Mg) c5 c10 c11 c15 ((Dc.mk (gI s).1 (gI (gI s).2).1 (gBa (gI (gI s).2).2).1 (Av gVt (gBa (gI (gI s).2).2).2).1).cells (Value.slice aob0 (gBa (gI (gI s).2).2).1.ps.length capb0) (Value.slice aob1 (gBa (gI (gI s).2).2).1.os.length capb1) (Value.slice aob2 (gBa (gI (gI s).2).2).1.ts.length capb2) (Value.slice aol (Av gVt (gBa (gI (gI s).2).2).2).1.length capl))).flatten:List Value).toArray) ((A2 HLN.o 18 (rfl) rfl).trans rfl)
   clear qc0
   have ej:=hid qB3
   have ja:=hm.size
   have i8:=hid hm
   have j5:=hid (AB (S':=(fun k=>(R k)∨(k=w.heap.size))) o8.out hm (fun _ h=>Or.inl h) aT)
   clear hm o8
   clear act E qB3 HB3
   have eo:=hid (bg.out.mod i8.out (sB HBR))
   have eq:=hid ((aw.out.mod j6.out aV).mod i8.out aE)
   have er:=hid ((ay.out.mod j6.out aV).mod i8.out aE)
   have et:=hid ((az.out.mod j6.out aV).mod i8.out aE)
   have eu:=hid (bf.out.mod i8.out aE)
   clear bg aw ay az bf eg eh j6 i8
   refine qe ?_
   clear HA0 c4 c3 a0
   have HDN:=hid (show DcR.rd (fun k=>(New ee av k)∨(New av ei k)) o9 ((Dc.mk (gI s).1 (gI (gI s).2).1 (gBa (gI (gI s).2).2).1 (Av gVt (gBa (gI (gI s).2).2).2).1).cells (Value.slice aob0 (gBa (gI (gI s).2).2).1.ps.length capb0) (Value.slice aob1 (gBa (gI (gI s).2).2).1.os.length capb1) (Value.slice aob2 (gBa (gI (gI s).2).2).1.ts.length capb2) (Value.slice aol (Av gVt (gBa (gI (gI s).2).2).2).1.length capl)) (Dc.mk (gI s).1 (gI (gI s).2).1 (gBa (gI (gI s).2).2).1 (Av gVt (gBa (gI (gI s).2).2).2).1) from ⟨_,_,_,_,rfl,⟨A9 _,A9 _,gBa_OK (gI_suf.bytes (gI_suf.bytes HBY.o))⟩,eq.out.widen bB,er.out.widen bB,et.out.widen bB,eu.out.widen bB⟩)
   have hrz:MgR.rd (fun k=>R2 k∨New w1 o9 k) o9 ((Mg.segs ({ x with dc:=(Dc.mk (gI s).1 (gI (gI s).2).1 (gBa (gI (gI s).2).2).1 (Av gVt (gBa (gI (gI s).2).2).2).1) }:Mg) c5 c10 c11 c15 ((Dc.mk (gI s).1 (gI (gI s).2).1 (gBa (gI (gI s).2).2).1 (Av gVt (gBa (gI (gI s).2).2).2).1).cells (Value.slice aob0 (gBa (gI (gI s).2).2).1.ps.length capb0) (Value.slice aob1 (gBa (gI (gI s).2).2).1.os.length capb1) (Value.slice aob2 (gBa (gI (gI s).2).2).1.ts.length capb2) (Value.slice aol (Av gVt (gBa (gI (gI s).2).2).2).1.length capl))).flatten) ({ x with dc:=(Dc.mk (gI s).1 (gI (gI s).2).1 (gBa (gI (gI s).2).2).1 (Av gVt (gBa (gI (gI s).2).2).2).1) }:Mg):=⟨_,_,_,_,_,rfl,{ HOK.o with },(c7.out.mod j5.out aA).widen (fun _ h=>Or.inl h),(c8.out.mod j5.out aA).widen (fun _ h=>Or.inl h),(c9.out.mod j5.out aA).widen (fun _ h=>Or.inl h),(d5.out.mod j5.out aA).widen (fun _ h=>Or.inl h),HDN.o.widen aI⟩
   have HRZ:=B5 hrz
   clear hrz
   go_wp2_with fail
   go_meet
   case rel=>exact ⟨_,_,_,HE.o,ej.out,HRZ.o,eo.out,(hmz.out.trans j5.out (fun _ _ h=>h))⟩
  have K14:=B5 h14
  clear h14
  go_upto_region 28 with (fail)
  refine tst 98 B6 (Bk K14.o) rfl (qs ?_)
  have HE:=hid (show Az x s=(x,s) by unfold Az;rw [if_neg K1.o,if_neg K2.o,if_neg K3.o,if_neg K4.o,if_neg K5.o,if_neg K6.o,if_neg K7.o,if_neg K8.o,if_neg K9.o,if_neg K10.o,if_neg K11.o,if_neg K12.o,if_neg K13.o,if_neg K14.o])
  have hrz:MgR.rd (fun k=>R2 k∨New w1 w1 k) w1 ((Mg.segs x c5 c10 c11 c15 c18).flatten) x:=⟨_,_,_,_,_,rfl,HOK.o,c7.out.widen (fun _ h=>Or.inl h),c8.out.widen (fun _ h=>Or.inl h),c9.out.widen (fun _ h=>Or.inl h),d5.out.widen (fun _ h=>Or.inl h),d6.out.widen (fun _ h=>Or.inl h)⟩
  have HRZ:=B5 hrz
  clear hrz
  go_wp2_with fail
  go_meet
  case rel=>exact ⟨_,_,_,HE.o,HB3.o,HRZ.o,c6.out,hmz.out⟩
 case rest=>
  obtain ⟨wq,rfl⟩:∃ x,x=wc:=⟨_,rfl⟩
  obtain ⟨y,st,cz,he,hb,hrz,hrd,hm⟩:=hcut
  have zwq:=hm.size
  have HE:=B5 he
  have HBZ:=B5 hb
  have HRM:=B5 hrz
  have HSZ:=hid (MgR.len hrz)
  have HON:=hid (MgR.one hrz)
  have HRD2:=B5 hrd
  clear he hb hrz hrd
  clear c7
  clear c8
  clear c9
  clear d5
  clear d6
  clear HB3
  clear c6
  have bh:=hid (HB4.o.mod hm bL)
  have ew:=hid (HM0.o.trans hm aC)
  clear HB4 HM0
  clear hm
  go_upto_region 30 with (fail)
  refine Aa 98 [97,99] [0,1] (fun a0 HA0=>?_)
  have c3:=ev HA0 3 rfl
  have bi:=ev HA0 4 rfl
  refine QSeq.pure rfl _ (fun E=>Aj rfl B7 rfl (off:=0) (cs:=cz) bX (E.v c3) (Cs.whole HBZ.o)) ?_
  refine QSeq.go fun act E=>?_
  refine Ah rfl (Ab rfl) rfl bh.out (off:=0) (vs:=cz) bX HON.o dQ (E.v bi) (ec (E.d 0 0)) ?_
  intro ex qc0 hm
  have qB4:=qc0.eqv (b:=(cz:List Value).toArray) (Ap _ _ gD)
  clear qc0
  have ey:=hid qB4
  have jb:=hm.size
  have p4:=hid (show Mod (fun k=>(k=w.heap.size+1)) wq ex from hm)
  clear hm
  clear act E qB4 bh
  refine qe ?_
  clear HA0 c3 bi a0
  go_wp2
  exact bodyPost_ret (Au rfl _ _ (w.heap.size+1) cz rfl (fun k u hu=>by rw [ey.out.cell];simpa using hu) B7 rfl bX) rfl ⟨_,rfl,by rw [HE.o];exact (HRM.o.mod p4.out aB).widen aI,by rw [HE.o];exact (HRD2.o.mod p4.out (sB HBR)),(ew.out.trans p4.out cT)⟩
theorem bytesOf_str {b:List Int} (h:Bytes b):Bw (strOfNums b)=b:=by
 unfold Bw strOfNums
 simp only [List.map_map]
 conv=>rhs;rw [← List.map_id b]
 refine List.map_congr_left fun x hx=>?_
 have:=h x hx
 simp only [Function.comp,UInt8.toNat_ofNat',id]
 omega
theorem str_bytesOf (s:ByteArray):strOfNums (Bw s)=s:=by
 unfold Bw strOfNums
 congr 1
 simp only [List.map_map]
 apply Array.toList_inj.1
 show List.map _ s.data.toList=s.data.toList
 conv=>rhs;rw [← List.map_id s.data.toList]
 refine List.map_congr_left fun x hx=>?_
 simp [Function.comp]
theorem rNum_de2:De rNum (Was encN (· < U64)):=rNum_de
theorem rRowB_de:De (rRow 256) (Was (fun b=>encN b.length ++ b) (fun b=>(b.length:Int)≤256∧Bytes b)):=by
 intro s r h
 obtain ⟨l,rfl,h2⟩:=rRow_de 256 aF s r h
 refine ⟨l,rfl,fun hb=>?_⟩
 obtain ⟨h3,h4⟩:=h2 hb
 exact ⟨h3,h4,fun x hx=>hb x (by rw [h3];simp [hx])⟩
def PrOk (x:Pr):Prop:=UpI x.ep∧UpI x.rn∧UpI (x.vl+1)∧UpI x.rp∧BaOk x.ba∧UpI x.sb∧UpI x.mr
theorem vl_wrap {v:Int} (h:UpI (v+1)):IntKind.i64.wrap (v+1)=v+1:=IntWalk.i64_in _ (by unfold UpI at h;omega)
theorem gPr_ed:Ed gPr prB PrOk:=by
 intro x r h
 obtain ⟨he,hn,hv,hp,hb,h1,h2⟩:=h
 obtain ⟨ep,rn,vl,rp,ba,sb,mr⟩:=x
 simp only [gPr,gb,prB,← sgB_sig,B8,vl_wrap hv,gI_ed _ _ he,gI_ed _ _ hn,gI_ed _ _ hv,gI_ed _ _ hp,gBa_ed _ _ hb,gSig_ed (sb,mr) _ ⟨h1,h2⟩]
 congr 2
 omega
theorem gPr_de:De gPr (Was prB PrOk):=by
 refine (De.bind gI_de fun _=>De.bind gI_de fun _=>De.bind gI_de fun _=>De.bind gI_de fun _=>De.bind gBa_de fun _=>De.bind gSig_de fun _=>De.pure _).mono ?_
 rintro y l r ⟨a0,l0,h0,rfl,a1,l1,h1,rfl,a2,l2,h2,rfl,a3,l3,h3,rfl,a4,l4,h4,rfl,a5,l5,h5,rfl,rfl,rfl⟩
 have e:a2 - 1+1=a2:=by omega
 have h2':UpI (a2 - 1+1):=by rw [e];exact h2
 refine ⟨?_,h0,h1,h2',h3,h4,h5.1,h5.2⟩
 have e2:IntKind.i64.wrap (a2 - 1+1)=a2:=(vl_wrap h2').trans e
 simp only [prB,← sgB_sig,B8,e2]
/-- what a message's kind names is within bounds -/
def Bu (x:Mg):Prop:=
 if x.kd=1 then CmOk x.cm else
 if x.kd=2 then StOk x.st else
 if x.kd=3 then CeOk x.ce else
 if x.kd=4 then StOk x.ak else
 if x.kd=5 then UpI x.ep∧UpI x.rn∧x.tm < U64 else
 if x.kd=6 then PmOk x.pm else
 if x.kd=7 then PrOk x.pr else
 if x.kd=8 then VtOk x.vt else
 if x.kd=9 then UpI x.ix∧EnOk x.en else
 if x.kd=10 then OpOk x.op else
 if x.kd=11 then UpI x.ix else
 if x.kd=12 then DnOk x.dn else
 if x.kd=13 then UpI x.ix∧((Bw x.rp).length:Int)≤256 else
 if x.kd=14 then UpI x.dc.ep∧UpI x.dc.rn∧BaOk x.dc.ba∧listOk VtOk x.dc.l else
 True
theorem bodyOk_de (m:Mg):De (Az m) (fun y l r=>l=Bd y ++ r∧Bu y∧y.kd=m.kd∧y.fr=m.fr∧y.to=m.to):=by
 by_cases h1:m.kd=1
 ·rw [show Az m=gb gCm (fun a0 s=>({ m with cm:=a0 },s)) from funext fun s=>by unfold Az;rw [if_pos h1]]
  refine (De.bind gCm_de fun _=>De.pure _).mono ?_
  rintro y l r ⟨a0,l0,k0,rfl,rfl,rfl⟩
  refine ⟨?_,?_,rfl,rfl,rfl⟩
  ·rw [show Bd _=cmB a0 by unfold Bd;dsimp only;rw [h1];rfl]
  ·rw [show Bu _=(CmOk a0) by unfold Bu;dsimp only;rw [h1];rfl]
   exact k0
 by_cases h2:m.kd=2
 ·rw [show Az m=gb gSt (fun a0 s=>({ m with st:=a0 },s)) from funext fun s=>by unfold Az;rw [if_neg h1,if_pos h2]]
  refine (De.bind gSt_de fun _=>De.pure _).mono ?_
  rintro y l r ⟨a0,l0,k0,rfl,rfl,rfl⟩
  refine ⟨?_,?_,rfl,rfl,rfl⟩
  ·rw [show Bd _=stB a0 by unfold Bd;dsimp only;rw [h2];rfl]
  ·rw [show Bu _=(StOk a0) by unfold Bu;dsimp only;rw [h2];rfl]
   exact k0
 by_cases h3:m.kd=3
 ·rw [show Az m=gb gCe (fun a0 s=>({ m with ce:=a0 },s)) from funext fun s=>by unfold Az;rw [if_neg h1,if_neg h2,if_pos h3]]
  refine (De.bind gCe_de fun _=>De.pure _).mono ?_
  rintro y l r ⟨a0,l0,k0,rfl,rfl,rfl⟩
  refine ⟨?_,?_,rfl,rfl,rfl⟩
  ·rw [show Bd _=ceB a0 by unfold Bd;dsimp only;rw [h3];rfl]
  ·rw [show Bu _=(CeOk a0) by unfold Bu;dsimp only;rw [h3];rfl]
   exact k0
 by_cases h4:m.kd=4
 ·rw [show Az m=gb gSt (fun a0 s=>({ m with ak:=a0 },s)) from funext fun s=>by unfold Az;rw [if_neg h1,if_neg h2,if_neg h3,if_pos h4]]
  refine (De.bind gSt_de fun _=>De.pure _).mono ?_
  rintro y l r ⟨a0,l0,k0,rfl,rfl,rfl⟩
  refine ⟨?_,?_,rfl,rfl,rfl⟩
  ·rw [show Bd _=stB a0 by unfold Bd;dsimp only;rw [h4];rfl]
  ·rw [show Bu _=(StOk a0) by unfold Bu;dsimp only;rw [h4];rfl]
   exact k0
 by_cases h5:m.kd=5
 ·rw [show Az m=gb gI (fun a0=>gb gI (fun a1=>gb rNum (fun a2 s=>({ m with ep:=a0,rn:=a1,tm:=a2 },s)))) from funext fun s=>by unfold Az;rw [if_neg h1,if_neg h2,if_neg h3,if_neg h4,if_pos h5]]
  refine (De.bind gI_de fun _=>De.bind gI_de fun _=>De.bind rNum_de2 fun _=>De.pure _).mono ?_
  rintro y l r ⟨a0,l0,k0,rfl,a1,l1,k1,rfl,a2,l2,k2,rfl,rfl,rfl⟩
  refine ⟨?_,?_,rfl,rfl,rfl⟩
  ·rw [show Bd _=encI a0 ++ encI a1 ++ encN a2 by unfold Bd;dsimp only;rw [h5];rfl]
   simp only [B8]
  ·rw [show Bu _=(UpI a0∧UpI a1∧a2 < U64) by unfold Bu;dsimp only;rw [h5];rfl]
   exact ⟨k0,k1,k2⟩
 by_cases h6:m.kd=6
 ·rw [show Az m=gb gPm (fun a0 s=>({ m with pm:=a0 },s)) from funext fun s=>by unfold Az;rw [if_neg h1,if_neg h2,if_neg h3,if_neg h4,if_neg h5,if_pos h6]]
  refine (De.bind gPm_de fun _=>De.pure _).mono ?_
  rintro y l r ⟨a0,l0,k0,rfl,rfl,rfl⟩
  refine ⟨?_,?_,rfl,rfl,rfl⟩
  ·rw [show Bd _=pmB a0 by unfold Bd;dsimp only;rw [h6];rfl]
  ·rw [show Bu _=(PmOk a0) by unfold Bu;dsimp only;rw [h6];rfl]
   exact k0
 by_cases h7:m.kd=7
 ·rw [show Az m=gb gPr (fun a0 s=>({ m with pr:=a0 },s)) from funext fun s=>by unfold Az;rw [if_neg h1,if_neg h2,if_neg h3,if_neg h4,if_neg h5,if_neg h6,if_pos h7]]
  refine (De.bind gPr_de fun _=>De.pure _).mono ?_
  rintro y l r ⟨a0,l0,k0,rfl,rfl,rfl⟩
  refine ⟨?_,?_,rfl,rfl,rfl⟩
  ·rw [show Bd _=prB a0 by unfold Bd;dsimp only;rw [h7];rfl]
  ·rw [show Bu _=(PrOk a0) by unfold Bu;dsimp only;rw [h7];rfl]
   exact k0
 by_cases h8:m.kd=8
 ·rw [show Az m=gb gVt (fun a0 s=>({ m with vt:=a0 },s)) from funext fun s=>by unfold Az;rw [if_neg h1,if_neg h2,if_neg h3,if_neg h4,if_neg h5,if_neg h6,if_neg h7,if_pos h8]]
  refine (De.bind gVt_de fun _=>De.pure _).mono ?_
  rintro y l r ⟨a0,l0,k0,rfl,rfl,rfl⟩
  refine ⟨?_,?_,rfl,rfl,rfl⟩
  ·rw [show Bd _=vtB a0 by unfold Bd;dsimp only;rw [h8];rfl]
  ·rw [show Bu _=(VtOk a0) by unfold Bu;dsimp only;rw [h8];rfl]
   exact k0
 by_cases h9:m.kd=9
 ·rw [show Az m=gb gI (fun a0=>gb gEn (fun a1 s=>({ m with ix:=a0,en:=a1 },s))) from funext fun s=>by unfold Az;rw [if_neg h1,if_neg h2,if_neg h3,if_neg h4,if_neg h5,if_neg h6,if_neg h7,if_neg h8,if_pos h9]]
  refine (De.bind gI_de fun _=>De.bind gEn_de fun _=>De.pure _).mono ?_
  rintro y l r ⟨a0,l0,k0,rfl,a1,l1,k1,rfl,rfl,rfl⟩
  refine ⟨?_,?_,rfl,rfl,rfl⟩
  ·rw [show Bd _=encI a0 ++ enB a1 by unfold Bd;dsimp only;rw [h9];rfl]
   simp only [B8]
  ·rw [show Bu _=(UpI a0∧EnOk a1) by unfold Bu;dsimp only;rw [h9];rfl]
   exact ⟨k0,k1⟩
 by_cases h10:m.kd=10
 ·rw [show Az m=gb gOp (fun a0 s=>({ m with op:=a0 },s)) from funext fun s=>by unfold Az;rw [if_neg h1,if_neg h2,if_neg h3,if_neg h4,if_neg h5,if_neg h6,if_neg h7,if_neg h8,if_neg h9,if_pos h10]]
  refine (De.bind gOp_de fun _=>De.pure _).mono ?_
  rintro y l r ⟨a0,l0,k0,rfl,rfl,rfl⟩
  refine ⟨?_,?_,rfl,rfl,rfl⟩
  ·rw [show Bd _=opB a0 by unfold Bd;dsimp only;rw [h10];rfl]
  ·rw [show Bu _=(OpOk a0) by unfold Bu;dsimp only;rw [h10];rfl]
   exact k0
 by_cases h11:m.kd=11
 ·rw [show Az m=gb gI (fun a0 s=>({ m with ix:=a0 },s)) from funext fun s=>by unfold Az;rw [if_neg h1,if_neg h2,if_neg h3,if_neg h4,if_neg h5,if_neg h6,if_neg h7,if_neg h8,if_neg h9,if_neg h10,if_pos h11]]
  refine (De.bind gI_de fun _=>De.pure _).mono ?_
  rintro y l r ⟨a0,l0,k0,rfl,rfl,rfl⟩
  refine ⟨?_,?_,rfl,rfl,rfl⟩
  ·rw [show Bd _=encI a0 by unfold Bd;dsimp only;rw [h11];rfl]
  ·rw [show Bu _=(UpI a0) by unfold Bu;dsimp only;rw [h11];rfl]
   exact k0
 by_cases h12:m.kd=12
 ·rw [show Az m=gb gDn (fun a0 s=>({ m with dn:=a0 },s)) from funext fun s=>by unfold Az;rw [if_neg h1,if_neg h2,if_neg h3,if_neg h4,if_neg h5,if_neg h6,if_neg h7,if_neg h8,if_neg h9,if_neg h10,if_neg h11,if_pos h12]]
  refine (De.bind gDn_de fun _=>De.pure _).mono ?_
  rintro y l r ⟨a0,l0,k0,rfl,rfl,rfl⟩
  refine ⟨?_,?_,rfl,rfl,rfl⟩
  ·rw [show Bd _=dnB a0 by unfold Bd;dsimp only;rw [h12];rfl]
  ·rw [show Bu _=(DnOk a0) by unfold Bu;dsimp only;rw [h12];rfl]
   exact k0
 by_cases h13:m.kd=13
 ·rw [show Az m=gb gI (fun a0=>gb (rRow 256) (fun a1 s=>({ m with ix:=a0,rp:=strOfNums a1 },s))) from funext fun s=>by unfold Az;rw [if_neg h1,if_neg h2,if_neg h3,if_neg h4,if_neg h5,if_neg h6,if_neg h7,if_neg h8,if_neg h9,if_neg h10,if_neg h11,if_neg h12,if_pos h13]]
  refine (De.bind gI_de fun _=>De.bind rRowB_de fun _=>De.pure _).mono ?_
  rintro y l r ⟨a0,l0,k0,rfl,a1,l1,k1,rfl,rfl,rfl⟩
  refine ⟨?_,?_,rfl,rfl,rfl⟩
  ·rw [show Bd _=encI a0 ++ (encN (Bw (strOfNums a1)).length ++ Bw (strOfNums a1)) by unfold Bd;dsimp only;rw [h13];rfl]
   simp only [B8,bytesOf_str k1.2]
  ·rw [show Bu _=(UpI a0∧((Bw (strOfNums a1)).length:Int)≤256) by unfold Bu;dsimp only;rw [h13];rfl]
   exact ⟨k0,by rw [bytesOf_str k1.2];exact k1.1⟩
 by_cases h14:m.kd=14
 ·rw [show Az m=gb gI (fun a0=>gb gI (fun a1=>gb gBa (fun a2=>gb (Av gVt) (fun a3 s=>({ m with dc:=⟨a0,a1,a2,a3⟩ },s))))) from funext fun s=>by unfold Az;rw [if_neg h1,if_neg h2,if_neg h3,if_neg h4,if_neg h5,if_neg h6,if_neg h7,if_neg h8,if_neg h9,if_neg h10,if_neg h11,if_neg h12,if_neg h13,if_pos h14]]
  refine (De.bind gI_de fun _=>De.bind gI_de fun _=>De.bind gBa_de fun _=>De.bind (gList_de gVt_de) fun _=>De.pure _).mono ?_
  rintro y l r ⟨a0,l0,k0,rfl,a1,l1,k1,rfl,a2,l2,k2,rfl,a3,l3,k3,rfl,rfl,rfl⟩
  refine ⟨?_,?_,rfl,rfl,rfl⟩
  ·rw [show Bd _=dcB ⟨a0,a1,a2,a3⟩ by unfold Bd;dsimp only;rw [h14];rfl]
   simp only [dcB,B8]
  ·rw [show Bu _=(UpI a0∧UpI a1∧BaOk a2∧listOk VtOk a3) by unfold Bu;dsimp only;rw [h14];rfl]
   exact ⟨k0,k1,k2,k3⟩
 rw [show Az m=fun s=>(m,s) from funext fun s=>by unfold Az;rw [if_neg h1,if_neg h2,if_neg h3,if_neg h4,if_neg h5,if_neg h6,if_neg h7,if_neg h8,if_neg h9,if_neg h10,if_neg h11,if_neg h12,if_neg h13,if_neg h14]]
 refine (De.pure m).mono ?_
 rintro y l r ⟨rfl,rfl⟩
 refine ⟨?_,?_,rfl,rfl,rfl⟩
 ·unfold Bd;rw [if_neg h1,if_neg h2,if_neg h3,if_neg h4,if_neg h5,if_neg h6,if_neg h7,if_neg h8,if_neg h9,if_neg h10,if_neg h11,if_neg h12,if_neg h13,if_neg h14];rfl
 ·unfold Bu;rw [if_neg h1,if_neg h2,if_neg h3,if_neg h4,if_neg h5,if_neg h6,if_neg h7,if_neg h8,if_neg h9,if_neg h10,if_neg h11,if_neg h12,if_neg h13,if_neg h14];trivial
def MgOk (x:Mg):Prop:=UpI x.kd∧UpI x.fr∧UpI x.to∧Bu x
/-- what is read was packed so -/
theorem gMg_de:De gMg (Was packB MgOk):=by
 refine (De.bind gI_de fun _=>De.bind gI_de fun _=>De.bind gI_de fun _=>bodyOk_de _).mono ?_
 rintro y l r ⟨a0,l0,k0,rfl,a1,l1,k1,rfl,a2,l2,k2,rfl,rfl,hb,e1,e2,e3⟩
 refine ⟨?_,by rw [e1];exact k0,by rw [e2];exact k1,by rw [e3];exact k2,hb⟩
 simp only [packB,e1,e2,e3,B8]
theorem gBody_ed (x:Mg) (r:List Int) (h:Bu x) (hk:okKd x.kd=true):Az (mg0 x.kd x.fr x.to) (some (Bd x ++ r))=(B4 x,some r):=by
 have hq:1≤x.kd∧x.kd≤14:=by unfold okKd at hk;simpa using hk
 unfold Bu at h
 unfold Az Bd B4
 by_cases h1:x.kd=1
 ·rw [if_pos h1] at h
  have k0:=h
  rw [if_pos h1,if_pos (show (mg0 x.kd x.fr x.to).kd=1 from h1),if_pos h1]
  simp only [gb,B8,gCm_ed _ _ k0]
 by_cases h2:x.kd=2
 ·rw [if_neg h1,if_pos h2] at h
  have k0:=h
  rw [if_neg h1,if_pos h2,if_neg (show ¬ (mg0 x.kd x.fr x.to).kd=1 from h1),if_pos (show (mg0 x.kd x.fr x.to).kd=2 from h2),if_neg h1,if_pos h2]
  simp only [gb,B8,gSt_ed _ _ k0]
 by_cases h3:x.kd=3
 ·rw [if_neg h1,if_neg h2,if_pos h3] at h
  have k0:=h
  rw [if_neg h1,if_neg h2,if_pos h3,if_neg (show ¬ (mg0 x.kd x.fr x.to).kd=1 from h1),if_neg (show ¬ (mg0 x.kd x.fr x.to).kd=2 from h2),if_pos (show (mg0 x.kd x.fr x.to).kd=3 from h3),if_neg h1,if_neg h2,if_pos h3]
  simp only [gb,B8,gCe_ed _ _ k0]
 by_cases h4:x.kd=4
 ·rw [if_neg h1,if_neg h2,if_neg h3,if_pos h4] at h
  have k0:=h
  rw [if_neg h1,if_neg h2,if_neg h3,if_pos h4,if_neg (show ¬ (mg0 x.kd x.fr x.to).kd=1 from h1),if_neg (show ¬ (mg0 x.kd x.fr x.to).kd=2 from h2),if_neg (show ¬ (mg0 x.kd x.fr x.to).kd=3 from h3),if_pos (show (mg0 x.kd x.fr x.to).kd=4 from h4),if_neg h1,if_neg h2,if_neg h3,if_pos h4]
  simp only [gb,B8,gSt_ed _ _ k0]
 by_cases h5:x.kd=5
 ·rw [if_neg h1,if_neg h2,if_neg h3,if_neg h4,if_pos h5] at h
  obtain ⟨k0,k1,k2⟩:=h
  rw [if_neg h1,if_neg h2,if_neg h3,if_neg h4,if_pos h5,if_neg (show ¬ (mg0 x.kd x.fr x.to).kd=1 from h1),if_neg (show ¬ (mg0 x.kd x.fr x.to).kd=2 from h2),if_neg (show ¬ (mg0 x.kd x.fr x.to).kd=3 from h3),if_neg (show ¬ (mg0 x.kd x.fr x.to).kd=4 from h4),if_pos (show (mg0 x.kd x.fr x.to).kd=5 from h5),if_neg h1,if_neg h2,if_neg h3,if_neg h4,if_pos h5]
  simp only [gb,B8,gI_ed _ _ k0,gI_ed _ _ k1,rNum_ed _ _ k2]
 by_cases h6:x.kd=6
 ·rw [if_neg h1,if_neg h2,if_neg h3,if_neg h4,if_neg h5,if_pos h6] at h
  have k0:=h
  rw [if_neg h1,if_neg h2,if_neg h3,if_neg h4,if_neg h5,if_pos h6,if_neg (show ¬ (mg0 x.kd x.fr x.to).kd=1 from h1),if_neg (show ¬ (mg0 x.kd x.fr x.to).kd=2 from h2),if_neg (show ¬ (mg0 x.kd x.fr x.to).kd=3 from h3),if_neg (show ¬ (mg0 x.kd x.fr x.to).kd=4 from h4),if_neg (show ¬ (mg0 x.kd x.fr x.to).kd=5 from h5),if_pos (show (mg0 x.kd x.fr x.to).kd=6 from h6),if_neg h1,if_neg h2,if_neg h3,if_neg h4,if_neg h5,if_pos h6]
  simp only [gb,B8,gPm_ed _ _ k0]
 by_cases h7:x.kd=7
 ·rw [if_neg h1,if_neg h2,if_neg h3,if_neg h4,if_neg h5,if_neg h6,if_pos h7] at h
  have k0:=h
  rw [if_neg h1,if_neg h2,if_neg h3,if_neg h4,if_neg h5,if_neg h6,if_pos h7,if_neg (show ¬ (mg0 x.kd x.fr x.to).kd=1 from h1),if_neg (show ¬ (mg0 x.kd x.fr x.to).kd=2 from h2),if_neg (show ¬ (mg0 x.kd x.fr x.to).kd=3 from h3),if_neg (show ¬ (mg0 x.kd x.fr x.to).kd=4 from h4),if_neg (show ¬ (mg0 x.kd x.fr x.to).kd=5 from h5),if_neg (show ¬ (mg0 x.kd x.fr x.to).kd=6 from h6),if_pos (show (mg0 x.kd x.fr x.to).kd=7 from h7),if_neg h1,if_neg h2,if_neg h3,if_neg h4,if_neg h5,if_neg h6,if_pos h7]
  simp only [gb,B8,gPr_ed _ _ k0]
 by_cases h8:x.kd=8
 ·rw [if_neg h1,if_neg h2,if_neg h3,if_neg h4,if_neg h5,if_neg h6,if_neg h7,if_pos h8] at h
  have k0:=h
  rw [if_neg h1,if_neg h2,if_neg h3,if_neg h4,if_neg h5,if_neg h6,if_neg h7,if_pos h8,if_neg (show ¬ (mg0 x.kd x.fr x.to).kd=1 from h1),if_neg (show ¬ (mg0 x.kd x.fr x.to).kd=2 from h2),if_neg (show ¬ (mg0 x.kd x.fr x.to).kd=3 from h3),if_neg (show ¬ (mg0 x.kd x.fr x.to).kd=4 from h4),if_neg (show ¬ (mg0 x.kd x.fr x.to).kd=5 from h5),if_neg (show ¬ (mg0 x.kd x.fr x.to).kd=6 from h6),if_neg (show ¬ (mg0 x.kd x.fr x.to).kd=7 from h7),if_pos (show (mg0 x.kd x.fr x.to).kd=8 from h8),if_neg h1,if_neg h2,if_neg h3,if_neg h4,if_neg h5,if_neg h6,if_neg h7,if_pos h8]
  simp only [gb,B8,gVt_ed _ _ k0]
 by_cases h9:x.kd=9
 ·rw [if_neg h1,if_neg h2,if_neg h3,if_neg h4,if_neg h5,if_neg h6,if_neg h7,if_neg h8,if_pos h9] at h
  obtain ⟨k0,k1⟩:=h
  rw [if_neg h1,if_neg h2,if_neg h3,if_neg h4,if_neg h5,if_neg h6,if_neg h7,if_neg h8,if_pos h9,if_neg (show ¬ (mg0 x.kd x.fr x.to).kd=1 from h1),if_neg (show ¬ (mg0 x.kd x.fr x.to).kd=2 from h2),if_neg (show ¬ (mg0 x.kd x.fr x.to).kd=3 from h3),if_neg (show ¬ (mg0 x.kd x.fr x.to).kd=4 from h4),if_neg (show ¬ (mg0 x.kd x.fr x.to).kd=5 from h5),if_neg (show ¬ (mg0 x.kd x.fr x.to).kd=6 from h6),if_neg (show ¬ (mg0 x.kd x.fr x.to).kd=7 from h7),if_neg (show ¬ (mg0 x.kd x.fr x.to).kd=8 from h8),if_pos (show (mg0 x.kd x.fr x.to).kd=9 from h9),if_neg h1,if_neg h2,if_neg h3,if_neg h4,if_neg h5,if_neg h6,if_neg h7,if_neg h8,if_pos h9]
  simp only [gb,B8,gI_ed _ _ k0,gEn_ed _ _ k1]
 by_cases h10:x.kd=10
 ·rw [if_neg h1,if_neg h2,if_neg h3,if_neg h4,if_neg h5,if_neg h6,if_neg h7,if_neg h8,if_neg h9,if_pos h10] at h
  have k0:=h
  rw [if_neg h1,if_neg h2,if_neg h3,if_neg h4,if_neg h5,if_neg h6,if_neg h7,if_neg h8,if_neg h9,if_pos h10,if_neg (show ¬ (mg0 x.kd x.fr x.to).kd=1 from h1),if_neg (show ¬ (mg0 x.kd x.fr x.to).kd=2 from h2),if_neg (show ¬ (mg0 x.kd x.fr x.to).kd=3 from h3),if_neg (show ¬ (mg0 x.kd x.fr x.to).kd=4 from h4),if_neg (show ¬ (mg0 x.kd x.fr x.to).kd=5 from h5),if_neg (show ¬ (mg0 x.kd x.fr x.to).kd=6 from h6),if_neg (show ¬ (mg0 x.kd x.fr x.to).kd=7 from h7),if_neg (show ¬ (mg0 x.kd x.fr x.to).kd=8 from h8),if_neg (show ¬ (mg0 x.kd x.fr x.to).kd=9 from h9),if_pos (show (mg0 x.kd x.fr x.to).kd=10 from h10),if_neg h1,if_neg h2,if_neg h3,if_neg h4,if_neg h5,if_neg h6,if_neg h7,if_neg h8,if_neg h9,if_pos h10]
  simp only [gb,B8,gOp_ed _ _ k0]
 by_cases h11:x.kd=11
 ·rw [if_neg h1,if_neg h2,if_neg h3,if_neg h4,if_neg h5,if_neg h6,if_neg h7,if_neg h8,if_neg h9,if_neg h10,if_pos h11] at h
  have k0:=h
  rw [if_neg h1,if_neg h2,if_neg h3,if_neg h4,if_neg h5,if_neg h6,if_neg h7,if_neg h8,if_neg h9,if_neg h10,if_pos h11,if_neg (show ¬ (mg0 x.kd x.fr x.to).kd=1 from h1),if_neg (show ¬ (mg0 x.kd x.fr x.to).kd=2 from h2),if_neg (show ¬ (mg0 x.kd x.fr x.to).kd=3 from h3),if_neg (show ¬ (mg0 x.kd x.fr x.to).kd=4 from h4),if_neg (show ¬ (mg0 x.kd x.fr x.to).kd=5 from h5),if_neg (show ¬ (mg0 x.kd x.fr x.to).kd=6 from h6),if_neg (show ¬ (mg0 x.kd x.fr x.to).kd=7 from h7),if_neg (show ¬ (mg0 x.kd x.fr x.to).kd=8 from h8),if_neg (show ¬ (mg0 x.kd x.fr x.to).kd=9 from h9),if_neg (show ¬ (mg0 x.kd x.fr x.to).kd=10 from h10),if_pos (show (mg0 x.kd x.fr x.to).kd=11 from h11),if_neg h1,if_neg h2,if_neg h3,if_neg h4,if_neg h5,if_neg h6,if_neg h7,if_neg h8,if_neg h9,if_neg h10,if_pos h11]
  simp only [gb,B8,gI_ed _ _ k0]
 by_cases h12:x.kd=12
 ·rw [if_neg h1,if_neg h2,if_neg h3,if_neg h4,if_neg h5,if_neg h6,if_neg h7,if_neg h8,if_neg h9,if_neg h10,if_neg h11,if_pos h12] at h
  have k0:=h
  rw [if_neg h1,if_neg h2,if_neg h3,if_neg h4,if_neg h5,if_neg h6,if_neg h7,if_neg h8,if_neg h9,if_neg h10,if_neg h11,if_pos h12,if_neg (show ¬ (mg0 x.kd x.fr x.to).kd=1 from h1),if_neg (show ¬ (mg0 x.kd x.fr x.to).kd=2 from h2),if_neg (show ¬ (mg0 x.kd x.fr x.to).kd=3 from h3),if_neg (show ¬ (mg0 x.kd x.fr x.to).kd=4 from h4),if_neg (show ¬ (mg0 x.kd x.fr x.to).kd=5 from h5),if_neg (show ¬ (mg0 x.kd x.fr x.to).kd=6 from h6),if_neg (show ¬ (mg0 x.kd x.fr x.to).kd=7 from h7),if_neg (show ¬ (mg0 x.kd x.fr x.to).kd=8 from h8),if_neg (show ¬ (mg0 x.kd x.fr x.to).kd=9 from h9),if_neg (show ¬ (mg0 x.kd x.fr x.to).kd=10 from h10),if_neg (show ¬ (mg0 x.kd x.fr x.to).kd=11 from h11),if_pos (show (mg0 x.kd x.fr x.to).kd=12 from h12),if_neg h1,if_neg h2,if_neg h3,if_neg h4,if_neg h5,if_neg h6,if_neg h7,if_neg h8,if_neg h9,if_neg h10,if_neg h11,if_pos h12]
  simp only [gb,B8,gDn_ed _ _ k0]
 by_cases h13:x.kd=13
 ·rw [if_neg h1,if_neg h2,if_neg h3,if_neg h4,if_neg h5,if_neg h6,if_neg h7,if_neg h8,if_neg h9,if_neg h10,if_neg h11,if_neg h12,if_pos h13] at h
  obtain ⟨k0,k1⟩:=h
  rw [if_neg h1,if_neg h2,if_neg h3,if_neg h4,if_neg h5,if_neg h6,if_neg h7,if_neg h8,if_neg h9,if_neg h10,if_neg h11,if_neg h12,if_pos h13,if_neg (show ¬ (mg0 x.kd x.fr x.to).kd=1 from h1),if_neg (show ¬ (mg0 x.kd x.fr x.to).kd=2 from h2),if_neg (show ¬ (mg0 x.kd x.fr x.to).kd=3 from h3),if_neg (show ¬ (mg0 x.kd x.fr x.to).kd=4 from h4),if_neg (show ¬ (mg0 x.kd x.fr x.to).kd=5 from h5),if_neg (show ¬ (mg0 x.kd x.fr x.to).kd=6 from h6),if_neg (show ¬ (mg0 x.kd x.fr x.to).kd=7 from h7),if_neg (show ¬ (mg0 x.kd x.fr x.to).kd=8 from h8),if_neg (show ¬ (mg0 x.kd x.fr x.to).kd=9 from h9),if_neg (show ¬ (mg0 x.kd x.fr x.to).kd=10 from h10),if_neg (show ¬ (mg0 x.kd x.fr x.to).kd=11 from h11),if_neg (show ¬ (mg0 x.kd x.fr x.to).kd=12 from h12),if_pos (show (mg0 x.kd x.fr x.to).kd=13 from h13),if_neg h1,if_neg h2,if_neg h3,if_neg h4,if_neg h5,if_neg h6,if_neg h7,if_neg h8,if_neg h9,if_neg h10,if_neg h11,if_neg h12,if_pos h13]
  simp only [gb,B8,gI_ed _ _ k0,rowx k1,str_bytesOf]
 by_cases h14:x.kd=14
 ·rw [if_neg h1,if_neg h2,if_neg h3,if_neg h4,if_neg h5,if_neg h6,if_neg h7,if_neg h8,if_neg h9,if_neg h10,if_neg h11,if_neg h12,if_neg h13,if_pos h14] at h
  obtain ⟨k0,k1,k2,k3⟩:=h
  rw [if_neg h1,if_neg h2,if_neg h3,if_neg h4,if_neg h5,if_neg h6,if_neg h7,if_neg h8,if_neg h9,if_neg h10,if_neg h11,if_neg h12,if_neg h13,if_pos h14,if_neg (show ¬ (mg0 x.kd x.fr x.to).kd=1 from h1),if_neg (show ¬ (mg0 x.kd x.fr x.to).kd=2 from h2),if_neg (show ¬ (mg0 x.kd x.fr x.to).kd=3 from h3),if_neg (show ¬ (mg0 x.kd x.fr x.to).kd=4 from h4),if_neg (show ¬ (mg0 x.kd x.fr x.to).kd=5 from h5),if_neg (show ¬ (mg0 x.kd x.fr x.to).kd=6 from h6),if_neg (show ¬ (mg0 x.kd x.fr x.to).kd=7 from h7),if_neg (show ¬ (mg0 x.kd x.fr x.to).kd=8 from h8),if_neg (show ¬ (mg0 x.kd x.fr x.to).kd=9 from h9),if_neg (show ¬ (mg0 x.kd x.fr x.to).kd=10 from h10),if_neg (show ¬ (mg0 x.kd x.fr x.to).kd=11 from h11),if_neg (show ¬ (mg0 x.kd x.fr x.to).kd=12 from h12),if_neg (show ¬ (mg0 x.kd x.fr x.to).kd=13 from h13),if_pos (show (mg0 x.kd x.fr x.to).kd=14 from h14),if_neg h1,if_neg h2,if_neg h3,if_neg h4,if_neg h5,if_neg h6,if_neg h7,if_neg h8,if_neg h9,if_neg h10,if_neg h11,if_neg h12,if_neg h13,if_pos h14]
  simp only [gb,B8,dcB,gI_ed _ _ k0,gI_ed _ _ k1,gBa_ed _ _ k2,gList_ed gVt_ed _ _ k3]
 omega
/-- what was packed is read as it was, but for what its kind does not name -/
theorem gMg_ed {x:Mg} {r:List Int} (h:MgOk x) (hk:okKd x.kd=true):gMg (some (packB x ++ r))=(B4 x,some r):=by
 obtain ⟨h1,h2,h3,h4⟩:=h
 simp only [gMg,gb,packB,B8,gI_ed _ _ h1,gI_ed _ _ h2,gI_ed _ _ h3]
 exact gBody_ed x r h4 hk
/-- the message of bytes -/
noncomputable def unpackB (bs:List Int):Option Mg:=if (gMg (some bs)).2=some []∧packs (gMg (some bs)).1=true then some (gMg (some bs)).1 else none
theorem gMg_all {bs:List Int} (hb:Bytes bs) (h:(gMg (some bs)).2=some []):packB (gMg (some bs)).1=bs∧MgOk (gMg (some bs)).1:=by
 obtain ⟨l,e,h2⟩:=gMg_de _ _ h
 cases e
 obtain ⟨h3,h4⟩:=h2 hb
 rw [List.append_nil] at h3
 exact ⟨h3.symm,h4⟩
theorem size_run {P:Program} {T:TypeId} {n:Nat} (h:(P.info? T).map (·.size)=some n) (w:World):(sizeOf T).run P w=.ok n w:=by
 cases hq:P.info? T with
 | none=>rw [hq] at h;cases h
 | some i=>rw [hq] at h;simp [sizeOf,typeInfo,hq];exact Option.some.inj h
theorem part_agg {P:Program} {T:TypeId} {n:Nat} {d:TypeDesc} (hu:P.underlying T=some d) (hd:aggDesc d=true) (h:(P.info? T).map (·.size)=some n) (cs:Array Value) (off:Nat) (w:World):(part T cs off).run P w=.ok (.agg (cs.extract off (off+n))) w:=by
 have hagg:(isAgg T).run P w=.ok true w:=by
  unfold isAgg
  rw [Sem.run_bind,run_underlying hu w]
  cases d<;>simp_all [aggDesc]
 simp [part,hagg,size_run h]
theorem part_one {P:Program} {T:TypeId} {d:TypeDesc} (hu:P.underlying T=some d) (hd:aggDesc d=false) {cs:Array Value} {off:Nat} {v:Value} (hv:cs[off]? = some v) (w:World):(part T cs off).run P w=.ok v w:=by
 have hagg:(isAgg T).run P w=.ok false w:=by
  unfold isAgg
  rw [Sem.run_bind,run_underlying hu w]
  cases d<;>simp_all [aggDesc]
 simp [part,hagg,hv]
/-- cells that are ints of these kinds -/
def KI:List IntKind→List Value→Prop
 | [],[]=>True
 | k :: ks,v :: vs=>(∃ a,v=.int k a)∧KI ks vs
 | _,_=>False
theorem KI.len:∀ {ks:List IntKind} {vs:List Value},KI ks vs→vs.length=ks.length
 | [],[],_=>rfl
 | k :: ks,v :: vs,h=>by simp [KI.len h.2]
 | [],v :: vs,h=>h.elim
 | k :: ks,[],h=>h.elim
theorem KI.append:∀ {ks ks':List IntKind} {a b:List Value},KI ks a→KI ks' b→KI (ks ++ ks') (a ++ b)
 | [],ks',[],b,_,h=>h
 | k :: ks,ks',v :: vs,b,h,h'=>⟨h.1,KI.append h.2 h'⟩
 | [],_,v :: vs,_,h,_=>h.elim
 | k :: ks,_,[],_,h,_=>h.elim
theorem KI.split:∀ {ks ks':List IntKind} {vs:List Value},KI (ks ++ ks') vs→∃ a b,vs=a ++ b∧KI ks a∧KI ks' b
 | [],ks',vs,h=>⟨[],vs,rfl,trivial,h⟩
 | k :: ks,ks',v :: vs,h=>by
  obtain ⟨a,b,rfl,h1,h2⟩:=KI.split h.2
  exact ⟨v :: a,b,rfl,⟨h.1,h1⟩,h2⟩
 | k :: ks,_,[],h=>h.elim
theorem KI.ints {k:IntKind}:∀ {n:Nat} {h:List Int},h.length=n→KI (List.replicate n k) (h.map (Value.int k))
 | 0,[],_=>trivial
 | n+1,a :: h,e=>⟨⟨a,rfl⟩,KI.ints (by simpa using e)⟩
theorem KI.rep {k:IntKind}:∀ {n:Nat} {vs:List Value},KI (List.replicate n k) vs→∃ h:List Int,h.length=n∧vs=h.map (Value.int k)
 | 0,[],_=>⟨[],rfl,rfl⟩
 | 0,v :: vs,h=>h.elim
 | n+1,[],h=>h.elim
 | n+1,v :: vs,h=>by
  obtain ⟨a,rfl⟩:=h.1
  obtain ⟨l,e,rfl⟩:=KI.rep h.2
  exact ⟨a :: l,by simp [e],rfl⟩
def EqW (P:Program) (d:Nat) (T:TypeId) (ks:List IntKind):Prop:=∀ (xs ys:List Value) (c:Bool) (w:World),KI ks xs→KI ks ys→(c=true↔xs=ys)→(Op.equalIn d T (.agg xs.toArray) (.agg ys.toArray)).run P w=.ok c w
def EqT (P:Program) (d:Nat) (T:TypeId) (ks:List IntKind):Prop:=∀ (A B:List Value) (off:Nat) (xs ys:List Value) (c:Bool) (w:World),KI ks xs→KI ks ys→(c=true↔xs=ys)→(A.drop off).take ks.length=xs→(B.drop off).take ks.length=ys→
 ∃ x y,(part T A.toArray off).run P w=.ok x w∧(part T B.toArray off).run P w=.ok y w∧(Op.equalIn d T x y).run P w=.ok c w
theorem ex_bool (p:Prop):∃ c:Bool,(c=true↔p):=by
 rcases Classical.em p with h|h
 ·exact ⟨true,by simp [h]⟩
 ·exact ⟨false,by simp [h]⟩
theorem bool_of {c d:Bool} (h:c=true↔d=true):c=d:=by cases c<;>cases d<;>simp_all
variable {P:Program}
theorem drop_one {A:List Value} {off:Nat} {v:Value} (h:(A.drop off).take 1=[v]):A.toArray[off]? = some v:=by
 have h1:((A.drop off).take 1)[0]? = some v:=by rw [h];rfl
 rw [List.getElem?_take,List.getElem?_drop] at h1
 simpa using h1
theorem EqT.int {d:Nat} {T:TypeId} {k:IntKind} (hu:P.underlying T=some (.int k)):EqT P (d+1) T [k]:=by
 intro A B off xs ys c w hx hy hc ha hb
 match xs,ys,hx,hy with
 | [x],[y],⟨⟨a,e⟩,_⟩,⟨⟨b,e'⟩,_⟩=>
  subst e e'
  refine ⟨_,_,part_one hu rfl (drop_one ha) w,part_one hu rfl (drop_one hb) w,?_⟩
  rw [run_equalIn_int w d T k k a b hu,show (a == b)=c from bool_of (by rw [hc];simp)]
theorem EqT.agg {d:Nat} {T:TypeId} {ks:List IntKind} {de:TypeDesc} (h:EqW P d T ks) (hu:P.underlying T=some de) (hd:aggDesc de=true) (hs:(P.info? T).map (·.size)=some ks.length):EqT P d T ks:=by
 intro A B off xs ys c w hx hy hc ha hb
 have e:∀ (A:List Value),A.toArray.extract off (off+ks.length)=((A.drop off).take ks.length).toArray:=fun A=>by
  apply Array.ext'
  simp [List.extract_eq_take_drop,Nat.add_sub_cancel_left]
 have p1:=part_agg hu hd hs A.toArray off w
 have p2:=part_agg hu hd hs B.toArray off w
 rw [e,ha] at p1
 rw [e,hb] at p2
 exact ⟨_,_,p1,p2,h xs ys c w hx hy hc⟩
theorem EqW.ints {d:Nat} {T e:TypeId} {n:Nat} {k:IntKind} (ht:P.underlying T=some (.array n e)) (he:P.underlying e=some (.int k)) (hs:(P.info? e).map (·.size)=some 1):EqW P (d+2) T (List.replicate n k):=by
 intro xs ys c w hx hy hc
 obtain ⟨a,ha,rfl⟩:=hx.rep
 obtain ⟨b,hb,rfl⟩:=hy.rep
 rw [run_equalIn_ints w d T e n ht he hs a b ha hb]
 rw [show decide (a=b)=c from bool_of (by
  rw [hc,decide_eq_true_iff]
  exact ⟨fun h=>by rw [h],fun h=>(List.map_inj_right (fun x y h=>by injection h)).1 h⟩)]
def FsE (P:Program) (d:Nat):Nat→List Field→List (List IntKind)→Prop
 | _,[],[]=>True
 | off,f :: fs,ks :: l=>f.name ≠ "_" ∧ f.offset=off∧EqT P d f.type ks∧FsE P d (off+ks.length) fs l
 | _,_,_=>False
theorem eqFields_all {d:Nat}:∀ (fs:List Field) (l:List (List IntKind)) (pre pre' xs ys:List Value) (c:Bool) (w:World),FsE P d pre.length fs l→pre'.length=pre.length→KI l.flatten xs→KI l.flatten ys→(c=true↔xs=ys)→
 (Op.eqFields d (pre ++ xs).toArray (pre' ++ ys).toArray fs).run P w=.ok c w
 | [],[],pre,pre',xs,ys,c,w,_,_,hx,hy,hc=>by
  match xs,ys,hx,hy,hc with
  | [],[],_,_,hc=>obtain rfl:c=true:=hc.2 rfl;simp [Op.eqFields]
 | [],_ :: _,_,_,_,_,_,_,h,_,_,_,_=>h.elim
 | _ :: _,[],_,_,_,_,_,_,h,_,_,_,_=>h.elim
 | f :: fs,ks :: l,pre,pre',xs,ys,c,w,⟨h1,h2,h3,h4⟩,hp,hx,hy,hc=>by
  obtain ⟨a,b,rfl,ha,hb⟩:=KI.split (by simpa using hx)
  obtain ⟨a',b',rfl,ha',hb'⟩:=KI.split (by simpa using hy)
  have la:=ha.len
  have la':=ha'.len
  obtain ⟨c1,hc1⟩:=ex_bool (a=a')
  obtain ⟨c2,hc2⟩:=ex_bool (b=b')
  obtain ⟨x,y,p1,p2,q⟩:=h3 (pre ++ (a ++ b)) (pre' ++ (a' ++ b')) pre.length a a' c1 w ha ha' hc1 (by rw [List.drop_left,← la,List.take_left]) (by rw [← hp,List.drop_left,← la',List.take_left])
  have ih:=eqFields_all fs l (pre ++ a) (pre' ++ a') b b' c2 w (by rw [C0,la];exact h4) (by rw [C0,C0,hp,la,la']) hb hb' hc2
  rw [B8,B8] at ih
  unfold Op.eqFields
  rw [if_pos h1,h2]
  simp only [Sem.run_bind,p1,p2,q,Result.andThen_ok]
  have hcc:c=(c1 && c2):=bool_of (by
   rw [hc,Bool.and_eq_true,hc1,hc2]
   exact ⟨fun h=>List.append_inj h (by rw [la,la']),fun h=>by rw [h.1,h.2]⟩)
  subst hcc
  cases c1
  ·simp
  ·simp [ih]
theorem AK {d:Nat} {T:TypeId} {fs:Array Field} (l:List (List IntKind)) (hu:P.underlying T=some (.struct fs)) (hs:P.stoodInHeld T=false) (hl:FsE P d 0 fs.toList l):EqW P (d+1) T l.flatten:=by
 intro xs ys c w hx hy hc
 have hf:P.fieldsOf T=fs:=by unfold Program.fieldsOf;rw [hu]
 rw [run_equalIn_struct w d T xs.toArray ys.toArray (by rw [hf];exact hu) hs,hf]
 exact eqFields_all fs.toList l [] [] xs ys c w hl rfl hx hy hc
theorem EqW.run {T:TypeId} {ks:List IntKind} (h:EqW P 10000 T ks) {xs ys:List Value} (hx:KI ks xs) (hy:KI ks ys) {c:Bool} (hc:c=true↔xs=ys) (w:World):(binOp .eql T (.agg xs.toArray) (.agg ys.toArray)).run P w=.ok (.bool (c)) w:=by
 rw [run_eql_struct,h xs ys c w hx hy hc]
 rfl
theorem EqW.runN {T:TypeId} {ks:List IntKind} (h:EqW P 10000 T ks) {xs ys:List Value} (hx:KI ks xs) (hy:KI ks ys) {c:Bool} (hc:c=true↔xs=ys) (w:World):(binOp .neq T (.agg xs.toArray) (.agg ys.toArray)).run P w=.ok (.bool (!c)) w:=by
 rw [run_neq_struct,h xs ys c w hx hy hc]
 rfl
abbrev i3:List IntKind:=[.i64,.i64,.i64]
abbrev kHash:List IntKind:=List.replicate 32 .u8
theorem eqT_int {d:Nat}:EqT Tryz.prog (d+1) 3 [.i64]:=EqT.int B6
theorem eqT_u64 {d:Nat}:EqT Tryz.prog (d+1) 30 [.u64]:=EqT.int D8
theorem eqT_hash {d:Nat}:EqT Tryz.prog (d+2) 25 kHash:=EqT.agg (EqW.ints D5 Tryz.underlying5 aD) D5 rfl aD
theorem eqW_name {d:Nat}:EqW Tryz.prog (d+2) 23 [.i64,.i64]:=AK [[.i64],[.i64]] Tryz.underlying23 aD ⟨by decide,rfl,eqT_int,by decide,rfl,eqT_int,trivial⟩
theorem eqT_name {d:Nat}:EqT Tryz.prog (d+2) 23 [.i64,.i64]:=EqT.agg eqW_name Tryz.underlying23 rfl aD
theorem eqW_sig {d:Nat}:EqW Tryz.prog (d+2) 27 [.i64,.i64]:=AK [[.i64],[.i64]] Tryz.underlying27 aD ⟨by decide,rfl,eqT_int,by decide,rfl,eqT_int,trivial⟩
theorem eqT_sig {d:Nat}:EqT Tryz.prog (d+2) 27 [.i64,.i64]:=EqT.agg eqW_sig Tryz.underlying27 rfl aD
theorem eqW_stamp {d:Nat}:EqW Tryz.prog (d+3) 32 [[.i64],[.i64,.i64],kHash,[.u64],[.i64,.i64]].flatten:=
 AK [[.i64],[.i64,.i64],kHash,[.u64],[.i64,.i64]] Tryz.underlying32 aD ⟨by decide,rfl,eqT_int,by decide,rfl,eqT_name,by decide,rfl,eqT_hash,by decide,rfl,eqT_u64,by decide,rfl,eqT_sig,trivial⟩
theorem eqW_ack {d:Nat}:EqW Tryz.prog (d+3) 37 [[.i64],[.i64,.i64],kHash,[.u64],[.i64,.i64]].flatten:=
 AK [[.i64],[.i64,.i64],kHash,[.u64],[.i64,.i64]] Tryz.underlying37 aD ⟨by decide,rfl,eqT_int,by decide,rfl,eqT_name,by decide,rfl,eqT_hash,by decide,rfl,eqT_u64,by decide,rfl,eqT_sig,trivial⟩
theorem eqW_vote {d:Nat}:EqW Tryz.prog (d+3) 49 [[.i64],[.i64],[.i64],[.i64],kHash,[.i64,.i64]].flatten:=
 AK [[.i64],[.i64],[.i64],[.i64],kHash,[.i64,.i64]] Tryz.underlying49 aD ⟨by decide,rfl,eqT_int,by decide,rfl,eqT_int,by decide,rfl,eqT_int,by decide,rfl,eqT_int,by decide,rfl,eqT_hash,by decide,rfl,eqT_sig,trivial⟩
theorem eqW_deny {d:Nat}:EqW Tryz.prog (d+3) 56 [[.i64],[.i64],[.i64,.i64]].flatten:=
 AK [[.i64],[.i64],[.i64,.i64]] Tryz.underlying56 aD ⟨by decide,rfl,eqT_int,by decide,rfl,eqT_int,by decide,rfl,eqT_sig,trivial⟩
theorem eqW_commit {d:Nat}:EqW Tryz.prog (d+3) 29 [[.i64,.i64],kHash,[.i64],[.i64,.i64]].flatten:=
 AK [[.i64,.i64],kHash,[.i64],[.i64,.i64]] Tryz.underlying29 aD ⟨by decide,rfl,eqT_name,by decide,rfl,eqT_hash,by decide,rfl,eqT_int,by decide,rfl,eqT_sig,trivial⟩
theorem eqW_entry {d:Nat}:EqW Tryz.prog (d+3) 51 [[.i64,.i64],kHash,[.u64]].flatten:=
 AK [[.i64,.i64],kHash,[.u64]] Tryz.underlying51 aD ⟨by decide,rfl,eqT_name,by decide,rfl,eqT_hash,by decide,rfl,eqT_u64,trivial⟩
theorem ki_hash {h:List Int} (e:h.length=32):KI kHash (h.map bv):=KI.ints e
theorem ki_st {x:St} (h:x.OK):KI [[.i64],[.i64,.i64],kHash,[.u64],[.i64,.i64]].flatten x.cells:=by
 have:=KI.append (ks:=[.i64,.i64,.i64]) (a:=[.int .i64 x.rp,.int .i64 x.cl,.int .i64 x.sq]) ⟨⟨_,rfl⟩,⟨_,rfl⟩,⟨_,rfl⟩,trivial⟩ (KI.append (ki_hash h.h.1) (ks':=[.u64,.i64,.i64]) (b:=[.int .u64 (x.tm:Nat),.int .i64 x.sb,.int .i64 x.mr]) ⟨⟨_,rfl⟩,⟨_,rfl⟩,⟨_,rfl⟩,trivial⟩)
 exact this
theorem ki_vt {x:Vt} (h:x.OK):KI [[.i64],[.i64],[.i64],[.i64],kHash,[.i64,.i64]].flatten x.cells:=by
 have:=KI.append (ks:=[.i64,.i64,.i64,.i64]) (a:=[.int .i64 x.kd,.int .i64 x.ep,.int .i64 x.rd,.int .i64 x.rp]) ⟨⟨_,rfl⟩,⟨_,rfl⟩,⟨_,rfl⟩,⟨_,rfl⟩,trivial⟩ (KI.append (ki_hash h.h.1) (ks':=[.i64,.i64]) (b:=[.int .i64 x.sb,.int .i64 x.mr]) ⟨⟨_,rfl⟩,⟨_,rfl⟩,trivial⟩)
 exact this
theorem ki_dn (x:Dn):KI [[.i64],[.i64],[.i64,.i64]].flatten x.cells:=⟨⟨_,rfl⟩,⟨_,rfl⟩,⟨_,rfl⟩,⟨_,rfl⟩,trivial⟩
theorem ki_en {x:En} (h:x.OK):KI [[.i64,.i64],kHash,[.u64]].flatten x.cells:=by
 have:=KI.append (ks:=[.i64,.i64]) (a:=[.int .i64 x.cl,.int .i64 x.sq]) ⟨⟨_,rfl⟩,⟨_,rfl⟩,trivial⟩ (KI.append (ki_hash h.h.1) (ks':=[.u64]) (b:=[.int .u64 (x.tm:Nat)]) ⟨⟨_,rfl⟩,trivial⟩)
 exact this
theorem ki_cm {x:Cm} (h:x.h.length=32):KI [[.i64,.i64],kHash,[.i64],[.i64,.i64]].flatten x.cells:=by
 have:=KI.append (ks:=[.i64,.i64]) (a:=[.int .i64 x.cl,.int .i64 x.sq]) ⟨⟨_,rfl⟩,⟨_,rfl⟩,trivial⟩ (KI.append (ki_hash h) (ks':=[.i64,.i64,.i64]) (b:=[.int .i64 x.ln,.int .i64 x.sb,.int .i64 x.mr]) ⟨⟨_,rfl⟩,⟨_,rfl⟩,⟨_,rfl⟩,trivial⟩)
 exact this
noncomputable def eqb {α:Type} (x y:α):Bool:=@decide (x=y) (Classical.propDecidable _)
theorem eqb_iff {α:Type} {x y:α}:eqb x y=true↔x=y:=by unfold eqb;exact @decide_eq_true_iff _ (Classical.propDecidable _)
theorem eqb_rfl {α:Type} (x:α):eqb x x=true:=eqb_iff.2 rfl
theorem eqb_ne {α:Type} {x y:α} (h:¬ x=y):eqb x y=false:=by
 cases hq:eqb x y with
 | false=>rfl
 | true=>exact absurd (eqb_iff.1 hq) h
theorem ne_tt {a b:Int} (h:a≠b):(!(a == b))=true:=by simp [h]
theorem ne_ff {a b:Int} (h:a=b):(!(a == b))=false:=by simp [h]
theorem dec_eqb {α:Type} (x y:α) [h:Decidable (x=y)]:decide (x=y)=eqb x y:=by
 rw [Bool.eq_iff_iff,eqb_iff,decide_eq_true_iff]
theorem agg_guardE (op:BinOp) (T:TypeId) (x y:Operand) (a b:Array Value) (h:Tryz.prog.eqGuardType Tryz.prog.depth T=false) (w:World):(eqGuard op T x y (.agg a) (.agg b)).run Tryz.prog w=.ok () w:=run_eqGuard_agg (P:=Tryz.prog) w op T x y a b h
theorem hash_inj {a b:List Int} (h:a.map bv=b.map bv):a=b:=(List.map_inj_right (fun a b e=>by injection e)).1 h
theorem ki_2 (a b:Int):KI [.i64,.i64] [Value.int .i64 a,Value.int .i64 b]:=⟨⟨_,rfl⟩,⟨_,rfl⟩,trivial⟩
theorem two_iff (a b c d:Int):eqb (a,b) (c,d)=true↔([Value.int .i64 a,Value.int .i64 b]=[Value.int .i64 c,Value.int .i64 d]):=by
 rw [eqb_iff]
 simp
theorem st_iff {x y:St} (hx:x.OK) (hy:y.OK):eqb x y=true↔x.cells=y.cells:=by
 rw [eqb_iff]
 refine ⟨fun h=>by rw [h],fun h=>?_⟩
 have h1:=List.append_inj h rfl
 have h2:=List.append_inj h1.2 (by simp [hx.h.1,hy.h.1])
 have h3:=hash_inj h2.1
 have h4:=h1.1
 have h5:=h2.2
 simp only [List.cons.injEq,Value.int.injEq,and_true,true_and,Int.ofNat_inj] at h4 h5
 cases x;cases y
 simp_all
theorem vt_iff {x y:Vt} (hx:x.OK) (hy:y.OK):eqb x y=true↔x.cells=y.cells:=by
 rw [eqb_iff]
 refine ⟨fun h=>by rw [h],fun h=>?_⟩
 have h1:=List.append_inj h rfl
 have h2:=List.append_inj h1.2 (by simp [hx.h.1,hy.h.1])
 have h3:=hash_inj h2.1
 have h4:=h1.1
 have h5:=h2.2
 simp only [List.cons.injEq,Value.int.injEq,and_true,true_and,Int.ofNat_inj] at h4 h5
 cases x;cases y
 simp_all
theorem cm_iff {x y:Cm} (hx:x.OK) (hy:y.OK):eqb x y=true↔x.cells=y.cells:=by
 rw [eqb_iff]
 refine ⟨fun h=>by rw [h],fun h=>?_⟩
 have h1:=List.append_inj h rfl
 have h2:=List.append_inj h1.2 (by simp [hx.2.1,hy.2.1])
 have h3:=hash_inj h2.1
 have h4:=h1.1
 have h5:=h2.2
 simp only [List.cons.injEq,Value.int.injEq,and_true,true_and,Int.ofNat_inj] at h4 h5
 cases x;cases y
 simp_all
theorem en_iff {x y:En} (hx:x.OK) (hy:y.OK):eqb x y=true↔x.cells=y.cells:=by
 rw [eqb_iff]
 refine ⟨fun h=>by rw [h],fun h=>?_⟩
 have h1:=List.append_inj h rfl
 have h2:=List.append_inj h1.2 (by simp [hx.h.1,hy.h.1])
 have h3:=hash_inj h2.1
 have h4:=h1.1
 have h5:=h2.2
 simp only [List.cons.injEq,Value.int.injEq,and_true,true_and,Int.ofNat_inj] at h4 h5
 cases x;cases y
 simp_all
theorem dn_iff {x y:Dn} (hx:x.OK) (hy:y.OK):eqb x y=true↔x.cells=y.cells:=by
 rw [eqb_iff]
 refine ⟨fun h=>by rw [h],fun h=>?_⟩
 simp only [Dn.cells,List.cons.injEq,Value.int.injEq,and_true,true_and] at h
 cases x;cases y
 simp_all
theorem ce_eqb (x y:Ce):(eqb x.c y.c && eqb x.l y.l)=eqb x y:=by
 rw [Bool.eq_iff_iff,Bool.and_eq_true,eqb_iff,eqb_iff,eqb_iff]
 cases x;cases y
 simp
theorem beq_I (a b:Int):(a == b)=true↔a=b:=by simp
theorem pm_eqb (x y:Pm):(((((x.rp == y.rp) && (x.ep == y.ep)) && (((x.fl:Nat):Int) == ((y.fl:Nat):Int))) && eqb (x.sb,x.mr) (y.sb,y.mr)) && eqb x.l y.l)=eqb x y:=by
 rw [Bool.eq_iff_iff]
 simp only [Bool.and_eq_true,eqb_iff,beq_I,Int.ofNat_inj,Prod.mk.injEq]
 cases x;cases y
 simp only [Pm.mk.injEq]
 constructor
 ·rintro ⟨⟨⟨⟨h1,h2⟩,h3⟩,h4,h5⟩,h6⟩;exact ⟨h1,h2,h3,h6,h4,h5⟩
 ·rintro ⟨h1,h2,h3,h6,h4,h5⟩;exact ⟨⟨⟨⟨h1,h2⟩,h3⟩,h4,h5⟩,h6⟩
theorem op_eqb (x y:Op):(((x.ix == y.ix) && eqb x.nc y.nc) && eqb x.pl y.pl)=eqb x y:=by
 rw [Bool.eq_iff_iff]
 simp only [Bool.and_eq_true,eqb_iff,beq_I]
 cases x;cases y
 simp only [Op.mk.injEq]
 constructor
 ·rintro ⟨⟨h1,h2⟩,h3⟩;exact ⟨h1,h3,h2⟩
 ·rintro ⟨h1,h3,h2⟩;exact ⟨⟨h1,h2⟩,h3⟩
theorem tb_eqb (x y:Tb):((!(x.ix == y.ix)) || (!eqb x.l y.l))=!eqb x y:=by
 have h:((x.ix == y.ix) && eqb x.l y.l)=eqb x y:=by
  rw [Bool.eq_iff_iff]
  simp only [Bool.and_eq_true,eqb_iff,beq_I]
  cases x;cases y
  simp
 rw [← h]
 cases (x.ix == y.ix)<;>cases eqb x.l y.l<;>rfl
theorem ba_eqb (x y:Ba) (h:(((((!(x.ep == y.ep)) || (!(((x.tm:Nat):Int) == ((y.tm:Nat):Int)))) || (!(((x.ps.length:Nat):Int) == ((y.ps.length:Nat):Int)))) || (!eqb x.os y.os)) || (!eqb x.ts y.ts))=false):eqb x.ps y.ps=eqb x y:=by
 simp only [Bool.or_eq_false_iff,Bool.not_eq_false',eqb_iff,beq_I,Int.ofNat_inj] at h
 obtain ⟨⟨⟨⟨h1,h2⟩,h3⟩,h4⟩,h5⟩:=h
 rw [Bool.eq_iff_iff,eqb_iff,eqb_iff]
 cases x;cases y
 simp_all
theorem ba_neb (x y:Ba) (h:(((((!(x.ep == y.ep)) || (!(((x.tm:Nat):Int) == ((y.tm:Nat):Int)))) || (!(((x.ps.length:Nat):Int) == ((y.ps.length:Nat):Int)))) || (!eqb x.os y.os)) || (!eqb x.ts y.ts))=true):eqb x y=false:=by
 refine eqb_ne fun e=>?_
 subst e
 simp [eqb_rfl] at h
theorem take_ne {α:Type} {l m:List α} {k:Nat} (h1:k < l.length) (h2:k < m.length) (h:¬ l[k]=m[k]):eqb l m=false:=eqb_ne fun e=>h (by subst e;rfl)
theorem take_all {α:Type} {l m:List α} {k:Nat} (h1:l.length≤k) (h2:m.length≤k) (h:l.take k=m.take k):eqb l m=true:=by
 rw [List.take_of_length_le h1,List.take_of_length_le h2] at h
 exact eqb_iff.2 h
theorem take_succ2 {α:Type} {l m:List α} {k:Nat} (h1:k < l.length) (h2:k < m.length) (h:l.take k=m.take k) (he:l[k]=m[k]):l.take (k+1)=m.take (k+1):=by
 rw [List.take_succ_eq_append_getElem h1,List.take_succ_eq_append_getElem h2,h,he]
/-- a function that says whether two things are one; two lists -/
def Eqs {α:Type} (A:Rep α) (F:FuncId):Prop:=∀ (R R2:Nat→Prop) (cs ds:List Value) (x y:α) (w:World),A.rd R w cs x→A.rd R2 w ds y→(∀ k,R k→k < w.heap.size)→(∀ k,R2 k→k < w.heap.size)→
 Calls Tryz.prog F #[.agg cs.toArray,.agg ds.toArray] w fun e w'=>e=.returned (.bool (eqb x y))∧Mod (fun _=>False) w w'
def EqsL {α:Type} (A:Rep α) (F:FuncId):Prop:=∀ (R R2:Nat→Prop) (v v2:Value) (l m:List α) (w:World),RdS A R w v l→RdS A R2 w v2 m→(∀ k,R k→k < w.heap.size)→(∀ k,R2 k→k < w.heap.size)→
 Calls Tryz.prog F #[v,v2] w fun e w'=>e=.returned (.bool (eqb l m))∧Mod (fun _=>False) w w'
theorem Same_B {R R2:Nat→Prop} {N N2:Nat} {va vb:Value} {a b:List Int} {w:World} (ha:RdR R N w va a) (hb:RdR R2 N2 w vb b) :
 Calls Tryz.prog 17 #[va,vb] w fun e w'=>e=.returned (.bool (eqb a b))∧Mod (fun _=>False) w w':=
 (Same_R ha hb).mono fun _ _ ⟨he,hm⟩=>⟨he.trans (by rw [dec_eqb]),hm⟩
set_option maxHeartbeats 8000000 in
theorem put_Q:∀ (R R2:Nat→Prop) (g:Nat) (bs:List Int) (cs:List Value) (x:Mg) (w:World),WrR R 900000 w g bs→(∀ k,R k→k < w.heap.size)→MgR.rd R2 w cs x→(∀ k,R2 k→k < w.heap.size)→(∀ k,R k→R2 k→False)→(bs ++ Bd x).length≤900000→
 Calls Tryz.prog 68 #[.pointer (some ⟨g,0,none⟩),.agg cs.toArray] w fun e w'=>e=.returned (.bool (okKd x.kd))∧WrR (fun k=>R k∨New w w' k) 900000 w' g (bs ++ Bd x)∧Mod R w w':=by
 intro R R2 g bs cs x w hW hB hx hB2 hD hl
 obtain ⟨c5,c10,c11,c15,c18,rfl,hok,h5,h10,h11,h15,h18⟩:=hx
 have HLN:=hid (Mg.lns hok h5 h10 h11 h15 h18)
 obtain ⟨d_ps,d_os,d_ts,d_l,rfl,hokd,hd0,hd1,hd2,hd3⟩:=h18
 have HC5:=hid (CeR.len h5)
 have H5:=B5 h5
 have HC10:=hid (PmR.len h10)
 have H10:=B5 h10
 have HC11:=hid (PrR.len h11)
 have H11:=B5 h11
 have HC15:=hid (OpR.len h15)
 have H15:=B5 h15
 have HD0:=B5 hd0
 have HD1:=B5 hd1
 have HD2:=B5 hd2
 have HD3:=B5 hd3
 have HW:=B5 hW
 have HBR:=B5 hB
 have HBT:=B5 hB2
 have HDJ:=B5 hD
 have HOK:=B5 hok
 have HOD:=B5 hokd
 have HL:=B5 hl
 clear hW hB hB2 hD hl hok hokd h5 h10 h11 h15 hd0 hd1 hd2 hd3
 go_enter Tryz.func68,Tryz.ntmps68
 go_upto_region 1 with (fail)
 obtain ⟨w1,hw1⟩:∃ zz,zz=(w.alloc (.cells ((x.segs c5 c10 c11 c15 (x.dc.cells d_ps d_os d_ts d_l)).flatten:List Value).toArray 61)):=⟨_,rfl⟩
 change Code.wp _ _ _ _ (w.alloc (.cells ((x.segs c5 c10 c11 c15 (x.dc.cells d_ps d_os d_ts d_l)).flatten:List Value).toArray 61))
 rw [← hw1]
 have HB3:=hid (show Cs w1 (w.heap.size) ((x.segs c5 c10 c11 c15 (x.dc.cells d_ps d_os d_ts d_l)).flatten:List Value).toArray 61 by rw [hw1];exact Cs.new _ _ _)
 have hm:Mod (fun _=>False) w w1:=by rw [hw1];exact (Mod.refl _ _).alloc _
 have HM0:=hid (show Mod (fun k=>(R k)) w w1 from hm.mono (fun _ _ h=>h.elim))
 have hs1:w1.heap.size=w.heap.size+1:=by rw [hw1];simp
 have c6:=hid (HW.o.mod hm (fun _ _ h=>h))
 clear HW
 have q6:=hid (H5.o.mod hm (fun _ _ h=>h))
 clear H5
 have q7:=hid (H10.o.mod hm (fun _ _ h=>h))
 clear H10
 have q8:=hid (H11.o.mod hm (fun _ _ h=>h))
 clear H11
 have q9:=hid (H15.o.mod hm (fun _ _ h=>h))
 clear H15
 have r3:=hid (HD0.o.mod hm (fun _ _ h=>h))
 clear HD0
 have r4:=hid (HD1.o.mod hm (fun _ _ h=>h))
 clear HD1
 have r5:=hid (HD2.o.mod hm (fun _ _ h=>h))
 clear HD2
 have r6:=hid (HD3.o.mod hm (fun _ _ h=>h))
 clear HD3
 clear hw1 hm
 go_upto_region 1 with (fail)
 refine Aa 120 [5,6] [0,1] (fun a0 HA0=>?_)
 have c3:=ev HA0 3 rfl
 refine qfd rfl 0 B7 c3 ?_
 refine QSeq.pure rfl (.int .i64 x.kd) (fun E=>Af rfl B6 rfl (E.d 0 0) (AE HB3.o HLN.o 0 rfl (o:=0) (k:=0) rfl rfl rfl)) ?_
 refine qe ?_
 clear HA0 c3 a0
 by_cases h1:x.kd=1
 ·have K1:=B5 h1
  clear h1
  go_upto_region 3 with (fail)
  refine tst 120 B6 (Bl K1.o) rfl (qs ?_)
  have HE:=hid (show Bd x=cmB x.cm by unfold Bd;rw [K1.o];rfl)
  rw [HE.o] at HL
  have HQ:=hid (show okKd x.kd=true by rw [K1.o];rfl)
  go_upto_region 4 with (fail)
  refine Aa 120 [9,10,11,12] [0,1,2,3] (fun a0 HA0=>?_)
  have c4:=ev HA0 0 rfl
  have c3:=ev HA0 3 rfl
  refine qmo rfl c4 ?_
  refine qfd rfl 3 B7 c3 ?_
  refine QSeq.pure rfl _ (fun E=>Aj rfl Tryz.underlying29 rfl (off:=3) (cs:=(x.cm.cells)) (by rw [Cm.len HOK.o.cm.2.1];exact size_commit) (E.d 1 0) (Cs.seg HB3.o HLN.o 3 rfl rfl)) ?_
  refine QSeq.call rfl rfl Tryz.func97 (PutCm_Q _ (fun _=>False) _ _ _ x.cm _ c6.out aL ⟨rfl,HOK.o.cm⟩ (fun _ h=>h.elim) (fun _ _ h=>h.elim) aG) (fun E=>An (E.d 0 2) (E.d 2 0)) ?_
  rintro e g5 ⟨rfl,qwr,hm⟩
  refine ⟨_,rfl,?_⟩
  have r7:=hid (qwr.widen (R':=(fun k=>(R k)∨(New w1 g5 k))) (fun _ h=>h) (B9 _))
  have y5:=hm.size
  have r8:=hid (show Mod (fun k=>(R k)) w1 g5 from hm)
  clear hm
  clear qwr c6
  refine qe ?_
  clear HA0 c4 c3 a0
  go_upto_region 34 with (fail)
  refine Aa 120 [4] [0] (fun a0 HA0=>?_)
  refine QSeq.pure rfl (.bool true) (fun E=>Aw rfl rfl) ?_
  refine qe ?_
  clear HA0 a0
  go_wp2
  go_ret
  have hq:=(r7.out.widen (R':=(fun k=>R k∨New w g5 k)) aI (B9 _))
  (try simp only [B8] at hq)
  exact ⟨by rw [HQ.o];rfl,by rw [HE.o];simpa only [B8] using hq,(HM0.o.trans r8.out (fun _ _ h=>h))⟩
 have K1:=B5 h1
 clear h1
 go_upto_region 3 with (fail)
 refine tst 120 B6 (Bk K1.o) rfl (qs ?_)
 by_cases h2:x.kd=2
 ·have K2:=B5 h2
  clear h2
  go_upto_region 5 with (fail)
  refine tst 120 B6 (Bl K2.o) rfl (qs ?_)
  have HE:=hid (show Bd x=stB x.st by unfold Bd;rw [K2.o];rfl)
  rw [HE.o] at HL
  have HQ:=hid (show okKd x.kd=true by rw [K2.o];rfl)
  go_upto_region 6 with (fail)
  refine Aa 120 [15,16,17,18] [0,1,2,3] (fun a0 HA0=>?_)
  have c4:=ev HA0 0 rfl
  have c3:=ev HA0 3 rfl
  refine qmo rfl c4 ?_
  refine qfd rfl 40 B7 c3 ?_
  refine QSeq.pure rfl _ (fun E=>Aj rfl Tryz.underlying32 rfl (off:=40) (cs:=(x.st.cells)) (by rw [St.len HOK.o.st];kernel_rfl) (E.d 1 0) (Cs.seg HB3.o HLN.o 4 rfl rfl)) ?_
  refine QSeq.call rfl rfl Tryz.func98 (PutSt_Q _ (fun _=>False) _ _ _ x.st _ c6.out aL ⟨rfl,HOK.o.st⟩ (fun _ h=>h.elim) (fun _ _ h=>h.elim) aG) (fun E=>An (E.d 0 2) (E.d 2 0)) ?_
  rintro e g6 ⟨rfl,qwr,hm⟩
  refine ⟨_,rfl,?_⟩
  have r9:=hid (qwr.widen (R':=(fun k=>(R k)∨(New w1 g6 k))) (fun _ h=>h) (B9 _))
  have y6:=hm.size
  have s0:=hid (show Mod (fun k=>(R k)) w1 g6 from hm)
  clear hm
  clear qwr c6
  refine qe ?_
  clear HA0 c4 c3 a0
  go_upto_region 34 with (fail)
  refine Aa 120 [4] [0] (fun a0 HA0=>?_)
  refine QSeq.pure rfl (.bool true) (fun E=>Aw rfl rfl) ?_
  refine qe ?_
  clear HA0 a0
  go_wp2
  go_ret
  have hq:=(r9.out.widen (R':=(fun k=>R k∨New w g6 k)) aI (B9 _))
  (try simp only [B8] at hq)
  exact ⟨by rw [HQ.o];rfl,by rw [HE.o];simpa only [B8] using hq,(HM0.o.trans s0.out (fun _ _ h=>h))⟩
 have K2:=B5 h2
 clear h2
 go_upto_region 5 with (fail)
 refine tst 120 B6 (Bk K2.o) rfl (qs ?_)
 by_cases h3:x.kd=3
 ·have K3:=B5 h3
  clear h3
  go_upto_region 7 with (fail)
  refine tst 120 B6 (Bl K3.o) rfl (qs ?_)
  have HE:=hid (show Bd x=ceB x.ce by unfold Bd;rw [K3.o];rfl)
  rw [HE.o] at HL
  have HQ:=hid (show okKd x.kd=true by rw [K3.o];rfl)
  go_upto_region 8 with (fail)
  refine Aa 120 [21,22,23,24] [0,1,2,3] (fun a0 HA0=>?_)
  have c4:=ev HA0 0 rfl
  have c3:=ev HA0 3 rfl
  refine qmo rfl c4 ?_
  refine qfd rfl 78 B7 c3 ?_
  refine QSeq.pure rfl _ (fun E=>Aj rfl Tryz.underlying35 rfl (off:=78) (cs:=(c5)) gO (E.d 1 0) (Cs.seg HB3.o HLN.o 5 rfl rfl)) ?_
  refine QSeq.call rfl rfl Tryz.func99 (PutCe_Q _ R2 _ _ _ x.ce _ c6.out aL q6.out aR bS aG) (fun E=>An (E.d 0 2) (E.d 2 0)) ?_
  rintro e g7 ⟨rfl,qwr,hm⟩
  refine ⟨_,rfl,?_⟩
  have s5:=hid (qwr.widen (R':=(fun k=>(R k)∨(New w1 g7 k))) (fun _ h=>h) (B9 _))
  have y7:=hm.size
  have s6:=hid (show Mod (fun k=>(R k)) w1 g7 from hm)
  clear hm
  clear qwr c6
  refine qe ?_
  clear HA0 c4 c3 a0
  go_upto_region 34 with (fail)
  refine Aa 120 [4] [0] (fun a0 HA0=>?_)
  refine QSeq.pure rfl (.bool true) (fun E=>Aw rfl rfl) ?_
  refine qe ?_
  clear HA0 a0
  go_wp2
  go_ret
  have hq:=(s5.out.widen (R':=(fun k=>R k∨New w g7 k)) aI (B9 _))
  (try simp only [B8] at hq)
  exact ⟨by rw [HQ.o];rfl,by rw [HE.o];simpa only [B8] using hq,(HM0.o.trans s6.out (fun _ _ h=>h))⟩
 have K3:=B5 h3
 clear h3
 go_upto_region 7 with (fail)
 refine tst 120 B6 (Bk K3.o) rfl (qs ?_)
 by_cases h4:x.kd=4
 ·have K4:=B5 h4
  clear h4
  go_upto_region 9 with (fail)
  refine tst 120 B6 (Bl K4.o) rfl (qs ?_)
  have HE:=hid (show Bd x=stB x.ak by unfold Bd;rw [K4.o];rfl)
  rw [HE.o] at HL
  have HQ:=hid (show okKd x.kd=true by rw [K4.o];rfl)
  go_upto_region 10 with (fail)
  refine Aa 120 [27,28,29,30] [0,1,2,3] (fun a0 HA0=>?_)
  have c4:=ev HA0 0 rfl
  have c3:=ev HA0 3 rfl
  refine qmo rfl c4 ?_
  refine qfd rfl 116 B7 c3 ?_
  refine QSeq.pure rfl _ (fun E=>Aj rfl Tryz.underlying37 rfl (off:=116) (cs:=(x.ak.cells)) (by rw [St.len HOK.o.ak];kernel_rfl) (E.d 1 0) (Cs.seg HB3.o HLN.o 6 rfl rfl)) ?_
  refine QSeq.call rfl rfl Tryz.func100 (PutAk_Q _ (fun _=>False) _ _ _ x.ak _ c6.out aL ⟨rfl,HOK.o.ak⟩ (fun _ h=>h.elim) (fun _ _ h=>h.elim) aG) (fun E=>An (E.d 0 2) (E.d 2 0)) ?_
  rintro e g8 ⟨rfl,qwr,hm⟩
  refine ⟨_,rfl,?_⟩
  have s7:=hid (qwr.widen (R':=(fun k=>(R k)∨(New w1 g8 k))) (fun _ h=>h) (B9 _))
  have y8:=hm.size
  have s8:=hid (show Mod (fun k=>(R k)) w1 g8 from hm)
  clear hm
  clear qwr c6
  refine qe ?_
  clear HA0 c4 c3 a0
  go_upto_region 34 with (fail)
  refine Aa 120 [4] [0] (fun a0 HA0=>?_)
  refine QSeq.pure rfl (.bool true) (fun E=>Aw rfl rfl) ?_
  refine qe ?_
  clear HA0 a0
  go_wp2
  go_ret
  have hq:=(s7.out.widen (R':=(fun k=>R k∨New w g8 k)) aI (B9 _))
  (try simp only [B8] at hq)
  exact ⟨by rw [HQ.o];rfl,by rw [HE.o];simpa only [B8] using hq,(HM0.o.trans s8.out (fun _ _ h=>h))⟩
 have K4:=B5 h4
 clear h4
 go_upto_region 9 with (fail)
 refine tst 120 B6 (Bk K4.o) rfl (qs ?_)
 by_cases h5:x.kd=5
 ·have K5:=B5 h5
  clear h5
  go_upto_region 11 with (fail)
  refine tst 120 B6 (Bl K5.o) rfl (qs ?_)
  have HE:=hid (show Bd x=encI x.ep ++ encI x.rn ++ encN x.tm by unfold Bd;rw [K5.o];rfl)
  rw [HE.o] at HL
  have HQ:=hid (show okKd x.kd=true by rw [K5.o];rfl)
  go_upto_region 12 with (fail)
  generalize ha0:Act.mk _ _=a0
  have c4:a0.eval (.tmp 0)=.pointer (some ⟨g,0,none⟩):=by rw [← ha0];rfl
  have c3:a0.eval (.tmp 3)=.pointer (some ⟨w.heap.size,0,none⟩):=by rw [← ha0];rfl
  have hsz0:a0.tmps.size=120:=by rw [← ha0];rfl
  have HA0:=hid ha0
  clear ha0
  refine A8 120 hsz0 [33,34,35,36,37,38,39,40,41,42] (fun k=>(R k)) (fun k j=>(k=0∧((R j)))∨(k=1∧((R j)))∨(k=2∧((R j)))) dU [qi (.pointer (some ⟨g,0,none⟩)),qi (.pointer (some ⟨w.heap.size,154,none⟩)),qi (.int .i64 x.ep),qi (.pointer (some ⟨g,0,none⟩)),qi (.pointer (some ⟨w.heap.size,155,none⟩)),qi (.int .i64 x.rn),qi (.pointer (some ⟨g,0,none⟩)),qi (.pointer (some ⟨w.heap.size,156,none⟩)),qi (.int .u64 (x.tm:Nat)),qi (.pointer (some ⟨g,0,none⟩))] ⟨Ad,Ad,Ad,Ad,Ad,Ad,Ad,Ad,Ad,Ad,trivial⟩ [3,6,9] ⟨?_,?_,?_,?_,?_,?_,?_,?_,?_,?_,trivial⟩ ?_
  ·exact stq (fun E=>Al rfl (E.v c4))
  ·exact stq (fun E=>Ae rfl B7 rfl aD (E.v c3))
  ·exact stq (fun E=>Af rfl B6 rfl (E.d 1) (AE (HB3.o.mod E.m aN) HLN.o 7 rfl (o:=154) (k:=0) rfl rfl rfl))
  ·exact Ai rfl
  ·exact stq (fun E=>Ae rfl B7 rfl aD (E.v c3))
  ·exact stq (fun E=>Af rfl B6 rfl (E.d 4) (AE (HB3.o.mod E.m aN) HLN.o 8 rfl (o:=155) (k:=0) rfl rfl rfl))
  ·exact Ai rfl
  ·exact stq (fun E=>Ae rfl B7 rfl aD (E.v c3))
  ·exact stq (fun E=>Af rfl D8 rfl (E.d 7) (AE (HB3.o.mod E.m aN) HLN.o 9 rfl (o:=156) (k:=0) rfl rfl rfl))
  ·exact Ai rfl
  intro g9 hr
  have z0:=hr.size
  have j9:=hid (hr.new (S:=(fun k=>(R k))))
  have l7:=hid (c6.out.mod hr aO)
  clear c6
  clear hr
  refine QChain.go fun Z act E=>?_
  refine Aq (args:=#[.pointer (some ⟨g,0,none⟩),.int .i64 x.ep]) rfl (Ab rfl) rfl D7 (An (E.d 0) (E.d 2)) (Bz l7.out HOK.o.ep aG) ?_
  rintro e i7 ⟨rfl,qwr,hm⟩
  have z7:=hm.size
  refine ⟨_,rfl,hm.mono aX,(fun _=>rfl),?_⟩
  intro l8 hr
  have z9:=hr.size
  have m7:=hid ((qwr.widen (R':=(fun k=>(R k)∨(New g9 i7 k))) (fun _ h=>h) (B9 _)).mod hr bG)
  have m8:=hid (j9.out.goM hm hr (fun _ _ h=>h))
  clear j9 hm hr Z act E qwr l7
  refine QChain.go fun Z act E=>?_
  refine Aq (args:=#[.pointer (some ⟨g,0,none⟩),.int .i64 x.rn]) rfl (Ab rfl) rfl D7 (An (E.d 3) (E.d 5)) (Bz m7.out HOK.o.rn aG) ?_
  rintro e m9 ⟨rfl,qwr,hm⟩
  have aa:=hm.size
  refine ⟨_,rfl,hm.mono bY,(fun _=>rfl),?_⟩
  intro t0 hr
  have ab:=hr.size
  have n5:=hid ((qwr.widen (R':=(fun k=>(R k)∨(New g9 i7 k)∨(New l8 m9 k))) aP (B9 _)).mod hr bE)
  have n6:=hid (m8.out.goM hm hr bZ)
  clear m8 hm hr Z act E qwr m7
  refine QChain.go fun Z act E=>?_
  refine Aq (args:=#[.pointer (some ⟨g,0,none⟩),.int .u64 (x.tm:Nat)]) rfl (Ab rfl) rfl Tryz.func96 (An (E.d 6) (E.d 8)) (WNum_Q n5.out HOK.o.tm aG) ?_
  rintro e t1 ⟨rfl,qwr,hm⟩
  have ac:=hm.size
  refine ⟨_,rfl,hm.mono dH,(fun _=>rfl),?_⟩
  intro t2 hr
  have ae:=hr.size
  have t4:=hid ((qwr.widen (R':=(fun k=>(R k)∨(New g9 i7 k)∨(New l8 m9 k)∨(New t0 t1 k))) aP (B9 _)).mod hr bU)
  have t8:=hid (n6.out.goM hm hr dG)
  clear n6 hm hr Z act E qwr n5
  refine QChain.nil fun vs hl hzz hrows hne=>?_
  obtain ⟨Z,hYZ,hZb,hV⟩:=hzz
  have f0:=fvi hV hl 0
  have f3:=fvi hV hl 3
  have f6:=fvi hV hl 6
  have f9:=fvi hV hl 9
  rw [show vs=[gw vs 0,gw vs 1,gw vs 2,gw vs 3,gw vs 4,gw vs 5,gw vs 6,gw vs 7,gw vs 8,gw vs 9] from (Bv hl).trans rfl]
  have ha0:=HA0.o
  subst ha0
  clear HA0 hV hYZ hZb hsz0 hrows hne c4 c3
  simp only [Ax,Act.put,sIB,sCZ,sCS,f0,f3,f6,f9]
  clear hl f0 f3 f6 f9
  go_upto_region 34 with (fail)
  refine Aa 120 [4] [0] (fun a0 HA0=>?_)
  refine QSeq.pure rfl (.bool true) (fun E=>Aw rfl rfl) ?_
  refine qe ?_
  clear HA0 a0
  go_wp2
  go_ret
  have hq:=(t4.out.widen (R':=(fun k=>R k∨New w t2 k)) dN (B9 _))
  (try simp only [B8] at hq)
  exact ⟨by rw [HQ.o];rfl,by rw [HE.o];simpa only [B8] using hq,(HM0.o.trans t8.out (fun _ _ h=>h))⟩
 have K5:=B5 h5
 clear h5
 go_upto_region 11 with (fail)
 refine tst 120 B6 (Bk K5.o) rfl (qs ?_)
 by_cases h6:x.kd=6
 ·have K6:=B5 h6
  clear h6
  go_upto_region 13 with (fail)
  refine tst 120 B6 (Bl K6.o) rfl (qs ?_)
  have HE:=hid (show Bd x=pmB x.pm by unfold Bd;rw [K6.o];rfl)
  rw [HE.o] at HL
  have HQ:=hid (show okKd x.kd=true by rw [K6.o];rfl)
  go_upto_region 14 with (fail)
  refine Aa 120 [45,46,47,48] [0,1,2,3] (fun a0 HA0=>?_)
  have c4:=ev HA0 0 rfl
  have c3:=ev HA0 3 rfl
  refine qmo rfl c4 ?_
  refine qfd rfl 157 B7 c3 ?_
  refine QSeq.pure rfl _ (fun E=>Aj rfl Tryz.underlying40 rfl (off:=157) (cs:=(c10)) gJ (E.d 1 0) (Cs.seg HB3.o HLN.o 10 rfl rfl)) ?_
  refine QSeq.call rfl rfl Tryz.func101 (PutPm_Q _ R2 _ _ _ x.pm _ c6.out aL q7.out aR bS aG) (fun E=>An (E.d 0 2) (E.d 2 0)) ?_
  rintro e i8 ⟨rfl,qwr,hm⟩
  refine ⟨_,rfl,?_⟩
  have t9:=hid (qwr.widen (R':=(fun k=>(R k)∨(New w1 i8 k))) (fun _ h=>h) (B9 _))
  have af:=hm.size
  have u0:=hid (show Mod (fun k=>(R k)) w1 i8 from hm)
  clear hm
  clear qwr c6
  refine qe ?_
  clear HA0 c4 c3 a0
  go_upto_region 34 with (fail)
  refine Aa 120 [4] [0] (fun a0 HA0=>?_)
  refine QSeq.pure rfl (.bool true) (fun E=>Aw rfl rfl) ?_
  refine qe ?_
  clear HA0 a0
  go_wp2
  go_ret
  have hq:=(t9.out.widen (R':=(fun k=>R k∨New w i8 k)) aI (B9 _))
  (try simp only [B8] at hq)
  exact ⟨by rw [HQ.o];rfl,by rw [HE.o];simpa only [B8] using hq,(HM0.o.trans u0.out (fun _ _ h=>h))⟩
 have K6:=B5 h6
 clear h6
 go_upto_region 13 with (fail)
 refine tst 120 B6 (Bk K6.o) rfl (qs ?_)
 by_cases h7:x.kd=7
 ·have K7:=B5 h7
  clear h7
  go_upto_region 15 with (fail)
  refine tst 120 B6 (Bl K7.o) rfl (qs ?_)
  have HE:=hid (show Bd x=prB x.pr by unfold Bd;rw [K7.o];rfl)
  rw [HE.o] at HL
  have HQ:=hid (show okKd x.kd=true by rw [K7.o];rfl)
  go_upto_region 16 with (fail)
  refine Aa 120 [51,52,53,54] [0,1,2,3] (fun a0 HA0=>?_)
  have c4:=ev HA0 0 rfl
  have c3:=ev HA0 3 rfl
  refine qmo rfl c4 ?_
  refine qfd rfl 163 B7 c3 ?_
  refine QSeq.pure rfl _ (fun E=>Aj rfl C6 rfl (off:=163) (cs:=(c11)) (by rw [HC11.o];kernel_rfl) (E.d 1 0) (Cs.seg HB3.o HLN.o 11 rfl rfl)) ?_
  refine QSeq.call rfl rfl Tryz.func102 (PutPr_Q _ R2 _ _ _ x.pr _ c6.out aL q8.out aR bS aG) (fun E=>An (E.d 0 2) (E.d 2 0)) ?_
  rintro e i9 ⟨rfl,qwr,hm⟩
  refine ⟨_,rfl,?_⟩
  have u1:=hid (qwr.widen (R':=(fun k=>(R k)∨(New w1 i9 k))) (fun _ h=>h) (B9 _))
  have ag:=hm.size
  have u2:=hid (show Mod (fun k=>(R k)) w1 i9 from hm)
  clear hm
  clear qwr c6
  refine qe ?_
  clear HA0 c4 c3 a0
  go_upto_region 34 with (fail)
  refine Aa 120 [4] [0] (fun a0 HA0=>?_)
  refine QSeq.pure rfl (.bool true) (fun E=>Aw rfl rfl) ?_
  refine qe ?_
  clear HA0 a0
  go_wp2
  go_ret
  have hq:=(u1.out.widen (R':=(fun k=>R k∨New w i9 k)) aI (B9 _))
  (try simp only [B8] at hq)
  exact ⟨by rw [HQ.o];rfl,by rw [HE.o];simpa only [B8] using hq,(HM0.o.trans u2.out (fun _ _ h=>h))⟩
 have K7:=B5 h7
 clear h7
 go_upto_region 15 with (fail)
 refine tst 120 B6 (Bk K7.o) rfl (qs ?_)
 by_cases h8:x.kd=8
 ·have K8:=B5 h8
  clear h8
  go_upto_region 17 with (fail)
  refine tst 120 B6 (Bl K8.o) rfl (qs ?_)
  have HE:=hid (show Bd x=vtB x.vt by unfold Bd;rw [K8.o];rfl)
  rw [HE.o] at HL
  have HQ:=hid (show okKd x.kd=true by rw [K8.o];rfl)
  go_upto_region 18 with (fail)
  refine Aa 120 [57,58,59,60] [0,1,2,3] (fun a0 HA0=>?_)
  have c4:=ev HA0 0 rfl
  have c3:=ev HA0 3 rfl
  refine qmo rfl c4 ?_
  refine qfd rfl 174 B7 c3 ?_
  refine QSeq.pure rfl _ (fun E=>Aj rfl Tryz.underlying49 rfl (off:=174) (cs:=(x.vt.cells)) (by rw [Vt.len HOK.o.vt];kernel_rfl) (E.d 1 0) (Cs.seg HB3.o HLN.o 12 rfl rfl)) ?_
  refine QSeq.call rfl rfl Tryz.func103 (PutVt_Q _ (fun _=>False) _ _ _ x.vt _ c6.out aL ⟨rfl,HOK.o.vt⟩ (fun _ h=>h.elim) (fun _ _ h=>h.elim) aG) (fun E=>An (E.d 0 2) (E.d 2 0)) ?_
  rintro e j0 ⟨rfl,qwr,hm⟩
  refine ⟨_,rfl,?_⟩
  have u3:=hid (qwr.widen (R':=(fun k=>(R k)∨(New w1 j0 k))) (fun _ h=>h) (B9 _))
  have ah:=hm.size
  have u4:=hid (show Mod (fun k=>(R k)) w1 j0 from hm)
  clear hm
  clear qwr c6
  refine qe ?_
  clear HA0 c4 c3 a0
  go_upto_region 34 with (fail)
  refine Aa 120 [4] [0] (fun a0 HA0=>?_)
  refine QSeq.pure rfl (.bool true) (fun E=>Aw rfl rfl) ?_
  refine qe ?_
  clear HA0 a0
  go_wp2
  go_ret
  have hq:=(u3.out.widen (R':=(fun k=>R k∨New w j0 k)) aI (B9 _))
  (try simp only [B8] at hq)
  exact ⟨by rw [HQ.o];rfl,by rw [HE.o];simpa only [B8] using hq,(HM0.o.trans u4.out (fun _ _ h=>h))⟩
 have K8:=B5 h8
 clear h8
 go_upto_region 17 with (fail)
 refine tst 120 B6 (Bk K8.o) rfl (qs ?_)
 by_cases h9:x.kd=9
 ·have K9:=B5 h9
  clear h9
  go_upto_region 19 with (fail)
  refine tst 120 B6 (Bl K9.o) rfl (qs ?_)
  have HE:=hid (show Bd x=encI x.ix ++ enB x.en by unfold Bd;rw [K9.o];rfl)
  rw [HE.o] at HL
  have HQ:=hid (show okKd x.kd=true by rw [K9.o];rfl)
  go_upto_region 20 with (fail)
  refine Aa 120 [63,64,65,66] [0,1,2,3] (fun a0 HA0=>?_)
  have c4:=ev HA0 0 rfl
  have c3:=ev HA0 3 rfl
  refine qmo rfl c4 ?_
  refine qfd rfl 212 B7 c3 ?_
  refine QSeq.pure rfl (.int .i64 x.ix) (fun E=>Af rfl B6 rfl (E.d 1 0) (AE HB3.o HLN.o 13 rfl (o:=212) (k:=0) rfl rfl rfl)) ?_
  refine QSeq.call rfl rfl D7 (Bz c6.out HOK.o.ix aG) (fun E=>An (E.d 0 2) (E.d 2 0)) ?_
  rintro e c8 ⟨rfl,qwr,hm⟩
  refine ⟨_,rfl,?_⟩
  have n7:=hid (qwr.widen (R':=(fun k=>(R k)∨(New w1 c8 k))) (fun _ h=>h) (B9 _))
  have ai:=hm.size
  have n8:=hid (show Mod (fun k=>(R k)) w1 c8 from hm)
  clear hm
  clear qwr c6
  refine qe ?_
  clear HA0 c4 c3 a0
  go_upto_region 21 with (fail)
  refine Aa 120 [67,68,69,70] [0,1,2,3] (fun a0 HA0=>?_)
  have c4:=ev HA0 0 rfl
  have c3:=ev HA0 3 rfl
  refine qmo rfl c4 ?_
  refine qfd rfl 213 B7 c3 ?_
  refine QSeq.pure rfl _ (fun E=>Aj rfl Tryz.underlying51 rfl (off:=213) (cs:=(x.en.cells)) (by rw [En.len HOK.o.en];kernel_rfl) (E.d 1 0) (Cs.seg (HB3.o.mod n8.out aH) HLN.o 14 rfl rfl)) ?_
  refine QSeq.call rfl rfl Tryz.func104 (PutEn_Q _ (fun _=>False) _ _ _ x.en _ n7.out dR ⟨rfl,HOK.o.en⟩ (fun _ h=>h.elim) (fun _ _ h=>h.elim) aG) (fun E=>An (E.d 0 2) (E.d 2 0)) ?_
  rintro e j3 ⟨rfl,qwr,hm⟩
  refine ⟨_,rfl,?_⟩
  have u5:=hid (qwr.widen (R':=(fun k=>(R k)∨(New w1 c8 k)∨(New c8 j3 k))) aP (B9 _))
  have aj:=hm.size
  have u6:=hid (show Mod (fun k=>(R k)∨(New w1 c8 k)) c8 j3 from hm)
  clear hm
  clear qwr n7
  refine qe ?_
  clear HA0 c4 c3 a0
  go_upto_region 34 with (fail)
  refine Aa 120 [4] [0] (fun a0 HA0=>?_)
  refine QSeq.pure rfl (.bool true) (fun E=>Aw rfl rfl) ?_
  refine qe ?_
  clear HA0 a0
  go_wp2
  go_ret
  have hq:=(u5.out.widen (R':=(fun k=>R k∨New w j3 k)) dS (B9 _))
  (try simp only [B8] at hq)
  exact ⟨by rw [HQ.o];rfl,by rw [HE.o];simpa only [B8] using hq,((HM0.o.trans n8.out (fun _ _ h=>h)).trans u6.out aC)⟩
 have K9:=B5 h9
 clear h9
 go_upto_region 19 with (fail)
 refine tst 120 B6 (Bk K9.o) rfl (qs ?_)
 by_cases h10:x.kd=10
 ·have K10:=B5 h10
  clear h10
  go_upto_region 22 with (fail)
  refine tst 120 B6 (Bl K10.o) rfl (qs ?_)
  have HE:=hid (show Bd x=opB x.op by unfold Bd;rw [K10.o];rfl)
  rw [HE.o] at HL
  have HQ:=hid (show okKd x.kd=true by rw [K10.o];rfl)
  go_upto_region 23 with (fail)
  refine Aa 120 [73,74,75,76] [0,1,2,3] (fun a0 HA0=>?_)
  have c4:=ev HA0 0 rfl
  have c3:=ev HA0 3 rfl
  refine qmo rfl c4 ?_
  refine qfd rfl 248 B7 c3 ?_
  refine QSeq.pure rfl _ (fun E=>Aj rfl Tryz.underlying54 rfl (off:=248) (cs:=(c15)) (by rw [HC15.o];kernel_rfl) (E.d 1 0) (Cs.seg HB3.o HLN.o 15 rfl rfl)) ?_
  refine QSeq.call rfl rfl Tryz.func105 (PutOp_Q _ R2 _ _ _ x.op _ c6.out aL q9.out aR bS aG) (fun E=>An (E.d 0 2) (E.d 2 0)) ?_
  rintro e j4 ⟨rfl,qwr,hm⟩
  refine ⟨_,rfl,?_⟩
  have u7:=hid (qwr.widen (R':=(fun k=>(R k)∨(New w1 j4 k))) (fun _ h=>h) (B9 _))
  have am:=hm.size
  have u9:=hid (show Mod (fun k=>(R k)) w1 j4 from hm)
  clear hm
  clear qwr c6
  refine qe ?_
  clear HA0 c4 c3 a0
  go_upto_region 34 with (fail)
  refine Aa 120 [4] [0] (fun a0 HA0=>?_)
  refine QSeq.pure rfl (.bool true) (fun E=>Aw rfl rfl) ?_
  refine qe ?_
  clear HA0 a0
  go_wp2
  go_ret
  have hq:=(u7.out.widen (R':=(fun k=>R k∨New w j4 k)) aI (B9 _))
  (try simp only [B8] at hq)
  exact ⟨by rw [HQ.o];rfl,by rw [HE.o];simpa only [B8] using hq,(HM0.o.trans u9.out (fun _ _ h=>h))⟩
 have K10:=B5 h10
 clear h10
 go_upto_region 22 with (fail)
 refine tst 120 B6 (Bk K10.o) rfl (qs ?_)
 by_cases h11:x.kd=11
 ·have K11:=B5 h11
  clear h11
  go_upto_region 24 with (fail)
  refine tst 120 B6 (Bl K11.o) rfl (qs ?_)
  have HE:=hid (show Bd x=encI x.ix by unfold Bd;rw [K11.o];rfl)
  rw [HE.o] at HL
  have HQ:=hid (show okKd x.kd=true by rw [K11.o];rfl)
  go_upto_region 25 with (fail)
  refine Aa 120 [79,80,81,82] [0,1,2,3] (fun a0 HA0=>?_)
  have c4:=ev HA0 0 rfl
  have c3:=ev HA0 3 rfl
  refine qmo rfl c4 ?_
  refine qfd rfl 212 B7 c3 ?_
  refine QSeq.pure rfl (.int .i64 x.ix) (fun E=>Af rfl B6 rfl (E.d 1 0) (AE HB3.o HLN.o 13 rfl (o:=212) (k:=0) rfl rfl rfl)) ?_
  refine QSeq.call rfl rfl D7 (Bz c6.out HOK.o.ix aG) (fun E=>An (E.d 0 2) (E.d 2 0)) ?_
  rintro e j5 ⟨rfl,qwr,hm⟩
  refine ⟨_,rfl,?_⟩
  have v5:=hid (qwr.widen (R':=(fun k=>(R k)∨(New w1 j5 k))) (fun _ h=>h) (B9 _))
  have ap:=hm.size
  have v6:=hid (show Mod (fun k=>(R k)) w1 j5 from hm)
  clear hm
  clear qwr c6
  refine qe ?_
  clear HA0 c4 c3 a0
  go_upto_region 34 with (fail)
  refine Aa 120 [4] [0] (fun a0 HA0=>?_)
  refine QSeq.pure rfl (.bool true) (fun E=>Aw rfl rfl) ?_
  refine qe ?_
  clear HA0 a0
  go_wp2
  go_ret
  have hq:=(v5.out.widen (R':=(fun k=>R k∨New w j5 k)) aI (B9 _))
  (try simp only [B8] at hq)
  exact ⟨by rw [HQ.o];rfl,by rw [HE.o];simpa only [B8] using hq,(HM0.o.trans v6.out (fun _ _ h=>h))⟩
 have K11:=B5 h11
 clear h11
 go_upto_region 24 with (fail)
 refine tst 120 B6 (Bk K11.o) rfl (qs ?_)
 by_cases h12:x.kd=12
 ·have K12:=B5 h12
  clear h12
  go_upto_region 26 with (fail)
  refine tst 120 B6 (Bl K12.o) rfl (qs ?_)
  have HE:=hid (show Bd x=dnB x.dn by unfold Bd;rw [K12.o];rfl)
  rw [HE.o] at HL
  have HQ:=hid (show okKd x.kd=true by rw [K12.o];rfl)
  go_upto_region 27 with (fail)
  refine Aa 120 [85,86,87,88] [0,1,2,3] (fun a0 HA0=>?_)
  have c4:=ev HA0 0 rfl
  have c3:=ev HA0 3 rfl
  refine qmo rfl c4 ?_
  refine qfd rfl 282 B7 c3 ?_
  refine QSeq.pure rfl _ (fun E=>Aj rfl Tryz.underlying56 rfl (off:=282) (cs:=(x.dn.cells)) aD (E.d 1 0) (Cs.seg HB3.o HLN.o 16 rfl rfl)) ?_
  refine QSeq.call rfl rfl Tryz.func106 (PutDn_Q _ (fun _=>False) _ _ _ x.dn _ c6.out aL ⟨rfl,HOK.o.dn⟩ (fun _ h=>h.elim) (fun _ _ h=>h.elim) aG) (fun E=>An (E.d 0 2) (E.d 2 0)) ?_
  rintro e j6 ⟨rfl,qwr,hm⟩
  refine ⟨_,rfl,?_⟩
  have v7:=hid (qwr.widen (R':=(fun k=>(R k)∨(New w1 j6 k))) (fun _ h=>h) (B9 _))
  have aq:=hm.size
  have v8:=hid (show Mod (fun k=>(R k)) w1 j6 from hm)
  clear hm
  clear qwr c6
  refine qe ?_
  clear HA0 c4 c3 a0
  go_upto_region 34 with (fail)
  refine Aa 120 [4] [0] (fun a0 HA0=>?_)
  refine QSeq.pure rfl (.bool true) (fun E=>Aw rfl rfl) ?_
  refine qe ?_
  clear HA0 a0
  go_wp2
  go_ret
  have hq:=(v7.out.widen (R':=(fun k=>R k∨New w j6 k)) aI (B9 _))
  (try simp only [B8] at hq)
  exact ⟨by rw [HQ.o];rfl,by rw [HE.o];simpa only [B8] using hq,(HM0.o.trans v8.out (fun _ _ h=>h))⟩
 have K12:=B5 h12
 clear h12
 go_upto_region 26 with (fail)
 refine tst 120 B6 (Bk K12.o) rfl (qs ?_)
 by_cases h13:x.kd=13
 ·have K13:=B5 h13
  clear h13
  go_upto_region 28 with (fail)
  refine tst 120 B6 (Bl K13.o) rfl (qs ?_)
  have HE:=hid (show Bd x=encI x.ix ++ (encN (Bw x.rp).length ++ Bw x.rp) by unfold Bd;rw [K13.o];rfl)
  rw [HE.o] at HL
  have HQ:=hid (show okKd x.kd=true by rw [K13.o];rfl)
  go_upto_region 29 with (fail)
  generalize ha0:Act.mk _ _=a0
  have c4:a0.eval (.tmp 0)=.pointer (some ⟨g,0,none⟩):=by rw [← ha0];rfl
  have c3:a0.eval (.tmp 3)=.pointer (some ⟨w.heap.size,0,none⟩):=by rw [← ha0];rfl
  have hsz0:a0.tmps.size=120:=by rw [← ha0];rfl
  have HA0:=hid ha0
  clear ha0
  refine A8 120 hsz0 [91,92,93,94,95,96,97,98] (fun k=>(R k)) (fun k j=>(k=0∧((R j)))∨(k=1∧((R j)))) cL [qi (.pointer (some ⟨g,0,none⟩)),qi (.pointer (some ⟨w.heap.size,212,none⟩)),qi (.int .i64 x.ix),qi (.pointer (some ⟨g,0,none⟩)),qi (.pointer (some ⟨w.heap.size,286,none⟩)),qi (.string x.rp),qr w1.heap.size (fun j=>R j) (fun R w v=>RdR R 1000000 w v (Bw x.rp)),qi (.pointer (some ⟨g,0,none⟩))] ⟨Ad,Ad,Ad,Ad,Ad,Ad,(qr_stable rdR_cells),Ad,trivial⟩ [3,7] ⟨?_,?_,?_,?_,?_,?_,?_,?_,trivial⟩ ?_
  ·exact stq (fun E=>Al rfl (E.v c4))
  ·exact stq (fun E=>Ae rfl B7 rfl aD (E.v c3))
  ·exact stq (fun E=>Af rfl B6 rfl (E.d 1) (AE (HB3.o.mod E.m aN) HLN.o 13 rfl (o:=212) (k:=0) rfl rfl rfl))
  ·exact Ai rfl
  ·exact stq (fun E=>Ae rfl B7 rfl aD (E.v c3))
  ·exact stq (fun E=>Af rfl Tryz.underlying9 rfl (E.d 4) (AE (HB3.o.mod E.m aN) HLN.o 17 rfl (o:=286) (k:=0) rfl rfl rfl))
  ·refine A5 rfl rfl rfl fun _ _ _ _ hZ hm _ _ _ hd _ _=>?_
   have h5:=hd ⟨5,.data⟩ bD rfl _ rfl
   exact qe_strB rfl (Ab rfl) rfl h5 (by have:=HL.o;simp only [C0] at this;rw [← bytesOf_len];omega) (by have:=hm.size;omega) (fun j hj=>(hZ j hj).2) (fun _ _ h=>h)
  ·exact Ai rfl
  intro o4 hr
  have ar:=hr.size
  have o5:=hid (hr.new (S:=(fun k=>(R k))))
  have o6:=hid (c6.out.mod hr aO)
  clear c6
  clear hr
  refine QChain.go fun Z act E=>?_
  refine Aq (args:=#[.pointer (some ⟨g,0,none⟩),.int .i64 x.ix]) rfl (Ab rfl) rfl D7 (An (E.d 0) (E.d 2)) (Bz o6.out HOK.o.ix aG) ?_
  rintro e o7 ⟨rfl,qwr,hm⟩
  have au:=hm.size
  refine ⟨_,rfl,hm.mono aX,(fun _=>rfl),?_⟩
  intro x4 hr
  have av:=hr.size
  have o8:=hid ((qwr.widen (R':=(fun k=>(R k)∨(New o4 o7 k))) (fun _ h=>h) (B9 _)).mod hr bG)
  have o9:=hid (o5.out.goM hm hr (fun _ _ h=>h))
  clear o5 hm hr Z act E qwr o6
  refine QChain.go fun Z act E=>?_
  have h6q:qr w1.heap.size (fun j=>R j) (fun R w v=>RdR R 1000000 w v (Bw x.rp)) Z ([] ++ [.pointer (some ⟨g,0,none⟩)]) (act.eval (.tmp 97)) _:=E.d 6
  obtain ⟨R2q,hR2,hrd2⟩:=h6q
  refine Aq (args:=#[.pointer (some ⟨g,0,none⟩),act.eval (.tmp 97)]) rfl (Ab rfl) rfl Tryz.func107 (An (E.d 3) rfl) (WRow_Q o8.out hrd2 (by intro k h1 h2;have hr2:=hR2 k h1;rcases h2 with h2|h2<;>first|exact hr2.2.1 ⟨(by have hb:=HBR.o k h2;omega),h2⟩|exact hr2.2.2 ⟨by omega,E.YZ k (by (try dsimp only);omega)⟩) aG) ?_
  rintro e x5 ⟨rfl,qwr,hm⟩
  have aw:=hm.size
  refine ⟨_,rfl,hm.mono cN,(fun _=>rfl),?_⟩
  intro x6 hr
  have ax:=hr.size
  have x7:=hid ((qwr.widen (R':=(fun k=>(R k)∨(New o4 o7 k)∨(New x4 x5 k))) aP (B9 _)).mod hr bE)
  have x8:=hid (o9.out.goM hm hr bZ)
  clear o9 hm hr qwr o8
  refine QChain.nil fun vs hl hzz hrows hne=>?_
  obtain ⟨Z,hYZ,hZb,hV⟩:=hzz
  have f0:=fvi hV hl 0
  have f3:=fvi hV hl 3
  have f7:=fvi hV hl 7
  rw [show vs=[gw vs 0,gw vs 1,gw vs 2,gw vs 3,gw vs 4,gw vs 5,gw vs 6,gw vs 7] from (Bv hl).trans rfl]
  have ha0:=HA0.o
  subst ha0
  clear HA0 hV hYZ hZb hsz0 hrows hne c4 c3
  simp only [Ax,Act.put,sIB,sCZ,sCS,f0,f3,f7]
  clear hl f0 f3 f7
  go_upto_region 34 with (fail)
  refine Aa 120 [4] [0] (fun a0 HA0=>?_)
  refine QSeq.pure rfl (.bool true) (fun E=>Aw rfl rfl) ?_
  refine qe ?_
  clear HA0 a0
  go_wp2
  go_ret
  have hq:=(x7.out.widen (R':=(fun k=>R k∨New w x6 k)) dS (B9 _))
  (try simp only [B8] at hq)
  exact ⟨by rw [HQ.o];rfl,by rw [HE.o];simpa only [B8] using hq,(HM0.o.trans x8.out (fun _ _ h=>h))⟩
 have K13:=B5 h13
 clear h13
 go_upto_region 28 with (fail)
 refine tst 120 B6 (Bk K13.o) rfl (qs ?_)
 by_cases h14:x.kd=14
 ·have K14:=B5 h14
  clear h14
  go_upto_region 30 with (fail)
  refine tst 120 B6 (Bl K14.o) rfl (qs ?_)
  have HE:=hid (show Bd x=encI x.dc.ep ++ encI x.dc.rn ++ baB x.dc.ba ++ listB vtB x.dc.l by unfold Bd;rw [K14.o];rfl)
  rw [HE.o] at HL
  have HQ:=hid (show okKd x.kd=true by rw [K14.o];rfl)
  go_upto_region 31 with (fail)
  generalize ha0:Act.mk _ _=a0
  have c4:a0.eval (.tmp 0)=.pointer (some ⟨g,0,none⟩):=by rw [← ha0];rfl
  have c3:a0.eval (.tmp 3)=.pointer (some ⟨w.heap.size,0,none⟩):=by rw [← ha0];rfl
  have hsz0:a0.tmps.size=120:=by rw [← ha0];rfl
  have HA0:=hid ha0
  clear ha0
  refine A8 120 hsz0 [101,102,103,104,105,106,107,108,109] (fun k=>(R k)) (fun k j=>(k=0∧((R j)))∨(k=1∧((R j)))) cL [qi (.pointer (some ⟨g,0,none⟩)),qi (.pointer (some ⟨w.heap.size,287,none⟩)),qi (.pointer (some ⟨w.heap.size,287,none⟩)),qi (.int .i64 x.dc.ep),qi (.pointer (some ⟨g,0,none⟩)),qi (.pointer (some ⟨w.heap.size,287,none⟩)),qi (.pointer (some ⟨w.heap.size,288,none⟩)),qi (.int .i64 x.dc.rn),qi (.pointer (some ⟨g,0,none⟩))] ⟨Ad,Ad,Ad,Ad,Ad,Ad,Ad,Ad,Ad,trivial⟩ [4,8] ⟨?_,?_,?_,?_,?_,?_,?_,?_,?_,trivial⟩ ?_
  ·exact stq (fun E=>Al rfl (E.v c4))
  ·exact stq (fun E=>Ae rfl B7 rfl aD (E.v c3))
  ·exact stq (fun E=>Ae rfl D3 rfl aD (E.d 1))
  ·exact stq (fun E=>Af rfl B6 rfl (E.d 2) (AE (HB3.o.mod E.m aN) HLN.o 18 rfl (o:=287) (k:=0) rfl rfl rfl))
  ·exact Ai rfl
  ·exact stq (fun E=>Ae rfl B7 rfl aD (E.v c3))
  ·exact stq (fun E=>Ae rfl D3 rfl aD (E.d 5))
  ·exact stq (fun E=>Af rfl B6 rfl (E.d 6) (AE (HB3.o.mod E.m aN) HLN.o 18 rfl (o:=287) (k:=1) rfl rfl rfl))
  ·exact Ai rfl
  intro c9 hr
  have ay:=hr.size
  have p4:=hid (hr.new (S:=(fun k=>(R k))))
  have p5:=hid (c6.out.mod hr aO)
  clear c6
  clear hr
  refine QChain.go fun Z act E=>?_
  refine Aq (args:=#[.pointer (some ⟨g,0,none⟩),.int .i64 x.dc.ep]) rfl (Ab rfl) rfl D7 (An (E.d 0) (E.d 3)) (Bz p5.out HOD.o.1 aG) ?_
  rintro e d5 ⟨rfl,qwr,hm⟩
  have az:=hm.size
  refine ⟨_,rfl,hm.mono aX,(fun _=>rfl),?_⟩
  intro d7 hr
  have bc:=hr.size
  have p6:=hid ((qwr.widen (R':=(fun k=>(R k)∨(New c9 d5 k))) (fun _ h=>h) (B9 _)).mod hr bG)
  have p7:=hid (p4.out.goM hm hr (fun _ _ h=>h))
  clear p4 hm hr Z act E qwr p5
  refine QChain.go fun Z act E=>?_
  refine Aq (args:=#[.pointer (some ⟨g,0,none⟩),.int .i64 x.dc.rn]) rfl (Ab rfl) rfl D7 (An (E.d 4) (E.d 7)) (Bz p6.out HOD.o.2.1 aG) ?_
  rintro e d8 ⟨rfl,qwr,hm⟩
  have bf:=hm.size
  refine ⟨_,rfl,hm.mono cN,(fun _=>rfl),?_⟩
  intro d9 hr
  have bg:=hr.size
  have p8:=hid ((qwr.widen (R':=(fun k=>(R k)∨(New c9 d5 k)∨(New d7 d8 k))) aP (B9 _)).mod hr bE)
  have c7:=hid (p7.out.goM hm hr bZ)
  clear p7 hm hr Z act E qwr p6
  refine QChain.nil fun vs hl hzz hrows hne=>?_
  obtain ⟨Z,hYZ,hZb,hV⟩:=hzz
  have f0:=fvi hV hl 0
  have f4:=fvi hV hl 4
  have f8:=fvi hV hl 8
  rw [show vs=[gw vs 0,gw vs 1,gw vs 2,gw vs 3,gw vs 4,gw vs 5,gw vs 6,gw vs 7,gw vs 8] from (Bv hl).trans rfl]
  have ha0:=HA0.o
  subst ha0
  clear HA0 hV hYZ hZb hsz0 hrows hne c4 c3
  simp only [Ax,Act.put,sIB,sCZ,sCS,f0,f4,f8]
  clear hl f0 f4 f8
  go_upto_region 32 with (fail)
  refine Aa 120 [110,111,112,113,114] [0,1,2,3,4] (fun a0 HA0=>?_)
  have c4:=ev HA0 0 rfl
  have c3:=ev HA0 3 rfl
  refine qmo rfl c4 ?_
  refine qfd rfl 287 B7 c3 ?_
  refine QSeq.pure rfl (.pointer (some ⟨w.heap.size,289,none⟩)) (fun E=>Ae rfl D3 rfl aD (E.d 1 0)) ?_
  refine QSeq.pure rfl _ (fun E=>Aj rfl C2 rfl (off:=289) (cs:=[.int .i64 x.dc.ba.ep,.int .u64 (x.dc.ba.tm:Nat),d_ps,d_os,d_ts]) aD (E.d 2 0) (Cs.segA (HB3.o.mod c7.out aH) HLN.o 18 rfl (o:=287) (k:=2) rfl rfl rfl)) ?_
  refine QSeq.call rfl rfl Tryz.func108 (PutBa_Q _ R2 _ _ _ x.dc.ba _ p8.out eQ ⟨_,_,_,rfl,HOD.o.2.2,(r3.out.mod c7.out aK),(r4.out.mod c7.out aK),(r5.out.mod c7.out aK)⟩ aR dX aG) (fun E=>An (E.d 0 3) (E.d 3 0)) ?_
  rintro e d6 ⟨rfl,qwr,hm⟩
  refine ⟨_,rfl,?_⟩
  have p9:=hid (qwr.widen (R':=(fun k=>(R k)∨(New c9 d5 k)∨(New d7 d8 k)∨(New d9 d6 k))) aP (B9 _))
  have bh:=hm.size
  have j7:=hid (show Mod (fun k=>(R k)∨(New c9 d5 k)∨(New d7 d8 k)) d9 d6 from hm)
  clear hm
  clear qwr p8
  refine qe ?_
  clear HA0 c4 c3 a0
  go_upto_region 33 with (fail)
  refine Aa 120 [115,116,117,118,119] [0,1,2,3,4] (fun a0 HA0=>?_)
  have c4:=ev HA0 0 rfl
  have c3:=ev HA0 3 rfl
  refine qmo rfl c4 ?_
  refine qfd rfl 287 B7 c3 ?_
  refine QSeq.pure rfl (.pointer (some ⟨w.heap.size,294,none⟩)) (fun E=>Ae rfl D3 rfl aD (E.d 1 0)) ?_
  refine QSeq.pure rfl (d_l) (fun E=>Af rfl Tryz.underlying57 rfl (E.d 2 0) (AE ((HB3.o.mod c7.out aH).mod j7.out bQ) HLN.o 18 rfl (o:=287) (k:=7) rfl rfl rfl)) ?_
  refine QSeq.call rfl rfl Tryz.func109 (PutList_Vt _ _ _ _ _ _ _ p9.out dD ((r6.out.mod c7.out aK).mod j7.out cD) aR cC aG) (fun E=>args3 (E.d 0 3) (E.d 3 0) rfl) ?_
  rintro e j8 ⟨rfl,qwr,hm⟩
  refine ⟨_,rfl,?_⟩
  have x9:=hid (qwr.widen (R':=(fun k=>(R k)∨(New c9 d5 k)∨(New d7 d8 k)∨(New d9 d6 k)∨(New d6 j8 k))) aP (B9 _))
  have bi:=hm.size
  have y0:=hid (show Mod (fun k=>(R k)∨(New c9 d5 k)∨(New d7 d8 k)∨(New d9 d6 k)) d6 j8 from hm)
  clear hm
  clear qwr p9
  refine qe ?_
  clear HA0 c4 c3 a0
  go_upto_region 34 with (fail)
  refine Aa 120 [4] [0] (fun a0 HA0=>?_)
  refine QSeq.pure rfl (.bool true) (fun E=>Aw rfl rfl) ?_
  refine qe ?_
  clear HA0 a0
  go_wp2
  go_ret
  have hq:=(x9.out.widen (R':=(fun k=>R k∨New w j8 k)) iA (B9 _))
  (try simp only [B8] at hq)
  exact ⟨by rw [HQ.o];rfl,by rw [HE.o];simpa only [B8] using hq,(((HM0.o.trans c7.out (fun _ _ h=>h)).trans j7.out bI).trans y0.out cS)⟩
 have K14:=B5 h14
 clear h14
 go_upto_region 30 with (fail)
 refine tst 120 B6 (Bk K14.o) rfl (qs ?_)
 go_upto_region 2 with (fail)
 refine Aa 120 [4] [0] (fun a0 HA0=>?_)
 refine QSeq.pure rfl (.bool false) (fun E=>Aw rfl rfl) ?_
 refine qe ?_
 clear HA0 a0
 have HE:=hid (show Bd x=[] by unfold Bd;rw [if_neg K1.o,if_neg K2.o,if_neg K3.o,if_neg K4.o,if_neg K5.o,if_neg K6.o,if_neg K7.o,if_neg K8.o,if_neg K9.o,if_neg K10.o,if_neg K11.o,if_neg K12.o,if_neg K13.o,if_neg K14.o])
 have HQ:=hid (show okKd x.kd=false by unfold okKd;rw [decide_eq_false_iff_not];have k1:=K1.o;have k2:=K2.o;have k3:=K3.o;have k4:=K4.o;have k5:=K5.o;have k6:=K6.o;have k7:=K7.o;have k8:=K8.o;have k9:=K9.o;have k10:=K10.o;have k11:=K11.o;have k12:=K12.o;have k13:=K13.o;have k14:=K14.o;omega)
 skip
 go_wp2
 go_ret
 exact ⟨by rw [HQ.o];rfl,by rw [HE.o,List.append_nil];exact (c6.out.widen (R':=(fun k=>R k∨New w w1 k)) (fun _ h=>Or.inl h) (B9 _)),HM0.o⟩
theorem callsB {P:Program} {F:FuncId} {args:Array Value} {w:World} {b c:Bool} {Q:World→Prop} (h:b=c) (hc:Calls P F args w fun e w'=>e=.returned (.bool b)∧Q w'):Calls P F args w fun e w'=>e=.returned (.bool c)∧Q w':=h▸hc
set_option maxHeartbeats 4000000 in
theorem Pack_Q:∀ (R2:Nat→Prop) (cs:List Value) (x:Mg) (w:World),MgR.rd R2 w cs x→(∀ k,R2 k→k < w.heap.size)→(packB x).length≤900000→
 Calls Tryz.prog 16 #[.agg cs.toArray] w fun e w'=>∃ v,e=.returned (.tuple #[v,.bool (packs x)])∧OwR (New w w') 900000 w' v (if packs x=true then packB x else [])∧Mod (fun _=>False) w w':=by
 intro R2 cs x w hx hB2 hl
 obtain ⟨RB,hRB⟩:∃ z,z=(if packs x=true then packB x else []):=⟨_,rfl⟩
 rw [← hRB]
 obtain ⟨pk,hpk⟩:∃ z,z=packs x:=⟨_,rfl⟩
 rw [← hpk]
 have HRB:=B5 hRB
 have HPK:=B5 hpk
 clear hRB hpk
 have HRD:=B5 hx
 obtain ⟨c5,c10,c11,c15,c18,rfl,hok,h5,h10,h11,h15,h18⟩:=hx
 have HLN:=hid (Mg.lns hok h5 h10 h11 h15 h18)
 have HCL:=hid (MgR.len HRD.o)
 have HOK:=B5 hok
 clear hok h5 h10 h11 h15 h18
 have HBT:=B5 hB2
 have HL:=hid (show ([] ++ encI x.kd ++ encI x.fr ++ encI x.to ++ Bd x).length≤900000 by simpa only [packB,List.nil_append,B8] using hl)
 clear hB2 hl
 go_enter Tryz.func16,Tryz.ntmps16
 go_upto_region 1 with (fail)
 obtain ⟨w1,hw1⟩:∃ zz,zz=(w.alloc (.cells ((x.segs c5 c10 c11 c15 c18).flatten:List Value).toArray 61)):=⟨_,rfl⟩
 change Code.wp _ _ _ _ (w.alloc (.cells ((x.segs c5 c10 c11 c15 c18).flatten:List Value).toArray 61))
 rw [← hw1]
 have HB1:=hid (show Cs w1 (w.heap.size) ((x.segs c5 c10 c11 c15 c18).flatten:List Value).toArray 61 by rw [hw1];exact Cs.new _ _ _)
 have hm:Mod (fun _=>False) w w1:=by rw [hw1];exact (Mod.refl _ _).alloc _
 have HM0:=hid (show Mod (fun _=>False) w w1 from hm.mono (fun _ _ h=>h.elim))
 have hs1:w1.heap.size=w.heap.size+1:=by rw [hw1];simp
 have g9:=hid (HRD.o.mod hm (fun _ _ h=>h))
 clear HRD
 clear hw1 hm
 go_upto_region 1 with (fail)
 generalize ha0:Act.mk _ _=a0
 have c3:a0.eval (.tmp 1)=.pointer (some ⟨w.heap.size,0,none⟩):=by rw [← ha0];rfl
 have hsz0:a0.tmps.size=26:=by rw [← ha0];rfl
 have HA0:=hid ha0
 clear ha0
 refine wp_region_Q0 26 hsz0 [6,7,8,9,10,11,12,13,14,15,4] [qv 0,qi (.pointer (some ⟨w.heap.size,0,none⟩)),qi (.int .i64 x.kd),qv 1,qi (.pointer (some ⟨w.heap.size,1,none⟩)),qi (.int .i64 x.fr),qv 2,qi (.pointer (some ⟨w.heap.size,2,none⟩)),qi (.int .i64 x.to),qv 3,qv 3] ⟨Ar,Ad,Ad,Ar,Ad,Ad,Ar,Ad,Ad,Ar,Ar,trivial⟩ [0,3,6,9] ⟨?_,?_,?_,?_,?_,?_,?_,?_,?_,?_,?_,trivial⟩ ?_
 ·exact Ai rfl
 ·exact stq (fun E=>Ae rfl B7 rfl aD (E.v c3))
 ·exact stq (fun E=>Af rfl B6 rfl (E.d 1) (AE (HB1.o.mod E.m.old aJ) HLN.o 0 rfl (o:=0) (k:=0) rfl rfl rfl))
 ·exact Ai rfl
 ·exact stq (fun E=>Ae rfl B7 rfl aD (E.v c3))
 ·exact stq (fun E=>Af rfl B6 rfl (E.d 4) (AE (HB1.o.mod E.m.old aJ) HLN.o 1 rfl (o:=1) (k:=0) rfl rfl rfl))
 ·exact Ai rfl
 ·exact stq (fun E=>Ae rfl B7 rfl aD (E.v c3))
 ·exact stq (fun E=>Af rfl B6 rfl (E.d 7) (AE (HB1.o.mod E.m.old aJ) HLN.o 2 rfl (o:=2) (k:=0) rfl rfl rfl))
 ·exact Ai rfl
 ·refine A5 rfl rfl rfl fun _ _ _ _ _ _ _ _ _ hd _ _=>?_
  have h9:=hd ⟨9,.data⟩ bD rfl _ rfl
  exact Bo rfl (Ab rfl) (Aw rfl rfl) QE.refl h9
 intro c4 hr
 have m8:=hr.size
 have i7:=hid (hr.new (S:=(fun _=>False)))
 clear hr
 refine QChain.go fun Z act E=>?_
 refine Aq (args:=#[]) rfl (Ab rfl) rfl Tryz.func66 args0 (NewWriter_Q _) ?_
 rintro e c6 ⟨g,rfl,qwr,hm⟩
 have m9:=hm.size
 refine ⟨_,rfl,hm.mono (fun _ _ h=>h.elim),(fun _=>rfl),?_⟩
 intro c9 hr
 have n5:=hr.size
 have i8:=hid ((qwr.widen (R':=(fun k=>(New c4 c6 k))) (fun _ h=>h) (B9 _)).mod hr aE)
 have i9:=hid (i7.out.go hm hr)
 clear i7 hm hr Z act E qwr
 refine QChain.go fun Z act E=>?_
 refine Aq (args:=#[.pointer (some ⟨g,0,none⟩),.int .i64 x.kd]) rfl (Ab rfl) rfl D7 (An (chv (v:=.pointer (some ⟨g,0,none⟩)) (E.d 0)) (E.d 2)) (Bz i8.out HOK.o.kd aG) ?_
 rintro e d5 ⟨rfl,qwr,hm⟩
 have n6:=hm.size
 refine ⟨_,rfl,hm.mono bM,(fun _=>rfl),?_⟩
 intro d7 hr
 have n7:=hr.size
 have j0:=hid ((qwr.widen (R':=(fun k=>(New c4 c6 k)∨(New c9 d5 k))) (fun _ h=>h) (B9 _)).mod hr aE)
 have j3:=hid (i9.out.goM hm hr cG)
 clear i9 hm hr Z act E qwr i8
 refine QChain.go fun Z act E=>?_
 refine Aq (args:=#[.pointer (some ⟨g,0,none⟩),.int .i64 x.fr]) rfl (Ab rfl) rfl D7 (An (chv (v:=.pointer (some ⟨g,0,none⟩)) (E.d 3)) (E.d 5)) (Bz j0.out HOK.o.fr aG) ?_
 rintro e d8 ⟨rfl,qwr,hm⟩
 have n8:=hm.size
 refine ⟨_,rfl,hm.mono bM,(fun _=>rfl),?_⟩
 intro g5 hr
 have o4:=hr.size
 have j4:=hid ((qwr.widen (R':=(fun k=>(New c4 c6 k)∨(New c9 d5 k)∨(New d7 d8 k))) bF (B9 _)).mod hr aE)
 have j5:=hid (j3.out.goM hm hr cG)
 clear j3 hm hr Z act E qwr j0
 refine QChain.go fun Z act E=>?_
 refine Aq (args:=#[.pointer (some ⟨g,0,none⟩),.int .i64 x.to]) rfl (Ab rfl) rfl D7 (An (chv (v:=.pointer (some ⟨g,0,none⟩)) (E.d 6)) (E.d 8)) (Bz j4.out HOK.o.to aG) ?_
 rintro e g6 ⟨rfl,qwr,hm⟩
 have o5:=hm.size
 refine ⟨_,rfl,hm.mono bM,(fun _=>rfl),?_⟩
 intro g7 hr
 have o6:=hr.size
 have g8:=hid ((qwr.widen (R':=(fun k=>(New c4 c6 k)∨(New c9 d5 k)∨(New d7 d8 k)∨(New g5 g6 k))) bF (B9 _)).mod hr aE)
 have d6:=hid (j5.out.goM hm hr cG)
 clear j5 hm hr Z act E qwr j4
 refine QChain.nil fun vs hl hzz hrows hne=>?_
 obtain ⟨Z,hYZ,hZb,hV⟩:=hzz
 have f0:=fvc hV hl 0
 have f3:=fvc hV hl 3
 have f6:=fvc hV hl 6
 have f9:=fvc hV hl 9
 have f10:=fvc hV hl 10
 rw [show vs=[gw vs 0,gw vs 1,gw vs 2,gw vs 3,gw vs 4,gw vs 5,gw vs 6,gw vs 7,gw vs 8,gw vs 9,gw vs 10] from (Bv hl).trans rfl]
 have ha0:=HA0.o
 subst ha0
 clear HA0 hV hYZ hZb hsz0 hrows hne c3
 simp only [Ax,Act.put,sIB,sCZ,sCS,f0,f3,f6,f9,f10]
 clear hl f0 f3 f6 f9 f10
 by_cases hk:okKd x.kd=true
 ·have HK:=B5 hk
  clear hk
  go_upto_region 2 with (fail)
  refine Aa 26 [16,17,18,19] [0,1,2,3] (fun a0 HA0=>?_)
  have c3:=ev HA0 1 rfl
  have c7:=ev HA0 4 rfl
  refine qmo rfl c7 ?_
  refine QSeq.pure rfl _ (fun E=>Aj rfl B7 rfl (off:=0) (cs:=((x.segs c5 c10 c11 c15 c18).flatten)) dF (E.v c3) (Cs.whole (HB1.o.mod d6.out (fun h=>h)))) ?_
  refine QSeq.call rfl rfl Tryz.func68 (callsB HK.o (put_Q _ R2 _ _ _ x _ g8.out bF (g9.out.mod d6.out (fun _ _ h=>h)) aR (by intro k h1 h2;have hb:=HBT.o k h2;omega) aG)) (fun E=>An (E.d 0 1) (E.d 1 0)) ?_
  rintro e d9 ⟨rfl,qwr,hm⟩
  refine ⟨_,rfl,?_⟩
  have j9:=hid (qwr.widen (R':=(fun k=>(New c4 c6 k)∨(New c9 d5 k)∨(New d7 d8 k)∨(New g5 g6 k)∨(New g7 d9 k))) bF (B9 _))
  have l7:=hm.size
  have j6:=hid (show Mod (fun k=>(New c4 c6 k)∨(New c9 d5 k)∨(New d7 d8 k)∨(New g5 g6 k)) g7 d9 from hm)
  clear hm
  clear qwr g8
  refine QSeq.pure rfl (.bool false) (fun E=>Bm rfl (E.d 2 0)) ?_
  refine qe ?_
  clear HA0 c3 c7 a0
  go_upto_region 4 with (fail)
  refine Aa 26 [20,21,5] [0,1,2] (fun a0 HA0=>?_)
  have c7:=ev HA0 4 rfl
  refine qmo rfl c7 ?_
  refine QSeq.call rfl rfl Tryz.func69 (WBytes_Q j9.out) (fun E=>A0 (E.d 0 0)) ?_
  rintro e j7 ⟨vb,rfl,qout,hm⟩
  obtain ⟨aob,capb,rfl⟩:=qout.shape
  refine ⟨_,rfl,?_⟩
  have l8:=hid qout
  have o7:=hm.size
  have j8:=hid (show Mod (fun _=>False) d9 j7 from hm)
  clear hm
  clear qout
  refine qas rfl 1 0 ?_
  refine qe ?_
  clear HA0 c7 a0
  have HE:=hid (show packB x=[] ++ encI x.kd ++ encI x.fr ++ encI x.to ++ Bd x by simp only [packB,List.nil_append,B8])
  by_cases hn:65536 < ([] ++ encI x.kd ++ encI x.fr ++ encI x.to ++ Bd x).length
  ·skip
   go_upto_region 5 with (fail)
   refine Aa 26 [22,23,24] [0,1,2] (fun a0 HA0=>?_)
   have c8:=ev HA0 5 rfl
   refine qmo rfl c8 ?_
   refine QSeq.pure rfl (.int .i64 (([] ++ encI x.kd ++ encI x.fr ++ encI x.to ++ Bd x).length)) (fun E=>Bc rfl (E.d 0 0) D1) ?_
   refine QSeq.pure rfl (.bool true) (fun E=>Am rfl (E.d 1 0) rfl (Ag _ _ _ _ _ _) (run_gtr_i _ _ _ B6) (congrArg Value.bool (decide_eq_true aM))) ?_
   refine qe ?_
   clear HA0 c8 a0
   go_upto_region 6 with (fail)
   refine Aa 26 [2,3] [0,1] (fun a0 HA0=>?_)
   refine QSeq.pure rfl (.slice none 0 0) (fun E=>Aw rfl rfl) ?_
   refine QSeq.pure rfl (.bool false) (fun E=>Aw rfl rfl) ?_
   refine qe ?_
   clear HA0 a0
   have HP:=hid (show packs x=false by unfold packs;rw [HE.o,HK.o,Bool.true_and,decide_eq_false_iff_not];omega)
   go_wp2
   go_ret2
   exact ⟨.slice none 0 0,by rw [HPK.o,HP.o];rfl,by rw [show RB=[] by rw [HRB.o,HP.o];rfl];exact ⟨Own.nil _ _ _ _,(fun g h=>by cases h),Nat.zero_le _⟩,(((HM0.o.trans d6.out (fun _ _ h=>h.elim)).trans j6.out aE).trans j8.out (fun _ _ h=>h.elim))⟩
  go_upto_region 5 with (fail)
  refine Aa 26 [22,23,24] [0,1,2] (fun a0 HA0=>?_)
  have c8:=ev HA0 5 rfl
  refine qmo rfl c8 ?_
  refine QSeq.pure rfl (.int .i64 (([] ++ encI x.kd ++ encI x.fr ++ encI x.to ++ Bd x).length)) (fun E=>Bc rfl (E.d 0 0) D1) ?_
  refine QSeq.pure rfl (.bool false) (fun E=>Am rfl (E.d 1 0) rfl (Ag _ _ _ _ _ _) (run_gtr_i _ _ _ B6) (congrArg Value.bool (decide_eq_false aM))) ?_
  refine qe ?_
  clear HA0 c8 a0
  go_upto_region 7 with (fail)
  refine Aa 26 [25,2,3] [0,1,2] (fun a0 HA0=>?_)
  have c8:=ev HA0 5 rfl
  refine qmo rfl c8 ?_
  refine qas rfl 0 0 ?_
  refine QSeq.pure rfl (.bool true) (fun E=>Aw rfl rfl) ?_
  refine qe ?_
  clear HA0 c8 a0
  have HP:=hid (show packs x=true by unfold packs;rw [HE.o,HK.o,Bool.true_and,decide_eq_true_eq];omega)
  go_wp2
  go_ret2
  exact ⟨.slice aob (([] ++ encI x.kd ++ encI x.fr ++ encI x.to ++ Bd x).length) capb,by rw [HPK.o,HP.o];rfl,by rw [show RB=[] ++ encI x.kd ++ encI x.fr ++ encI x.to ++ Bd x by rw [HRB.o,HP.o];exact HE.o];exact (l8.out.widen (R':=(fun k=>New w j7 k)) bF (B9 _)),(((HM0.o.trans d6.out (fun _ _ h=>h.elim)).trans j6.out aE).trans j8.out (fun _ _ h=>h.elim))⟩
 have HK:=hid (Bool.eq_false_iff.2 hk)
 clear hk
 go_upto_region 2 with (fail)
 refine Aa 26 [16,17,18,19] [0,1,2,3] (fun a0 HA0=>?_)
 have c3:=ev HA0 1 rfl
 have c7:=ev HA0 4 rfl
 refine qmo rfl c7 ?_
 refine QSeq.pure rfl _ (fun E=>Aj rfl B7 rfl (off:=0) (cs:=((x.segs c5 c10 c11 c15 c18).flatten)) dF (E.v c3) (Cs.whole (HB1.o.mod d6.out (fun h=>h)))) ?_
 refine QSeq.call rfl rfl Tryz.func68 (callsB HK.o (put_Q _ R2 _ _ _ x _ g8.out bF (g9.out.mod d6.out (fun _ _ h=>h)) aR (by intro k h1 h2;have hb:=HBT.o k h2;omega) aG)) (fun E=>An (E.d 0 1) (E.d 1 0)) ?_
 rintro e d9 ⟨rfl,qwr,hm⟩
 refine ⟨_,rfl,?_⟩
 have o8:=hid (qwr.widen (R':=(fun k=>(New c4 c6 k)∨(New c9 d5 k)∨(New d7 d8 k)∨(New g5 g6 k)∨(New g7 d9 k))) bF (B9 _))
 have l7:=hm.size
 have m7:=hid (show Mod (fun k=>(New c4 c6 k)∨(New c9 d5 k)∨(New d7 d8 k)∨(New g5 g6 k)) g7 d9 from hm)
 clear hm
 clear qwr g8
 refine QSeq.pure rfl (.bool true) (fun E=>Bm rfl (E.d 2 0)) ?_
 refine qe ?_
 clear HA0 c3 c7 a0
 go_upto_region 3 with (fail)
 refine Aa 26 [2,3] [0,1] (fun a0 HA0=>?_)
 refine QSeq.pure rfl (.slice none 0 0) (fun E=>Aw rfl rfl) ?_
 refine QSeq.pure rfl (.bool false) (fun E=>Aw rfl rfl) ?_
 refine qe ?_
 clear HA0 a0
 have HP:=hid (show packs x=false by unfold packs;rw [HK.o];rfl)
 go_wp2
 go_ret2
 exact ⟨.slice none 0 0,by rw [HPK.o,HP.o];rfl,by rw [show RB=[] by rw [HRB.o,HP.o];rfl];exact ⟨Own.nil _ _ _ _,(fun g h=>by cases h),Nat.zero_le _⟩,((HM0.o.trans d6.out (fun _ _ h=>h.elim)).trans m7.out aE)⟩
end Go.Proofs.YtnaoeginonpicaaGreat
