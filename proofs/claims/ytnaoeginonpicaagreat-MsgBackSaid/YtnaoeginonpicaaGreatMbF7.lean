/- Texts that are built one behind the other: XMu, XMh, XMw, XKp1, XKp2, XKm, XGw. No condition. -/
import Derived.Test.YtnaoeginonpicaaGreatMbF6
set_option maxRecDepth 100000
set_option linter.unusedVariables false
open Go renaming Lib.hid→B5
open Go.Proofs renaming Tryz.underlying3→B6,Tryz.underlying61→B7,Tryz.underlying45→C2,Tryz.underlying47→C6,Tryz.underlying43→C8,Tryz.underlying52→D1,Tryz.underlying127→D2,Tryz.underlying59→D3,Tryz.underlying25→D5,Tryz.underlying100→D6,Tryz.func67→D7,Tryz.underlying30→D8,Tryz.underlying4→E0
open List renaming append_assoc→B8,length_append→C0,size_toArray→C3,length_nil→C4,length_cons→C5,map_toArray→C7,map_cons→C9,map_nil→D0,not_mem_nil→D4,mem_cons→D9
open Nat renaming le_refl→B9,le_trans→C1
open List renaming setIfInBounds_toArray → sIB, set_cons_zero → sCZ, set_cons_succ → sCS
namespace Go.Proofs.YtnaoeginonpicaaGreat
open Go Go.RowKit Go.Gv
theorem packs_of {x:Mg} {bs:List Int} (h:packB x=bs) (hl:bs.length≤900000):(packB x).length≤900000:=by rw [h];exact hl
theorem unpack_yes {bs:List Int} (h1:(gMg (some bs)).2=some []) (h2:packs (gMg (some bs)).1=true):unpackB bs=some (gMg (some bs)).1:=if_pos ⟨h1,h2⟩
theorem unpack_no1 {bs:List Int} (h1:¬ (gMg (some bs)).2=some []):unpackB bs=none:=if_neg fun h=>h1 h.1
theorem unpack_no2 {bs:List Int} (h2:packs (gMg (some bs)).1=false):unpackB bs=none:=if_neg fun h=>by rw [h2] at h;cases h.2
theorem callsP {P:Program} {F:FuncId} {args:Array Value} {w:World} {b c:Bool} {Q:Value→World→Prop} (h:b=c) (hc:Calls P F args w fun e w'=>∃ v,e=.returned (.tuple #[v,.bool b])∧Q v w'):Calls P F args w fun e w'=>∃ v,e=.returned (.tuple #[v,.bool c])∧Q v w':=h▸hc
theorem Bq {P:Program} {fn:Func} {p u:Tmp} {ty:TypeId} (h:fn.results=#[.cell p ty,.tmp u]) (tmps:Array Value) (w:World) (g:Nat) (cs:List Value) {d:TypeDesc}
 (hp:tmps.getD p undef=.pointer (some ⟨g,0,none⟩)) (hc:∀ j u,cs[j]? = some u→w.cell? ⟨g,j,none⟩=some u) (hu:P.underlying ty=some d) (hd:aggDesc d=true) (hi:(P.info? ty).map (·.size)=some cs.length) :
 (results fn tmps).run P w=.ok (.tuple #[.agg cs.toArray,tmps.getD u undef]) w:=by
 have hp':tmps[p]?.getD undef=.pointer (some ⟨g,0,none⟩):=by simpa using hp
 simp [results,h,hp',asAddr,run_loadA w ty d hu hd ⟨g,0,none⟩ cs hi (fun j u hu=>by rw [add_mk,Nat.zero_add];exact hc j u hu)]
theorem run_eql_str1 {t:TypeId} {s:ByteArray} (w:World):(binOp .eql t (.string s) (.string s)).run Tryz.prog w=.ok (.bool true) w:=by
 rw [binOp_string_eql,Sem.run_pure]
 congr 2
 exact beq_self_eq_true _
theorem guard_str1 {op:BinOp} {t:TypeId} {x y:Operand} {s:ByteArray} {v:Value} (w:World):(eqGuard op t x y (.string s) v).run Tryz.prog w=.ok () w:=by cases op<;>simp [eqGuard]
set_option maxHeartbeats 1000000 in
theorem BytesEq_R {R R':Nat→Prop} {N N':Nat} {va vb:Value} {a:List Int} {w:World} (ha:RdR R N w va a) (hb:RdR R' N' w vb a):Calls Tryz.prog 45 #[va,vb] w fun e w'=>e=.returned (.bool true)∧w'=w:=by
 obtain ⟨aoa,capa,rfl⟩:=ha.shape
 obtain ⟨aob,capb,rfl⟩:=hb.shape
 have HA:=B5 ha
 have HB:=B5 hb
 clear ha hb
 go_enter Tryz.func45,Tryz.ntmps45
 go_upto_region 1 with (fail)
 have HM0:=hid (Mod.refl (fun _=>False) w)
 go_upto_region 1 with (fail)
 refine Aa 10 [5,6,7,8,9,4] [0,1,2,3,4,5] (fun a0 HA0=>?_)
 have c3:=ev HA0 0 rfl
 have c4:=ev HA0 1 rfl
 refine qmo rfl c3 ?_
 refine QSeq.pure rfl (.string (strOfNums a)) (fun E=>ex_conv rfl (E.d 0 0) (bytes_string HA.o.1)) ?_
 refine qmo rfl c4 ?_
 refine QSeq.pure rfl (.string (strOfNums a)) (fun E=>ex_conv rfl (E.d 2 0) (bytes_string HB.o.1)) ?_
 refine QSeq.pure rfl (.bool true) (fun E=>Am rfl (E.d 1 2) (E.d 3 0) (guard_str1 _) (run_eql_str1 _) rfl) ?_
 refine qas rfl 4 0 ?_
 refine qe ?_
 clear HA0 c3 c4 a0
 go_wp2
 go_ret
 exact ⟨rfl,rfl⟩
set_option maxHeartbeats 4000000 in
theorem Unpack_Q:∀ (R2:Nat→Prop) (v:Value) (bs:List Int) (w:World),RdR R2 900000 w v bs→(∀ k,R2 k→k < w.heap.size)→
 Calls Tryz.prog 11 #[v] w fun e w'=>∃ cs,e=.returned (.tuple #[.agg cs.toArray,.bool (unpackB bs).isSome])∧MgR.rd (New w w') w' cs ((unpackB bs).getD zMg)∧Mod (fun _=>False) w w':=by
 intro R2 v bs w hx hB2
 obtain ⟨ao,cap,rfl⟩:=hx.shape
 obtain ⟨um,hum⟩:∃ z,z=unpackB bs:=⟨_,rfl⟩
 rw [← hum]
 obtain ⟨ub,hub⟩:∃ z,z=um.isSome:=⟨_,rfl⟩
 rw [← hub]
 obtain ⟨uy,huy⟩:∃ z,z=um.getD zMg:=⟨_,rfl⟩
 rw [← huy]
 have HUM:=B5 hum
 have HUB:=B5 hub
 have HUY:=B5 huy
 have HX:=B5 hx
 have HBT:=B5 hB2
 have HL:=hid hx.2.2
 have HBY:=hid hx.1.1
 clear hum hub huy hx hB2
 go_enter Tryz.func11,Tryz.ntmps11
 go_upto_region 1 with (fail)
 obtain ⟨w1,hw1⟩:∃ zz,zz=(w.alloc (.cells #[.int .i64 0,.int .i64 0,.int .i64 0,.int .i64 0,.int .i64 0,.int .u8 0,.int .u8 0,.int .u8 0,.int .u8 0,.int .u8 0,.int .u8 0,.int .u8 0,.int .u8 0,.int .u8 0,.int .u8 0,.int .u8 0,.int .u8 0,.int .u8 0,.int .u8 0,.int .u8 0,.int .u8 0,.int .u8 0,.int .u8 0,.int .u8 0,.int .u8 0,.int .u8 0,.int .u8 0,.int .u8 0,.int .u8 0,.int .u8 0,.int .u8 0,.int .u8 0,.int .u8 0,.int .u8 0,.int .u8 0,.int .u8 0,.int .u8 0,.int .i64 0,.int .i64 0,.int .i64 0,.int .i64 0,.int .i64 0,.int .i64 0,.int .u8 0,.int .u8 0,.int .u8 0,.int .u8 0,.int .u8 0,.int .u8 0,.int .u8 0,.int .u8 0,.int .u8 0,.int .u8 0,.int .u8 0,.int .u8 0,.int .u8 0,.int .u8 0,.int .u8 0,.int .u8 0,.int .u8 0,.int .u8 0,.int .u8 0,.int .u8 0,.int .u8 0,.int .u8 0,.int .u8 0,.int .u8 0,.int .u8 0,.int .u8 0,.int .u8 0,.int .u8 0,.int .u8 0,.int .u8 0,.int .u8 0,.int .u8 0,.int .u64 0,.int .i64 0,.int .i64 0,.int .i64 0,.int .i64 0,.int .u8 0,.int .u8 0,.int .u8 0,.int .u8 0,.int .u8 0,.int .u8 0,.int .u8 0,.int .u8 0,.int .u8 0,.int .u8 0,.int .u8 0,.int .u8 0,.int .u8 0,.int .u8 0,.int .u8 0,.int .u8 0,.int .u8 0,.int .u8 0,.int .u8 0,.int .u8 0,.int .u8 0,.int .u8 0,.int .u8 0,.int .u8 0,.int .u8 0,.int .u8 0,.int .u8 0,.int .u8 0,.int .u8 0,.int .u8 0,.int .u8 0,.int .u8 0,.int .i64 0,.int .i64 0,.int .i64 0,.slice none 0 0,.int .i64 0,.int .i64 0,.int .i64 0,.int .u8 0,.int .u8 0,.int .u8 0,.int .u8 0,.int .u8 0,.int .u8 0,.int .u8 0,.int .u8 0,.int .u8 0,.int .u8 0,.int .u8 0,.int .u8 0,.int .u8 0,.int .u8 0,.int .u8 0,.int .u8 0,.int .u8 0,.int .u8 0,.int .u8 0,.int .u8 0,.int .u8 0,.int .u8 0,.int .u8 0,.int .u8 0,.int .u8 0,.int .u8 0,.int .u8 0,.int .u8 0,.int .u8 0,.int .u8 0,.int .u8 0,.int .u8 0,.int .u64 0,.int .i64 0,.int .i64 0,.int .i64 0,.int .i64 0,.int .u64 0,.int .i64 0,.int .i64 0,.int .u64 0,.slice none 0 0,.int .i64 0,.int .i64 0,.int .i64 0,.int .i64 0,.int .i64 0,.int .i64 0,.int .i64 0,.int .u64 0,.slice none 0 0,.slice none 0 0,.slice none 0 0,.int .i64 0,.int .i64 0,.int .i64 0,.int .i64 0,.int .i64 0,.int .i64 0,.int .u8 0,.int .u8 0,.int .u8 0,.int .u8 0,.int .u8 0,.int .u8 0,.int .u8 0,.int .u8 0,.int .u8 0,.int .u8 0,.int .u8 0,.int .u8 0,.int .u8 0,.int .u8 0,.int .u8 0,.int .u8 0,.int .u8 0,.int .u8 0,.int .u8 0,.int .u8 0,.int .u8 0,.int .u8 0,.int .u8 0,.int .u8 0,.int .u8 0,.int .u8 0,.int .u8 0,.int .u8 0,.int .u8 0,.int .u8 0,.int .u8 0,.int .u8 0,.int .i64 0,.int .i64 0,.int .i64 0,.int .i64 0,.int .i64 0,.int .u8 0,.int .u8 0,.int .u8 0,.int .u8 0,.int .u8 0,.int .u8 0,.int .u8 0,.int .u8 0,.int .u8 0,.int .u8 0,.int .u8 0,.int .u8 0,.int .u8 0,.int .u8 0,.int .u8 0,.int .u8 0,.int .u8 0,.int .u8 0,.int .u8 0,.int .u8 0,.int .u8 0,.int .u8 0,.int .u8 0,.int .u8 0,.int .u8 0,.int .u8 0,.int .u8 0,.int .u8 0,.int .u8 0,.int .u8 0,.int .u8 0,.int .u8 0,.int .u64 0,.int .i64 0,.slice none 0 0,.int .u8 0,.int .u8 0,.int .u8 0,.int .u8 0,.int .u8 0,.int .u8 0,.int .u8 0,.int .u8 0,.int .u8 0,.int .u8 0,.int .u8 0,.int .u8 0,.int .u8 0,.int .u8 0,.int .u8 0,.int .u8 0,.int .u8 0,.int .u8 0,.int .u8 0,.int .u8 0,.int .u8 0,.int .u8 0,.int .u8 0,.int .u8 0,.int .u8 0,.int .u8 0,.int .u8 0,.int .u8 0,.int .u8 0,.int .u8 0,.int .u8 0,.int .u8 0,.int .i64 0,.int .i64 0,.int .i64 0,.int .i64 0,.string ByteArray.empty,.int .i64 0,.int .i64 0,.int .i64 0,.int .u64 0,.slice none 0 0,.slice none 0 0,.slice none 0 0,.slice none 0 0] 61)):=⟨_,rfl⟩
 change Code.wp _ _ _ _ (w.alloc (.cells #[.int .i64 0,.int .i64 0,.int .i64 0,.int .i64 0,.int .i64 0,.int .u8 0,.int .u8 0,.int .u8 0,.int .u8 0,.int .u8 0,.int .u8 0,.int .u8 0,.int .u8 0,.int .u8 0,.int .u8 0,.int .u8 0,.int .u8 0,.int .u8 0,.int .u8 0,.int .u8 0,.int .u8 0,.int .u8 0,.int .u8 0,.int .u8 0,.int .u8 0,.int .u8 0,.int .u8 0,.int .u8 0,.int .u8 0,.int .u8 0,.int .u8 0,.int .u8 0,.int .u8 0,.int .u8 0,.int .u8 0,.int .u8 0,.int .u8 0,.int .i64 0,.int .i64 0,.int .i64 0,.int .i64 0,.int .i64 0,.int .i64 0,.int .u8 0,.int .u8 0,.int .u8 0,.int .u8 0,.int .u8 0,.int .u8 0,.int .u8 0,.int .u8 0,.int .u8 0,.int .u8 0,.int .u8 0,.int .u8 0,.int .u8 0,.int .u8 0,.int .u8 0,.int .u8 0,.int .u8 0,.int .u8 0,.int .u8 0,.int .u8 0,.int .u8 0,.int .u8 0,.int .u8 0,.int .u8 0,.int .u8 0,.int .u8 0,.int .u8 0,.int .u8 0,.int .u8 0,.int .u8 0,.int .u8 0,.int .u8 0,.int .u64 0,.int .i64 0,.int .i64 0,.int .i64 0,.int .i64 0,.int .u8 0,.int .u8 0,.int .u8 0,.int .u8 0,.int .u8 0,.int .u8 0,.int .u8 0,.int .u8 0,.int .u8 0,.int .u8 0,.int .u8 0,.int .u8 0,.int .u8 0,.int .u8 0,.int .u8 0,.int .u8 0,.int .u8 0,.int .u8 0,.int .u8 0,.int .u8 0,.int .u8 0,.int .u8 0,.int .u8 0,.int .u8 0,.int .u8 0,.int .u8 0,.int .u8 0,.int .u8 0,.int .u8 0,.int .u8 0,.int .u8 0,.int .u8 0,.int .i64 0,.int .i64 0,.int .i64 0,.slice none 0 0,.int .i64 0,.int .i64 0,.int .i64 0,.int .u8 0,.int .u8 0,.int .u8 0,.int .u8 0,.int .u8 0,.int .u8 0,.int .u8 0,.int .u8 0,.int .u8 0,.int .u8 0,.int .u8 0,.int .u8 0,.int .u8 0,.int .u8 0,.int .u8 0,.int .u8 0,.int .u8 0,.int .u8 0,.int .u8 0,.int .u8 0,.int .u8 0,.int .u8 0,.int .u8 0,.int .u8 0,.int .u8 0,.int .u8 0,.int .u8 0,.int .u8 0,.int .u8 0,.int .u8 0,.int .u8 0,.int .u8 0,.int .u64 0,.int .i64 0,.int .i64 0,.int .i64 0,.int .i64 0,.int .u64 0,.int .i64 0,.int .i64 0,.int .u64 0,.slice none 0 0,.int .i64 0,.int .i64 0,.int .i64 0,.int .i64 0,.int .i64 0,.int .i64 0,.int .i64 0,.int .u64 0,.slice none 0 0,.slice none 0 0,.slice none 0 0,.int .i64 0,.int .i64 0,.int .i64 0,.int .i64 0,.int .i64 0,.int .i64 0,.int .u8 0,.int .u8 0,.int .u8 0,.int .u8 0,.int .u8 0,.int .u8 0,.int .u8 0,.int .u8 0,.int .u8 0,.int .u8 0,.int .u8 0,.int .u8 0,.int .u8 0,.int .u8 0,.int .u8 0,.int .u8 0,.int .u8 0,.int .u8 0,.int .u8 0,.int .u8 0,.int .u8 0,.int .u8 0,.int .u8 0,.int .u8 0,.int .u8 0,.int .u8 0,.int .u8 0,.int .u8 0,.int .u8 0,.int .u8 0,.int .u8 0,.int .u8 0,.int .i64 0,.int .i64 0,.int .i64 0,.int .i64 0,.int .i64 0,.int .u8 0,.int .u8 0,.int .u8 0,.int .u8 0,.int .u8 0,.int .u8 0,.int .u8 0,.int .u8 0,.int .u8 0,.int .u8 0,.int .u8 0,.int .u8 0,.int .u8 0,.int .u8 0,.int .u8 0,.int .u8 0,.int .u8 0,.int .u8 0,.int .u8 0,.int .u8 0,.int .u8 0,.int .u8 0,.int .u8 0,.int .u8 0,.int .u8 0,.int .u8 0,.int .u8 0,.int .u8 0,.int .u8 0,.int .u8 0,.int .u8 0,.int .u8 0,.int .u64 0,.int .i64 0,.slice none 0 0,.int .u8 0,.int .u8 0,.int .u8 0,.int .u8 0,.int .u8 0,.int .u8 0,.int .u8 0,.int .u8 0,.int .u8 0,.int .u8 0,.int .u8 0,.int .u8 0,.int .u8 0,.int .u8 0,.int .u8 0,.int .u8 0,.int .u8 0,.int .u8 0,.int .u8 0,.int .u8 0,.int .u8 0,.int .u8 0,.int .u8 0,.int .u8 0,.int .u8 0,.int .u8 0,.int .u8 0,.int .u8 0,.int .u8 0,.int .u8 0,.int .u8 0,.int .u8 0,.int .i64 0,.int .i64 0,.int .i64 0,.int .i64 0,.string ByteArray.empty,.int .i64 0,.int .i64 0,.int .i64 0,.int .u64 0,.slice none 0 0,.slice none 0 0,.slice none 0 0,.slice none 0 0] 61))
 rw [← hw1]
 have HB2:=hid (show Cs w1 (w.heap.size) #[.int .i64 0,.int .i64 0,.int .i64 0,.int .i64 0,.int .i64 0,.int .u8 0,.int .u8 0,.int .u8 0,.int .u8 0,.int .u8 0,.int .u8 0,.int .u8 0,.int .u8 0,.int .u8 0,.int .u8 0,.int .u8 0,.int .u8 0,.int .u8 0,.int .u8 0,.int .u8 0,.int .u8 0,.int .u8 0,.int .u8 0,.int .u8 0,.int .u8 0,.int .u8 0,.int .u8 0,.int .u8 0,.int .u8 0,.int .u8 0,.int .u8 0,.int .u8 0,.int .u8 0,.int .u8 0,.int .u8 0,.int .u8 0,.int .u8 0,.int .i64 0,.int .i64 0,.int .i64 0,.int .i64 0,.int .i64 0,.int .i64 0,.int .u8 0,.int .u8 0,.int .u8 0,.int .u8 0,.int .u8 0,.int .u8 0,.int .u8 0,.int .u8 0,.int .u8 0,.int .u8 0,.int .u8 0,.int .u8 0,.int .u8 0,.int .u8 0,.int .u8 0,.int .u8 0,.int .u8 0,.int .u8 0,.int .u8 0,.int .u8 0,.int .u8 0,.int .u8 0,.int .u8 0,.int .u8 0,.int .u8 0,.int .u8 0,.int .u8 0,.int .u8 0,.int .u8 0,.int .u8 0,.int .u8 0,.int .u8 0,.int .u64 0,.int .i64 0,.int .i64 0,.int .i64 0,.int .i64 0,.int .u8 0,.int .u8 0,.int .u8 0,.int .u8 0,.int .u8 0,.int .u8 0,.int .u8 0,.int .u8 0,.int .u8 0,.int .u8 0,.int .u8 0,.int .u8 0,.int .u8 0,.int .u8 0,.int .u8 0,.int .u8 0,.int .u8 0,.int .u8 0,.int .u8 0,.int .u8 0,.int .u8 0,.int .u8 0,.int .u8 0,.int .u8 0,.int .u8 0,.int .u8 0,.int .u8 0,.int .u8 0,.int .u8 0,.int .u8 0,.int .u8 0,.int .u8 0,.int .i64 0,.int .i64 0,.int .i64 0,.slice none 0 0,.int .i64 0,.int .i64 0,.int .i64 0,.int .u8 0,.int .u8 0,.int .u8 0,.int .u8 0,.int .u8 0,.int .u8 0,.int .u8 0,.int .u8 0,.int .u8 0,.int .u8 0,.int .u8 0,.int .u8 0,.int .u8 0,.int .u8 0,.int .u8 0,.int .u8 0,.int .u8 0,.int .u8 0,.int .u8 0,.int .u8 0,.int .u8 0,.int .u8 0,.int .u8 0,.int .u8 0,.int .u8 0,.int .u8 0,.int .u8 0,.int .u8 0,.int .u8 0,.int .u8 0,.int .u8 0,.int .u8 0,.int .u64 0,.int .i64 0,.int .i64 0,.int .i64 0,.int .i64 0,.int .u64 0,.int .i64 0,.int .i64 0,.int .u64 0,.slice none 0 0,.int .i64 0,.int .i64 0,.int .i64 0,.int .i64 0,.int .i64 0,.int .i64 0,.int .i64 0,.int .u64 0,.slice none 0 0,.slice none 0 0,.slice none 0 0,.int .i64 0,.int .i64 0,.int .i64 0,.int .i64 0,.int .i64 0,.int .i64 0,.int .u8 0,.int .u8 0,.int .u8 0,.int .u8 0,.int .u8 0,.int .u8 0,.int .u8 0,.int .u8 0,.int .u8 0,.int .u8 0,.int .u8 0,.int .u8 0,.int .u8 0,.int .u8 0,.int .u8 0,.int .u8 0,.int .u8 0,.int .u8 0,.int .u8 0,.int .u8 0,.int .u8 0,.int .u8 0,.int .u8 0,.int .u8 0,.int .u8 0,.int .u8 0,.int .u8 0,.int .u8 0,.int .u8 0,.int .u8 0,.int .u8 0,.int .u8 0,.int .i64 0,.int .i64 0,.int .i64 0,.int .i64 0,.int .i64 0,.int .u8 0,.int .u8 0,.int .u8 0,.int .u8 0,.int .u8 0,.int .u8 0,.int .u8 0,.int .u8 0,.int .u8 0,.int .u8 0,.int .u8 0,.int .u8 0,.int .u8 0,.int .u8 0,.int .u8 0,.int .u8 0,.int .u8 0,.int .u8 0,.int .u8 0,.int .u8 0,.int .u8 0,.int .u8 0,.int .u8 0,.int .u8 0,.int .u8 0,.int .u8 0,.int .u8 0,.int .u8 0,.int .u8 0,.int .u8 0,.int .u8 0,.int .u8 0,.int .u64 0,.int .i64 0,.slice none 0 0,.int .u8 0,.int .u8 0,.int .u8 0,.int .u8 0,.int .u8 0,.int .u8 0,.int .u8 0,.int .u8 0,.int .u8 0,.int .u8 0,.int .u8 0,.int .u8 0,.int .u8 0,.int .u8 0,.int .u8 0,.int .u8 0,.int .u8 0,.int .u8 0,.int .u8 0,.int .u8 0,.int .u8 0,.int .u8 0,.int .u8 0,.int .u8 0,.int .u8 0,.int .u8 0,.int .u8 0,.int .u8 0,.int .u8 0,.int .u8 0,.int .u8 0,.int .u8 0,.int .i64 0,.int .i64 0,.int .i64 0,.int .i64 0,.string ByteArray.empty,.int .i64 0,.int .i64 0,.int .i64 0,.int .u64 0,.slice none 0 0,.slice none 0 0,.slice none 0 0,.slice none 0 0] 61 by rw [hw1];exact Cs.new _ _ _)
 have hm:Mod (fun _=>False) w w1:=by rw [hw1];exact (Mod.refl _ _).alloc _
 have HM0:=hid (show Mod (fun _=>False) w w1 from hm.mono (fun _ _ h=>h.elim))
 have hs1:w1.heap.size=w.heap.size+1:=by rw [hw1];simp
 have g9:=hid (HX.o.mod hm (fun _ _ h=>h))
 clear HX
 clear hw1 hm
 go_upto_region 1 with (fail)
 refine Aa 43 [8,9,4] [0,1,2] (fun a0 HA0=>?_)
 have d7:=ev HA0 0 rfl
 refine qmo rfl d7 ?_
 refine QSeq.call rfl rfl Tryz.func40 (NewReader_R g9.out aF) (fun E=>A0 (E.d 0 0)) ?_
 rintro e d5 ⟨r1,rfl,qrd,hm⟩
 refine ⟨_,rfl,?_⟩
 have i7:=hid qrd
 have q7:=hm.size
 have c6:=hid (show Mod (fun _=>False) w1 d5 from hm)
 clear hm
 clear qrd
 refine qas rfl 1 0 ?_
 refine qe ?_
 clear HA0 d7 a0
 go_upto_region 2 with (fail)
 refine Aa 43 [10,11,12,13,14,15,16,17,18,5,53] [0,1,2,3,4,5,6,7,8,9,10] (fun a0 HA0=>?_)
 have c3:=ev HA0 4 rfl
 refine qmo rfl c3 ?_
 refine qmo rfl c3 ?_
 refine QSeq.call rfl rfl Tryz.func42 (cI_Q i7.out) (fun E=>An (E.d 1 0) rfl) ?_
 rintro e m9 ⟨rfl,qrd,hm⟩
 refine ⟨_,rfl,?_⟩
 have i8:=hid qrd
 have q8:=hm.size
 have i9:=hid (show Mod (fun k=>(New w1 d5 k)) d5 m9 from hm)
 clear hm
 clear qrd i7
 refine qmo rfl c3 ?_
 refine QSeq.call rfl rfl Tryz.func42 (cI_Q i8.out) (fun E=>An (E.d 3 0) rfl) ?_
 rintro e q9 ⟨rfl,qrd,hm⟩
 refine ⟨_,rfl,?_⟩
 have j0:=hid qrd
 have r3:=hm.size
 have n5:=hid hm
 have j3:=hid (AB (S':=(fun k=>(New w1 d5 k))) i9.out hm (fun _ h=>h) aQ)
 clear hm i9
 clear qrd i8
 refine qmo rfl c3 ?_
 refine QSeq.call rfl rfl Tryz.func42 (cI_Q j0.out) (fun E=>An (E.d 5 0) rfl) ?_
 rintro e r4 ⟨rfl,qrd,hm⟩
 refine ⟨_,rfl,?_⟩
 have j4:=hid qrd
 have r5:=hm.size
 have n6:=hid hm
 have j5:=hid (AB (S':=(fun k=>(New w1 d5 k))) j3.out hm (fun _ h=>h) aQ)
 clear hm j3
 clear qrd j0
 refine QSeq.go fun act E=>?_
 refine Br rfl (Ab rfl) (v:=.agg ((mg0C (gI (some bs)).1 (gI (gI (some bs)).2).1 (gI (gI (gI (some bs)).2).2).1):List Value).toArray) (Bj rfl (z:=[.int .i64 0,.int .i64 0,.int .i64 0,.int .i64 0,.int .i64 0,.int .u8 0,.int .u8 0,.int .u8 0,.int .u8 0,.int .u8 0,.int .u8 0,.int .u8 0,.int .u8 0,.int .u8 0,.int .u8 0,.int .u8 0,.int .u8 0,.int .u8 0,.int .u8 0,.int .u8 0,.int .u8 0,.int .u8 0,.int .u8 0,.int .u8 0,.int .u8 0,.int .u8 0,.int .u8 0,.int .u8 0,.int .u8 0,.int .u8 0,.int .u8 0,.int .u8 0,.int .u8 0,.int .u8 0,.int .u8 0,.int .u8 0,.int .u8 0,.int .i64 0,.int .i64 0,.int .i64 0,.int .i64 0,.int .i64 0,.int .i64 0,.int .u8 0,.int .u8 0,.int .u8 0,.int .u8 0,.int .u8 0,.int .u8 0,.int .u8 0,.int .u8 0,.int .u8 0,.int .u8 0,.int .u8 0,.int .u8 0,.int .u8 0,.int .u8 0,.int .u8 0,.int .u8 0,.int .u8 0,.int .u8 0,.int .u8 0,.int .u8 0,.int .u8 0,.int .u8 0,.int .u8 0,.int .u8 0,.int .u8 0,.int .u8 0,.int .u8 0,.int .u8 0,.int .u8 0,.int .u8 0,.int .u8 0,.int .u8 0,.int .u64 0,.int .i64 0,.int .i64 0,.int .i64 0,.int .i64 0,.int .u8 0,.int .u8 0,.int .u8 0,.int .u8 0,.int .u8 0,.int .u8 0,.int .u8 0,.int .u8 0,.int .u8 0,.int .u8 0,.int .u8 0,.int .u8 0,.int .u8 0,.int .u8 0,.int .u8 0,.int .u8 0,.int .u8 0,.int .u8 0,.int .u8 0,.int .u8 0,.int .u8 0,.int .u8 0,.int .u8 0,.int .u8 0,.int .u8 0,.int .u8 0,.int .u8 0,.int .u8 0,.int .u8 0,.int .u8 0,.int .u8 0,.int .u8 0,.int .i64 0,.int .i64 0,.int .i64 0,.slice none 0 0,.int .i64 0,.int .i64 0,.int .i64 0,.int .u8 0,.int .u8 0,.int .u8 0,.int .u8 0,.int .u8 0,.int .u8 0,.int .u8 0,.int .u8 0,.int .u8 0,.int .u8 0,.int .u8 0,.int .u8 0,.int .u8 0,.int .u8 0,.int .u8 0,.int .u8 0,.int .u8 0,.int .u8 0,.int .u8 0,.int .u8 0,.int .u8 0,.int .u8 0,.int .u8 0,.int .u8 0,.int .u8 0,.int .u8 0,.int .u8 0,.int .u8 0,.int .u8 0,.int .u8 0,.int .u8 0,.int .u8 0,.int .u64 0,.int .i64 0,.int .i64 0,.int .i64 0,.int .i64 0,.int .u64 0,.int .i64 0,.int .i64 0,.int .u64 0,.slice none 0 0,.int .i64 0,.int .i64 0,.int .i64 0,.int .i64 0,.int .i64 0,.int .i64 0,.int .i64 0,.int .u64 0,.slice none 0 0,.slice none 0 0,.slice none 0 0,.int .i64 0,.int .i64 0,.int .i64 0,.int .i64 0,.int .i64 0,.int .i64 0,.int .u8 0,.int .u8 0,.int .u8 0,.int .u8 0,.int .u8 0,.int .u8 0,.int .u8 0,.int .u8 0,.int .u8 0,.int .u8 0,.int .u8 0,.int .u8 0,.int .u8 0,.int .u8 0,.int .u8 0,.int .u8 0,.int .u8 0,.int .u8 0,.int .u8 0,.int .u8 0,.int .u8 0,.int .u8 0,.int .u8 0,.int .u8 0,.int .u8 0,.int .u8 0,.int .u8 0,.int .u8 0,.int .u8 0,.int .u8 0,.int .u8 0,.int .u8 0,.int .i64 0,.int .i64 0,.int .i64 0,.int .i64 0,.int .i64 0,.int .u8 0,.int .u8 0,.int .u8 0,.int .u8 0,.int .u8 0,.int .u8 0,.int .u8 0,.int .u8 0,.int .u8 0,.int .u8 0,.int .u8 0,.int .u8 0,.int .u8 0,.int .u8 0,.int .u8 0,.int .u8 0,.int .u8 0,.int .u8 0,.int .u8 0,.int .u8 0,.int .u8 0,.int .u8 0,.int .u8 0,.int .u8 0,.int .u8 0,.int .u8 0,.int .u8 0,.int .u8 0,.int .u8 0,.int .u8 0,.int .u8 0,.int .u8 0,.int .u64 0,.int .i64 0,.slice none 0 0,.int .u8 0,.int .u8 0,.int .u8 0,.int .u8 0,.int .u8 0,.int .u8 0,.int .u8 0,.int .u8 0,.int .u8 0,.int .u8 0,.int .u8 0,.int .u8 0,.int .u8 0,.int .u8 0,.int .u8 0,.int .u8 0,.int .u8 0,.int .u8 0,.int .u8 0,.int .u8 0,.int .u8 0,.int .u8 0,.int .u8 0,.int .u8 0,.int .u8 0,.int .u8 0,.int .u8 0,.int .u8 0,.int .u8 0,.int .u8 0,.int .u8 0,.int .u8 0,.int .i64 0,.int .i64 0,.int .i64 0,.int .i64 0,.string ByteArray.empty,.int .i64 0,.int .i64 0,.int .i64 0,.int .u64 0,.slice none 0 0,.slice none 0 0,.slice none 0 0,.slice none 0 0]) (places:=[(0,1),(1,1),(2,1),(3,37),(40,38),(78,38),(116,38),(154,1),(155,1),(156,1),(157,6),(163,11),(174,38),(212,1),(213,35),(248,34),(282,4),(286,1),(287,8)]) aD (parts:=[(0,.int .i64 (gI (some bs)).1),(1,.int .i64 (gI (gI (some bs)).2).1),(2,.int .i64 (gI (gI (gI (some bs)).2).2).1)]) (by simp only [C7,C9,D0,show act.eval (.tmp 12)=.int .i64 (gI (some bs)).1 from (E.d 2 4),show act.eval (.tmp 14)=.int .i64 (gI (gI (some bs)).2).1 from (E.d 4 2),show act.eval (.tmp 16)=.int .i64 (gI (gI (gI (some bs)).2).2).1 from (E.d 6 0)];try rfl) (r:=(mg0C (gI (some bs)).1 (gI (gI (some bs)).2).1 (gI (gI (gI (some bs)).2).2).1)) dC) ?_
 clear act E
 refine QSeq.call rfl rfl Tryz.func41 (get_Q _ (fun _=>False) _ _ _ (mg0 (gI (some bs)).1 (gI (gI (some bs)).2).1 (gI (gI (gI (some bs)).2).2).1) _ j4.out bF (mg0_rd (A9 _) (A9 _) (A9 _) _ _) (fun _ h=>h.elim) (fun _ _ h=>h.elim) (C1 (gI_suf.len _) (C1 (gI_suf.len _) (C1 (gI_suf.len _) HL.o)))) (fun E=>An (E.d 0 7) (E.d 7 0)) ?_
 rintro e r6 ⟨cm,rfl,qmg,qrd,hm⟩
 have qmg:=MgR.wid qmg (R':=New _ _) (fun k h=>h.elim (fun h=>h.elim) (fun h=>h))
 have HCM:=hid (MgR.len qmg)
 have HCO:=hid (MgR.one qmg)
 refine ⟨_,rfl,?_⟩
 have j6:=hid qmg
 have j7:=hid qrd
 have r7:=hm.size
 have n7:=hid hm
 have j8:=hid (AB (S':=(fun k=>(New w1 d5 k))) j5.out hm (fun _ h=>h) aQ)
 clear hm j5
 clear qmg qrd j4
 refine QSeq.go fun act E=>?_
 refine B3 rfl (Ab rfl) rfl (z:=[.int .i64 0,.int .i64 0,.int .i64 0,.int .i64 0,.int .i64 0,.int .u8 0,.int .u8 0,.int .u8 0,.int .u8 0,.int .u8 0,.int .u8 0,.int .u8 0,.int .u8 0,.int .u8 0,.int .u8 0,.int .u8 0,.int .u8 0,.int .u8 0,.int .u8 0,.int .u8 0,.int .u8 0,.int .u8 0,.int .u8 0,.int .u8 0,.int .u8 0,.int .u8 0,.int .u8 0,.int .u8 0,.int .u8 0,.int .u8 0,.int .u8 0,.int .u8 0,.int .u8 0,.int .u8 0,.int .u8 0,.int .u8 0,.int .u8 0,.int .i64 0,.int .i64 0,.int .i64 0,.int .i64 0,.int .i64 0,.int .i64 0,.int .u8 0,.int .u8 0,.int .u8 0,.int .u8 0,.int .u8 0,.int .u8 0,.int .u8 0,.int .u8 0,.int .u8 0,.int .u8 0,.int .u8 0,.int .u8 0,.int .u8 0,.int .u8 0,.int .u8 0,.int .u8 0,.int .u8 0,.int .u8 0,.int .u8 0,.int .u8 0,.int .u8 0,.int .u8 0,.int .u8 0,.int .u8 0,.int .u8 0,.int .u8 0,.int .u8 0,.int .u8 0,.int .u8 0,.int .u8 0,.int .u8 0,.int .u8 0,.int .u64 0,.int .i64 0,.int .i64 0,.int .i64 0,.int .i64 0,.int .u8 0,.int .u8 0,.int .u8 0,.int .u8 0,.int .u8 0,.int .u8 0,.int .u8 0,.int .u8 0,.int .u8 0,.int .u8 0,.int .u8 0,.int .u8 0,.int .u8 0,.int .u8 0,.int .u8 0,.int .u8 0,.int .u8 0,.int .u8 0,.int .u8 0,.int .u8 0,.int .u8 0,.int .u8 0,.int .u8 0,.int .u8 0,.int .u8 0,.int .u8 0,.int .u8 0,.int .u8 0,.int .u8 0,.int .u8 0,.int .u8 0,.int .u8 0,.int .i64 0,.int .i64 0,.int .i64 0,.slice none 0 0,.int .i64 0,.int .i64 0,.int .i64 0,.int .u8 0,.int .u8 0,.int .u8 0,.int .u8 0,.int .u8 0,.int .u8 0,.int .u8 0,.int .u8 0,.int .u8 0,.int .u8 0,.int .u8 0,.int .u8 0,.int .u8 0,.int .u8 0,.int .u8 0,.int .u8 0,.int .u8 0,.int .u8 0,.int .u8 0,.int .u8 0,.int .u8 0,.int .u8 0,.int .u8 0,.int .u8 0,.int .u8 0,.int .u8 0,.int .u8 0,.int .u8 0,.int .u8 0,.int .u8 0,.int .u8 0,.int .u8 0,.int .u64 0,.int .i64 0,.int .i64 0,.int .i64 0,.int .i64 0,.int .u64 0,.int .i64 0,.int .i64 0,.int .u64 0,.slice none 0 0,.int .i64 0,.int .i64 0,.int .i64 0,.int .i64 0,.int .i64 0,.int .i64 0,.int .i64 0,.int .u64 0,.slice none 0 0,.slice none 0 0,.slice none 0 0,.int .i64 0,.int .i64 0,.int .i64 0,.int .i64 0,.int .i64 0,.int .i64 0,.int .u8 0,.int .u8 0,.int .u8 0,.int .u8 0,.int .u8 0,.int .u8 0,.int .u8 0,.int .u8 0,.int .u8 0,.int .u8 0,.int .u8 0,.int .u8 0,.int .u8 0,.int .u8 0,.int .u8 0,.int .u8 0,.int .u8 0,.int .u8 0,.int .u8 0,.int .u8 0,.int .u8 0,.int .u8 0,.int .u8 0,.int .u8 0,.int .u8 0,.int .u8 0,.int .u8 0,.int .u8 0,.int .u8 0,.int .u8 0,.int .u8 0,.int .u8 0,.int .i64 0,.int .i64 0,.int .i64 0,.int .i64 0,.int .i64 0,.int .u8 0,.int .u8 0,.int .u8 0,.int .u8 0,.int .u8 0,.int .u8 0,.int .u8 0,.int .u8 0,.int .u8 0,.int .u8 0,.int .u8 0,.int .u8 0,.int .u8 0,.int .u8 0,.int .u8 0,.int .u8 0,.int .u8 0,.int .u8 0,.int .u8 0,.int .u8 0,.int .u8 0,.int .u8 0,.int .u8 0,.int .u8 0,.int .u8 0,.int .u8 0,.int .u8 0,.int .u8 0,.int .u8 0,.int .u8 0,.int .u8 0,.int .u8 0,.int .u64 0,.int .i64 0,.slice none 0 0,.int .u8 0,.int .u8 0,.int .u8 0,.int .u8 0,.int .u8 0,.int .u8 0,.int .u8 0,.int .u8 0,.int .u8 0,.int .u8 0,.int .u8 0,.int .u8 0,.int .u8 0,.int .u8 0,.int .u8 0,.int .u8 0,.int .u8 0,.int .u8 0,.int .u8 0,.int .u8 0,.int .u8 0,.int .u8 0,.int .u8 0,.int .u8 0,.int .u8 0,.int .u8 0,.int .u8 0,.int .u8 0,.int .u8 0,.int .u8 0,.int .u8 0,.int .u8 0,.int .i64 0,.int .i64 0,.int .i64 0,.int .i64 0,.string ByteArray.empty,.int .i64 0,.int .i64 0,.int .i64 0,.int .u64 0,.slice none 0 0,.slice none 0 0,.slice none 0 0,.slice none 0 0]) aD ?_
 intro r8 qB5 hm
 have r9:=qB5.lt
 have j9:=hid qB5
 have s0:=hm.size
 have g5:=hid hm
 have l7:=hid (j8.out.goE hm)
 clear hm j8
 clear act E qB5
 refine QSeq.go fun act E=>?_
 refine Ah rfl (Ab rfl) rfl j9.out (off:=0) (vs:=cm) fH HCO.o (by rw [HCM.o];decide) (E.d 9 0) (ec (E.d 8 1)) ?_
 intro c7 qc0 hm
 have qB5:=qc0.eqv (b:=(cm:List Value).toArray) (Ap _ _ (by rw [HCM.o];rfl))
 clear qc0
 have g6:=hid qB5
 have s5:=hm.size
 have g7:=hid hm
 have c8:=hid (AB (S':=(fun k=>(New w1 d5 k))) l7.out hm (fun _ h=>h) cG)
 clear hm l7
 clear act E qB5 j9
 have n8:=hid ((j7.out.mod g5.out (fun _ _ h=>h)).mod g7.out aE)
 have o4:=hid ((j6.out.mod g5.out (fun _ _ h=>h)).mod g7.out aE)
 clear j7 j6 n5 n6 n7 g5 g7
 refine qe ?_
 clear HA0 c3 a0
 obtain ⟨y,hy⟩:∃ y,y=(gMg (some bs)).1:=⟨_,rfl⟩
 obtain ⟨st,hst⟩:∃ z,z=(gMg (some bs)).2:=⟨_,rfl⟩
 have hq1:=o4.out
 rw [show (Az (mg0 (gI (some bs)).1 (gI (gI (some bs)).2).1 (gI (gI (gI (some bs)).2).2).1) (gI (gI (gI (some bs)).2).2).2).1=y from hy.symm] at hq1
 have hq2:=n8.out
 rw [show (Az (mg0 (gI (some bs)).1 (gI (gI (some bs)).2).1 (gI (gI (gI (some bs)).2).2).1) (gI (gI (gI (some bs)).2).2).2).2=st from hst.symm] at hq2
 have HMY:=B5 hq1
 have HRS:=B5 hq2
 have HY:=B5 hy
 have HST:=B5 hst
 clear hy hst hq1 hq2
 have HZO:=hid (MgR.one (mg0_rd (k:=0) (f:=0) (t:=0) A4 A4 A4 (fun _=>False) w))
 cases hc:st with
 | none=>
  have HC:=B5 hc
  clear hc
  have hq2:=HRS.o
  rw [HC.o] at hq2
  have HRS2:=B5 hq2
  clear hq2
  go_upto_region 3 with (fail)
  refine Aa 43 [19,20,21,22,23,24,25,26] [0,1,2,3,4,5,6,7] (fun a0 HA0=>?_)
  have c3:=ev HA0 4 rfl
  refine qmo rfl c3 ?_
  refine QSeq.go fun act E=>?_
  refine Aq (args:=#[.pointer (some ⟨r1,0,none⟩)]) rfl (Ab rfl) rfl Tryz.func43 (A0 (E.d 0 0)) (OK_R HRS2.o) ?_
  rintro e w2 ⟨rfl,hw2⟩
  obtain rfl:c7=w2:=by first|exact hw2|exact hw2.symm
  refine ⟨_,rfl,?_⟩
  clear act E
  refine QSeq.pure rfl (.bool true) (fun E=>Bm rfl (E.d 1 0)) ?_
  refine qmv rfl 2 0 ?_
  refine AG rfl (fun E=>((Ac rfl rfl (E.sz 22 aF) (E.d 3 0)).trans rfl)) ?_
  refine AG rfl (fun E=>((Ac rfl rfl (E.sz 22 aF) (E.d 3 1)).trans rfl)) ?_
  refine AG rfl (fun E=>((Ac rfl rfl (E.sz 22 aF) (E.d 3 2)).trans rfl)) ?_
  refine QSeq.pure rfl (.bool true) (fun E=>Bg rfl (E.d 3 3) rfl (E.d 6 0)) ?_
  refine qe ?_
  clear HA0 c3 a0
  go_upto_region 4 with (fail)
  refine Aa 43 [27,44,3] [0,1,2] (fun a0 HA0=>?_)
  have c4:=ev HA0 2 rfl
  refine QSeq.pure rfl (.agg ((mg0C 0 0 0):List Value).toArray) (fun E=>ex_build0 rfl (r:=((mg0C 0 0 0):List Value).toArray) aD) ?_
  refine QSeq.go fun act E=>?_
  refine Ah rfl (Ab rfl) rfl ((HB2.o.mod c6.out (fun h=>h)).mod c8.out aJ) (off:=0) (vs:=(mg0C 0 0 0)) aD HZO.o eE (E.v c4) (ec (E.d 0 0)) ?_
  intro g8 qc0 hm
  have qB2:=qc0.eqv (b:=((mg0C 0 0 0):List Value).toArray) (Ap _ _ rfl)
  clear qc0
  have o5:=hid qB2
  have o6:=hm.size
  have o7:=hid (show Mod (fun k=>(k=w.heap.size)) c7 g8 from hm)
  clear hm
  clear act E qB2 HB2
  refine QSeq.pure rfl (.bool false) (fun E=>Aw rfl rfl) ?_
  refine qe ?_
  clear HA0 c4 a0
  have HE:=hid (show um=none from HUM.o.trans (unpack_no1 (by rw [← HST.o,HC.o];exact fun h=>by cases h)))
  go_wp2
  refine bodyPost_ret (Bq rfl _ _ w.heap.size ((mg0C 0 0 0)) rfl (fun k u hu=>by rw [o5.out.cell];simpa using hu) B7 rfl aD) rfl ⟨(mg0C 0 0 0),by rw [HUB.o,HE.o];rfl,by rw [HUY.o,HE.o];exact mg0_rd A4 A4 A4 _ _,(((HM0.o.trans c6.out (fun _ _ h=>h.elim)).trans c8.out aE).trans o7.out aE)⟩
 | some l=>
  have HC:=B5 hc
  clear hc
  have hq2:=HRS.o
  rw [HC.o] at hq2
  have HRS2:=B5 hq2
  clear hq2
  by_cases hn:0 < l.length
  ·skip
   go_upto_region 3 with (fail)
   refine Aa 43 [19,20,21,22,23,24,25,26] [0,1,2,3,4,5,6,7] (fun a0 HA0=>?_)
   have c3:=ev HA0 4 rfl
   refine qmo rfl c3 ?_
   refine QSeq.go fun act E=>?_
   refine Aq (args:=#[.pointer (some ⟨r1,0,none⟩)]) rfl (Ab rfl) rfl Tryz.func43 (A0 (E.d 0 0)) (OK_R HRS2.o) ?_
   rintro e w2 ⟨rfl,hw2⟩
   obtain rfl:c7=w2:=by first|exact hw2|exact hw2.symm
   refine ⟨_,rfl,?_⟩
   clear act E
   refine QSeq.pure rfl (.bool false) (fun E=>Bm rfl (E.d 1 0)) ?_
   refine qmv rfl 2 0 ?_
   refine AC rfl (.pointer (some ⟨r1,0,none⟩)) (fun E=>((Ac rfl rfl (E.sz 22 aF) (E.d 3 0)).trans rfl)) (fun E=>Al rfl (E.v c3)) ?_
   refine QSeq.go fun act E=>?_
   refine Aq (args:=#[.pointer (some ⟨r1,0,none⟩)]) rfl ((Ac rfl rfl (E.sz 22 aF) (E.d 3 1)).trans rfl) rfl Tryz.func44 (A0 (E.d 4 0)) (Left_R HRS2.o) ?_
   rintro e w2 ⟨rfl,hw2⟩
   obtain rfl:c7=w2:=by first|exact hw2|exact hw2.symm
   refine ⟨_,rfl,?_⟩
   clear act E
   refine AC rfl (.bool true) (fun E=>((Ac rfl rfl (E.sz 22 aF) (E.d 3 2)).trans rfl)) (fun E=>Am rfl (E.d 5 0) rfl (Ag _ _ _ _ _ _) (run_gtr_i _ _ _ B6) (congrArg Value.bool (decide_eq_true (show (0:Int) < ((l.length:Nat):Int) by omega)))) ?_
   refine QSeq.pure rfl (.bool true) (fun E=>Bg rfl (E.d 3 3) rfl (E.d 6 0)) ?_
   refine qe ?_
   clear HA0 c3 a0
   go_upto_region 4 with (fail)
   refine Aa 43 [27,44,3] [0,1,2] (fun a0 HA0=>?_)
   have c4:=ev HA0 2 rfl
   refine QSeq.pure rfl (.agg ((mg0C 0 0 0):List Value).toArray) (fun E=>ex_build0 rfl (r:=((mg0C 0 0 0):List Value).toArray) aD) ?_
   refine QSeq.go fun act E=>?_
   refine Ah rfl (Ab rfl) rfl ((HB2.o.mod c6.out (fun h=>h)).mod c8.out aJ) (off:=0) (vs:=(mg0C 0 0 0)) aD HZO.o eE (E.v c4) (ec (E.d 0 0)) ?_
   intro g8 qc0 hm
   have qB2:=qc0.eqv (b:=((mg0C 0 0 0):List Value).toArray) (Ap _ _ rfl)
   clear qc0
   have o8:=hid qB2
   have o6:=hm.size
   have o9:=hid (show Mod (fun k=>(k=w.heap.size)) c7 g8 from hm)
   clear hm
   clear act E qB2 HB2
   refine QSeq.pure rfl (.bool false) (fun E=>Aw rfl rfl) ?_
   refine qe ?_
   clear HA0 c4 a0
   have HE:=hid (show um=none from HUM.o.trans (unpack_no1 (by rw [← HST.o,HC.o];intro h;cases h;exact absurd hn bD)))
   go_wp2
   refine bodyPost_ret (Bq rfl _ _ w.heap.size ((mg0C 0 0 0)) rfl (fun k u hu=>by rw [o8.out.cell];simpa using hu) B7 rfl aD) rfl ⟨(mg0C 0 0 0),by rw [HUB.o,HE.o];rfl,by rw [HUY.o,HE.o];exact mg0_rd A4 A4 A4 _ _,(((HM0.o.trans c6.out (fun _ _ h=>h.elim)).trans c8.out aE).trans o9.out aE)⟩
  obtain rfl:l=[]:=List.eq_nil_of_length_eq_zero aM
  clear hn
  go_upto_region 3 with (fail)
  refine Aa 43 [19,20,21,22,23,24,25,26] [0,1,2,3,4,5,6,7] (fun a0 HA0=>?_)
  have c3:=ev HA0 4 rfl
  refine qmo rfl c3 ?_
  refine QSeq.go fun act E=>?_
  refine Aq (args:=#[.pointer (some ⟨r1,0,none⟩)]) rfl (Ab rfl) rfl Tryz.func43 (A0 (E.d 0 0)) (OK_R HRS2.o) ?_
  rintro e w2 ⟨rfl,hw2⟩
  obtain rfl:c7=w2:=by first|exact hw2|exact hw2.symm
  refine ⟨_,rfl,?_⟩
  clear act E
  refine QSeq.pure rfl (.bool false) (fun E=>Bm rfl (E.d 1 0)) ?_
  refine qmv rfl 2 0 ?_
  refine AC rfl (.pointer (some ⟨r1,0,none⟩)) (fun E=>((Ac rfl rfl (E.sz 22 aF) (E.d 3 0)).trans rfl)) (fun E=>Al rfl (E.v c3)) ?_
  refine QSeq.go fun act E=>?_
  refine Aq (args:=#[.pointer (some ⟨r1,0,none⟩)]) rfl ((Ac rfl rfl (E.sz 22 aF) (E.d 3 1)).trans rfl) rfl Tryz.func44 (A0 (E.d 4 0)) (Left_R HRS2.o) ?_
  rintro e w2 ⟨rfl,hw2⟩
  obtain rfl:c7=w2:=by first|exact hw2|exact hw2.symm
  refine ⟨_,rfl,?_⟩
  clear act E
  refine AC rfl (.bool false) (fun E=>((Ac rfl rfl (E.sz 22 aF) (E.d 3 2)).trans rfl)) (fun E=>Am rfl (E.d 5 0) rfl (Ag _ _ _ _ _ _) (run_gtr_i _ _ _ B6) (congrArg Value.bool (decide_eq_false aF))) ?_
  refine QSeq.pure rfl (.bool false) (fun E=>Bg rfl (E.d 3 3) rfl (E.d 6 0)) ?_
  refine qe ?_
  clear HA0 c3 a0
  have HA:=hid (show packB y=bs∧MgOk y from by have h:=gMg_all HBY.o (HST.o.symm.trans HC.o);rw [← HY.o] at h;exact h)
  have HPB:=hid (packs_of HA.o.1 HL.o)
  by_cases hk:packs y=true
  ·have HK:=B5 hk
   clear hk
   go_upto_region 5 with (fail)
   refine Aa 43 [29,30,28,31,32,6,7] [0,1,2,3,4,5,6] (fun a0 HA0=>?_)
   have c9:=ev HA0 5 rfl
   refine QSeq.pure rfl _ (fun E=>Aj rfl B7 rfl (off:=0) (cs:=cm) fH (E.v c9) (Cs.whole g6.out)) ?_
   refine QSeq.call rfl rfl Tryz.func16 (callsP HK.o (Pack_Q _ _ y _ HMY.o bF HPB.o)) (fun E=>A0 (E.d 0 0)) ?_
   rintro e d6 ⟨vp,rfl,qpb,hm⟩
   rw [HK.o] at qpb
   replace qpb:=(show OwR _ _ _ _ (packB y) from qpb)
   rw [HA.o.1] at qpb
   obtain ⟨aop,capp,rfl⟩:=qpb.shape
   refine ⟨_,rfl,?_⟩
   have p4:=hid qpb
   have p5:=hm.size
   have d8:=hid (show Mod (fun _=>False) c7 d6 from hm)
   clear hm
   clear qpb
   refine qmv rfl 1 0 ?_
   refine QSeq.pure rfl (.slice aop bs.length capp) (fun E=>Bf rfl (E.d 2 0) rfl) ?_
   refine QSeq.pure rfl (.bool true) (fun E=>Bf rfl (E.d 2 1) rfl) ?_
   refine qas rfl 3 1 ?_
   refine qas rfl 4 1 ?_
   refine qe ?_
   clear HA0 c9 a0
   go_upto_region 6 with (fail)
   refine Aa 43 [33,34,35,36,37,38,39,40] [0,1,2,3,4,5,6,7] (fun a0 HA0=>?_)
   have d7:=ev HA0 0 rfl
   have l8:=ev HA0 6 rfl
   have d9:=ev HA0 7 rfl
   refine qmo rfl d9 ?_
   refine QSeq.pure rfl (.bool false) (fun E=>Bm rfl (E.d 0 0)) ?_
   refine qmv rfl 1 0 ?_
   refine AC rfl (.slice aop bs.length capp) (fun E=>((Ac rfl rfl (E.sz 35 aF) (E.d 2 0)).trans rfl)) (fun E=>Al rfl (E.v l8)) ?_
   refine AC rfl (.slice ao bs.length cap) (fun E=>((Ac rfl rfl (E.sz 35 aF) (E.d 2 1)).trans rfl)) (fun E=>Al rfl (E.v d7)) ?_
   refine QSeq.go fun act E=>?_
   refine Aq (args:=#[.slice aop bs.length capp,.slice ao bs.length cap]) rfl ((Ac rfl rfl (E.sz 35 aF) (E.d 2 2)).trans rfl) rfl Tryz.func45 (An (E.d 3 1) (E.d 4 0)) (BytesEq_R p4.out.rd (((g9.out.mod c6.out (fun _ _ h=>h)).mod c8.out (sN HBT)).mod d8.out (fun _ _ h=>h))) ?_
   rintro e w2 ⟨rfl,hw2⟩
   obtain rfl:d6=w2:=by first|exact hw2|exact hw2.symm
   refine ⟨_,rfl,?_⟩
   clear act E
   refine AC rfl (.bool false) (fun E=>((Ac rfl rfl (E.sz 35 aF) (E.d 2 3)).trans rfl)) (fun E=>Bm rfl (E.d 5 0)) ?_
   refine QSeq.pure rfl (.bool false) (fun E=>Bg rfl (E.d 2 4) rfl (E.d 6 0)) ?_
   refine qe ?_
   clear HA0 d7 l8 d9 a0
   go_upto_region 8 with (fail)
   refine Aa 43 [42,44,3] [0,1,2] (fun a0 HA0=>?_)
   have c4:=ev HA0 2 rfl
   have c9:=ev HA0 5 rfl
   refine QSeq.pure rfl _ (fun E=>Aj rfl B7 rfl (off:=0) (cs:=cm) fH (E.v c9) (Cs.whole (g6.out.mod d8.out (fun h=>h)))) ?_
   refine QSeq.go fun act E=>?_
   refine Ah rfl (Ab rfl) rfl (((HB2.o.mod c6.out (fun h=>h)).mod c8.out aJ).mod d8.out (fun h=>h)) (off:=0) (vs:=cm) fH HCO.o (by rw [HCM.o];show 0+295≤295;decide) (E.v c4) (ec (E.d 0 0)) ?_
   intro p6 qc0 hm
   have qB2:=qc0.eqv (b:=(cm:List Value).toArray) (Ap _ _ (by rw [HCM.o];rfl))
   clear qc0
   have p7:=hid qB2
   have s6:=hm.size
   have m7:=hid (show Mod (fun k=>(k=w.heap.size)) d6 p6 from hm)
   clear hm
   clear act E qB2 HB2
   refine QSeq.pure rfl (.bool true) (fun E=>Aw rfl rfl) ?_
   refine qe ?_
   clear HA0 c4 c9 a0
   have HE:=hid (show um=some y from HUM.o.trans (by rw [unpack_yes (HST.o.symm.trans HC.o) (by rw [← HY.o];exact HK.o),← HY.o]))
   go_wp2
   refine bodyPost_ret (Bq rfl _ _ w.heap.size (cm) rfl (fun k u hu=>by rw [p7.out.cell];simpa using hu) B7 rfl fH) rfl ⟨cm,by rw [HUB.o,HE.o];rfl,by rw [HUY.o,HE.o];exact ((HMY.o.mod d8.out (fun _ _ h=>h)).mod m7.out aE).widen bF,((((HM0.o.trans c6.out (fun _ _ h=>h.elim)).trans c8.out aE).trans d8.out (fun _ _ h=>h.elim)).trans m7.out aE)⟩
  have HK:=hid (Bool.eq_false_iff.2 hk)
  clear hk
  go_upto_region 5 with (fail)
  refine Aa 43 [29,30,28,31,32,6,7] [0,1,2,3,4,5,6] (fun a0 HA0=>?_)
  have c9:=ev HA0 5 rfl
  refine QSeq.pure rfl _ (fun E=>Aj rfl B7 rfl (off:=0) (cs:=cm) fH (E.v c9) (Cs.whole g6.out)) ?_
  refine QSeq.call rfl rfl Tryz.func16 (callsP HK.o (Pack_Q _ _ y _ HMY.o bF HPB.o)) (fun E=>A0 (E.d 0 0)) ?_
  rintro e d6 ⟨vp,rfl,qpb,hm⟩
  rw [HK.o] at qpb
  replace qpb:=(show OwR _ _ _ _ [] from qpb)
  obtain ⟨aop,capp,rfl⟩:=qpb.shape
  refine ⟨_,rfl,?_⟩
  have s7:=hid qpb
  have p5:=hm.size
  have m8:=hid (show Mod (fun _=>False) c7 d6 from hm)
  clear hm
  clear qpb
  refine qmv rfl 1 0 ?_
  refine QSeq.pure rfl (.slice aop ([]:List Int).length capp) (fun E=>Bf rfl (E.d 2 0) rfl) ?_
  refine QSeq.pure rfl (.bool false) (fun E=>Bf rfl (E.d 2 1) rfl) ?_
  refine qas rfl 3 1 ?_
  refine qas rfl 4 1 ?_
  refine qe ?_
  clear HA0 c9 a0
  go_upto_region 6 with (fail)
  refine Aa 43 [33,34,35,36,37,38,39,40] [0,1,2,3,4,5,6,7] (fun a0 HA0=>?_)
  have d9:=ev HA0 7 rfl
  refine qmo rfl d9 ?_
  refine QSeq.pure rfl (.bool true) (fun E=>Bm rfl (E.d 0 0)) ?_
  refine qmv rfl 1 0 ?_
  refine AG rfl (fun E=>((Ac rfl rfl (E.sz 35 aF) (E.d 2 0)).trans rfl)) ?_
  refine AG rfl (fun E=>((Ac rfl rfl (E.sz 35 aF) (E.d 2 1)).trans rfl)) ?_
  refine AG rfl (fun E=>((Ac rfl rfl (E.sz 35 aF) (E.d 2 2)).trans rfl)) ?_
  refine AG rfl (fun E=>((Ac rfl rfl (E.sz 35 aF) (E.d 2 3)).trans rfl)) ?_
  refine QSeq.pure rfl (.bool true) (fun E=>Bg rfl (E.d 2 4) rfl (E.d 6 0)) ?_
  refine qe ?_
  clear HA0 d9 a0
  go_upto_region 7 with (fail)
  refine Aa 43 [41,44,3] [0,1,2] (fun a0 HA0=>?_)
  have c4:=ev HA0 2 rfl
  refine QSeq.pure rfl (.agg ((mg0C 0 0 0):List Value).toArray) (fun E=>ex_build0 rfl (r:=((mg0C 0 0 0):List Value).toArray) aD) ?_
  refine QSeq.go fun act E=>?_
  refine Ah rfl (Ab rfl) rfl (((HB2.o.mod c6.out (fun h=>h)).mod c8.out aJ).mod m8.out (fun h=>h)) (off:=0) (vs:=(mg0C 0 0 0)) aD HZO.o eE (E.v c4) (ec (E.d 0 0)) ?_
  intro p8 qc0 hm
  have qB2:=qc0.eqv (b:=((mg0C 0 0 0):List Value).toArray) (Ap _ _ rfl)
  clear qc0
  have p9:=hid qB2
  have s8:=hm.size
  have q6:=hid (show Mod (fun k=>(k=w.heap.size)) d6 p8 from hm)
  clear hm
  clear act E qB2 HB2
  refine QSeq.pure rfl (.bool false) (fun E=>Aw rfl rfl) ?_
  refine qe ?_
  clear HA0 c4 a0
  have HE:=hid (show um=none from HUM.o.trans (unpack_no2 (by rw [← HY.o];exact HK.o)))
  go_wp2
  refine bodyPost_ret (Bq rfl _ _ w.heap.size ((mg0C 0 0 0)) rfl (fun k u hu=>by rw [p9.out.cell];simpa using hu) B7 rfl aD) rfl ⟨(mg0C 0 0 0),by rw [HUB.o,HE.o];rfl,by rw [HUY.o,HE.o];exact mg0_rd A4 A4 A4 _ _,((((HM0.o.trans c6.out (fun _ _ h=>h.elim)).trans c8.out aE).trans m8.out (fun _ _ h=>h.elim)).trans q6.out aE)⟩
theorem ite_len {c:Prop} [Decidable c] {a b:List Int} {n:Nat} (ha:a.length≤n) (hb:b.length≤n):(if c then a else b).length≤n:=by by_cases h:c<;>simp [h,ha,hb]
theorem encI_len5 (n:Int) (h:I64 n):(encI n).length≤10:=by
 unfold encI
 refine (encN_len10 ?_).2
 unfold I64 at h
 unfold U64
 omega
theorem zBody_len (k f t:Int):(Bd (mg0 k f t)).length≤500:=by
 have e0:=encI_len5 0 (by unfold I64;decide)
 have e1:=encI_len5 (IntKind.i64.wrap (0+1)) (I64_wrap _)
 have n0:=(encN_len10 (n:=0) (by unfold U64;decide)).2
 have el:∀ {α:Type} (f:α→List Int),(listB f []).length≤10:=fun f=>by simp only [listB,C0,D0,List.flatten_nil,C4];exact e0
 have l1:=el stB
 have l2:=el ceB
 have l3:=el pmB
 have l4:=el opB
 have l5:=el tbB
 have l6:=el vtB
 have hz:zH32.length=32:=by simp [zH32]
 have hb:(baB zBa).length≤60:=by simp only [baB,zBa,C0];omega
 have hs:(stB zSt).length≤150:=by simp only [stB,zSt,nameB,sigB,C0];omega
 have hc:(cmB zCm).length≤150:=by simp only [cmB,zCm,nameB,sigB,C0];omega
 have hbe:(Bw ByteArray.empty).length=0:=by rw [bytesOf_len];rfl
 unfold Bd
 refine ite_len ?_ ?_
 ·exact C1 hc aF
 refine ite_len ?_ ?_
 ·exact C1 hs aF
 refine ite_len ?_ ?_
 ·have:(ceB zCe).length≤200:=by
   have h:(cmB zCe.c).length≤150:=hc
   have h2:(listB stB zCe.l).length≤10:=l1
   simp only [ceB,C0];omega
  exact C1 this aF
 refine ite_len ?_ ?_
 ·exact C1 hs aF
 refine ite_len ?_ ?_
 ·show (encI 0 ++ encI 0 ++ encN 0).length≤500
  simp only [C0];omega
 refine ite_len ?_ ?_
 ·have:(pmB zPm).length≤100:=by simp only [pmB,zPm,sigB,C0];omega
  exact C1 this aF
 refine ite_len ?_ ?_
 ·have:(prB zPr).length≤200:=by simp only [prB,zPr,sigB,C0];omega
  exact C1 this aF
 refine ite_len ?_ ?_
 ·have:(vtB zVt).length≤200:=by simp only [vtB,zVt,sigB,C0];omega
  exact C1 this aF
 refine ite_len ?_ ?_
 ·have:(enB zEn).length≤200:=by simp only [enB,zEn,nameB,C0];omega
  show (encI 0 ++ enB zEn).length≤500
  simp only [C0];omega
 refine ite_len ?_ ?_
 ·have:(opB zOp).length≤200:=by simp only [opB,zOp,C0,C4];omega
  exact C1 this aF
 refine ite_len ?_ ?_
 ·exact C1 e0 aF
 refine ite_len ?_ ?_
 ·have:(dnB zDn).length≤200:=by simp only [dnB,zDn,sigB,C0];omega
  exact C1 this aF
 refine ite_len ?_ ?_
 ·show (encI 0 ++ (encN (Bw ByteArray.empty).length ++ Bw ByteArray.empty)).length≤500
  rw [hbe]
  simp only [C0];omega
 refine ite_len ?_ ?_
 ·have:(dcB zDc).length≤200:=by simp only [dcB,zDc,C0];omega
  exact C1 this aF
 exact Nat.zero_le _
theorem packB_mg0_len {k f t:Int} (hk:I64 k) (hf:I64 f) (ht:I64 t):(packB (mg0 k f t)).length≤600:=by
 have h1:=encI_len5 k hk
 have h2:=encI_len5 f hf
 have h3:=encI_len5 t ht
 have h4:=zBody_len k f t
 show (encI k ++ encI f ++ encI t ++ Bd (mg0 k f t)).length≤600
 simp only [C0];omega
theorem packs_mg0 {k f t:Int} (h:okKd k=true) (hk:I64 k) (hf:I64 f) (ht:I64 t):packs (mg0 k f t)=true:=by
 have:=packB_mg0_len hk hf ht
 unfold packs
 rw [show okKd (mg0 k f t).kd=true from h,Bool.true_and,decide_eq_true_eq]
 omega
theorem unpack_nil:unpackB []=none:=by
 unfold unpackB
 rw [if_neg]
 intro h
 have:=(gMg_all (bs:=[]) (by intro b hb;cases hb) h.1).1
 have hl:=congrArg List.length this
 simp only [packB,C0,C4] at hl
 have:0 < (encI (gMg (some [])).1.kd).length:=by
  unfold encI
  rw [encN]
  split<;>simp
 omega
theorem packB_head {x:Mg} (h:okKd x.kd=true):∃ l,packB x=x.kd :: l:=by
 have hq:1≤x.kd∧x.kd≤14:=by unfold okKd at h;simpa using h
 refine ⟨encI x.fr ++ encI x.to ++ Bd x,?_⟩
 unfold packB
 rw [show encI x.kd=[x.kd] by unfold encI;rw [encN_lt aM];simp;omega]
 simp
theorem packs_11:packs (mg0 11 0 0)=true:=packs_mg0 rfl (by unfold I64;decide) A4 A4
theorem packB_pos {x:Mg} (h:okKd x.kd=true):0 < (packB x).length:=by obtain ⟨l,e⟩:=packB_head h;rw [e];simp
theorem RdR_nil0 {R:Nat→Prop} {N:Nat} {w:World}:RdR R N w (.slice none 0 0) []:=⟨⟨(fun b hb=>by cases hb),Rd.nil _ _⟩,(fun h=>by simp at h),Nat.zero_le _⟩
set_option maxHeartbeats 4000000 in
theorem wakes06 (w:World):Calls Tryz.prog 15 #[] w fun e w'=>e=.returned (.bool true)∧Mod (fun _=>False) w w':=by
 go_enter Tryz.func15,Tryz.ntmps15
 go_upto_region 1 with (fail)
 have HM0:=hid (Mod.refl (fun _=>False) w)
 go_upto_region 1 with (fail)
 refine Aa 24 [6,5,7,8,1,29,2] [0,1,2,3,4,5,6] (fun a0 HA0=>?_)
 refine QSeq.call rfl rfl Tryz.func11 (Unpack_Q (fun _=>False) _ [] _ RdR_nil0 (fun _ h=>h.elim)) (fun E=>A0 rfl) ?_
 rintro e d8 ⟨cu,rfl,qmu,hm⟩
 have HCM:=hid (MgR.len qmu)
 have HCO:=hid (MgR.one qmu)
 refine ⟨_,rfl,?_⟩
 have c3:=hid qmu
 have g8:=hm.size
 have c4:=hid (show Mod (fun _=>False) w d8 from hm)
 clear hm
 clear qmu
 refine qmv rfl 0 0 ?_
 refine QSeq.pure rfl (.agg cu.toArray) (fun E=>Bf rfl (E.d 1 0) rfl) ?_
 refine QSeq.pure rfl (.bool (unpackB []).isSome) (fun E=>Bf rfl (E.d 1 1) rfl) ?_
 refine QSeq.go fun act E=>?_
 refine B3 rfl (Ab rfl) rfl (z:=[.int .i64 0,.int .i64 0,.int .i64 0,.int .i64 0,.int .i64 0,.int .u8 0,.int .u8 0,.int .u8 0,.int .u8 0,.int .u8 0,.int .u8 0,.int .u8 0,.int .u8 0,.int .u8 0,.int .u8 0,.int .u8 0,.int .u8 0,.int .u8 0,.int .u8 0,.int .u8 0,.int .u8 0,.int .u8 0,.int .u8 0,.int .u8 0,.int .u8 0,.int .u8 0,.int .u8 0,.int .u8 0,.int .u8 0,.int .u8 0,.int .u8 0,.int .u8 0,.int .u8 0,.int .u8 0,.int .u8 0,.int .u8 0,.int .u8 0,.int .i64 0,.int .i64 0,.int .i64 0,.int .i64 0,.int .i64 0,.int .i64 0,.int .u8 0,.int .u8 0,.int .u8 0,.int .u8 0,.int .u8 0,.int .u8 0,.int .u8 0,.int .u8 0,.int .u8 0,.int .u8 0,.int .u8 0,.int .u8 0,.int .u8 0,.int .u8 0,.int .u8 0,.int .u8 0,.int .u8 0,.int .u8 0,.int .u8 0,.int .u8 0,.int .u8 0,.int .u8 0,.int .u8 0,.int .u8 0,.int .u8 0,.int .u8 0,.int .u8 0,.int .u8 0,.int .u8 0,.int .u8 0,.int .u8 0,.int .u8 0,.int .u64 0,.int .i64 0,.int .i64 0,.int .i64 0,.int .i64 0,.int .u8 0,.int .u8 0,.int .u8 0,.int .u8 0,.int .u8 0,.int .u8 0,.int .u8 0,.int .u8 0,.int .u8 0,.int .u8 0,.int .u8 0,.int .u8 0,.int .u8 0,.int .u8 0,.int .u8 0,.int .u8 0,.int .u8 0,.int .u8 0,.int .u8 0,.int .u8 0,.int .u8 0,.int .u8 0,.int .u8 0,.int .u8 0,.int .u8 0,.int .u8 0,.int .u8 0,.int .u8 0,.int .u8 0,.int .u8 0,.int .u8 0,.int .u8 0,.int .i64 0,.int .i64 0,.int .i64 0,.slice none 0 0,.int .i64 0,.int .i64 0,.int .i64 0,.int .u8 0,.int .u8 0,.int .u8 0,.int .u8 0,.int .u8 0,.int .u8 0,.int .u8 0,.int .u8 0,.int .u8 0,.int .u8 0,.int .u8 0,.int .u8 0,.int .u8 0,.int .u8 0,.int .u8 0,.int .u8 0,.int .u8 0,.int .u8 0,.int .u8 0,.int .u8 0,.int .u8 0,.int .u8 0,.int .u8 0,.int .u8 0,.int .u8 0,.int .u8 0,.int .u8 0,.int .u8 0,.int .u8 0,.int .u8 0,.int .u8 0,.int .u8 0,.int .u64 0,.int .i64 0,.int .i64 0,.int .i64 0,.int .i64 0,.int .u64 0,.int .i64 0,.int .i64 0,.int .u64 0,.slice none 0 0,.int .i64 0,.int .i64 0,.int .i64 0,.int .i64 0,.int .i64 0,.int .i64 0,.int .i64 0,.int .u64 0,.slice none 0 0,.slice none 0 0,.slice none 0 0,.int .i64 0,.int .i64 0,.int .i64 0,.int .i64 0,.int .i64 0,.int .i64 0,.int .u8 0,.int .u8 0,.int .u8 0,.int .u8 0,.int .u8 0,.int .u8 0,.int .u8 0,.int .u8 0,.int .u8 0,.int .u8 0,.int .u8 0,.int .u8 0,.int .u8 0,.int .u8 0,.int .u8 0,.int .u8 0,.int .u8 0,.int .u8 0,.int .u8 0,.int .u8 0,.int .u8 0,.int .u8 0,.int .u8 0,.int .u8 0,.int .u8 0,.int .u8 0,.int .u8 0,.int .u8 0,.int .u8 0,.int .u8 0,.int .u8 0,.int .u8 0,.int .i64 0,.int .i64 0,.int .i64 0,.int .i64 0,.int .i64 0,.int .u8 0,.int .u8 0,.int .u8 0,.int .u8 0,.int .u8 0,.int .u8 0,.int .u8 0,.int .u8 0,.int .u8 0,.int .u8 0,.int .u8 0,.int .u8 0,.int .u8 0,.int .u8 0,.int .u8 0,.int .u8 0,.int .u8 0,.int .u8 0,.int .u8 0,.int .u8 0,.int .u8 0,.int .u8 0,.int .u8 0,.int .u8 0,.int .u8 0,.int .u8 0,.int .u8 0,.int .u8 0,.int .u8 0,.int .u8 0,.int .u8 0,.int .u8 0,.int .u64 0,.int .i64 0,.slice none 0 0,.int .u8 0,.int .u8 0,.int .u8 0,.int .u8 0,.int .u8 0,.int .u8 0,.int .u8 0,.int .u8 0,.int .u8 0,.int .u8 0,.int .u8 0,.int .u8 0,.int .u8 0,.int .u8 0,.int .u8 0,.int .u8 0,.int .u8 0,.int .u8 0,.int .u8 0,.int .u8 0,.int .u8 0,.int .u8 0,.int .u8 0,.int .u8 0,.int .u8 0,.int .u8 0,.int .u8 0,.int .u8 0,.int .u8 0,.int .u8 0,.int .u8 0,.int .u8 0,.int .i64 0,.int .i64 0,.int .i64 0,.int .i64 0,.string ByteArray.empty,.int .i64 0,.int .i64 0,.int .i64 0,.int .u64 0,.slice none 0 0,.slice none 0 0,.slice none 0 0,.slice none 0 0]) aD ?_
 intro g9 qB1 hm
 have i7:=qB1.lt
 have c6:=hid qB1
 have i8:=hm.size
 have c7:=hid hm
 have c8:=hid (c4.out.goE hm)
 clear hm c4
 clear act E qB1
 refine QSeq.go fun act E=>?_
 refine Ah rfl (Ab rfl) rfl c6.out (off:=0) (vs:=cu) fH HCO.o (by rw [HCM.o];decide) (E.d 4 0) (ec (E.d 2 2)) ?_
 intro d9 qc0 hm
 have qB1:=qc0.eqv (b:=(cu:List Value).toArray) (Ap _ _ (by rw [HCM.o];rfl))
 clear qc0
 have i9:=hid qB1
 have j0:=hm.size
 have c9:=hid hm
 have g5:=hid (AB (S':=(fun _=>False)) c8.out hm (fun _ h=>h) cG)
 clear hm c8
 clear act E qB1 c6
 refine qas rfl 3 2 ?_
 have j3:=hid ((c3.out.mod c7.out (fun _ _ h=>h)).mod c9.out aE)
 clear c3 c7 c9
 refine qe ?_
 clear HA0 a0
 rw [show (unpackB []).isSome=false by rw [unpack_nil];rfl]
 go_upto_region 2 with (fail)
 refine Aa 24 [10,11,9,12,13,3,4] [0,1,2,3,4,5,6] (fun a0 HA0=>?_)
 refine QSeq.pure rfl (.agg ((mg0C 11 0 0):List Value).toArray) (fun E=>Bj rfl (z:=[.int .i64 0,.int .i64 0,.int .i64 0,.int .i64 0,.int .i64 0,.int .u8 0,.int .u8 0,.int .u8 0,.int .u8 0,.int .u8 0,.int .u8 0,.int .u8 0,.int .u8 0,.int .u8 0,.int .u8 0,.int .u8 0,.int .u8 0,.int .u8 0,.int .u8 0,.int .u8 0,.int .u8 0,.int .u8 0,.int .u8 0,.int .u8 0,.int .u8 0,.int .u8 0,.int .u8 0,.int .u8 0,.int .u8 0,.int .u8 0,.int .u8 0,.int .u8 0,.int .u8 0,.int .u8 0,.int .u8 0,.int .u8 0,.int .u8 0,.int .i64 0,.int .i64 0,.int .i64 0,.int .i64 0,.int .i64 0,.int .i64 0,.int .u8 0,.int .u8 0,.int .u8 0,.int .u8 0,.int .u8 0,.int .u8 0,.int .u8 0,.int .u8 0,.int .u8 0,.int .u8 0,.int .u8 0,.int .u8 0,.int .u8 0,.int .u8 0,.int .u8 0,.int .u8 0,.int .u8 0,.int .u8 0,.int .u8 0,.int .u8 0,.int .u8 0,.int .u8 0,.int .u8 0,.int .u8 0,.int .u8 0,.int .u8 0,.int .u8 0,.int .u8 0,.int .u8 0,.int .u8 0,.int .u8 0,.int .u8 0,.int .u64 0,.int .i64 0,.int .i64 0,.int .i64 0,.int .i64 0,.int .u8 0,.int .u8 0,.int .u8 0,.int .u8 0,.int .u8 0,.int .u8 0,.int .u8 0,.int .u8 0,.int .u8 0,.int .u8 0,.int .u8 0,.int .u8 0,.int .u8 0,.int .u8 0,.int .u8 0,.int .u8 0,.int .u8 0,.int .u8 0,.int .u8 0,.int .u8 0,.int .u8 0,.int .u8 0,.int .u8 0,.int .u8 0,.int .u8 0,.int .u8 0,.int .u8 0,.int .u8 0,.int .u8 0,.int .u8 0,.int .u8 0,.int .u8 0,.int .i64 0,.int .i64 0,.int .i64 0,.slice none 0 0,.int .i64 0,.int .i64 0,.int .i64 0,.int .u8 0,.int .u8 0,.int .u8 0,.int .u8 0,.int .u8 0,.int .u8 0,.int .u8 0,.int .u8 0,.int .u8 0,.int .u8 0,.int .u8 0,.int .u8 0,.int .u8 0,.int .u8 0,.int .u8 0,.int .u8 0,.int .u8 0,.int .u8 0,.int .u8 0,.int .u8 0,.int .u8 0,.int .u8 0,.int .u8 0,.int .u8 0,.int .u8 0,.int .u8 0,.int .u8 0,.int .u8 0,.int .u8 0,.int .u8 0,.int .u8 0,.int .u8 0,.int .u64 0,.int .i64 0,.int .i64 0,.int .i64 0,.int .i64 0,.int .u64 0,.int .i64 0,.int .i64 0,.int .u64 0,.slice none 0 0,.int .i64 0,.int .i64 0,.int .i64 0,.int .i64 0,.int .i64 0,.int .i64 0,.int .i64 0,.int .u64 0,.slice none 0 0,.slice none 0 0,.slice none 0 0,.int .i64 0,.int .i64 0,.int .i64 0,.int .i64 0,.int .i64 0,.int .i64 0,.int .u8 0,.int .u8 0,.int .u8 0,.int .u8 0,.int .u8 0,.int .u8 0,.int .u8 0,.int .u8 0,.int .u8 0,.int .u8 0,.int .u8 0,.int .u8 0,.int .u8 0,.int .u8 0,.int .u8 0,.int .u8 0,.int .u8 0,.int .u8 0,.int .u8 0,.int .u8 0,.int .u8 0,.int .u8 0,.int .u8 0,.int .u8 0,.int .u8 0,.int .u8 0,.int .u8 0,.int .u8 0,.int .u8 0,.int .u8 0,.int .u8 0,.int .u8 0,.int .i64 0,.int .i64 0,.int .i64 0,.int .i64 0,.int .i64 0,.int .u8 0,.int .u8 0,.int .u8 0,.int .u8 0,.int .u8 0,.int .u8 0,.int .u8 0,.int .u8 0,.int .u8 0,.int .u8 0,.int .u8 0,.int .u8 0,.int .u8 0,.int .u8 0,.int .u8 0,.int .u8 0,.int .u8 0,.int .u8 0,.int .u8 0,.int .u8 0,.int .u8 0,.int .u8 0,.int .u8 0,.int .u8 0,.int .u8 0,.int .u8 0,.int .u8 0,.int .u8 0,.int .u8 0,.int .u8 0,.int .u8 0,.int .u8 0,.int .u64 0,.int .i64 0,.slice none 0 0,.int .u8 0,.int .u8 0,.int .u8 0,.int .u8 0,.int .u8 0,.int .u8 0,.int .u8 0,.int .u8 0,.int .u8 0,.int .u8 0,.int .u8 0,.int .u8 0,.int .u8 0,.int .u8 0,.int .u8 0,.int .u8 0,.int .u8 0,.int .u8 0,.int .u8 0,.int .u8 0,.int .u8 0,.int .u8 0,.int .u8 0,.int .u8 0,.int .u8 0,.int .u8 0,.int .u8 0,.int .u8 0,.int .u8 0,.int .u8 0,.int .u8 0,.int .u8 0,.int .i64 0,.int .i64 0,.int .i64 0,.int .i64 0,.string ByteArray.empty,.int .i64 0,.int .i64 0,.int .i64 0,.int .u64 0,.slice none 0 0,.slice none 0 0,.slice none 0 0,.slice none 0 0]) (places:=[(0,1),(1,1),(2,1),(3,37),(40,38),(78,38),(116,38),(154,1),(155,1),(156,1),(157,6),(163,11),(174,38),(212,1),(213,35),(248,34),(282,4),(286,1),(287,8)]) aD (parts:=[(0,.int .i64 11)]) (by simp only [C7,C9,D0];try rfl) (r:=(mg0C 11 0 0)) (by exact (Bi (ns:=mgN) rfl [(0,.int .i64 11)] (zMg.segs (zCe.cells zS) (zPm.cells zS) (zPr.cells zS zS zS) (zOp.cells zS) (zDc.cells zS zS zS zS)) rfl ⟨rfl,trivial⟩).trans rfl)) ?_
 refine QSeq.call rfl rfl Tryz.func16 (callsP packs_11 (Pack_Q _ _ (mg0 11 0 0) _ (mg0_rd (k:=11) (f:=0) (t:=0) (by unfold I64;decide) A4 A4 (fun _=>False) _) (fun _ h=>h.elim) (C1 (packB_mg0_len (by unfold I64;decide) A4 A4) aF))) (fun E=>A0 (E.d 0 0)) ?_
 rintro e g6 ⟨vpb,rfl,qpb,hm⟩
 rw [packs_11] at qpb
 replace qpb:=(show OwR _ _ _ _ (packB (mg0 11 0 0)) from qpb)
 obtain ⟨aopb,cappb,rfl⟩:=qpb.shape
 refine ⟨_,rfl,?_⟩
 have j4:=hid qpb
 have j5:=hm.size
 have g7:=hid (show Mod (fun _=>False) d9 g6 from hm)
 clear hm
 clear qpb
 refine qmv rfl 1 0 ?_
 refine QSeq.pure rfl (.slice aopb ((packB (mg0 11 0 0)).length) cappb) (fun E=>Bf rfl (E.d 2 0) rfl) ?_
 refine QSeq.pure rfl (.bool true) (fun E=>Bf rfl (E.d 2 1) rfl) ?_
 refine qas rfl 3 1 ?_
 refine qas rfl 4 1 ?_
 refine qe ?_
 clear HA0 a0
 have HP:=hid (packB_pos (x:=mg0 11 0 0) rfl)
 go_upto_region 3 with (fail)
 refine Aa 24 [14,15,16,17,18,19,20,21,22,23,0] [0,1,2,3,4,5,6,7,8,9,10] (fun a0 HA0=>?_)
 have d5:=ev HA0 2 rfl
 have d6:=ev HA0 3 rfl
 have d7:=ev HA0 4 rfl
 refine qmo rfl d5 ?_
 refine QSeq.pure rfl (.bool true) (fun E=>Bm rfl (E.d 0 0)) ?_
 refine qmv rfl 1 0 ?_
 refine AC rfl (.bool true) (fun E=>((Ac rfl rfl (E.sz 16 aF) (E.d 2 0)).trans rfl)) (fun E=>Al rfl (E.v d7)) ?_
 refine QSeq.pure rfl (.bool true) (fun E=>Bg rfl (E.d 2 1) (E.d 3 0) rfl) ?_
 refine qmv rfl 4 0 ?_
 refine AC rfl (.slice aopb ((packB (mg0 11 0 0)).length) cappb) (fun E=>((Ac rfl rfl (E.sz 19 aF) (E.d 5 0)).trans rfl)) (fun E=>Al rfl (E.v d6)) ?_
 refine AC rfl (.int .i64 ((packB (mg0 11 0 0)).length)) (fun E=>((Ac rfl rfl (E.sz 19 aF) (E.d 5 1)).trans rfl)) (fun E=>Bc rfl (E.d 6 0) D1) ?_
 refine AC rfl (.bool true) (fun E=>((Ac rfl rfl (E.sz 19 aF) (E.d 5 2)).trans rfl)) (fun E=>Am rfl (E.d 7 0) rfl (Ag _ _ _ _ _ _) (run_gtr_i _ _ _ B6) (congrArg Value.bool (decide_eq_true (show (0:Int) < (((packB (mg0 11 0 0)).length:Nat):Int) by have:=HP.o;omega)))) ?_
 refine QSeq.pure rfl (.bool true) (fun E=>Bg rfl (E.d 5 3) (E.d 8 0) rfl) ?_
 refine qas rfl 9 0 ?_
 refine qe ?_
 clear HA0 d5 d6 d7 a0
 go_wp2
 go_ret
 exact ⟨rfl,((HM0.o.trans g5.out (fun _ _ h=>h.elim)).trans g7.out (fun _ _ h=>h.elim))⟩
open Go.Proofs renaming Tryz.func92→va',Tryz.ntmps92→vb',Tryz.underlying33→vc',Tryz.underlying32→ve' in
open Go.Proofs.YtnaoeginonpicaaGreat renaming StR→vd',eqW_stamp→vf',ki_st→vg',st_iff→vh' in
set_option maxHeartbeats 4000000 in
theorem EqL_St:EqsL StR 92:=
 fm9'
set_option maxHeartbeats 4000000 in
theorem EqL_Dn:EqsL DnR 128:=by
 intro R R2 v v2 l m w hs ht hB hB2
 obtain ⟨ao,cap,rfl⟩:=hs.shape
 obtain ⟨bo,bcap,rfl⟩:=ht.shape
 have hlm:l.length≤maxLen:=hs.bd
 rw [A7] at hlm
 have HS:=B5 hs
 have HT:=B5 ht
 have HBR:=B5 hB
 have HBT:=B5 hB2
 clear hs ht hB hB2
 go_enter Tryz.func128,Tryz.ntmps128
 go_upto_region 1 with (fail)
 have HM0:=hid (Mod.refl (fun _=>False) w)
 by_cases hl:l.length=m.length
 rotate_left
 ·skip
  go_upto_region 1 with (fail)
  refine Aa 26 [6,7,8,9,10] [0,1,2,3,4] (fun a0 HA0=>?_)
  have c3:=ev HA0 0 rfl
  have c6:=ev HA0 1 rfl
  refine qmo rfl c3 ?_
  refine QSeq.pure rfl (.int .i64 l.length) (fun E=>Bc rfl (E.d 0 0) Tryz.underlying125) ?_
  refine qmo rfl c6 ?_
  refine QSeq.pure rfl (.int .i64 m.length) (fun E=>Bc rfl (E.d 2 0) Tryz.underlying125) ?_
  refine QSeq.pure rfl (.bool true) (fun E=>Am rfl (E.d 1 2) (E.d 3 0) (Ag _ _ _ _ _ _) (run_neq_i _ _ _ B6) (congrArg Value.bool (ne_tt aM))) ?_
  refine qe ?_
  clear HA0 c3 c6 a0
  go_upto_region 2 with (fail)
  refine Aa 26 [4] [0] (fun a0 HA0=>?_)
  refine QSeq.pure rfl (.bool false) (fun E=>Aw rfl rfl) ?_
  refine qe ?_
  clear HA0 a0
  go_wp2
  go_ret
  exact ⟨Bs (eqb_ne fun e=>hl (by rw [e])).symm,HM0.o⟩
 ·skip
  go_upto_region 1 with (fail)
  refine Aa 26 [6,7,8,9,10] [0,1,2,3,4] (fun a0 HA0=>?_)
  have c3:=ev HA0 0 rfl
  have c6:=ev HA0 1 rfl
  refine qmo rfl c3 ?_
  refine QSeq.pure rfl (.int .i64 l.length) (fun E=>Bc rfl (E.d 0 0) Tryz.underlying125) ?_
  refine qmo rfl c6 ?_
  refine QSeq.pure rfl (.int .i64 m.length) (fun E=>Bc rfl (E.d 2 0) Tryz.underlying125) ?_
  refine QSeq.pure rfl (.bool false) (fun E=>Am rfl (E.d 1 2) (E.d 3 0) (Ag _ _ _ _ _ _) (run_neq_i _ _ _ B6) (congrArg Value.bool (ne_ff aM))) ?_
  refine qe ?_
  clear HA0 c3 c6 a0
  go_upto_region 3 with (fail)
  refine Aa 26 [5] [0] (fun a0 HA0=>?_)
  refine QSeq.pure rfl (.int .i64 0) (fun E=>Aw rfl rfl) ?_
  refine qe ?_
  clear HA0 a0
  have HLE:=B5 hl
  clear hl
  go_wp2
  go_loopw [5] (fun ti wr=>∃ k:Nat,ti=.int .i64 (k:Int)∧k≤l.length∧l.take k=m.take k∧w.heap.size≤wr.heap.size∧RdS DnR R wr (.slice ao l.length cap) l∧RdS DnR R2 wr (.slice bo m.length bcap) m∧Mod (fun _=>False) w wr) (fun ti _=>l.length - (intOf ti).toNat)
  case atStart=>exact ⟨0,rfl,Nat.zero_le _,rfl,B9 _,HS.o,HT.o,HM0.o⟩
  case round=>
   obtain ⟨k,rfl,hk,htk,hz,hs,ht,hm⟩:=hrel
   obtain ⟨wl,rfl⟩:∃ x,x=wr:=⟨_,rfl⟩
   have HS2:=B5 hs
   have HT2:=B5 ht
   have HML:=B5 hm
   have HTK:=B5 htk
   clear hs ht hm htk HS HT HM0
   by_cases hlt:k < l.length
   ·have hlt2:k < m.length:=by have:=HLE.o;omega
    go_upto_region 4 with (fail)
    refine Aa 26 [11,12,13,14] [0,1,2,3] (fun a0 HA0=>?_)
    have c3:=ev HA0 0 rfl
    have c4:=ev HA0 5 rfl
    refine qmo rfl c4 ?_
    refine qmo rfl c3 ?_
    refine QSeq.pure rfl (.int .i64 l.length) (fun E=>Bc rfl (E.d 1 0) Tryz.underlying125) ?_
    refine QSeq.pure rfl (.bool true) (fun E=>Am rfl (E.d 0 2) (E.d 2 0) (Ag _ _ _ _ _ _) (Ay _ _ _ B6) (congrArg Value.bool (decide_eq_true aM))) ?_
    refine qe ?_
    clear HA0 c3 c4 a0
    have hat:=HS2.o.at hlt
    obtain ⟨g1,o1,c1,eao,hrg,hrd,hcs⟩:=hat
    subst eao
    obtain ⟨x,hx⟩:∃ z,z=l[k]:=⟨_,rfl⟩
    rw [← hx] at hrd
    have HX1:=B5 hx
    have hcl:c1.length=4:=DnR.len hrd
    have HCL1:=B5 hcl
    have HAT1:=hid (show CellsAt R wl g1 (o1+k * 4) c1 from ⟨hrg,hcs⟩)
    have HRD1:=B5 hrd
    clear hcl hcs hrd hrg hx
    have hat:=HT2.o.at hlt2
    obtain ⟨g2,o2,c2,eao,hrg,hrd,hcs⟩:=hat
    subst eao
    obtain ⟨y,hy⟩:∃ z,z=m[k]:=⟨_,rfl⟩
    rw [← hy] at hrd
    have HX2:=B5 hy
    have hcl:c2.length=4:=DnR.len hrd
    have HCL2:=B5 hcl
    have HAT2:=hid (show CellsAt R2 wl g2 (o2+k * 4) c2 from ⟨hrg,hcs⟩)
    have HRD2:=B5 hrd
    clear hcl hcs hrd hrg hy
    obtain ⟨b,hb⟩:∃ b,b=eqb x y:=⟨_,rfl⟩
    have HB:=B5 hb
    clear hb
    obtain ⟨rfl,hok1⟩:=HRD1.o
    obtain ⟨rfl,hok2⟩:=HRD2.o
    have HO1:=B5 hok1
    have HO2:=B5 hok2
    clear hok1 hok2
    clear HRD1
    clear HRD2
    go_upto_region 6 with (fail)
    generalize ha0:Act.mk _ _=a0
    have c3:a0.eval (.tmp 0)=.slice (some ⟨g1,o1,none⟩) l.length cap:=by rw [← ha0];rfl
    have c6:a0.eval (.tmp 1)=.slice (some ⟨g2,o2,none⟩) m.length bcap:=by rw [← ha0];rfl
    have c4:a0.eval (.tmp 5)=.int .i64 ((k:Nat):Int):=by rw [← ha0];rfl
    have hsz0:a0.tmps.size=26:=by rw [← ha0];rfl
    have HA0:=hid ha0
    clear ha0
    refine wp_region_Q0 26 hsz0 [17,18,19,20,21,22,23,24,25] [qi (.slice (some ⟨g1,o1,none⟩) l.length cap),qi (.int .i64 ((k:Nat):Int)),qi (.pointer (some ⟨g1,o1+k * 4,none⟩)),qi (.agg x.cells.toArray),qi (.slice (some ⟨g2,o2,none⟩) m.length bcap),qi (.int .i64 ((k:Nat):Int)),qi (.pointer (some ⟨g2,o2+k * 4,none⟩)),qi (.agg y.cells.toArray),qi (.bool (!b))] ⟨Ad,Ad,Ad,Ad,Ad,Ad,Ad,Ad,Ad,trivial⟩ [] ⟨?_,?_,?_,?_,?_,?_,?_,?_,?_,trivial⟩ ?_
    ·exact stq (fun E=>Al rfl (E.v c3))
    ·exact stq (fun E=>Al rfl (E.v c4))
    ·exact stq (fun E=>ex_idxS (i:=k) (s:=4) rfl Tryz.underlying125 aD (E.d 0) (E.d 1) cQ)
    ·exact stq (fun E=>Aj rfl Tryz.underlying56 rfl (off:=o1+k * 4) (cs:=x.cells) fW (E.d 2) (fun j u hu=>((HAT1.o.mod E.m.old aO)).2 j u hu))
    ·exact stq (fun E=>Al rfl (E.v c6))
    ·exact stq (fun E=>Al rfl (E.v c4))
    ·exact stq (fun E=>ex_idxS (i:=k) (s:=4) rfl Tryz.underlying125 aD (E.d 4) (E.d 5) cQ)
    ·exact stq (fun E=>Aj rfl Tryz.underlying56 rfl (off:=o2+k * 4) (cs:=y.cells) gH (E.d 6) (fun j u hu=>((HAT2.o.mod E.m.old dZ)).2 j u hu))
    ·exact stq (fun E=>Am rfl (E.d 3) (E.d 7) (agg_guardE _ _ _ _ _ _ aD _) (EqW.runN eqW_deny (ki_dn _) (ki_dn _) (dn_iff HO1.o HO2.o) _) (congrArg (fun z=>Value.bool (!z)) HB.o.symm))
    intro c8 hr
    have c9:=hr.size
    have c7:=hid (hr.new (S:=(fun _=>False)))
    clear hr
    refine QChain.nil fun vs hl hzz hrows hne=>?_
    obtain ⟨Z,hYZ,hZb,hV⟩:=hzz
    have f0:=fvi hV hl 0
    have f1:=fvi hV hl 1
    have f4:=fvi hV hl 4
    have f5:=fvi hV hl 5
    have f8:=fvi hV hl 8
    rw [show vs=[gw vs 0,gw vs 1,gw vs 2,gw vs 3,gw vs 4,gw vs 5,gw vs 6,gw vs 7,gw vs 8] from (Bv hl).trans rfl]
    have ha0:=HA0.o
    subst ha0
    clear HA0 hV hYZ hZb hsz0 hrows hne c3 c6 c4
    simp only [Ax,Act.put,sIB,sCZ,sCS,f0,f1,f4,f5,f8]
    clear hl f0 f1 f4 f5 f8
    cases b with
    | false=>
     go_upto_region 7 with (fail)
     refine Aa 26 [4] [0] (fun a0 HA0=>?_)
     refine QSeq.pure rfl (.bool false) (fun E=>Aw rfl rfl) ?_
     refine qe ?_
     clear HA0 a0
     go_wp2
     go_ret
     exact ⟨Bs (take_ne hlt hlt2 (fun e=>by have h:=HB.o;rw [HX1.o,HX2.o,e,eqb_rfl] at h;cases h)).symm,(HML.o.trans c7.out (fun _ _ h=>h.elim))⟩
    | true=>
     go_upto_region 5 with (fail)
     refine Aa 26 [15,16,5] [0,1,2] (fun a0 HA0=>?_)
     have c4:=ev HA0 5 rfl
     refine QSeq.pure rfl _ (fun E=>Al rfl (E.y 2 c4)) ?_
     refine QSeq.pure rfl (.int .i64 (((k:Nat):Int)+1)) (fun E=>Am rfl (E.d 0 0) rfl (Ag _ _ _ _ _ _) (B2 _ _ B6) (congrArg (Value.int .i64) (IntWalk.i64_in _ aM))) ?_
     refine qas rfl 1 0 ?_
     refine qe ?_
     clear HA0 c4 a0
     go_wp2
     go_roundw
     case rel=>exact ⟨k+1,by go_num,by omega,take_succ2 hlt hlt2 HTK.o dM,by omega,(HS2.o.mod c7.out (fun _ _ h=>h)),(HT2.o.mod c7.out (fun _ _ h=>h)),(HML.o.trans c7.out (fun _ _ h=>h.elim))⟩
     case measure=>simp [intOf]<;>omega
   ·skip
    go_upto_region 4 with (fail)
    refine Aa 26 [11,12,13,14] [0,1,2,3] (fun a0 HA0=>?_)
    have c3:=ev HA0 0 rfl
    have c4:=ev HA0 5 rfl
    refine qmo rfl c4 ?_
    refine qmo rfl c3 ?_
    refine QSeq.pure rfl (.int .i64 l.length) (fun E=>Bc rfl (E.d 1 0) Tryz.underlying125) ?_
    refine QSeq.pure rfl (.bool false) (fun E=>Am rfl (E.d 0 2) (E.d 2 0) (Ag _ _ _ _ _ _) (Ay _ _ _ B6) (congrArg Value.bool (decide_eq_false aM))) ?_
    refine qe ?_
    clear HA0 c3 c4 a0
    go_upto_region 8 with (fail)
    refine Aa 26 [4] [0] (fun a0 HA0=>?_)
    refine QSeq.pure rfl (.bool true) (fun E=>Aw rfl rfl) ?_
    refine qe ?_
    clear HA0 a0
    go_wp2
    go_ret
    exact ⟨Bs (take_all aM (by have:=HLE.o;omega) HTK.o).symm,HML.o⟩
set_option maxHeartbeats 4000000 in
theorem Eq_Ce:Eqs CeR 60:=by
 intro R R2 cs ds x y w hx hy hB hB2
 obtain ⟨vx_l,rfl,hokx,hx_l⟩:=hx
 obtain ⟨ax_l,kx_l,rfl⟩:=hx_l.shape
 have Hx_l:=B5 hx_l
 clear hx_l
 have HOKx:=B5 hokx
 clear hokx
 obtain ⟨vy_l,rfl,hoky,hy_l⟩:=hy
 obtain ⟨ay_l,ky_l,rfl⟩:=hy_l.shape
 have Hy_l:=B5 hy_l
 clear hy_l
 have HOKy:=B5 hoky
 clear hoky
 have HBR:=B5 hB
 have HBT:=B5 hB2
 clear hB hB2
 go_enter Tryz.func60,Tryz.ntmps60
 go_upto_region 1 with (fail)
 obtain ⟨w1,hw1⟩:∃ zz,zz=((w.alloc (.cells (x.cells (.slice ax_l x.l.length kx_l):List Value).toArray 35)).alloc (.cells (y.cells (.slice ay_l y.l.length ky_l):List Value).toArray 35)):=⟨_,rfl⟩
 change Code.wp _ _ _ _ ((w.alloc (.cells (x.cells (.slice ax_l x.l.length kx_l):List Value).toArray 35)).alloc (.cells (y.cells (.slice ay_l y.l.length ky_l):List Value).toArray 35))
 rw [← hw1]
 have HB2:=hid (show Cs w1 (w.heap.size) (x.cells (.slice ax_l x.l.length kx_l):List Value).toArray 35 by rw [hw1];exact (Cs.new _ _ _).alloc _)
 have HB3:=hid (show Cs w1 (w.heap.size+1) (y.cells (.slice ay_l y.l.length ky_l):List Value).toArray 35 by rw [hw1];exact Cs_newN _ _ _ bD)
 have hm:Mod (fun _=>False) w w1:=by rw [hw1];exact ((Mod.refl _ _).alloc _).alloc _
 have HM0:=hid (show Mod (fun _=>False) w w1 from hm.mono (fun _ _ h=>h.elim))
 have hs1:w1.heap.size=w.heap.size+2:=by rw [hw1];simp
 have d6:=hid (Hx_l.o.mod hm (fun _ _ h=>h))
 clear Hx_l
 have d7:=hid (Hy_l.o.mod hm (fun _ _ h=>h))
 clear Hy_l
 clear hw1 hm
 go_upto_region 1 with (fail)
 refine Aa 17 [5,6,7,8,9,10,11,12,13,14,15,16,4] [0,1,2,3,4,5,6,7,8,9,10,11,12] (fun a0 HA0=>?_)
 have c3:=ev HA0 2 rfl
 have c4:=ev HA0 3 rfl
 refine qfd rfl 0 Tryz.underlying35 c3 ?_
 refine QSeq.pure rfl _ (fun E=>Aj rfl Tryz.underlying29 rfl (off:=0) (cs:=x.c.cells) (by rw [Cm.len HOKx.o.2.1];exact size_commit) (E.d 0 0) (Cs.midA (pre:=[]) (mid:=x.c.cells) (post:=[.slice ax_l x.l.length kx_l]) HB2.o rfl)) ?_
 refine qfd rfl 0 Tryz.underlying35 c4 ?_
 refine QSeq.pure rfl _ (fun E=>Aj rfl Tryz.underlying29 rfl (off:=0) (cs:=y.c.cells) (by rw [Cm.len HOKy.o.2.1];exact size_commit) (E.d 2 0) (Cs.midA (pre:=[]) (mid:=y.c.cells) (post:=[.slice ay_l y.l.length ky_l]) HB3.o rfl)) ?_
 refine QSeq.pure rfl (.bool (eqb x.c y.c)) (fun E=>Am rfl (E.d 1 2) (E.d 3 0) (agg_guardE _ _ _ _ _ _ aD _) (EqW.run eqW_commit (ki_cm HOKx.o.2.1) (ki_cm HOKy.o.2.1) (cm_iff HOKx.o HOKy.o) _) rfl) ?_
 refine qmv rfl 4 0 ?_
 refine AA (b:=(eqb x.c y.c)) rfl (.pointer (some ⟨w.heap.size,37,none⟩)) (fun E=>((Ac rfl rfl (E.sz 10 aF) (E.d 5 0)).trans (Ak _))) (fun E hb=>Ae rfl Tryz.underlying35 rfl aD (E.v c3)) ?_
 intro g5 hw
 have c6:=hid hw
 clear hw
 refine AA (b:=(eqb x.c y.c)) rfl (.slice ax_l x.l.length kx_l) (fun E=>((Ac rfl rfl (E.sz 10 aF) (E.d 5 1)).trans (Ak _))) (fun E hb=>Af rfl Tryz.underlying33 rfl ((E.q 6 0 c6.out).1 hb) (AL (pre:=[]) (mid:=x.c.cells) (post:=[.slice ax_l x.l.length kx_l]) (m:=37) (k:=0) HB2.o (Cm.len HOKx.o.2.1) rfl rfl)) ?_
 intro g6 hw
 have c7:=hid hw
 clear hw
 refine AA (b:=(eqb x.c y.c)) rfl (.pointer (some ⟨w.heap.size+1,37,none⟩)) (fun E=>((Ac rfl rfl (E.sz 10 aF) (E.d 5 2)).trans (Ak _))) (fun E hb=>Ae rfl Tryz.underlying35 rfl aD (E.v c4)) ?_
 intro g7 hw
 have c8:=hid hw
 clear hw
 refine AA (b:=(eqb x.c y.c)) rfl (.slice ay_l y.l.length ky_l) (fun E=>((Ac rfl rfl (E.sz 10 aF) (E.d 5 3)).trans (Ak _))) (fun E hb=>Af rfl Tryz.underlying33 rfl ((E.q 8 0 c8.out).1 hb) (AL (pre:=[]) (mid:=y.c.cells) (post:=[.slice ay_l y.l.length ky_l]) (m:=37) (k:=0) HB3.o (Cm.len HOKy.o.2.1) rfl rfl)) ?_
 intro g8 hw
 have c9:=hid hw
 clear hw
 refine AH (b:=(eqb x.c y.c)) rfl (.bool (eqb x.l y.l)) (args:=#[.slice ax_l x.l.length kx_l,.slice ay_l y.l.length ky_l]) (fun E=>((Ac rfl rfl (E.sz 10 aF) (E.d 5 4)).trans (Ak _))) rfl Tryz.func92 (fun E hb=>An ((E.q 7 2 c7.out).1 hb) ((E.q 9 0 c9.out).1 hb)) (fun hb=>EqL_St _ _ _ _ _ _ _ d6.out d7.out bP bO) ?_
 intro g9 d8 hw hm
 have d5:=hid hw
 clear hw
 have i7:=hm.size
 have d9:=hid (show Mod (fun _=>False) w1 d8 from hm)
 clear hm
 refine QSeq.pure rfl (.bool ((eqb x.c y.c) && (eqb x.l y.l))) (fun E=>A6 rfl (E.d 5 5) rfl rfl (Be fun hb=>(E.q 10 0 d5.out).1 hb)) ?_
 refine qas rfl 11 0 ?_
 clear c6 c7 c8 c9 d5
 refine qe ?_
 clear HA0 c3 c4 a0
 go_wp2
 go_ret
 exact ⟨Bs (ce_eqb x y),(HM0.o.trans d9.out (fun _ _ h=>h.elim))⟩
open Go.Proofs renaming Tryz.func93→va',Tryz.ntmps93→vb',Tryz.underlying38→vc',Tryz.underlying35→vf',Tryz.func60→vg' in
open Go.Proofs.YtnaoeginonpicaaGreat renaming CeR→vd',Eq_Ce→vh' in
open Go.Gv renaming n'38→ve' in
set_option maxHeartbeats 4000000 in
theorem EqL_Ce:EqsL CeR 93:=
 fm17'
set_option maxHeartbeats 4000000 in
theorem Eq_Pm:Eqs PmR 61:=by
 intro R R2 cs ds x y w hx hy hB hB2
 obtain ⟨vx_l,rfl,hokx,hx_l⟩:=hx
 obtain ⟨ax_l,kx_l,rfl⟩:=hx_l.shape
 have Hx_l:=B5 hx_l
 clear hx_l
 have HOKx:=B5 hokx
 clear hokx
 obtain ⟨vy_l,rfl,hoky,hy_l⟩:=hy
 obtain ⟨ay_l,ky_l,rfl⟩:=hy_l.shape
 have Hy_l:=B5 hy_l
 clear hy_l
 have HOKy:=B5 hoky
 clear hoky
 have HBR:=B5 hB
 have HBT:=B5 hB2
 clear hB hB2
 go_enter Tryz.func61,Tryz.ntmps61
 go_upto_region 1 with (fail)
 obtain ⟨w1,hw1⟩:∃ zz,zz=((w.alloc (.cells (x.cells (.slice ax_l x.l.length kx_l):List Value).toArray 40)).alloc (.cells (y.cells (.slice ay_l y.l.length ky_l):List Value).toArray 40)):=⟨_,rfl⟩
 change Code.wp _ _ _ _ ((w.alloc (.cells (x.cells (.slice ax_l x.l.length kx_l):List Value).toArray 40)).alloc (.cells (y.cells (.slice ay_l y.l.length ky_l):List Value).toArray 40))
 rw [← hw1]
 have HB2:=hid (show Cs w1 (w.heap.size) (x.cells (.slice ax_l x.l.length kx_l):List Value).toArray 40 by rw [hw1];exact (Cs.new _ _ _).alloc _)
 have HB3:=hid (show Cs w1 (w.heap.size+1) (y.cells (.slice ay_l y.l.length ky_l):List Value).toArray 40 by rw [hw1];exact Cs_newN _ _ _ bD)
 have hm:Mod (fun _=>False) w w1:=by rw [hw1];exact ((Mod.refl _ _).alloc _).alloc _
 have HM0:=hid (show Mod (fun _=>False) w w1 from hm.mono (fun _ _ h=>h.elim))
 have hs1:w1.heap.size=w.heap.size+2:=by rw [hw1];simp
 have j5:=hid (Hx_l.o.mod hm (fun _ _ h=>h))
 clear Hx_l
 have j6:=hid (Hy_l.o.mod hm (fun _ _ h=>h))
 clear Hy_l
 clear hw1 hm
 go_upto_region 1 with (fail)
 refine Aa 38 [5,6,7,8,9,10,11,12,13,14,15,16,17,18,19,20,21,22,23,24,25,26,27,28,29,30,31,32,33,34,35,36,37,4] [0,1,2,3,4,5,6,7,8,9,10,11,12,13,14,15,16,17,18,19,20,21,22,23,24,25,26,27,28,29,30,31,32,33] (fun a0 HA0=>?_)
 have c3:=ev HA0 2 rfl
 have c4:=ev HA0 3 rfl
 refine qfd rfl 0 Tryz.underlying40 c3 ?_
 refine QSeq.pure rfl _ (fun E=>Af rfl B6 rfl (E.d 0 0) (AD HB2.o rfl)) ?_
 refine qfd rfl 0 Tryz.underlying40 c4 ?_
 refine QSeq.pure rfl _ (fun E=>Af rfl B6 rfl (E.d 2 0) (AD HB3.o rfl)) ?_
 refine QSeq.pure rfl (.bool (x.rp == y.rp)) (fun E=>ex_bin rfl (E.d 1 2) (E.d 3 0) (Ag _ _ _ _ _ _) (Bn _ _ _ B6)) ?_
 refine qmv rfl 4 0 ?_
 refine AA (b:=(x.rp == y.rp)) rfl (.pointer (some ⟨w.heap.size,1,none⟩)) (fun E=>((Ac rfl rfl (E.sz 10 aF) (E.d 5 0)).trans (Ak _))) (fun E hb=>Ae rfl Tryz.underlying40 rfl aD (E.v c3)) ?_
 intro j9 hw
 have c6:=hid hw
 clear hw
 refine AA (b:=(x.rp == y.rp)) rfl (.int .i64 x.ep) (fun E=>((Ac rfl rfl (E.sz 10 aF) (E.d 5 1)).trans (Ak _))) (fun E hb=>Af rfl B6 rfl ((E.q 6 0 c6.out).1 hb) (AD HB2.o rfl)) ?_
 intro l7 hw
 have c7:=hid hw
 clear hw
 refine AA (b:=(x.rp == y.rp)) rfl (.pointer (some ⟨w.heap.size+1,1,none⟩)) (fun E=>((Ac rfl rfl (E.sz 10 aF) (E.d 5 2)).trans (Ak _))) (fun E hb=>Ae rfl Tryz.underlying40 rfl aD (E.v c4)) ?_
 intro l8 hw
 have c8:=hid hw
 clear hw
 refine AA (b:=(x.rp == y.rp)) rfl (.int .i64 y.ep) (fun E=>((Ac rfl rfl (E.sz 10 aF) (E.d 5 3)).trans (Ak _))) (fun E hb=>Af rfl B6 rfl ((E.q 8 0 c8.out).1 hb) (AD HB3.o rfl)) ?_
 intro m7 hw
 have c9:=hid hw
 clear hw
 refine AA (b:=(x.rp == y.rp)) rfl (.bool (x.ep == y.ep)) (fun E=>((Ac rfl rfl (E.sz 10 aF) (E.d 5 4)).trans (Ak _))) (fun E hb=>ex_bin rfl ((E.q 7 2 c7.out).1 hb) ((E.q 9 0 c9.out).1 hb) (Ag _ _ _ _ _ _) (Bn _ _ _ B6)) ?_
 intro m8 hw
 have d5:=hid hw
 clear hw
 refine QSeq.pure rfl (.bool ((x.rp == y.rp) && (x.ep == y.ep))) (fun E=>A6 rfl (E.d 5 5) rfl rfl (Be fun hb=>(E.q 10 0 d5.out).1 hb)) ?_
 refine qmv rfl 11 0 ?_
 refine AA (b:=((x.rp == y.rp) && (x.ep == y.ep))) rfl (.pointer (some ⟨w.heap.size,2,none⟩)) (fun E=>((Ac rfl rfl (E.sz 17 aF) (E.d 12 0)).trans (Ak _))) (fun E hb=>Ae rfl Tryz.underlying40 rfl aD (E.v c3)) ?_
 intro m9 hw
 have d6:=hid hw
 clear hw
 refine AA (b:=((x.rp == y.rp) && (x.ep == y.ep))) rfl (.int .u64 (x.fl:Nat)) (fun E=>((Ac rfl rfl (E.sz 17 aF) (E.d 12 1)).trans (Ak _))) (fun E hb=>Af rfl D8 rfl ((E.q 13 0 d6.out).1 hb) (AD HB2.o rfl)) ?_
 intro n5 hw
 have d7:=hid hw
 clear hw
 refine AA (b:=((x.rp == y.rp) && (x.ep == y.ep))) rfl (.pointer (some ⟨w.heap.size+1,2,none⟩)) (fun E=>((Ac rfl rfl (E.sz 17 aF) (E.d 12 2)).trans (Ak _))) (fun E hb=>Ae rfl Tryz.underlying40 rfl aD (E.v c4)) ?_
 intro n6 hw
 have d8:=hid hw
 clear hw
 refine AA (b:=((x.rp == y.rp) && (x.ep == y.ep))) rfl (.int .u64 (y.fl:Nat)) (fun E=>((Ac rfl rfl (E.sz 17 aF) (E.d 12 3)).trans (Ak _))) (fun E hb=>Af rfl D8 rfl ((E.q 15 0 d8.out).1 hb) (AD HB3.o rfl)) ?_
 intro n7 hw
 have d9:=hid hw
 clear hw
 refine AA (b:=((x.rp == y.rp) && (x.ep == y.ep))) rfl (.bool (((x.fl:Nat):Int) == ((y.fl:Nat):Int))) (fun E=>((Ac rfl rfl (E.sz 17 aF) (E.d 12 4)).trans (Ak _))) (fun E hb=>ex_bin rfl ((E.q 14 2 d7.out).1 hb) ((E.q 16 0 d9.out).1 hb) (Ag _ _ _ _ _ _) (Bn _ _ _ D8)) ?_
 intro n8 hw
 have g5:=hid hw
 clear hw
 refine QSeq.pure rfl (.bool (((x.rp == y.rp) && (x.ep == y.ep)) && (((x.fl:Nat):Int) == ((y.fl:Nat):Int)))) (fun E=>A6 rfl (E.d 12 5) rfl rfl (Be fun hb=>(E.q 17 0 g5.out).1 hb)) ?_
 refine qmv rfl 18 0 ?_
 refine AA (b:=(((x.rp == y.rp) && (x.ep == y.ep)) && (((x.fl:Nat):Int) == ((y.fl:Nat):Int)))) rfl (.pointer (some ⟨w.heap.size,4,none⟩)) (fun E=>((Ac rfl rfl (E.sz 24 aF) (E.d 19 0)).trans (Ak _))) (fun E hb=>Ae rfl Tryz.underlying40 rfl aD (E.v c3)) ?_
 intro o4 hw
 have g6:=hid hw
 clear hw
 refine AA (b:=(((x.rp == y.rp) && (x.ep == y.ep)) && (((x.fl:Nat):Int) == ((y.fl:Nat):Int)))) rfl (.agg #[.int .i64 x.sb,.int .i64 x.mr]) (fun E=>((Ac rfl rfl (E.sz 24 aF) (E.d 19 1)).trans (Ak _))) (fun E hb=>Aj rfl Tryz.underlying27 rfl (off:=4) (cs:=[.int .i64 x.sb,.int .i64 x.mr]) aD ((E.q 20 0 g6.out).1 hb) (Cs.litA HB2.o rfl)) ?_
 intro o5 hw
 have g7:=hid hw
 clear hw
 refine AA (b:=(((x.rp == y.rp) && (x.ep == y.ep)) && (((x.fl:Nat):Int) == ((y.fl:Nat):Int)))) rfl (.pointer (some ⟨w.heap.size+1,4,none⟩)) (fun E=>((Ac rfl rfl (E.sz 24 aF) (E.d 19 2)).trans (Ak _))) (fun E hb=>Ae rfl Tryz.underlying40 rfl aD (E.v c4)) ?_
 intro o6 hw
 have g8:=hid hw
 clear hw
 refine AA (b:=(((x.rp == y.rp) && (x.ep == y.ep)) && (((x.fl:Nat):Int) == ((y.fl:Nat):Int)))) rfl (.agg #[.int .i64 y.sb,.int .i64 y.mr]) (fun E=>((Ac rfl rfl (E.sz 24 aF) (E.d 19 3)).trans (Ak _))) (fun E hb=>Aj rfl Tryz.underlying27 rfl (off:=4) (cs:=[.int .i64 y.sb,.int .i64 y.mr]) aD ((E.q 22 0 g8.out).1 hb) (Cs.litA HB3.o rfl)) ?_
 intro o7 hw
 have g9:=hid hw
 clear hw
 refine AA (b:=(((x.rp == y.rp) && (x.ep == y.ep)) && (((x.fl:Nat):Int) == ((y.fl:Nat):Int)))) rfl (.bool (eqb (x.sb,x.mr) (y.sb,y.mr))) (fun E=>((Ac rfl rfl (E.sz 24 aF) (E.d 19 4)).trans (Ak _))) (fun E hb=>Am rfl ((E.q 21 2 g7.out).1 hb) ((E.q 23 0 g9.out).1 hb) (agg_guardE _ _ _ _ _ _ aD _) (EqW.run eqW_sig (ki_2 x.sb x.mr) (ki_2 y.sb y.mr) (two_iff x.sb x.mr y.sb y.mr) _) rfl) ?_
 intro o8 hw
 have i7:=hid hw
 clear hw
 refine QSeq.pure rfl (.bool ((((x.rp == y.rp) && (x.ep == y.ep)) && (((x.fl:Nat):Int) == ((y.fl:Nat):Int))) && (eqb (x.sb,x.mr) (y.sb,y.mr)))) (fun E=>A6 rfl (E.d 19 5) rfl rfl (Be fun hb=>(E.q 24 0 i7.out).1 hb)) ?_
 refine qmv rfl 25 0 ?_
 refine AA (b:=((((x.rp == y.rp) && (x.ep == y.ep)) && (((x.fl:Nat):Int) == ((y.fl:Nat):Int))) && (eqb (x.sb,x.mr) (y.sb,y.mr)))) rfl (.pointer (some ⟨w.heap.size,3,none⟩)) (fun E=>((Ac rfl rfl (E.sz 31 aF) (E.d 26 0)).trans (Ak _))) (fun E hb=>Ae rfl Tryz.underlying40 rfl aD (E.v c3)) ?_
 intro o9 hw
 have i8:=hid hw
 clear hw
 refine AA (b:=((((x.rp == y.rp) && (x.ep == y.ep)) && (((x.fl:Nat):Int) == ((y.fl:Nat):Int))) && (eqb (x.sb,x.mr) (y.sb,y.mr)))) rfl (.slice ax_l x.l.length kx_l) (fun E=>((Ac rfl rfl (E.sz 31 aF) (E.d 26 1)).trans (Ak _))) (fun E hb=>Af rfl Tryz.underlying38 rfl ((E.q 27 0 i8.out).1 hb) (AD HB2.o rfl)) ?_
 intro p4 hw
 have i9:=hid hw
 clear hw
 refine AA (b:=((((x.rp == y.rp) && (x.ep == y.ep)) && (((x.fl:Nat):Int) == ((y.fl:Nat):Int))) && (eqb (x.sb,x.mr) (y.sb,y.mr)))) rfl (.pointer (some ⟨w.heap.size+1,3,none⟩)) (fun E=>((Ac rfl rfl (E.sz 31 aF) (E.d 26 2)).trans (Ak _))) (fun E hb=>Ae rfl Tryz.underlying40 rfl aD (E.v c4)) ?_
 intro p5 hw
 have j0:=hid hw
 clear hw
 refine AA (b:=((((x.rp == y.rp) && (x.ep == y.ep)) && (((x.fl:Nat):Int) == ((y.fl:Nat):Int))) && (eqb (x.sb,x.mr) (y.sb,y.mr)))) rfl (.slice ay_l y.l.length ky_l) (fun E=>((Ac rfl rfl (E.sz 31 aF) (E.d 26 3)).trans (Ak _))) (fun E hb=>Af rfl Tryz.underlying38 rfl ((E.q 29 0 j0.out).1 hb) (AD HB3.o rfl)) ?_
 intro p6 hw
 have j3:=hid hw
 clear hw
 refine AH (b:=((((x.rp == y.rp) && (x.ep == y.ep)) && (((x.fl:Nat):Int) == ((y.fl:Nat):Int))) && (eqb (x.sb,x.mr) (y.sb,y.mr)))) rfl (.bool (eqb x.l y.l)) (args:=#[.slice ax_l x.l.length kx_l,.slice ay_l y.l.length ky_l]) (fun E=>((Ac rfl rfl (E.sz 31 aF) (E.d 26 4)).trans (Ak _))) rfl Tryz.func93 (fun E hb=>An ((E.q 28 2 i9.out).1 hb) ((E.q 30 0 j3.out).1 hb)) (fun hb=>EqL_Ce _ _ _ _ _ _ _ j5.out j6.out bP bO) ?_
 intro p7 j7 hw hm
 have j4:=hid hw
 clear hw
 have p8:=hm.size
 have j8:=hid (show Mod (fun _=>False) w1 j7 from hm)
 clear hm
 refine QSeq.pure rfl (.bool (((((x.rp == y.rp) && (x.ep == y.ep)) && (((x.fl:Nat):Int) == ((y.fl:Nat):Int))) && (eqb (x.sb,x.mr) (y.sb,y.mr))) && (eqb x.l y.l))) (fun E=>A6 rfl (E.d 26 5) rfl rfl (Be fun hb=>(E.q 31 0 j4.out).1 hb)) ?_
 refine qas rfl 32 0 ?_
 clear c6 c7 c8 c9 d5 d6 d7 d8 d9 g5 g6 g7 g8 g9 i7 i8 i9 j0 j3 j4
 refine qe ?_
 clear HA0 c3 c4 a0
 go_wp2
 go_ret
 exact ⟨Bs (pm_eqb x y),(HM0.o.trans j8.out (fun _ _ h=>h.elim))⟩
set_option maxHeartbeats 4000000 in
theorem Eq_Op:Eqs OpR 63:=by
 intro R R2 cs ds x y w hx hy hB hB2
 obtain ⟨vx_pl,rfl,hokx,hx_pl⟩:=hx
 obtain ⟨ax_pl,kx_pl,rfl⟩:=hx_pl.shape
 have Hx_pl:=B5 hx_pl
 clear hx_pl
 have HOKx:=B5 hokx
 clear hokx
 obtain ⟨vy_pl,rfl,hoky,hy_pl⟩:=hy
 obtain ⟨ay_pl,ky_pl,rfl⟩:=hy_pl.shape
 have Hy_pl:=B5 hy_pl
 clear hy_pl
 have HOKy:=B5 hoky
 clear hoky
 have HBR:=B5 hB
 have HBT:=B5 hB2
 clear hB hB2
 go_enter Tryz.func63,Tryz.ntmps63
 go_upto_region 1 with (fail)
 obtain ⟨w1,hw1⟩:∃ zz,zz=((w.alloc (.cells (x.cells (.slice ax_pl x.pl.length kx_pl):List Value).toArray 54)).alloc (.cells (y.cells (.slice ay_pl y.pl.length ky_pl):List Value).toArray 54)):=⟨_,rfl⟩
 change Code.wp _ _ _ _ ((w.alloc (.cells (x.cells (.slice ax_pl x.pl.length kx_pl):List Value).toArray 54)).alloc (.cells (y.cells (.slice ay_pl y.pl.length ky_pl):List Value).toArray 54))
 rw [← hw1]
 have HB2:=hid (show Cs w1 (w.heap.size) (x.cells (.slice ax_pl x.pl.length kx_pl):List Value).toArray 54 by rw [hw1];exact (Cs.new _ _ _).alloc _)
 have HB3:=hid (show Cs w1 (w.heap.size+1) (y.cells (.slice ay_pl y.pl.length ky_pl):List Value).toArray 54 by rw [hw1];exact Cs_newN _ _ _ bD)
 have hm:Mod (fun _=>False) w w1:=by rw [hw1];exact ((Mod.refl _ _).alloc _).alloc _
 have HM0:=hid (show Mod (fun _=>False) w w1 from hm.mono (fun _ _ h=>h.elim))
 have hs1:w1.heap.size=w.heap.size+2:=by rw [hw1];simp
 have g6:=hid (Hx_pl.o.mod hm (fun _ _ h=>h))
 clear Hx_pl
 have g7:=hid (Hy_pl.o.mod hm (fun _ _ h=>h))
 clear Hy_pl
 clear hw1 hm
 go_upto_region 1 with (fail)
 refine Aa 24 [5,6,7,8,9,10,11,12,13,14,15,16,17,18,19,20,21,22,23,4] [0,1,2,3,4,5,6,7,8,9,10,11,12,13,14,15,16,17,18,19] (fun a0 HA0=>?_)
 have c3:=ev HA0 2 rfl
 have c4:=ev HA0 3 rfl
 refine qfd rfl 0 Tryz.underlying54 c3 ?_
 refine QSeq.pure rfl _ (fun E=>Af rfl B6 rfl (E.d 0 0) (Cs.hd1 HB2.o rfl)) ?_
 refine qfd rfl 0 Tryz.underlying54 c4 ?_
 refine QSeq.pure rfl _ (fun E=>Af rfl B6 rfl (E.d 2 0) (Cs.hd1 HB3.o rfl)) ?_
 refine QSeq.pure rfl (.bool (x.ix == y.ix)) (fun E=>ex_bin rfl (E.d 1 2) (E.d 3 0) (Ag _ _ _ _ _ _) (Bn _ _ _ B6)) ?_
 refine qmv rfl 4 0 ?_
 refine AA (b:=(x.ix == y.ix)) rfl (.pointer (some ⟨w.heap.size,2,none⟩)) (fun E=>((Ac rfl rfl (E.sz 10 aF) (E.d 5 0)).trans (Ak _))) (fun E hb=>Ae rfl Tryz.underlying54 rfl aD (E.v c3)) ?_
 intro i7 hw
 have c6:=hid hw
 clear hw
 refine AA (b:=(x.ix == y.ix)) rfl (hv x.nc) (fun E=>((Ac rfl rfl (E.sz 10 aF) (E.d 5 1)).trans (Ak _))) (fun E hb=>Aj rfl D5 rfl (off:=2) (cs:=x.nc.map bv) (by rw [List.length_map,HOKx.o.2.1];exact size_hash) ((E.q 6 0 c6.out).1 hb) (Cs.tlA HB2.o rfl)) ?_
 intro i8 hw
 have c7:=hid hw
 clear hw
 refine AA (b:=(x.ix == y.ix)) rfl (.pointer (some ⟨w.heap.size+1,2,none⟩)) (fun E=>((Ac rfl rfl (E.sz 10 aF) (E.d 5 2)).trans (Ak _))) (fun E hb=>Ae rfl Tryz.underlying54 rfl aD (E.v c4)) ?_
 intro i9 hw
 have c8:=hid hw
 clear hw
 refine AA (b:=(x.ix == y.ix)) rfl (hv y.nc) (fun E=>((Ac rfl rfl (E.sz 10 aF) (E.d 5 3)).trans (Ak _))) (fun E hb=>Aj rfl D5 rfl (off:=2) (cs:=y.nc.map bv) (by rw [List.length_map,HOKy.o.2.1];exact size_hash) ((E.q 8 0 c8.out).1 hb) (Cs.tlA HB3.o rfl)) ?_
 intro j0 hw
 have c9:=hid hw
 clear hw
 refine AA (b:=(x.ix == y.ix)) rfl (.bool (eqb x.nc y.nc)) (fun E=>((Ac rfl rfl (E.sz 10 aF) (E.d 5 4)).trans (Ak _))) (fun E hb=>Am rfl ((E.q 7 2 c7.out).1 hb) ((E.q 9 0 c9.out).1 hb) (hv_guard2 _ _ _ _ _ _) (hv_eql HOKx.o.2.1 HOKy.o.2.1 _) (congrArg Value.bool (dec_eqb _ _))) ?_
 intro j3 hw
 have d5:=hid hw
 clear hw
 refine QSeq.pure rfl (.bool ((x.ix == y.ix) && (eqb x.nc y.nc))) (fun E=>A6 rfl (E.d 5 5) rfl rfl (Be fun hb=>(E.q 10 0 d5.out).1 hb)) ?_
 refine qmv rfl 11 0 ?_
 refine AA (b:=((x.ix == y.ix) && (eqb x.nc y.nc))) rfl (.pointer (some ⟨w.heap.size,1,none⟩)) (fun E=>((Ac rfl rfl (E.sz 17 aF) (E.d 12 0)).trans (Ak _))) (fun E hb=>Ae rfl Tryz.underlying54 rfl aD (E.v c3)) ?_
 intro j4 hw
 have d6:=hid hw
 clear hw
 refine AA (b:=((x.ix == y.ix) && (eqb x.nc y.nc))) rfl (.slice ax_pl x.pl.length kx_pl) (fun E=>((Ac rfl rfl (E.sz 17 aF) (E.d 12 1)).trans (Ak _))) (fun E hb=>Af rfl D1 rfl ((E.q 13 0 d6.out).1 hb) (Cs.hd1 HB2.o rfl)) ?_
 intro j5 hw
 have d7:=hid hw
 clear hw
 refine AA (b:=((x.ix == y.ix) && (eqb x.nc y.nc))) rfl (.pointer (some ⟨w.heap.size+1,1,none⟩)) (fun E=>((Ac rfl rfl (E.sz 17 aF) (E.d 12 2)).trans (Ak _))) (fun E hb=>Ae rfl Tryz.underlying54 rfl aD (E.v c4)) ?_
 intro j6 hw
 have d8:=hid hw
 clear hw
 refine AA (b:=((x.ix == y.ix) && (eqb x.nc y.nc))) rfl (.slice ay_pl y.pl.length ky_pl) (fun E=>((Ac rfl rfl (E.sz 17 aF) (E.d 12 3)).trans (Ak _))) (fun E hb=>Af rfl D1 rfl ((E.q 15 0 d8.out).1 hb) (Cs.hd1 HB3.o rfl)) ?_
 intro j7 hw
 have d9:=hid hw
 clear hw
 refine AH (b:=((x.ix == y.ix) && (eqb x.nc y.nc))) rfl (.bool (eqb x.pl y.pl)) (args:=#[.slice ax_pl x.pl.length kx_pl,.slice ay_pl y.pl.length ky_pl]) (fun E=>((Ac rfl rfl (E.sz 17 aF) (E.d 12 4)).trans (Ak _))) rfl Tryz.func17 (fun E hb=>An ((E.q 14 2 d7.out).1 hb) ((E.q 16 0 d9.out).1 hb)) (fun hb=>Same_B g6.out g7.out) ?_
 intro j8 g8 hw hm
 have g5:=hid hw
 clear hw
 have j9:=hm.size
 have g9:=hid (show Mod (fun _=>False) w1 g8 from hm)
 clear hm
 refine QSeq.pure rfl (.bool (((x.ix == y.ix) && (eqb x.nc y.nc)) && (eqb x.pl y.pl))) (fun E=>A6 rfl (E.d 12 5) rfl rfl (Be fun hb=>(E.q 17 0 g5.out).1 hb)) ?_
 refine qas rfl 18 0 ?_
 clear c6 c7 c8 c9 d5 d6 d7 d8 d9 g5
 refine qe ?_
 clear HA0 c3 c4 a0
 go_wp2
 go_ret
 exact ⟨Bs (op_eqb x y),(HM0.o.trans g9.out (fun _ _ h=>h.elim))⟩
open Go.Proofs renaming Tryz.func94→va',Tryz.ntmps94→vb',Tryz.underlying42→vc',Tryz.underlying54→vf',Tryz.func63→vg' in
open Go.Proofs.YtnaoeginonpicaaGreat renaming OpR→vd',Eq_Op→vh' in
open Go.Gv renaming n'34→ve' in
set_option maxHeartbeats 4000000 in
theorem EqL_Op:EqsL OpR 94:=
 fm17'
set_option maxHeartbeats 4000000 in
theorem EqL_Tb:EqsL TbR 95:=by
 intro R R2 v v2 l m w hs ht hB hB2
 obtain ⟨ao,cap,rfl⟩:=hs.shape
 obtain ⟨bo,bcap,rfl⟩:=ht.shape
 have hlm:l.length≤maxLen:=hs.bd
 rw [A7] at hlm
 have HS:=B5 hs
 have HT:=B5 ht
 have HBR:=B5 hB
 have HBT:=B5 hB2
 clear hs ht hB hB2
 go_enter Tryz.func95,Tryz.ntmps95
 go_upto_region 1 with (fail)
 have HM0:=hid (Mod.refl (fun _=>False) w)
 by_cases hl:l.length=m.length
 rotate_left
 ·skip
  go_upto_region 1 with (fail)
  refine Aa 42 [6,7,8,9,10] [0,1,2,3,4] (fun a0 HA0=>?_)
  have c3:=ev HA0 0 rfl
  have c6:=ev HA0 1 rfl
  refine qmo rfl c3 ?_
  refine QSeq.pure rfl (.int .i64 l.length) (fun E=>Bc rfl (E.d 0 0) C8) ?_
  refine qmo rfl c6 ?_
  refine QSeq.pure rfl (.int .i64 m.length) (fun E=>Bc rfl (E.d 2 0) C8) ?_
  refine QSeq.pure rfl (.bool true) (fun E=>Am rfl (E.d 1 2) (E.d 3 0) (Ag _ _ _ _ _ _) (run_neq_i _ _ _ B6) (congrArg Value.bool (ne_tt aM))) ?_
  refine qe ?_
  clear HA0 c3 c6 a0
  go_upto_region 2 with (fail)
  refine Aa 42 [4] [0] (fun a0 HA0=>?_)
  refine QSeq.pure rfl (.bool false) (fun E=>Aw rfl rfl) ?_
  refine qe ?_
  clear HA0 a0
  go_wp2
  go_ret
  exact ⟨Bs (eqb_ne fun e=>hl (by rw [e])).symm,HM0.o⟩
 ·skip
  go_upto_region 1 with (fail)
  refine Aa 42 [6,7,8,9,10] [0,1,2,3,4] (fun a0 HA0=>?_)
  have c3:=ev HA0 0 rfl
  have c6:=ev HA0 1 rfl
  refine qmo rfl c3 ?_
  refine QSeq.pure rfl (.int .i64 l.length) (fun E=>Bc rfl (E.d 0 0) C8) ?_
  refine qmo rfl c6 ?_
  refine QSeq.pure rfl (.int .i64 m.length) (fun E=>Bc rfl (E.d 2 0) C8) ?_
  refine QSeq.pure rfl (.bool false) (fun E=>Am rfl (E.d 1 2) (E.d 3 0) (Ag _ _ _ _ _ _) (run_neq_i _ _ _ B6) (congrArg Value.bool (ne_ff aM))) ?_
  refine qe ?_
  clear HA0 c3 c6 a0
  go_upto_region 3 with (fail)
  refine Aa 42 [11,12,13] [0,1,2] (fun a0 HA0=>?_)
  have c3:=ev HA0 0 rfl
  refine qmo rfl c3 ?_
  refine QSeq.pure rfl (.int .i64 l.length) (fun E=>Bc rfl (E.d 0 0) C8) ?_
  refine QSeq.pure rfl (.int .i64 0) (fun E=>Al rfl rfl) ?_
  refine qe ?_
  clear HA0 c3 a0
  have HLE:=B5 hl
  clear hl
  go_wp2
  go_loopw [13,5] (fun ti t5 wr=>∃ k:Nat,ti=.int .i64 (k:Int)∧k≤l.length∧l.take k=m.take k∧w.heap.size≤wr.heap.size∧RdS TbR R wr (.slice ao l.length cap) l∧RdS TbR R2 wr (.slice bo m.length bcap) m∧Mod (fun _=>False) w wr) (fun ti t5 _=>l.length - (intOf ti).toNat)
  case atStart=>exact ⟨0,rfl,Nat.zero_le _,rfl,B9 _,HS.o,HT.o,HM0.o⟩
  case round=>
   obtain ⟨k,rfl,hk,htk,hz,hs,ht,hm⟩:=hrel
   obtain ⟨wl,rfl⟩:∃ x,x=wr:=⟨_,rfl⟩
   have HS2:=B5 hs
   have HT2:=B5 ht
   have HML:=B5 hm
   have HTK:=B5 htk
   clear hs ht hm htk HS HT HM0
   by_cases hlt:k < l.length
   ·have hlt2:k < m.length:=by have:=HLE.o;omega
    go_upto_region 4 with (fail)
    refine Aa 42 [14] [0] (fun a0 HA0=>?_)
    have c7:=ev HA0 12 rfl
    have c4:=ev HA0 13 rfl
    refine QSeq.pure rfl (.bool true) (fun E=>Am rfl (E.v c4) (E.v c7) (Ag _ _ _ _ _ _) (Ay _ _ _ B6) (congrArg Value.bool (decide_eq_true aM))) ?_
    refine qe ?_
    clear HA0 c7 c4 a0
    go_upto_region 5 with (fail)
    refine Aa 42 [15,5] [0,1] (fun a0 HA0=>?_)
    have c4:=ev HA0 13 rfl
    refine qmo rfl c4 ?_
    refine qas rfl 0 0 ?_
    refine qe ?_
    clear HA0 c4 a0
    have hat:=HS2.o.at hlt
    obtain ⟨g1,o1,c1,eao,hrg,hrd,hcs⟩:=hat
    subst eao
    obtain ⟨x,hx⟩:∃ z,z=l[k]:=⟨_,rfl⟩
    rw [← hx] at hrd
    have HX1:=B5 hx
    have hcl:c1.length=2:=TbR.len hrd
    have HCL1:=B5 hcl
    have HAT1:=hid (show CellsAt R wl g1 (o1+k * 2) c1 from ⟨hrg,hcs⟩)
    have HRD1:=B5 hrd
    clear hcl hcs hrd hrg hx
    have hat:=HT2.o.at hlt2
    obtain ⟨g2,o2,c2,eao,hrg,hrd,hcs⟩:=hat
    subst eao
    obtain ⟨y,hy⟩:∃ z,z=m[k]:=⟨_,rfl⟩
    rw [← hy] at hrd
    have HX2:=B5 hy
    have hcl:c2.length=2:=TbR.len hrd
    have HCL2:=B5 hcl
    have HAT2:=hid (show CellsAt R2 wl g2 (o2+k * 2) c2 from ⟨hrg,hcs⟩)
    have HRD2:=B5 hrd
    clear hcl hcs hrd hrg hy
    obtain ⟨b,hb⟩:∃ b,b=eqb x y:=⟨_,rfl⟩
    have HB:=B5 hb
    clear hb
    obtain ⟨v_l1,rfl,hok1,hsl1⟩:=HRD1.o
    obtain ⟨al1,kl1,rfl⟩:=hsl1.shape
    have HSL1:=B5 hsl1
    clear hok1 hsl1
    clear HRD1
    obtain ⟨v_l2,rfl,hok2,hsl2⟩:=HRD2.o
    obtain ⟨al2,kl2,rfl⟩:=hsl2.shape
    have HSL2:=B5 hsl2
    clear hok2 hsl2
    clear HRD2
    go_upto_region 6 with (fail)
    generalize ha0:Act.mk _ _=a0
    have c3:a0.eval (.tmp 0)=.slice (some ⟨g1,o1,none⟩) l.length cap:=by rw [← ha0];rfl
    have c6:a0.eval (.tmp 1)=.slice (some ⟨g2,o2,none⟩) m.length bcap:=by rw [← ha0];rfl
    have c8:a0.eval (.tmp 5)=.int .i64 ((k:Nat):Int):=by rw [← ha0];rfl
    have hsz0:a0.tmps.size=42:=by rw [← ha0];rfl
    have HA0:=hid ha0
    clear ha0
    refine wp_region_Q0 42 hsz0 [16,17,18,19,20,21,22,23,24,25,26,27,28,29,30,31,32,33,34,35,36,37,38,39,40] [qi (.slice (some ⟨g1,o1,none⟩) l.length cap),qi (.int .i64 ((k:Nat):Int)),qi (.pointer (some ⟨g1,o1+k * 2,none⟩)),qi (.pointer (some ⟨g1,o1+k * 2,none⟩)),qi (.int .i64 x.ix),qi (.slice (some ⟨g2,o2,none⟩) m.length bcap),qi (.int .i64 ((k:Nat):Int)),qi (.pointer (some ⟨g2,o2+k * 2,none⟩)),qi (.pointer (some ⟨g2,o2+k * 2,none⟩)),qi (.int .i64 y.ix),qi (.bool (!(x.ix == y.ix))),qi (.bool (!(x.ix == y.ix))),qc (!(!(x.ix == y.ix))) (qi (.slice (some ⟨g1,o1,none⟩) l.length cap)),qc (!(!(x.ix == y.ix))) (qi (.int .i64 ((k:Nat):Int))),qc (!(!(x.ix == y.ix))) (qi (.pointer (some ⟨g1,o1+k * 2,none⟩))),qc (!(!(x.ix == y.ix))) (qi (.pointer (some ⟨g1,o1+k * 2+1,none⟩))),qc (!(!(x.ix == y.ix))) (qi (.slice al1 x.l.length kl1)),qc (!(!(x.ix == y.ix))) (qi (.slice (some ⟨g2,o2,none⟩) m.length bcap)),qc (!(!(x.ix == y.ix))) (qi (.int .i64 ((k:Nat):Int))),qc (!(!(x.ix == y.ix))) (qi (.pointer (some ⟨g2,o2+k * 2,none⟩))),qc (!(!(x.ix == y.ix))) (qi (.pointer (some ⟨g2,o2+k * 2+1,none⟩))),qc (!(!(x.ix == y.ix))) (qi (.slice al2 y.l.length kl2)),qc (!(!(x.ix == y.ix))) (qi (.bool (eqb x.l y.l))),qc (!(!(x.ix == y.ix))) (qi (.bool (!(eqb x.l y.l)))),qi (.bool ((!(x.ix == y.ix)) || (!(eqb x.l y.l))))] ⟨Ad,Ad,Ad,Ad,Ad,Ad,Ad,Ad,Ad,Ad,Ad,Ad,(qc_stable Ad),(qc_stable Ad),(qc_stable Ad),(qc_stable Ad),(qc_stable Ad),(qc_stable Ad),(qc_stable Ad),(qc_stable Ad),(qc_stable Ad),(qc_stable Ad),(qc_stable Ad),(qc_stable Ad),Ad,trivial⟩ [] ⟨?_,?_,?_,?_,?_,?_,?_,?_,?_,?_,?_,?_,?_,?_,?_,?_,?_,?_,?_,?_,?_,?_,?_,?_,?_,trivial⟩ ?_
    ·exact stq (fun E=>Al rfl (E.v c3))
    ·exact stq (fun E=>Al rfl (E.v c8))
    ·exact stq (fun E=>ex_idxS (i:=k) (s:=2) rfl C8 aD (E.d 0) (E.d 1) cQ)
    ·exact stq (fun E=>Ae rfl D2 rfl aD (E.d 2))
    ·exact stq (fun E=>Af rfl B6 rfl (E.d 3) ((HAT1.o.mod E.m.old aO).2 0 _ rfl))
    ·exact stq (fun E=>Al rfl (E.v c6))
    ·exact stq (fun E=>Al rfl (E.v c8))
    ·exact stq (fun E=>ex_idxS (i:=k) (s:=2) rfl C8 aD (E.d 5) (E.d 6) cQ)
    ·exact stq (fun E=>Ae rfl D2 rfl aD (E.d 7))
    ·exact stq (fun E=>Af rfl B6 rfl (E.d 8) ((HAT2.o.mod E.m.old dZ).2 0 _ rfl))
    ·exact stq (fun E=>ex_bin rfl (E.d 4) (E.d 9) (Ag _ _ _ _ _ _) (run_neq_i _ _ _ B6))
    ·exact stq (fun E=>Al rfl (E.d 10))
    ·refine A5 rfl rfl rfl fun _ _ _ _ _ _ _ hout hsz hd _ _=>?_
     have h11:=hd ⟨11,.guard⟩ bD rfl _ rfl
     refine qe_guard rfl (b:=(!(!(x.ix == y.ix)))) ((Ac rfl rfl (hsz 27 aF) h11).trans bD) rfl (fun hb l' hl'=>?_)
     have hb0:=hb
     have hb:(!(x.ix == y.ix))=false:=by simpa using hb
     refine Bo rfl ((Ac rfl rfl (hsz 27 aF) h11).trans dY) (Al rfl ((hout 0 aF).trans c3)) QE.refl ?_
     rw [hl'];rfl
    ·refine A5 rfl rfl rfl fun _ _ _ _ _ _ _ hout hsz hd _ _=>?_
     have h11:=hd ⟨11,.guard⟩ bD rfl _ rfl
     refine qe_guard rfl (b:=(!(!(x.ix == y.ix)))) ((Ac rfl rfl (hsz 27 aF) h11).trans bD) rfl (fun hb l' hl'=>?_)
     have hb0:=hb
     have hb:(!(x.ix == y.ix))=false:=by simpa using hb
     refine Bo rfl ((Ac rfl rfl (hsz 27 aF) h11).trans dY) (Al rfl ((hout 5 aF).trans c8)) QE.refl ?_
     rw [hl'];rfl
    ·refine A5 rfl rfl rfl fun _ _ _ _ _ _ _ _ hsz hd _ _=>?_
     have h11:=hd ⟨11,.guard⟩ bD rfl _ rfl
     have h12:=hd ⟨12,.data⟩ bD rfl _ rfl
     have h13:=hd ⟨13,.data⟩ bD rfl _ rfl
     refine qe_guard rfl (b:=(!(!(x.ix == y.ix)))) ((Ac rfl rfl (hsz 27 aF) h11).trans bD) rfl (fun hb l' hl'=>?_)
     have hb0:=hb
     have hb:(!(x.ix == y.ix))=false:=by simpa using hb
     refine Bo rfl ((Ac rfl rfl (hsz 27 aF) h11).trans dY) (ex_idxS (i:=k) (s:=2) rfl C8 aD (h12.1 hb0) (h13.1 hb0) cQ) QE.refl ?_
     rw [hl'];rfl
    ·refine A5 rfl rfl rfl fun _ _ _ _ _ _ _ _ hsz hd _ _=>?_
     have h11:=hd ⟨11,.guard⟩ bD rfl _ rfl
     have h14:=hd ⟨14,.data⟩ bD rfl _ rfl
     refine qe_guard rfl (b:=(!(!(x.ix == y.ix)))) ((Ac rfl rfl (hsz 27 aF) h11).trans bD) rfl (fun hb l' hl'=>?_)
     have hb0:=hb
     have hb:(!(x.ix == y.ix))=false:=by simpa using hb
     refine Bo rfl ((Ac rfl rfl (hsz 27 aF) h11).trans dY) (Ae rfl D2 rfl aD (h14.1 hb0)) QE.refl ?_
     rw [hl'];rfl
    ·refine A5 rfl rfl rfl fun _ _ _ _ _ hm _ _ hsz hd _ _=>?_
     have h11:=hd ⟨11,.guard⟩ bD rfl _ rfl
     have h15:=hd ⟨15,.data⟩ bD rfl _ rfl
     refine qe_guard rfl (b:=(!(!(x.ix == y.ix)))) ((Ac rfl rfl (hsz 27 aF) h11).trans bD) rfl (fun hb l' hl'=>?_)
     have hb0:=hb
     have hb:(!(x.ix == y.ix))=false:=by simpa using hb
     refine Bo rfl ((Ac rfl rfl (hsz 27 aF) h11).trans dY) (Af rfl Tryz.underlying125 rfl (h15.1 hb0) ((HAT1.o.mod hm.old aO).2 1 _ rfl)) QE.refl ?_
     rw [hl'];rfl
    ·refine A5 rfl rfl rfl fun _ _ _ _ _ _ _ hout hsz hd _ _=>?_
     have h11:=hd ⟨11,.guard⟩ bD rfl _ rfl
     refine qe_guard rfl (b:=(!(!(x.ix == y.ix)))) ((Ac rfl rfl (hsz 27 aF) h11).trans bD) rfl (fun hb l' hl'=>?_)
     have hb0:=hb
     have hb:(!(x.ix == y.ix))=false:=by simpa using hb
     refine Bo rfl ((Ac rfl rfl (hsz 27 aF) h11).trans dY) (Al rfl ((hout 1 aF).trans c6)) QE.refl ?_
     rw [hl'];rfl
    ·refine A5 rfl rfl rfl fun _ _ _ _ _ _ _ hout hsz hd _ _=>?_
     have h11:=hd ⟨11,.guard⟩ bD rfl _ rfl
     refine qe_guard rfl (b:=(!(!(x.ix == y.ix)))) ((Ac rfl rfl (hsz 27 aF) h11).trans bD) rfl (fun hb l' hl'=>?_)
     have hb0:=hb
     have hb:(!(x.ix == y.ix))=false:=by simpa using hb
     refine Bo rfl ((Ac rfl rfl (hsz 27 aF) h11).trans dY) (Al rfl ((hout 5 aF).trans c8)) QE.refl ?_
     rw [hl'];rfl
    ·refine A5 rfl rfl rfl fun _ _ _ _ _ _ _ _ hsz hd _ _=>?_
     have h11:=hd ⟨11,.guard⟩ bD rfl _ rfl
     have h17:=hd ⟨17,.data⟩ bD rfl _ rfl
     have h18:=hd ⟨18,.data⟩ bD rfl _ rfl
     refine qe_guard rfl (b:=(!(!(x.ix == y.ix)))) ((Ac rfl rfl (hsz 27 aF) h11).trans bD) rfl (fun hb l' hl'=>?_)
     have hb0:=hb
     have hb:(!(x.ix == y.ix))=false:=by simpa using hb
     refine Bo rfl ((Ac rfl rfl (hsz 27 aF) h11).trans dY) (ex_idxS (i:=k) (s:=2) rfl C8 aD (h17.1 hb0) (h18.1 hb0) cQ) QE.refl ?_
     rw [hl'];rfl
    ·refine A5 rfl rfl rfl fun _ _ _ _ _ _ _ _ hsz hd _ _=>?_
     have h11:=hd ⟨11,.guard⟩ bD rfl _ rfl
     have h19:=hd ⟨19,.data⟩ bD rfl _ rfl
     refine qe_guard rfl (b:=(!(!(x.ix == y.ix)))) ((Ac rfl rfl (hsz 27 aF) h11).trans bD) rfl (fun hb l' hl'=>?_)
     have hb0:=hb
     have hb:(!(x.ix == y.ix))=false:=by simpa using hb
     refine Bo rfl ((Ac rfl rfl (hsz 27 aF) h11).trans dY) (Ae rfl D2 rfl aD (h19.1 hb0)) QE.refl ?_
     rw [hl'];rfl
    ·refine A5 rfl rfl rfl fun _ _ _ _ _ hm _ _ hsz hd _ _=>?_
     have h11:=hd ⟨11,.guard⟩ bD rfl _ rfl
     have h20:=hd ⟨20,.data⟩ bD rfl _ rfl
     refine qe_guard rfl (b:=(!(!(x.ix == y.ix)))) ((Ac rfl rfl (hsz 27 aF) h11).trans bD) rfl (fun hb l' hl'=>?_)
     have hb0:=hb
     have hb:(!(x.ix == y.ix))=false:=by simpa using hb
     refine Bo rfl ((Ac rfl rfl (hsz 27 aF) h11).trans dY) (Af rfl Tryz.underlying125 rfl (h20.1 hb0) ((HAT2.o.mod hm.old dZ).2 1 _ rfl)) QE.refl ?_
     rw [hl'];rfl
    ·refine A5 rfl rfl rfl fun _ _ _ _ _ hm _ _ hsz hd _ _=>?_
     have h11:=hd ⟨11,.chain⟩ bD rfl _ rfl
     have h16:=hd ⟨16,.data⟩ bD rfl _ rfl
     have h21:=hd ⟨21,.data⟩ bD rfl _ rfl
     refine qe_guard rfl (b:=(!(!(x.ix == y.ix)))) ((Ac rfl rfl (hsz 27 aF) h11).trans bD) rfl (fun hb l' hl'=>?_)
     have hb0:=hb
     have hb:(!(x.ix == y.ix))=false:=by simpa using hb
     refine qe_callF (args:=#[.slice al1 x.l.length kl1,.slice al2 y.l.length kl2]) rfl ((Ac rfl rfl (hsz 27 aF) h11).trans dY) rfl Tryz.func128 (An (h16.1 hb0) (h21.1 hb0)) (EqL_Dn _ _ _ _ _ _ _ (HSL1.o.mod hm.old aO) (HSL2.o.mod hm.old dZ) bP bO) ?_
     rintro e w2 ⟨rfl,hm2⟩
     exact ⟨_,rfl,QE.still hm2,(by rw [hl'];rfl)⟩
    ·refine A5 rfl rfl rfl fun _ _ _ _ _ _ _ _ hsz hd _ _=>?_
     have h11:=hd ⟨11,.guard⟩ bD rfl _ rfl
     have h22:=hd ⟨22,.data⟩ bD rfl _ rfl
     refine qe_guard rfl (b:=(!(!(x.ix == y.ix)))) ((Ac rfl rfl (hsz 27 aF) h11).trans bD) rfl (fun hb l' hl'=>?_)
     have hb0:=hb
     have hb:(!(x.ix == y.ix))=false:=by simpa using hb
     refine Bo rfl ((Ac rfl rfl (hsz 27 aF) h11).trans dY) (Bm rfl (h22.1 hb0)) QE.refl ?_
     rw [hl'];rfl
    ·exact stq (fun E=>A6 rfl (E.d 11) rfl rfl (or_val fun hb=>(E.d 23).1 dY))
    intro d5 hr
    have d6:=hr.size
    have c9:=hid (hr.new (S:=(fun _=>False)))
    clear hr
    refine QChain.nil fun vs hl hzz hrows hne=>?_
    obtain ⟨Z,hYZ,hZb,hV⟩:=hzz
    have f0:=fvi hV hl 0
    have f1:=fvi hV hl 1
    have f5:=fvi hV hl 5
    have f6:=fvi hV hl 6
    have f11:=fvi hV hl 11
    have f24:=fvi hV hl 24
    rw [show vs=[gw vs 0,gw vs 1,gw vs 2,gw vs 3,gw vs 4,gw vs 5,gw vs 6,gw vs 7,gw vs 8,gw vs 9,gw vs 10,gw vs 11,gw vs 12,gw vs 13,gw vs 14,gw vs 15,gw vs 16,gw vs 17,gw vs 18,gw vs 19,gw vs 20,gw vs 21,gw vs 22,gw vs 23,gw vs 24] from (Bv hl).trans rfl]
    have ha0:=HA0.o
    subst ha0
    clear HA0 hV hYZ hZb hsz0 hrows hne c3 c6 c8
    simp only [Ax,Act.put,sIB,sCZ,sCS,f0,f1,f5,f6,f11,f24]
    clear hl f0 f1 f5 f6 f11 f24
    rw [tb_eqb,← HB.o]
    cases b with
    | false=>
     go_upto_region 7 with (fail)
     refine Aa 42 [4] [0] (fun a0 HA0=>?_)
     refine QSeq.pure rfl (.bool false) (fun E=>Aw rfl rfl) ?_
     refine qe ?_
     clear HA0 a0
     go_wp2
     go_ret
     exact ⟨Bs (take_ne hlt hlt2 (fun e=>by have h:=HB.o;rw [HX1.o,HX2.o,e,eqb_rfl] at h;cases h)).symm,(HML.o.trans c9.out (fun _ _ h=>h.elim))⟩
    | true=>
     go_upto_region 8 with (fail)
     refine Aa 42 [41,13] [0,1] (fun a0 HA0=>?_)
     have c4:=ev HA0 13 rfl
     refine QSeq.pure rfl (.int .i64 (((k:Nat):Int)+1)) (fun E=>Am rfl (E.y 1 c4) rfl (Ag _ _ _ _ _ _) (B2 _ _ B6) (congrArg (Value.int .i64) (IntWalk.i64_in _ aM))) ?_
     refine qmv rfl 0 0 ?_
     refine qe ?_
     clear HA0 c4 a0
     go_wp2
     go_roundw
     case rel=>exact ⟨k+1,by go_num,by omega,take_succ2 hlt hlt2 HTK.o dM,by omega,(HS2.o.mod c9.out (fun _ _ h=>h)),(HT2.o.mod c9.out (fun _ _ h=>h)),(HML.o.trans c9.out (fun _ _ h=>h.elim))⟩
     case measure=>simp [intOf]<;>omega
   ·skip
    go_upto_region 4 with (fail)
    refine Aa 42 [14] [0] (fun a0 HA0=>?_)
    have c7:=ev HA0 12 rfl
    have c4:=ev HA0 13 rfl
    refine QSeq.pure rfl (.bool false) (fun E=>Am rfl (E.v c4) (E.v c7) (Ag _ _ _ _ _ _) (Ay _ _ _ B6) (congrArg Value.bool (decide_eq_false aM))) ?_
    refine qe ?_
    clear HA0 c7 c4 a0
    go_upto_region 9 with (fail)
    refine Aa 42 [4] [0] (fun a0 HA0=>?_)
    refine QSeq.pure rfl (.bool true) (fun E=>Aw rfl rfl) ?_
    refine qe ?_
    clear HA0 a0
    go_wp2
    go_ret
    exact ⟨Bs (take_all aM (by have:=HLE.o;omega) HTK.o).symm,HML.o⟩
set_option maxHeartbeats 8000000 in
theorem Eq_Ba:Eqs BaR 64:=by
 intro R R2 cs ds x y w hx hy hB hB2
 obtain ⟨vx_ps,vx_os,vx_ts,rfl,hokx,hx_ps,hx_os,hx_ts⟩:=hx
 obtain ⟨ax_ps,kx_ps,rfl⟩:=hx_ps.shape
 have Hx_ps:=B5 hx_ps
 clear hx_ps
 obtain ⟨ax_os,kx_os,rfl⟩:=hx_os.shape
 have Hx_os:=B5 hx_os
 clear hx_os
 obtain ⟨ax_ts,kx_ts,rfl⟩:=hx_ts.shape
 have Hx_ts:=B5 hx_ts
 clear hx_ts
 have HOKx:=B5 hokx
 clear hokx
 obtain ⟨vy_ps,vy_os,vy_ts,rfl,hoky,hy_ps,hy_os,hy_ts⟩:=hy
 obtain ⟨ay_ps,ky_ps,rfl⟩:=hy_ps.shape
 have Hy_ps:=B5 hy_ps
 clear hy_ps
 obtain ⟨ay_os,ky_os,rfl⟩:=hy_os.shape
 have Hy_os:=B5 hy_os
 clear hy_os
 obtain ⟨ay_ts,ky_ts,rfl⟩:=hy_ts.shape
 have Hy_ts:=B5 hy_ts
 clear hy_ts
 have HOKy:=B5 hoky
 clear hoky
 have HBR:=B5 hB
 have HBT:=B5 hB2
 clear hB hB2
 go_enter Tryz.func64,Tryz.ntmps64
 go_upto_region 1 with (fail)
 obtain ⟨w1,hw1⟩:∃ zz,zz=((w.alloc (.cells (x.cells (.slice ax_ps x.ps.length kx_ps) (.slice ax_os x.os.length kx_os) (.slice ax_ts x.ts.length kx_ts):List Value).toArray 45)).alloc (.cells (y.cells (.slice ay_ps y.ps.length ky_ps) (.slice ay_os y.os.length ky_os) (.slice ay_ts y.ts.length ky_ts):List Value).toArray 45)):=⟨_,rfl⟩
 change Code.wp _ _ _ _ ((w.alloc (.cells (x.cells (.slice ax_ps x.ps.length kx_ps) (.slice ax_os x.os.length kx_os) (.slice ax_ts x.ts.length kx_ts):List Value).toArray 45)).alloc (.cells (y.cells (.slice ay_ps y.ps.length ky_ps) (.slice ay_os y.os.length ky_os) (.slice ay_ts y.ts.length ky_ts):List Value).toArray 45))
 rw [← hw1]
 have HB2:=hid (show Cs w1 (w.heap.size) (x.cells (.slice ax_ps x.ps.length kx_ps) (.slice ax_os x.os.length kx_os) (.slice ax_ts x.ts.length kx_ts):List Value).toArray 45 by rw [hw1];exact (Cs.new _ _ _).alloc _)
 have HB3:=hid (show Cs w1 (w.heap.size+1) (y.cells (.slice ay_ps y.ps.length ky_ps) (.slice ay_os y.os.length ky_os) (.slice ay_ts y.ts.length ky_ts):List Value).toArray 45 by rw [hw1];exact Cs_newN _ _ _ bD)
 have hm:Mod (fun _=>False) w w1:=by rw [hw1];exact ((Mod.refl _ _).alloc _).alloc _
 have HM0:=hid (show Mod (fun _=>False) w w1 from hm.mono (fun _ _ h=>h.elim))
 have hs1:w1.heap.size=w.heap.size+2:=by rw [hw1];simp
 have d7:=hid (Hx_ps.o.mod hm (fun _ _ h=>h))
 clear Hx_ps
 have g5:=hid (Hx_os.o.mod hm (fun _ _ h=>h))
 clear Hx_os
 have g6:=hid (Hx_ts.o.mod hm (fun _ _ h=>h))
 clear Hx_ts
 have d8:=hid (Hy_ps.o.mod hm (fun _ _ h=>h))
 clear Hy_ps
 have g7:=hid (Hy_os.o.mod hm (fun _ _ h=>h))
 clear Hy_os
 have g8:=hid (Hy_ts.o.mod hm (fun _ _ h=>h))
 clear Hy_ts
 clear hw1 hm
 have hlx:x.ps.length≤maxLen:=d7.out.bd
 have hly:y.ps.length≤maxLen:=d8.out.bd
 rw [A7] at hlx hly
 go_upto_region 1 with (fail)
 refine Aa 62 [6,7,8,9,10,11,12,13,14,15,16,17,18,19,20,21,22,23,24,25,26,27,28,29,30,31,32,33,34,35,36,37,38,39,40,41,42] [0,1,2,3,4,5,6,7,8,9,10,11,12,13,14,15,16,17,18,19,20,21,22,23,24,25,26,27,28,29,30,31,32,33,34,35,36] (fun a0 HA0=>?_)
 have c3:=ev HA0 2 rfl
 have c6:=ev HA0 3 rfl
 refine qfd rfl 0 C2 c3 ?_
 refine QSeq.pure rfl _ (fun E=>Af rfl B6 rfl (E.d 0 0) (AD HB2.o rfl)) ?_
 refine qfd rfl 0 C2 c6 ?_
 refine QSeq.pure rfl _ (fun E=>Af rfl B6 rfl (E.d 2 0) (AD HB3.o rfl)) ?_
 refine QSeq.pure rfl (.bool (!(x.ep == y.ep))) (fun E=>ex_bin rfl (E.d 1 2) (E.d 3 0) (Ag _ _ _ _ _ _) (run_neq_i _ _ _ B6)) ?_
 refine qmv rfl 4 0 ?_
 refine AA (b:=(!(!(x.ep == y.ep)))) rfl (.pointer (some ⟨w.heap.size,1,none⟩)) (fun E=>((Ac rfl rfl (E.sz 11 aF) (E.d 5 0)).trans (beq_f _))) (fun E hb0=>(by have hb:(!(x.ep == y.ep))=false:=cI;exact Ae rfl C2 rfl aD (E.v c3))) ?_
 intro p4 hw
 have g9:=hid hw
 clear hw
 refine AA (b:=(!(!(x.ep == y.ep)))) rfl (.int .u64 (x.tm:Nat)) (fun E=>((Ac rfl rfl (E.sz 11 aF) (E.d 5 1)).trans (beq_f _))) (fun E hb0=>(by have hb:(!(x.ep == y.ep))=false:=cI;exact Af rfl D8 rfl ((E.q 6 0 g9.out).1 hb0) (AD HB2.o rfl))) ?_
 intro p5 hw
 have i7:=hid hw
 clear hw
 refine AA (b:=(!(!(x.ep == y.ep)))) rfl (.pointer (some ⟨w.heap.size+1,1,none⟩)) (fun E=>((Ac rfl rfl (E.sz 11 aF) (E.d 5 2)).trans (beq_f _))) (fun E hb0=>(by have hb:(!(x.ep == y.ep))=false:=cI;exact Ae rfl C2 rfl aD (E.v c6))) ?_
 intro p6 hw
 have i8:=hid hw
 clear hw
 refine AA (b:=(!(!(x.ep == y.ep)))) rfl (.int .u64 (y.tm:Nat)) (fun E=>((Ac rfl rfl (E.sz 11 aF) (E.d 5 3)).trans (beq_f _))) (fun E hb0=>(by have hb:(!(x.ep == y.ep))=false:=cI;exact Af rfl D8 rfl ((E.q 8 0 i8.out).1 hb0) (AD HB3.o rfl))) ?_
 intro p7 hw
 have i9:=hid hw
 clear hw
 refine AA (b:=(!(!(x.ep == y.ep)))) rfl (.bool (!(((x.tm:Nat):Int) == ((y.tm:Nat):Int)))) (fun E=>((Ac rfl rfl (E.sz 11 aF) (E.d 5 4)).trans (beq_f _))) (fun E hb0=>(by have hb:(!(x.ep == y.ep))=false:=cI;exact ex_bin rfl ((E.q 7 2 i7.out).1 hb0) ((E.q 9 0 i9.out).1 hb0) (Ag _ _ _ _ _ _) (run_neq_i _ _ _ D8))) ?_
 intro p8 hw
 have j0:=hid hw
 clear hw
 refine QSeq.pure rfl (.bool ((!(x.ep == y.ep)) || (!(((x.tm:Nat):Int) == ((y.tm:Nat):Int))))) (fun E=>A6 rfl (E.d 5 5) rfl rfl (or_val fun hb=>(E.q 10 0 j0.out).1 dY)) ?_
 refine qmv rfl 11 0 ?_
 refine AA (b:=(!((!(x.ep == y.ep)) || (!(((x.tm:Nat):Int) == ((y.tm:Nat):Int)))))) rfl (.pointer (some ⟨w.heap.size,2,none⟩)) (fun E=>((Ac rfl rfl (E.sz 18 aF) (E.d 12 0)).trans (beq_f _))) (fun E hb0=>(by have hb:((!(x.ep == y.ep)) || (!(((x.tm:Nat):Int) == ((y.tm:Nat):Int))))=false:=cI;exact Ae rfl C2 rfl aD (E.v c3))) ?_
 intro p9 hw
 have j3:=hid hw
 clear hw
 refine AA (b:=(!((!(x.ep == y.ep)) || (!(((x.tm:Nat):Int) == ((y.tm:Nat):Int)))))) rfl (.slice ax_ps x.ps.length kx_ps) (fun E=>((Ac rfl rfl (E.sz 18 aF) (E.d 12 1)).trans (beq_f _))) (fun E hb0=>(by have hb:((!(x.ep == y.ep)) || (!(((x.tm:Nat):Int) == ((y.tm:Nat):Int))))=false:=cI;exact Af rfl Tryz.underlying41 rfl ((E.q 13 0 j3.out).1 hb0) (AD HB2.o rfl))) ?_
 intro q6 hw
 have j4:=hid hw
 clear hw
 refine AA (b:=(!((!(x.ep == y.ep)) || (!(((x.tm:Nat):Int) == ((y.tm:Nat):Int)))))) rfl (.int .i64 x.ps.length) (fun E=>((Ac rfl rfl (E.sz 18 aF) (E.d 12 2)).trans (beq_f _))) (fun E hb0=>(by have hb:((!(x.ep == y.ep)) || (!(((x.tm:Nat):Int) == ((y.tm:Nat):Int))))=false:=cI;exact Bc rfl ((E.q 14 0 j4.out).1 hb0) Tryz.underlying41)) ?_
 intro q7 hw
 have j5:=hid hw
 clear hw
 refine AA (b:=(!((!(x.ep == y.ep)) || (!(((x.tm:Nat):Int) == ((y.tm:Nat):Int)))))) rfl (.pointer (some ⟨w.heap.size+1,2,none⟩)) (fun E=>((Ac rfl rfl (E.sz 18 aF) (E.d 12 3)).trans (beq_f _))) (fun E hb0=>(by have hb:((!(x.ep == y.ep)) || (!(((x.tm:Nat):Int) == ((y.tm:Nat):Int))))=false:=cI;exact Ae rfl C2 rfl aD (E.v c6))) ?_
 intro q8 hw
 have j6:=hid hw
 clear hw
 refine AA (b:=(!((!(x.ep == y.ep)) || (!(((x.tm:Nat):Int) == ((y.tm:Nat):Int)))))) rfl (.slice ay_ps y.ps.length ky_ps) (fun E=>((Ac rfl rfl (E.sz 18 aF) (E.d 12 4)).trans (beq_f _))) (fun E hb0=>(by have hb:((!(x.ep == y.ep)) || (!(((x.tm:Nat):Int) == ((y.tm:Nat):Int))))=false:=cI;exact Af rfl Tryz.underlying41 rfl ((E.q 16 0 j6.out).1 hb0) (AD HB3.o rfl))) ?_
 intro q9 hw
 have j7:=hid hw
 clear hw
 refine AA (b:=(!((!(x.ep == y.ep)) || (!(((x.tm:Nat):Int) == ((y.tm:Nat):Int)))))) rfl (.int .i64 y.ps.length) (fun E=>((Ac rfl rfl (E.sz 18 aF) (E.d 12 5)).trans (beq_f _))) (fun E hb0=>(by have hb:((!(x.ep == y.ep)) || (!(((x.tm:Nat):Int) == ((y.tm:Nat):Int))))=false:=cI;exact Bc rfl ((E.q 17 0 j7.out).1 hb0) Tryz.underlying41)) ?_
 intro r3 hw
 have j8:=hid hw
 clear hw
 refine AA (b:=(!((!(x.ep == y.ep)) || (!(((x.tm:Nat):Int) == ((y.tm:Nat):Int)))))) rfl (.bool (!(((x.ps.length:Nat):Int) == ((y.ps.length:Nat):Int)))) (fun E=>((Ac rfl rfl (E.sz 18 aF) (E.d 12 6)).trans (beq_f _))) (fun E hb0=>(by have hb:((!(x.ep == y.ep)) || (!(((x.tm:Nat):Int) == ((y.tm:Nat):Int))))=false:=cI;exact ex_bin rfl ((E.q 15 3 j5.out).1 hb0) ((E.q 18 0 j8.out).1 hb0) (Ag _ _ _ _ _ _) (run_neq_i _ _ _ B6))) ?_
 intro r4 hw
 have j9:=hid hw
 clear hw
 refine QSeq.pure rfl (.bool (((!(x.ep == y.ep)) || (!(((x.tm:Nat):Int) == ((y.tm:Nat):Int)))) || (!(((x.ps.length:Nat):Int) == ((y.ps.length:Nat):Int))))) (fun E=>A6 rfl (E.d 12 7) rfl rfl (or_val fun hb=>(E.q 19 0 j9.out).1 dY)) ?_
 refine qmv rfl 20 0 ?_
 refine AA (b:=(!(((!(x.ep == y.ep)) || (!(((x.tm:Nat):Int) == ((y.tm:Nat):Int)))) || (!(((x.ps.length:Nat):Int) == ((y.ps.length:Nat):Int)))))) rfl (.pointer (some ⟨w.heap.size,3,none⟩)) (fun E=>((Ac rfl rfl (E.sz 27 aF) (E.d 21 0)).trans (beq_f _))) (fun E hb0=>(by have hb:(((!(x.ep == y.ep)) || (!(((x.tm:Nat):Int) == ((y.tm:Nat):Int)))) || (!(((x.ps.length:Nat):Int) == ((y.ps.length:Nat):Int))))=false:=cI;exact Ae rfl C2 rfl aD (E.v c3))) ?_
 intro r5 hw
 have l7:=hid hw
 clear hw
 refine AA (b:=(!(((!(x.ep == y.ep)) || (!(((x.tm:Nat):Int) == ((y.tm:Nat):Int)))) || (!(((x.ps.length:Nat):Int) == ((y.ps.length:Nat):Int)))))) rfl (.slice ax_os x.os.length kx_os) (fun E=>((Ac rfl rfl (E.sz 27 aF) (E.d 21 1)).trans (beq_f _))) (fun E hb0=>(by have hb:(((!(x.ep == y.ep)) || (!(((x.tm:Nat):Int) == ((y.tm:Nat):Int)))) || (!(((x.ps.length:Nat):Int) == ((y.ps.length:Nat):Int))))=false:=cI;exact Af rfl Tryz.underlying42 rfl ((E.q 22 0 l7.out).1 hb0) (AD HB2.o rfl))) ?_
 intro r6 hw
 have l8:=hid hw
 clear hw
 refine AA (b:=(!(((!(x.ep == y.ep)) || (!(((x.tm:Nat):Int) == ((y.tm:Nat):Int)))) || (!(((x.ps.length:Nat):Int) == ((y.ps.length:Nat):Int)))))) rfl (.pointer (some ⟨w.heap.size+1,3,none⟩)) (fun E=>((Ac rfl rfl (E.sz 27 aF) (E.d 21 2)).trans (beq_f _))) (fun E hb0=>(by have hb:(((!(x.ep == y.ep)) || (!(((x.tm:Nat):Int) == ((y.tm:Nat):Int)))) || (!(((x.ps.length:Nat):Int) == ((y.ps.length:Nat):Int))))=false:=cI;exact Ae rfl C2 rfl aD (E.v c6))) ?_
 intro r7 hw
 have m7:=hid hw
 clear hw
 refine AA (b:=(!(((!(x.ep == y.ep)) || (!(((x.tm:Nat):Int) == ((y.tm:Nat):Int)))) || (!(((x.ps.length:Nat):Int) == ((y.ps.length:Nat):Int)))))) rfl (.slice ay_os y.os.length ky_os) (fun E=>((Ac rfl rfl (E.sz 27 aF) (E.d 21 3)).trans (beq_f _))) (fun E hb0=>(by have hb:(((!(x.ep == y.ep)) || (!(((x.tm:Nat):Int) == ((y.tm:Nat):Int)))) || (!(((x.ps.length:Nat):Int) == ((y.ps.length:Nat):Int))))=false:=cI;exact Af rfl Tryz.underlying42 rfl ((E.q 24 0 m7.out).1 hb0) (AD HB3.o rfl))) ?_
 intro r8 hw
 have m8:=hid hw
 clear hw
 refine AH (b:=(!(((!(x.ep == y.ep)) || (!(((x.tm:Nat):Int) == ((y.tm:Nat):Int)))) || (!(((x.ps.length:Nat):Int) == ((y.ps.length:Nat):Int)))))) rfl (.bool (eqb x.os y.os)) (args:=#[.slice ax_os x.os.length kx_os,.slice ay_os y.os.length ky_os]) (fun E=>((Ac rfl rfl (E.sz 27 aF) (E.d 21 4)).trans (beq_f _))) rfl Tryz.func94 (fun E hb0=>(by have hb:(((!(x.ep == y.ep)) || (!(((x.tm:Nat):Int) == ((y.tm:Nat):Int)))) || (!(((x.ps.length:Nat):Int) == ((y.ps.length:Nat):Int))))=false:=cI;exact An ((E.q 23 2 l8.out).1 hb0) ((E.q 25 0 m8.out).1 hb0))) (fun hb0=>(by have hb:(((!(x.ep == y.ep)) || (!(((x.tm:Nat):Int) == ((y.tm:Nat):Int)))) || (!(((x.ps.length:Nat):Int) == ((y.ps.length:Nat):Int))))=false:=cI;exact EqL_Op _ _ _ _ _ _ _ g5.out g7.out bP bO)) ?_
 intro r9 o7 hw hm
 have m9:=hid hw
 clear hw
 have s0:=hm.size
 have c8:=hid (show Mod (fun _=>False) w1 o7 from hm)
 clear hm
 refine AA (b:=(!(((!(x.ep == y.ep)) || (!(((x.tm:Nat):Int) == ((y.tm:Nat):Int)))) || (!(((x.ps.length:Nat):Int) == ((y.ps.length:Nat):Int)))))) rfl (.bool (!(eqb x.os y.os))) (fun E=>((Ac rfl rfl (E.sz 27 aF) (E.d 21 5)).trans (beq_f _))) (fun E hb0=>(by have hb:(((!(x.ep == y.ep)) || (!(((x.tm:Nat):Int) == ((y.tm:Nat):Int)))) || (!(((x.ps.length:Nat):Int) == ((y.ps.length:Nat):Int))))=false:=cI;exact Bm rfl ((E.q 26 0 m9.out).1 hb0))) ?_
 intro s5 hw
 have n5:=hid hw
 clear hw
 refine QSeq.pure rfl (.bool ((((!(x.ep == y.ep)) || (!(((x.tm:Nat):Int) == ((y.tm:Nat):Int)))) || (!(((x.ps.length:Nat):Int) == ((y.ps.length:Nat):Int)))) || (!(eqb x.os y.os)))) (fun E=>A6 rfl (E.d 21 6) rfl rfl (or_val fun hb=>(E.q 27 0 n5.out).1 dY)) ?_
 refine qmv rfl 28 0 ?_
 refine AA (b:=(!((((!(x.ep == y.ep)) || (!(((x.tm:Nat):Int) == ((y.tm:Nat):Int)))) || (!(((x.ps.length:Nat):Int) == ((y.ps.length:Nat):Int)))) || (!(eqb x.os y.os))))) rfl (.pointer (some ⟨w.heap.size,4,none⟩)) (fun E=>((Ac rfl rfl (E.sz 35 aF) (E.d 29 0)).trans (beq_f _))) (fun E hb0=>(by have hb:((((!(x.ep == y.ep)) || (!(((x.tm:Nat):Int) == ((y.tm:Nat):Int)))) || (!(((x.ps.length:Nat):Int) == ((y.ps.length:Nat):Int)))) || (!(eqb x.os y.os)))=false:=cI;exact Ae rfl C2 rfl aD (E.v c3))) ?_
 intro s6 hw
 have n6:=hid hw
 clear hw
 refine AA (b:=(!((((!(x.ep == y.ep)) || (!(((x.tm:Nat):Int) == ((y.tm:Nat):Int)))) || (!(((x.ps.length:Nat):Int) == ((y.ps.length:Nat):Int)))) || (!(eqb x.os y.os))))) rfl (.slice ax_ts x.ts.length kx_ts) (fun E=>((Ac rfl rfl (E.sz 35 aF) (E.d 29 1)).trans (beq_f _))) (fun E hb0=>(by have hb:((((!(x.ep == y.ep)) || (!(((x.tm:Nat):Int) == ((y.tm:Nat):Int)))) || (!(((x.ps.length:Nat):Int) == ((y.ps.length:Nat):Int)))) || (!(eqb x.os y.os)))=false:=cI;exact Af rfl C8 rfl ((E.q 30 0 n6.out).1 hb0) (AD (HB2.o.mod c8.out (fun h=>h)) rfl))) ?_
 intro s7 hw
 have n7:=hid hw
 clear hw
 refine AA (b:=(!((((!(x.ep == y.ep)) || (!(((x.tm:Nat):Int) == ((y.tm:Nat):Int)))) || (!(((x.ps.length:Nat):Int) == ((y.ps.length:Nat):Int)))) || (!(eqb x.os y.os))))) rfl (.pointer (some ⟨w.heap.size+1,4,none⟩)) (fun E=>((Ac rfl rfl (E.sz 35 aF) (E.d 29 2)).trans (beq_f _))) (fun E hb0=>(by have hb:((((!(x.ep == y.ep)) || (!(((x.tm:Nat):Int) == ((y.tm:Nat):Int)))) || (!(((x.ps.length:Nat):Int) == ((y.ps.length:Nat):Int)))) || (!(eqb x.os y.os)))=false:=cI;exact Ae rfl C2 rfl aD (E.v c6))) ?_
 intro s8 hw
 have n8:=hid hw
 clear hw
 refine AA (b:=(!((((!(x.ep == y.ep)) || (!(((x.tm:Nat):Int) == ((y.tm:Nat):Int)))) || (!(((x.ps.length:Nat):Int) == ((y.ps.length:Nat):Int)))) || (!(eqb x.os y.os))))) rfl (.slice ay_ts y.ts.length ky_ts) (fun E=>((Ac rfl rfl (E.sz 35 aF) (E.d 29 3)).trans (beq_f _))) (fun E hb0=>(by have hb:((((!(x.ep == y.ep)) || (!(((x.tm:Nat):Int) == ((y.tm:Nat):Int)))) || (!(((x.ps.length:Nat):Int) == ((y.ps.length:Nat):Int)))) || (!(eqb x.os y.os)))=false:=cI;exact Af rfl C8 rfl ((E.q 32 0 n8.out).1 hb0) (AD (HB3.o.mod c8.out (fun h=>h)) rfl))) ?_
 intro t0 hw
 have o4:=hid hw
 clear hw
 refine AH (b:=(!((((!(x.ep == y.ep)) || (!(((x.tm:Nat):Int) == ((y.tm:Nat):Int)))) || (!(((x.ps.length:Nat):Int) == ((y.ps.length:Nat):Int)))) || (!(eqb x.os y.os))))) rfl (.bool (eqb x.ts y.ts)) (args:=#[.slice ax_ts x.ts.length kx_ts,.slice ay_ts y.ts.length ky_ts]) (fun E=>((Ac rfl rfl (E.sz 35 aF) (E.d 29 4)).trans (beq_f _))) rfl Tryz.func95 (fun E hb0=>(by have hb:((((!(x.ep == y.ep)) || (!(((x.tm:Nat):Int) == ((y.tm:Nat):Int)))) || (!(((x.ps.length:Nat):Int) == ((y.ps.length:Nat):Int)))) || (!(eqb x.os y.os)))=false:=cI;exact An ((E.q 31 2 n7.out).1 hb0) ((E.q 33 0 o4.out).1 hb0))) (fun hb0=>(by have hb:((((!(x.ep == y.ep)) || (!(((x.tm:Nat):Int) == ((y.tm:Nat):Int)))) || (!(((x.ps.length:Nat):Int) == ((y.ps.length:Nat):Int)))) || (!(eqb x.os y.os)))=false:=cI;exact EqL_Tb _ _ _ _ _ _ _ (g6.out.mod c8.out (fun _ _ h=>h)) (g8.out.mod c8.out (fun _ _ h=>h)) bP bO)) ?_
 intro t1 o8 hw hm
 have o5:=hid hw
 clear hw
 have t2:=hm.size
 have o9:=hid hm
 have c7:=hid (c8.out.goE hm)
 clear hm c8
 refine AA (b:=(!((((!(x.ep == y.ep)) || (!(((x.tm:Nat):Int) == ((y.tm:Nat):Int)))) || (!(((x.ps.length:Nat):Int) == ((y.ps.length:Nat):Int)))) || (!(eqb x.os y.os))))) rfl (.bool (!(eqb x.ts y.ts))) (fun E=>((Ac rfl rfl (E.sz 35 aF) (E.d 29 5)).trans (beq_f _))) (fun E hb0=>(by have hb:((((!(x.ep == y.ep)) || (!(((x.tm:Nat):Int) == ((y.tm:Nat):Int)))) || (!(((x.ps.length:Nat):Int) == ((y.ps.length:Nat):Int)))) || (!(eqb x.os y.os)))=false:=cI;exact Bm rfl ((E.q 34 0 o5.out).1 hb0))) ?_
 intro t4 hw
 have o6:=hid hw
 clear hw
 refine QSeq.pure rfl (.bool (((((!(x.ep == y.ep)) || (!(((x.tm:Nat):Int) == ((y.tm:Nat):Int)))) || (!(((x.ps.length:Nat):Int) == ((y.ps.length:Nat):Int)))) || (!(eqb x.os y.os))) || (!(eqb x.ts y.ts)))) (fun E=>A6 rfl (E.d 29 6) rfl rfl (or_val fun hb=>(E.q 35 0 o6.out).1 dY)) ?_
 clear o9 g9 i7 i8 i9 j0 j3 j4 j5 j6 j7 j8 j9 l7 l8 m7 m8 m9 n5 n6 n7 n8 o4 o5 o6
 refine qe ?_
 clear HA0 c3 c6 a0
 obtain ⟨b0,hb0⟩:∃ b0,b0=(((((!(x.ep == y.ep)) || (!(((x.tm:Nat):Int) == ((y.tm:Nat):Int)))) || (!(((x.ps.length:Nat):Int) == ((y.ps.length:Nat):Int)))) || (!(eqb x.os y.os))) || (!(eqb x.ts y.ts))):=⟨_,rfl⟩
 rw [← hb0]
 cases b0 with
 | true=>
  go_upto_region 2 with (fail)
  refine Aa 62 [4] [0] (fun a0 HA0=>?_)
  refine QSeq.pure rfl (.bool false) (fun E=>Aw rfl rfl) ?_
  refine qe ?_
  clear HA0 a0
  go_wp2
  go_ret
  exact ⟨Bs (ba_neb x y hb0.symm).symm,(HM0.o.trans c7.out (fun _ _ h=>h.elim))⟩
 | false=>
  have HEQ:=hid (ba_eqb x y hb0.symm)
  have HLE:=hid (show x.ps.length=y.ps.length by have h:=hb0.symm;simp only [Bool.or_eq_false_iff,Bool.not_eq_false',beq_I,Int.ofNat_inj] at h;exact h.1.1.2)
  clear hb0
  go_upto_region 3 with (fail)
  refine Aa 62 [43,44,45,46] [0,1,2,3] (fun a0 HA0=>?_)
  have c3:=ev HA0 2 rfl
  refine qfd rfl 2 C2 c3 ?_
  refine QSeq.pure rfl _ (fun E=>Af rfl Tryz.underlying41 rfl (E.d 0 0) (AD (HB2.o.mod c7.out (fun h=>h)) rfl)) ?_
  refine QSeq.pure rfl (.int .i64 x.ps.length) (fun E=>Bc rfl (E.d 1 0) Tryz.underlying41) ?_
  refine QSeq.pure rfl (.int .i64 0) (fun E=>Al rfl rfl) ?_
  refine qe ?_
  clear HA0 c3 a0
  go_wp2
  go_loopw [46,5] (fun ti t5 wr=>∃ k:Nat,ti=.int .i64 (k:Int)∧k≤x.ps.length∧x.ps.take k=y.ps.take k∧o8.heap.size≤wr.heap.size∧RdS PmR R wr (.slice ax_ps x.ps.length kx_ps) x.ps∧RdS PmR R2 wr (.slice ay_ps y.ps.length ky_ps) y.ps∧Cs wr (w.heap.size) (x.cells (.slice ax_ps x.ps.length kx_ps) (.slice ax_os x.os.length kx_os) (.slice ax_ts x.ts.length kx_ts):List Value).toArray 45∧Cs wr (w.heap.size+1) (y.cells (.slice ay_ps y.ps.length ky_ps) (.slice ay_os y.os.length ky_os) (.slice ay_ts y.ts.length ky_ts):List Value).toArray 45∧Mod (fun _=>False) w wr) (fun ti t5 _=>x.ps.length - (intOf ti).toNat)
  case atStart=>exact ⟨0,rfl,Nat.zero_le _,rfl,B9 _,(d7.out.mod c7.out (fun _ _ h=>h)),(d8.out.mod c7.out (fun _ _ h=>h)),(HB2.o.mod c7.out (fun h=>h)),(HB3.o.mod c7.out (fun h=>h)),(HM0.o.trans c7.out (fun _ _ h=>h.elim))⟩
  case round=>
   obtain ⟨k,rfl,hk,htk,hz,hs,ht,hb2,hb3,hm⟩:=hrel
   obtain ⟨wl,rfl⟩:∃ x,x=wr:=⟨_,rfl⟩
   have HS2:=B5 hs
   have HT2:=B5 ht
   have HML:=B5 hm
   have HTK:=B5 htk
   have HBX:=B5 hb2
   have HBY:=B5 hb3
   clear hs ht hm htk hb2 hb3 d7 g5 g6 d8 g7 g8 HB2 HB3 HM0
   by_cases hlt:k < x.ps.length
   ·have hlt2:k < y.ps.length:=by have:=HLE.o;omega
    go_upto_region 4 with (fail)
    refine Aa 62 [47] [0] (fun a0 HA0=>?_)
    have d5:=ev HA0 45 rfl
    have c4:=ev HA0 46 rfl
    refine QSeq.pure rfl (.bool true) (fun E=>Am rfl (E.v c4) (E.v d5) (Ag _ _ _ _ _ _) (Ay _ _ _ B6) (congrArg Value.bool (decide_eq_true aM))) ?_
    refine qe ?_
    clear HA0 d5 c4 a0
    go_upto_region 5 with (fail)
    refine Aa 62 [48,5] [0,1] (fun a0 HA0=>?_)
    have c4:=ev HA0 46 rfl
    refine qmo rfl c4 ?_
    refine qas rfl 0 0 ?_
    refine qe ?_
    clear HA0 c4 a0
    have hat:=HS2.o.at hlt
    obtain ⟨g1,o1,c1,eao,hrg,hrd,hcs⟩:=hat
    subst eao
    obtain ⟨p,hp⟩:∃ z,z=x.ps[k]:=⟨_,rfl⟩
    rw [← hp] at hrd
    have HX1:=B5 hp
    have hcl:c1.length=6:=PmR.len hrd
    have HCL1:=B5 hcl
    have HAT1:=hid (show CellsAt R wl g1 (o1+k * 6) c1 from ⟨hrg,hcs⟩)
    have HRD1:=B5 hrd
    clear hcl hcs hrd hrg hp
    have hat:=HT2.o.at hlt2
    obtain ⟨g2,o2,c2,eao,hrg,hrd,hcs⟩:=hat
    subst eao
    obtain ⟨q,hq⟩:∃ z,z=y.ps[k]:=⟨_,rfl⟩
    rw [← hq] at hrd
    have HX2:=B5 hq
    have hcl:c2.length=6:=PmR.len hrd
    have HCL2:=B5 hcl
    have HAT2:=hid (show CellsAt R2 wl g2 (o2+k * 6) c2 from ⟨hrg,hcs⟩)
    have HRD2:=B5 hrd
    clear hcl hcs hrd hrg hq
    obtain ⟨b,hb⟩:∃ b,b=eqb p q:=⟨_,rfl⟩
    have HB:=B5 hb
    clear hb
    go_upto_region 6 with (fail)
    generalize ha0:Act.mk _ _=a0
    have c3:a0.eval (.tmp 2)=.pointer (some ⟨w.heap.size,0,none⟩):=by rw [← ha0];rfl
    have c6:a0.eval (.tmp 3)=.pointer (some ⟨w.heap.size+1,0,none⟩):=by rw [← ha0];rfl
    have d9:a0.eval (.tmp 5)=.int .i64 ((k:Nat):Int):=by rw [← ha0];rfl
    have hsz0:a0.tmps.size=62:=by rw [← ha0];rfl
    have HA0:=hid ha0
    clear ha0
    refine wp_region_Q0 62 hsz0 [49,50,51,52,53,54,55,56,57,58,59,60] [qi (.pointer (some ⟨w.heap.size,2,none⟩)),qi (.slice (some ⟨g1,o1,none⟩) x.ps.length kx_ps),qi (.int .i64 ((k:Nat):Int)),qi (.pointer (some ⟨g1,o1+k * 6,none⟩)),qi (.agg c1.toArray),qi (.pointer (some ⟨w.heap.size+1,2,none⟩)),qi (.slice (some ⟨g2,o2,none⟩) y.ps.length ky_ps),qi (.int .i64 ((k:Nat):Int)),qi (.pointer (some ⟨g2,o2+k * 6,none⟩)),qi (.agg c2.toArray),qi (.bool b),qi (.bool (!b))] ⟨Ad,Ad,Ad,Ad,Ad,Ad,Ad,Ad,Ad,Ad,Ad,Ad,trivial⟩ [10] ⟨?_,?_,?_,?_,?_,?_,?_,?_,?_,?_,?_,?_,trivial⟩ ?_
    ·exact stq (fun E=>Ae rfl C2 rfl aD (E.v c3))
    ·exact stq (fun E=>Af rfl Tryz.underlying41 rfl (E.d 0) (AD (HBX.o.mod E.m.old aJ) rfl))
    ·exact stq (fun E=>Al rfl (E.v d9))
    ·exact stq (fun E=>ex_idxS (i:=k) (s:=6) rfl Tryz.underlying41 aD (E.d 1) (E.d 2) cQ)
    ·exact stq (fun E=>Aj rfl Tryz.underlying40 rfl (off:=o1+k * 6) (cs:=c1) fW (E.d 3) (fun j u hu=>((HAT1.o.mod E.m.old aO)).2 j u hu))
    ·exact stq (fun E=>Ae rfl C2 rfl aD (E.v c6))
    ·exact stq (fun E=>Af rfl Tryz.underlying41 rfl (E.d 5) (AD (HBY.o.mod E.m.old aJ) rfl))
    ·exact stq (fun E=>Al rfl (E.v d9))
    ·exact stq (fun E=>ex_idxS (i:=k) (s:=6) rfl Tryz.underlying41 aD (E.d 6) (E.d 7) cQ)
    ·exact stq (fun E=>Aj rfl Tryz.underlying40 rfl (off:=o2+k * 6) (cs:=c2) gH (E.d 8) (fun j u hu=>((HAT2.o.mod E.m.old dZ)).2 j u hu))
    ·exact Ai rfl
    ·exact stq (fun E=>Bm rfl (E.d 10))
    intro t8 hr
    have t9:=hr.size
    have d6:=hid (hr.new (S:=(fun _=>False)))
    clear hr
    refine QChain.go fun Z act E=>?_
    refine Aq (args:=#[.agg c1.toArray,.agg c2.toArray]) rfl (Ab rfl) rfl Tryz.func61 (An (E.d 4) (E.d 9)) (HB.o.symm▸Eq_Pm _ _ _ _ _ _ _ (HRD1.o.mod d6.out (fun _ _ h=>h)) (HRD2.o.mod d6.out (fun _ _ h=>h)) aL aR) ?_
    rintro e u0 ⟨rfl,hm⟩
    have u1:=hm.size
    refine ⟨_,rfl,hm.mono (fun _ _ h=>h.elim),(fun _=>rfl),?_⟩
    intro u2 hr
    have u3:=hr.size
    have c9:=hid (d6.out.go hm hr)
    clear d6 hm hr Z act E
    refine QChain.nil fun vs hl hzz hrows hne=>?_
    obtain ⟨Z,hYZ,hZb,hV⟩:=hzz
    have f2:=fvi hV hl 2
    have f7:=fvi hV hl 7
    have f10:=fvi hV hl 10
    have f11:=fvi hV hl 11
    rw [show vs=[gw vs 0,gw vs 1,gw vs 2,gw vs 3,gw vs 4,gw vs 5,gw vs 6,gw vs 7,gw vs 8,gw vs 9,gw vs 10,gw vs 11] from (Bv hl).trans rfl]
    have ha0:=HA0.o
    subst ha0
    clear HA0 hV hYZ hZb hsz0 hrows hne c3 c6 d9
    simp only [Ax,Act.put,sIB,sCZ,sCS,f2,f7,f10,f11]
    clear hl f2 f7 f10 f11
    cases b with
    | false=>
     go_upto_region 7 with (fail)
     refine Aa 62 [4] [0] (fun a0 HA0=>?_)
     refine QSeq.pure rfl (.bool false) (fun E=>Aw rfl rfl) ?_
     refine qe ?_
     clear HA0 a0
     go_wp2
     go_ret
     exact ⟨Bs (HEQ.o.symm.trans (take_ne hlt hlt2 (fun e=>by have h:=HB.o;rw [HX1.o,HX2.o,e,eqb_rfl] at h;cases h))).symm,(HML.o.trans c9.out (fun _ _ h=>h.elim))⟩
    | true=>
     go_upto_region 8 with (fail)
     refine Aa 62 [61,46] [0,1] (fun a0 HA0=>?_)
     have c4:=ev HA0 46 rfl
     refine QSeq.pure rfl (.int .i64 (((k:Nat):Int)+1)) (fun E=>Am rfl (E.y 1 c4) rfl (Ag _ _ _ _ _ _) (B2 _ _ B6) (congrArg (Value.int .i64) (IntWalk.i64_in _ aM))) ?_
     refine qmv rfl 0 0 ?_
     refine qe ?_
     clear HA0 c4 a0
     go_wp2
     go_roundw
     case rel=>exact ⟨k+1,by go_num,by omega,take_succ2 hlt hlt2 HTK.o dM,by omega,(HS2.o.mod c9.out (fun _ _ h=>h)),(HT2.o.mod c9.out (fun _ _ h=>h)),(HBX.o.mod c9.out (fun h=>h)),(HBY.o.mod c9.out (fun h=>h)),(HML.o.trans c9.out (fun _ _ h=>h.elim))⟩
     case measure=>simp [intOf]<;>omega
   ·skip
    go_upto_region 4 with (fail)
    refine Aa 62 [47] [0] (fun a0 HA0=>?_)
    have d5:=ev HA0 45 rfl
    have c4:=ev HA0 46 rfl
    refine QSeq.pure rfl (.bool false) (fun E=>Am rfl (E.v c4) (E.v d5) (Ag _ _ _ _ _ _) (Ay _ _ _ B6) (congrArg Value.bool (decide_eq_false aM))) ?_
    refine qe ?_
    clear HA0 d5 c4 a0
    go_upto_region 9 with (fail)
    refine Aa 62 [4] [0] (fun a0 HA0=>?_)
    refine QSeq.pure rfl (.bool true) (fun E=>Aw rfl rfl) ?_
    refine qe ?_
    clear HA0 a0
    go_wp2
    go_ret
    exact ⟨Bs (HEQ.o.symm.trans (take_all aM (by have:=HLE.o;omega) HTK.o)).symm,HML.o⟩
theorem run_eql_strE {t:TypeId} {a b:ByteArray} (w:World):(binOp .eql t (.string a) (.string b)).run Tryz.prog w=.ok (.bool (eqb a b)) w:=by
 rw [binOp_string_eql,Sem.run_pure]
 congr 2
 by_cases h:a=b
 ·rw [h,eqb_rfl];exact beq_self_eq_true _
 ·rw [eqb_ne h,beq_eq_false_iff_ne]
  intro e
  exact h (ByteArray.ext (Array.toList_inj.1 (by simpa [ByteArray.toList_eq] using e)))
theorem guard_strE {op:BinOp} {t:TypeId} {x y:Operand} {s:ByteArray} {v:Value} (w:World):(eqGuard op t x y (.string s) v).run Tryz.prog w=.ok () w:=by cases op<;>simp [eqGuard]
theorem pr_eqb (x y:Pr):(((((x.ep == y.ep) && (x.rn == y.rn)) && (x.vl == y.vl)) && (x.rp == y.rp)) && eqb (x.sb,x.mr) (y.sb,y.mr) && eqb x.ba y.ba)=eqb x y:=by
 rw [Bool.eq_iff_iff]
 simp only [Bool.and_eq_true,eqb_iff,beq_I,Prod.mk.injEq]
 cases x;cases y
 simp only [Pr.mk.injEq]
 constructor
 ·rintro ⟨⟨⟨⟨⟨h1,h2⟩,h3⟩,h4⟩,h5,h6⟩,h7⟩;exact ⟨h1,h2,h3,h4,h7,h5,h6⟩
 ·rintro ⟨h1,h2,h3,h4,h7,h5,h6⟩;exact ⟨⟨⟨⟨⟨h1,h2⟩,h3⟩,h4⟩,h5,h6⟩,h7⟩
theorem mg_eqb (x y:Mg):((((((((((((((((((((((x.kd == y.kd) && (x.fr == y.fr)) && (x.to == y.to)) && eqb x.cm y.cm) && eqb x.st y.st) && eqb x.ce y.ce) && eqb x.ak y.ak) && (x.ep == y.ep)) && (x.rn == y.rn)) && (((x.tm:Nat):Int) == ((y.tm:Nat):Int))) && eqb x.pm y.pm) && eqb x.pr y.pr) && eqb x.vt y.vt) && (x.ix == y.ix)) && eqb x.en y.en) && eqb x.op y.op) && eqb x.dn y.dn) && eqb x.rp y.rp) && (x.dc.ep == y.dc.ep)) && (x.dc.rn == y.dc.rn)) && eqb x.dc.ba y.dc.ba) && eqb x.dc.l y.dc.l)=eqb x y:=by
 rw [Bool.eq_iff_iff]
 simp only [Bool.and_eq_true,eqb_iff,beq_I,Int.ofNat_inj]
 obtain ⟨a0,a1,a2,a3,a4,a5,a6,a7,a8,a9,a10,a11,a12,a13,a14,a15,a16,a17,⟨d0,d1,d2,d3⟩⟩:=x
 obtain ⟨b0,b1,b2,b3,b4,b5,b6,b7,b8,b9,b10,b11,b12,b13,b14,b15,b16,b17,⟨e0,e1,e2,e3⟩⟩:=y
 simp only [Mg.mk.injEq,Dc.mk.injEq]
 constructor
 ·rintro ⟨⟨⟨⟨⟨⟨⟨⟨⟨⟨⟨⟨⟨⟨⟨⟨⟨⟨⟨⟨⟨h0,h1⟩,h2⟩,h3⟩,h4⟩,h5⟩,h6⟩,h7⟩,h8⟩,h9⟩,h10⟩,h11⟩,h12⟩,h13⟩,h14⟩,h15⟩,h16⟩,h17⟩,h18⟩,h19⟩,h20⟩,h21⟩;exact ⟨h0,h1,h2,h3,h4,h5,h6,h7,h8,h9,h10,h11,h12,h13,h14,h15,h16,h17,h18,h19,h20,h21⟩
 ·rintro ⟨h0,h1,h2,h3,h4,h5,h6,h7,h8,h9,h10,h11,h12,h13,h14,h15,h16,h17,h18,h19,h20,h21⟩;exact ⟨⟨⟨⟨⟨⟨⟨⟨⟨⟨⟨⟨⟨⟨⟨⟨⟨⟨⟨⟨⟨h0,h1⟩,h2⟩,h3⟩,h4⟩,h5⟩,h6⟩,h7⟩,h8⟩,h9⟩,h10⟩,h11⟩,h12⟩,h13⟩,h14⟩,h15⟩,h16⟩,h17⟩,h18⟩,h19⟩,h20⟩,h21⟩
open Go.Proofs renaming Tryz.func65→va',Tryz.ntmps65→vb',Tryz.underlying57→vc',Tryz.underlying49→ve' in
open Go.Proofs.YtnaoeginonpicaaGreat renaming VtR→vd',eqW_vote→vf',ki_vt→vg',vt_iff→vh' in
set_option maxHeartbeats 4000000 in
theorem EqL_Vt:EqsL VtR 65:=
 fm9'
set_option maxHeartbeats 4000000 in
theorem Eq_Pr:Eqs PrR 62:=by
 intro R R2 cs ds x y w hx hy hB hB2
 obtain ⟨vx_ba.ps,vx_ba.os,vx_ba.ts,rfl,hokx,hx_ba.ps,hx_ba.os,hx_ba.ts⟩:=hx
 obtain ⟨ax_ba.ps,kx_ba.ps,rfl⟩:=hx_ba.ps.shape
 have Hx_ba.ps:=B5 hx_ba.ps
 clear hx_ba.ps
 obtain ⟨ax_ba.os,kx_ba.os,rfl⟩:=hx_ba.os.shape
 have Hx_ba.os:=B5 hx_ba.os
 clear hx_ba.os
 obtain ⟨ax_ba.ts,kx_ba.ts,rfl⟩:=hx_ba.ts.shape
 have Hx_ba.ts:=B5 hx_ba.ts
 clear hx_ba.ts
 have HOKx:=B5 hokx
 clear hokx
 obtain ⟨vy_ba.ps,vy_ba.os,vy_ba.ts,rfl,hoky,hy_ba.ps,hy_ba.os,hy_ba.ts⟩:=hy
 obtain ⟨ay_ba.ps,ky_ba.ps,rfl⟩:=hy_ba.ps.shape
 have Hy_ba.ps:=B5 hy_ba.ps
 clear hy_ba.ps
 obtain ⟨ay_ba.os,ky_ba.os,rfl⟩:=hy_ba.os.shape
 have Hy_ba.os:=B5 hy_ba.os
 clear hy_ba.os
 obtain ⟨ay_ba.ts,ky_ba.ts,rfl⟩:=hy_ba.ts.shape
 have Hy_ba.ts:=B5 hy_ba.ts
 clear hy_ba.ts
 have HOKy:=B5 hoky
 clear hoky
 have HBR:=B5 hB
 have HBT:=B5 hB2
 clear hB hB2
 go_enter Tryz.func62,Tryz.ntmps62
 go_upto_region 1 with (fail)
 obtain ⟨w1,hw1⟩:∃ zz,zz=((w.alloc (.cells (x.cells (.slice ax_ba.ps x.ba.ps.length kx_ba.ps) (.slice ax_ba.os x.ba.os.length kx_ba.os) (.slice ax_ba.ts x.ba.ts.length kx_ba.ts):List Value).toArray 47)).alloc (.cells (y.cells (.slice ay_ba.ps y.ba.ps.length ky_ba.ps) (.slice ay_ba.os y.ba.os.length ky_ba.os) (.slice ay_ba.ts y.ba.ts.length ky_ba.ts):List Value).toArray 47)):=⟨_,rfl⟩
 change Code.wp _ _ _ _ ((w.alloc (.cells (x.cells (.slice ax_ba.ps x.ba.ps.length kx_ba.ps) (.slice ax_ba.os x.ba.os.length kx_ba.os) (.slice ax_ba.ts x.ba.ts.length kx_ba.ts):List Value).toArray 47)).alloc (.cells (y.cells (.slice ay_ba.ps y.ba.ps.length ky_ba.ps) (.slice ay_ba.os y.ba.os.length ky_ba.os) (.slice ay_ba.ts y.ba.ts.length ky_ba.ts):List Value).toArray 47))
 rw [← hw1]
 have HB2:=hid (show Cs w1 (w.heap.size) (x.cells (.slice ax_ba.ps x.ba.ps.length kx_ba.ps) (.slice ax_ba.os x.ba.os.length kx_ba.os) (.slice ax_ba.ts x.ba.ts.length kx_ba.ts):List Value).toArray 47 by rw [hw1];exact (Cs.new _ _ _).alloc _)
 have HB3:=hid (show Cs w1 (w.heap.size+1) (y.cells (.slice ay_ba.ps y.ba.ps.length ky_ba.ps) (.slice ay_ba.os y.ba.os.length ky_ba.os) (.slice ay_ba.ts y.ba.ts.length ky_ba.ts):List Value).toArray 47 by rw [hw1];exact Cs_newN _ _ _ bD)
 have hm:Mod (fun _=>False) w w1:=by rw [hw1];exact ((Mod.refl _ _).alloc _).alloc _
 have HM0:=hid (show Mod (fun _=>False) w w1 from hm.mono (fun _ _ h=>h.elim))
 have hs1:w1.heap.size=w.heap.size+2:=by rw [hw1];simp
 have l7:=hid (Hx_ba.ps.out.mod hm (fun _ _ h=>h))
 clear Hx_ba.ps
 have l8:=hid (Hx_ba.os.out.mod hm (fun _ _ h=>h))
 clear Hx_ba.os
 have m7:=hid (Hx_ba.ts.out.mod hm (fun _ _ h=>h))
 clear Hx_ba.ts
 have m8:=hid (Hy_ba.ps.out.mod hm (fun _ _ h=>h))
 clear Hy_ba.ps
 have m9:=hid (Hy_ba.os.out.mod hm (fun _ _ h=>h))
 clear Hy_ba.os
 have n5:=hid (Hy_ba.ts.out.mod hm (fun _ _ h=>h))
 clear Hy_ba.ts
 clear hw1 hm
 go_upto_region 1 with (fail)
 refine Aa 45 [5,6,7,8,9,10,11,12,13,14,15,16,17,18,19,20,21,22,23,24,25,26,27,28,29,30,31,32,33,34,35,36,37,38,39,40,41,42,43,44,4] [0,1,2,3,4,5,6,7,8,9,10,11,12,13,14,15,16,17,18,19,20,21,22,23,24,25,26,27,28,29,30,31,32,33,34,35,36,37,38,39,40] (fun a0 HA0=>?_)
 have c3:=ev HA0 2 rfl
 have c4:=ev HA0 3 rfl
 refine qfd rfl 0 C6 c3 ?_
 refine QSeq.pure rfl _ (fun E=>Af rfl B6 rfl (E.d 0 0) (AD HB2.o rfl)) ?_
 refine qfd rfl 0 C6 c4 ?_
 refine QSeq.pure rfl _ (fun E=>Af rfl B6 rfl (E.d 2 0) (AD HB3.o rfl)) ?_
 refine QSeq.pure rfl (.bool (x.ep == y.ep)) (fun E=>ex_bin rfl (E.d 1 2) (E.d 3 0) (Ag _ _ _ _ _ _) (Bn _ _ _ B6)) ?_
 refine qmv rfl 4 0 ?_
 refine AA (b:=(x.ep == y.ep)) rfl (.pointer (some ⟨w.heap.size,1,none⟩)) (fun E=>((Ac rfl rfl (E.sz 10 aF) (E.d 5 0)).trans (Ak _))) (fun E hb=>Ae rfl C6 rfl aD (E.v c3)) ?_
 intro n8 hw
 have c6:=hid hw
 clear hw
 refine AA (b:=(x.ep == y.ep)) rfl (.int .i64 x.rn) (fun E=>((Ac rfl rfl (E.sz 10 aF) (E.d 5 1)).trans (Ak _))) (fun E hb=>Af rfl B6 rfl ((E.q 6 0 c6.out).1 hb) (AD HB2.o rfl)) ?_
 intro o4 hw
 have c7:=hid hw
 clear hw
 refine AA (b:=(x.ep == y.ep)) rfl (.pointer (some ⟨w.heap.size+1,1,none⟩)) (fun E=>((Ac rfl rfl (E.sz 10 aF) (E.d 5 2)).trans (Ak _))) (fun E hb=>Ae rfl C6 rfl aD (E.v c4)) ?_
 intro o5 hw
 have c8:=hid hw
 clear hw
 refine AA (b:=(x.ep == y.ep)) rfl (.int .i64 y.rn) (fun E=>((Ac rfl rfl (E.sz 10 aF) (E.d 5 3)).trans (Ak _))) (fun E hb=>Af rfl B6 rfl ((E.q 8 0 c8.out).1 hb) (AD HB3.o rfl)) ?_
 intro o6 hw
 have c9:=hid hw
 clear hw
 refine AA (b:=(x.ep == y.ep)) rfl (.bool (x.rn == y.rn)) (fun E=>((Ac rfl rfl (E.sz 10 aF) (E.d 5 4)).trans (Ak _))) (fun E hb=>ex_bin rfl ((E.q 7 2 c7.out).1 hb) ((E.q 9 0 c9.out).1 hb) (Ag _ _ _ _ _ _) (Bn _ _ _ B6)) ?_
 intro o7 hw
 have d5:=hid hw
 clear hw
 refine QSeq.pure rfl (.bool ((x.ep == y.ep) && (x.rn == y.rn))) (fun E=>A6 rfl (E.d 5 5) rfl rfl (Be fun hb=>(E.q 10 0 d5.out).1 hb)) ?_
 refine qmv rfl 11 0 ?_
 refine AA (b:=((x.ep == y.ep) && (x.rn == y.rn))) rfl (.pointer (some ⟨w.heap.size,2,none⟩)) (fun E=>((Ac rfl rfl (E.sz 17 aF) (E.d 12 0)).trans (Ak _))) (fun E hb=>Ae rfl C6 rfl aD (E.v c3)) ?_
 intro o8 hw
 have d6:=hid hw
 clear hw
 refine AA (b:=((x.ep == y.ep) && (x.rn == y.rn))) rfl (.int .i64 x.vl) (fun E=>((Ac rfl rfl (E.sz 17 aF) (E.d 12 1)).trans (Ak _))) (fun E hb=>Af rfl B6 rfl ((E.q 13 0 d6.out).1 hb) (AD HB2.o rfl)) ?_
 intro o9 hw
 have d7:=hid hw
 clear hw
 refine AA (b:=((x.ep == y.ep) && (x.rn == y.rn))) rfl (.pointer (some ⟨w.heap.size+1,2,none⟩)) (fun E=>((Ac rfl rfl (E.sz 17 aF) (E.d 12 2)).trans (Ak _))) (fun E hb=>Ae rfl C6 rfl aD (E.v c4)) ?_
 intro p4 hw
 have d8:=hid hw
 clear hw
 refine AA (b:=((x.ep == y.ep) && (x.rn == y.rn))) rfl (.int .i64 y.vl) (fun E=>((Ac rfl rfl (E.sz 17 aF) (E.d 12 3)).trans (Ak _))) (fun E hb=>Af rfl B6 rfl ((E.q 15 0 d8.out).1 hb) (AD HB3.o rfl)) ?_
 intro p5 hw
 have d9:=hid hw
 clear hw
 refine AA (b:=((x.ep == y.ep) && (x.rn == y.rn))) rfl (.bool (x.vl == y.vl)) (fun E=>((Ac rfl rfl (E.sz 17 aF) (E.d 12 4)).trans (Ak _))) (fun E hb=>ex_bin rfl ((E.q 14 2 d7.out).1 hb) ((E.q 16 0 d9.out).1 hb) (Ag _ _ _ _ _ _) (Bn _ _ _ B6)) ?_
 intro p6 hw
 have g5:=hid hw
 clear hw
 refine QSeq.pure rfl (.bool (((x.ep == y.ep) && (x.rn == y.rn)) && (x.vl == y.vl))) (fun E=>A6 rfl (E.d 12 5) rfl rfl (Be fun hb=>(E.q 17 0 g5.out).1 hb)) ?_
 refine qmv rfl 18 0 ?_
 refine AA (b:=(((x.ep == y.ep) && (x.rn == y.rn)) && (x.vl == y.vl))) rfl (.pointer (some ⟨w.heap.size,3,none⟩)) (fun E=>((Ac rfl rfl (E.sz 24 aF) (E.d 19 0)).trans (Ak _))) (fun E hb=>Ae rfl C6 rfl aD (E.v c3)) ?_
 intro p7 hw
 have g6:=hid hw
 clear hw
 refine AA (b:=(((x.ep == y.ep) && (x.rn == y.rn)) && (x.vl == y.vl))) rfl (.int .i64 x.rp) (fun E=>((Ac rfl rfl (E.sz 24 aF) (E.d 19 1)).trans (Ak _))) (fun E hb=>Af rfl B6 rfl ((E.q 20 0 g6.out).1 hb) (AD HB2.o rfl)) ?_
 intro p8 hw
 have g7:=hid hw
 clear hw
 refine AA (b:=(((x.ep == y.ep) && (x.rn == y.rn)) && (x.vl == y.vl))) rfl (.pointer (some ⟨w.heap.size+1,3,none⟩)) (fun E=>((Ac rfl rfl (E.sz 24 aF) (E.d 19 2)).trans (Ak _))) (fun E hb=>Ae rfl C6 rfl aD (E.v c4)) ?_
 intro p9 hw
 have g8:=hid hw
 clear hw
 refine AA (b:=(((x.ep == y.ep) && (x.rn == y.rn)) && (x.vl == y.vl))) rfl (.int .i64 y.rp) (fun E=>((Ac rfl rfl (E.sz 24 aF) (E.d 19 3)).trans (Ak _))) (fun E hb=>Af rfl B6 rfl ((E.q 22 0 g8.out).1 hb) (AD HB3.o rfl)) ?_
 intro q6 hw
 have g9:=hid hw
 clear hw
 refine AA (b:=(((x.ep == y.ep) && (x.rn == y.rn)) && (x.vl == y.vl))) rfl (.bool (x.rp == y.rp)) (fun E=>((Ac rfl rfl (E.sz 24 aF) (E.d 19 4)).trans (Ak _))) (fun E hb=>ex_bin rfl ((E.q 21 2 g7.out).1 hb) ((E.q 23 0 g9.out).1 hb) (Ag _ _ _ _ _ _) (Bn _ _ _ B6)) ?_
 intro q7 hw
 have i7:=hid hw
 clear hw
 refine QSeq.pure rfl (.bool ((((x.ep == y.ep) && (x.rn == y.rn)) && (x.vl == y.vl)) && (x.rp == y.rp))) (fun E=>A6 rfl (E.d 19 5) rfl rfl (Be fun hb=>(E.q 24 0 i7.out).1 hb)) ?_
 refine qmv rfl 25 0 ?_
 refine AA (b:=((((x.ep == y.ep) && (x.rn == y.rn)) && (x.vl == y.vl)) && (x.rp == y.rp))) rfl (.pointer (some ⟨w.heap.size,9,none⟩)) (fun E=>((Ac rfl rfl (E.sz 31 aF) (E.d 26 0)).trans (Ak _))) (fun E hb=>Ae rfl C6 rfl aD (E.v c3)) ?_
 intro q8 hw
 have i8:=hid hw
 clear hw
 refine AA (b:=((((x.ep == y.ep) && (x.rn == y.rn)) && (x.vl == y.vl)) && (x.rp == y.rp))) rfl (.agg #[.int .i64 x.sb,.int .i64 x.mr]) (fun E=>((Ac rfl rfl (E.sz 31 aF) (E.d 26 1)).trans (Ak _))) (fun E hb=>Aj rfl Tryz.underlying27 rfl (off:=9) (cs:=[.int .i64 x.sb,.int .i64 x.mr]) aD ((E.q 27 0 i8.out).1 hb) (Cs.litA HB2.o rfl)) ?_
 intro q9 hw
 have i9:=hid hw
 clear hw
 refine AA (b:=((((x.ep == y.ep) && (x.rn == y.rn)) && (x.vl == y.vl)) && (x.rp == y.rp))) rfl (.pointer (some ⟨w.heap.size+1,9,none⟩)) (fun E=>((Ac rfl rfl (E.sz 31 aF) (E.d 26 2)).trans (Ak _))) (fun E hb=>Ae rfl C6 rfl aD (E.v c4)) ?_
 intro r3 hw
 have j0:=hid hw
 clear hw
 refine AA (b:=((((x.ep == y.ep) && (x.rn == y.rn)) && (x.vl == y.vl)) && (x.rp == y.rp))) rfl (.agg #[.int .i64 y.sb,.int .i64 y.mr]) (fun E=>((Ac rfl rfl (E.sz 31 aF) (E.d 26 3)).trans (Ak _))) (fun E hb=>Aj rfl Tryz.underlying27 rfl (off:=9) (cs:=[.int .i64 y.sb,.int .i64 y.mr]) aD ((E.q 29 0 j0.out).1 hb) (Cs.litA HB3.o rfl)) ?_
 intro r4 hw
 have j3:=hid hw
 clear hw
 refine AA (b:=((((x.ep == y.ep) && (x.rn == y.rn)) && (x.vl == y.vl)) && (x.rp == y.rp))) rfl (.bool (eqb (x.sb,x.mr) (y.sb,y.mr))) (fun E=>((Ac rfl rfl (E.sz 31 aF) (E.d 26 4)).trans (Ak _))) (fun E hb=>Am rfl ((E.q 28 2 i9.out).1 hb) ((E.q 30 0 j3.out).1 hb) (agg_guardE _ _ _ _ _ _ aD _) (EqW.run eqW_sig (ki_2 x.sb x.mr) (ki_2 y.sb y.mr) (two_iff x.sb x.mr y.sb y.mr) _) rfl) ?_
 intro r5 hw
 have j4:=hid hw
 clear hw
 refine QSeq.pure rfl (.bool (((((x.ep == y.ep) && (x.rn == y.rn)) && (x.vl == y.vl)) && (x.rp == y.rp)) && (eqb (x.sb,x.mr) (y.sb,y.mr)))) (fun E=>A6 rfl (E.d 26 5) rfl rfl (Be fun hb=>(E.q 31 0 j4.out).1 hb)) ?_
 refine qmv rfl 32 0 ?_
 refine AA (b:=(((((x.ep == y.ep) && (x.rn == y.rn)) && (x.vl == y.vl)) && (x.rp == y.rp)) && (eqb (x.sb,x.mr) (y.sb,y.mr)))) rfl (.pointer (some ⟨w.heap.size,4,none⟩)) (fun E=>((Ac rfl rfl (E.sz 38 aF) (E.d 33 0)).trans (Ak _))) (fun E hb=>Ae rfl C6 rfl aD (E.v c3)) ?_
 intro r6 hw
 have j5:=hid hw
 clear hw
 refine AA (b:=(((((x.ep == y.ep) && (x.rn == y.rn)) && (x.vl == y.vl)) && (x.rp == y.rp)) && (eqb (x.sb,x.mr) (y.sb,y.mr)))) rfl (.agg #[.int .i64 x.ba.ep,.int .u64 (x.ba.tm:Nat),.slice ax_ba.ps x.ba.ps.length kx_ba.ps,.slice ax_ba.os x.ba.os.length kx_ba.os,.slice ax_ba.ts x.ba.ts.length kx_ba.ts]) (fun E=>((Ac rfl rfl (E.sz 38 aF) (E.d 33 1)).trans (Ak _))) (fun E hb=>Aj rfl C2 rfl (off:=4) (cs:=[.int .i64 x.ba.ep,.int .u64 (x.ba.tm:Nat),.slice ax_ba.ps x.ba.ps.length kx_ba.ps,.slice ax_ba.os x.ba.os.length kx_ba.os,.slice ax_ba.ts x.ba.ts.length kx_ba.ts]) aD ((E.q 34 0 j5.out).1 hb) (Cs.litA HB2.o rfl)) ?_
 intro r7 hw
 have j6:=hid hw
 clear hw
 refine AA (b:=(((((x.ep == y.ep) && (x.rn == y.rn)) && (x.vl == y.vl)) && (x.rp == y.rp)) && (eqb (x.sb,x.mr) (y.sb,y.mr)))) rfl (.pointer (some ⟨w.heap.size+1,4,none⟩)) (fun E=>((Ac rfl rfl (E.sz 38 aF) (E.d 33 2)).trans (Ak _))) (fun E hb=>Ae rfl C6 rfl aD (E.v c4)) ?_
 intro r8 hw
 have j7:=hid hw
 clear hw
 refine AA (b:=(((((x.ep == y.ep) && (x.rn == y.rn)) && (x.vl == y.vl)) && (x.rp == y.rp)) && (eqb (x.sb,x.mr) (y.sb,y.mr)))) rfl (.agg #[.int .i64 y.ba.ep,.int .u64 (y.ba.tm:Nat),.slice ay_ba.ps y.ba.ps.length ky_ba.ps,.slice ay_ba.os y.ba.os.length ky_ba.os,.slice ay_ba.ts y.ba.ts.length ky_ba.ts]) (fun E=>((Ac rfl rfl (E.sz 38 aF) (E.d 33 3)).trans (Ak _))) (fun E hb=>Aj rfl C2 rfl (off:=4) (cs:=[.int .i64 y.ba.ep,.int .u64 (y.ba.tm:Nat),.slice ay_ba.ps y.ba.ps.length ky_ba.ps,.slice ay_ba.os y.ba.os.length ky_ba.os,.slice ay_ba.ts y.ba.ts.length ky_ba.ts]) aD ((E.q 36 0 j7.out).1 hb) (Cs.litA HB3.o rfl)) ?_
 intro r9 hw
 have j8:=hid hw
 clear hw
 refine AH (b:=(((((x.ep == y.ep) && (x.rn == y.rn)) && (x.vl == y.vl)) && (x.rp == y.rp)) && (eqb (x.sb,x.mr) (y.sb,y.mr)))) rfl (.bool (eqb x.ba y.ba)) (args:=#[.agg #[.int .i64 x.ba.ep,.int .u64 (x.ba.tm:Nat),Value.slice ax_ba.ps x.ba.ps.length kx_ba.ps,Value.slice ax_ba.os x.ba.os.length kx_ba.os,Value.slice ax_ba.ts x.ba.ts.length kx_ba.ts],.agg #[.int .i64 y.ba.ep,.int .u64 (y.ba.tm:Nat),Value.slice ay_ba.ps y.ba.ps.length ky_ba.ps,Value.slice ay_ba.os y.ba.os.length ky_ba.os,Value.slice ay_ba.ts y.ba.ts.length ky_ba.ts]]) (fun E=>((Ac rfl rfl (E.sz 38 aF) (E.d 33 4)).trans (Ak _))) rfl Tryz.func64 (fun E hb=>An ((E.q 35 2 j6.out).1 hb) ((E.q 37 0 j8.out).1 hb)) (fun hb=>Eq_Ba R R2 _ _ x.ba y.ba _ ⟨_,_,_,rfl,HOKx.o.2.2.2.2.1,l7.out,l8.out,m7.out⟩ ⟨_,_,_,rfl,HOKy.o.2.2.2.2.1,m8.out,m9.out,n5.out⟩ bP bO) ?_
 intro s0 n6 hw hm
 have j9:=hid hw
 clear hw
 have s5:=hm.size
 have n7:=hid (show Mod (fun _=>False) w1 n6 from hm)
 clear hm
 refine QSeq.pure rfl (.bool ((((((x.ep == y.ep) && (x.rn == y.rn)) && (x.vl == y.vl)) && (x.rp == y.rp)) && (eqb (x.sb,x.mr) (y.sb,y.mr))) && (eqb x.ba y.ba))) (fun E=>A6 rfl (E.d 33 5) rfl rfl (Be fun hb=>(E.q 38 0 j9.out).1 hb)) ?_
 refine qas rfl 39 0 ?_
 clear c6 c7 c8 c9 d5 d6 d7 d8 d9 g5 g6 g7 g8 g9 i7 i8 i9 j0 j3 j4 j5 j6 j7 j8 j9
 refine qe ?_
 clear HA0 c3 c4 a0
 go_wp2
 go_ret
 exact ⟨Bs (pr_eqb x y),(HM0.o.trans n7.out (fun _ _ h=>h.elim))⟩
set_option maxHeartbeats 8000000 in
theorem Eq_Mg:Eqs MgR 13:=by
 intro R R2 cs ds x y w hx hy hB hB2
 obtain ⟨xc5,xc10,xc11,xc15,xc18,rfl,hokx,h5,h10,h11,h15,h18⟩:=hx
 have HLNx:=hid (Mg.lns hokx h5 h10 h11 h15 h18)
 obtain ⟨xdp,xdo,xdt,xdl,rfl,hokdx,hd0,hd1,hd2,hd3⟩:=h18
 have HCx5:=hid (CeR.len h5)
 have d6:=B5 h5
 have HCx10:=hid (PmR.len h10)
 have d7:=B5 h10
 have HCx11:=hid (PrR.len h11)
 have d8:=B5 h11
 have HCx15:=hid (OpR.len h15)
 have d9:=B5 h15
 obtain ⟨axdp,kxdp,rfl⟩:=hd0.shape
 have HDx0:=B5 hd0
 obtain ⟨axdo,kxdo,rfl⟩:=hd1.shape
 have HDx1:=B5 hd1
 obtain ⟨axdt,kxdt,rfl⟩:=hd2.shape
 have HDx2:=B5 hd2
 obtain ⟨axdl,kxdl,rfl⟩:=hd3.shape
 have HDx3:=B5 hd3
 have HOKx:=B5 hokx
 have HODx:=B5 hokdx
 clear hokx hokdx h5 h10 h11 h15 hd0 hd1 hd2 hd3
 obtain ⟨yc5,yc10,yc11,yc15,yc18,rfl,hoky,h5,h10,h11,h15,h18⟩:=hy
 have HLNy:=hid (Mg.lns hoky h5 h10 h11 h15 h18)
 obtain ⟨ydp,ydo,ydt,ydl,rfl,hokdy,hd0,hd1,hd2,hd3⟩:=h18
 have HCy5:=hid (CeR.len h5)
 have Hy5:=B5 h5
 have HCy10:=hid (PmR.len h10)
 have Hy10:=B5 h10
 have HCy11:=hid (PrR.len h11)
 have Hy11:=B5 h11
 have HCy15:=hid (OpR.len h15)
 have Hy15:=B5 h15
 obtain ⟨aydp,kydp,rfl⟩:=hd0.shape
 have HDy0:=B5 hd0
 obtain ⟨aydo,kydo,rfl⟩:=hd1.shape
 have HDy1:=B5 hd1
 obtain ⟨aydt,kydt,rfl⟩:=hd2.shape
 have HDy2:=B5 hd2
 obtain ⟨aydl,kydl,rfl⟩:=hd3.shape
 have HDy3:=B5 hd3
 have HOKy:=B5 hoky
 have HODy:=B5 hokdy
 clear hoky hokdy h5 h10 h11 h15 hd0 hd1 hd2 hd3
 have HBR:=B5 hB
 have HBT:=B5 hB2
 clear hB hB2
 go_enter Tryz.func13,Tryz.ntmps13
 go_upto_region 1 with (fail)
 obtain ⟨w1,hw1⟩:∃ zz,zz=((w.alloc (.cells ((x.segs xc5 xc10 xc11 xc15 (x.dc.cells (.slice axdp x.dc.ba.ps.length kxdp) (.slice axdo x.dc.ba.os.length kxdo) (.slice axdt x.dc.ba.ts.length kxdt) (.slice axdl x.dc.l.length kxdl))).flatten:List Value).toArray 61)).alloc (.cells ((y.segs yc5 yc10 yc11 yc15 (y.dc.cells (.slice aydp y.dc.ba.ps.length kydp) (.slice aydo y.dc.ba.os.length kydo) (.slice aydt y.dc.ba.ts.length kydt) (.slice aydl y.dc.l.length kydl))).flatten:List Value).toArray 61)):=⟨_,rfl⟩
 change Code.wp _ _ _ _ ((w.alloc (.cells ((x.segs xc5 xc10 xc11 xc15 (x.dc.cells (.slice axdp x.dc.ba.ps.length kxdp) (.slice axdo x.dc.ba.os.length kxdo) (.slice axdt x.dc.ba.ts.length kxdt) (.slice axdl x.dc.l.length kxdl))).flatten:List Value).toArray 61)).alloc (.cells ((y.segs yc5 yc10 yc11 yc15 (y.dc.cells (.slice aydp y.dc.ba.ps.length kydp) (.slice aydo y.dc.ba.os.length kydo) (.slice aydt y.dc.ba.ts.length kydt) (.slice aydl y.dc.l.length kydl))).flatten:List Value).toArray 61))
 rw [← hw1]
 have HB2:=hid (show Cs w1 (w.heap.size) ((x.segs xc5 xc10 xc11 xc15 (x.dc.cells (.slice axdp x.dc.ba.ps.length kxdp) (.slice axdo x.dc.ba.os.length kxdo) (.slice axdt x.dc.ba.ts.length kxdt) (.slice axdl x.dc.l.length kxdl))).flatten:List Value).toArray 61 by rw [hw1];exact (Cs.new _ _ _).alloc _)
 have HB3:=hid (show Cs w1 (w.heap.size+1) ((y.segs yc5 yc10 yc11 yc15 (y.dc.cells (.slice aydp y.dc.ba.ps.length kydp) (.slice aydo y.dc.ba.os.length kydo) (.slice aydt y.dc.ba.ts.length kydt) (.slice aydl y.dc.l.length kydl))).flatten:List Value).toArray 61 by rw [hw1];exact Cs_newN _ _ _ bD)
 have hm:Mod (fun _=>False) w w1:=by rw [hw1];exact ((Mod.refl _ _).alloc _).alloc _
 have HM0:=hid (show Mod (fun _=>False) w w1 from hm.mono (fun _ _ h=>h.elim))
 have hs1:w1.heap.size=w.heap.size+2:=by rw [hw1];simp
 have bm:=hid (d6.out.mod hm (fun _ _ h=>h))
 clear d6
 have bn:=hid (d7.out.mod hm (fun _ _ h=>h))
 clear d7
 have bp:=hid (d8.out.mod hm (fun _ _ h=>h))
 clear d8
 have bq:=hid (d9.out.mod hm (fun _ _ h=>h))
 clear d9
 have d6:=hid (HDx0.o.mod hm (fun _ _ h=>h))
 clear HDx0
 have br:=hid (HDx1.o.mod hm (fun _ _ h=>h))
 clear HDx1
 have bt:=hid (HDx2.o.mod hm (fun _ _ h=>h))
 clear HDx2
 have bu:=hid (HDx3.o.mod hm (fun _ _ h=>h))
 clear HDx3
 have bw:=hid (Hy5.o.mod hm (fun _ _ h=>h))
 clear Hy5
 have d7:=hid (Hy10.o.mod hm (fun _ _ h=>h))
 clear Hy10
 have d8:=hid (Hy11.o.mod hm (fun _ _ h=>h))
 clear Hy11
 have bx:=hid (Hy15.o.mod hm (fun _ _ h=>h))
 clear Hy15
 have bz:=hid (HDy0.o.mod hm (fun _ _ h=>h))
 clear HDy0
 have cd:=hid (HDy1.o.mod hm (fun _ _ h=>h))
 clear HDy1
 have d9:=hid (HDy2.o.mod hm (fun _ _ h=>h))
 clear HDy2
 have cf:=hid (HDy3.o.mod hm (fun _ _ h=>h))
 clear HDy3
 clear hw1 hm
 go_upto_region 1 with (fail)
 refine Aa 165 [5,6,7,8,9,10,11,12,13,14,15,16,17,18,19,20,21,22,23,24,25,26,27,28,29,30,31,32,33,34,35,36,37,38,39,40,41,42,43,44,45,46,47,48,49,50,51,52,53,54,55,56,57,58,59,60,61,62,63,64,65,66,67,68,69,70,71,72,73,74,75,76,77,78,79,80,81,82,83,84,85,86,87,88,89,90,91,92,93,94,95,96,97,98,99,100,101,102,103,104,105,106,107,108,109,110,111,112,113,114,115,116,117,118,119,120,121,122,123,124,125,126,127,128,129,130,131,132,133,134,135,136,137,138,139,140,141,142,143,144,145,146,147,148,149,150,151,152,153,154,155,156,157,158,159,160,161,162,163,164,4] [0,1,2,3,4,5,6,7,8,9,10,11,12,13,14,15,16,17,18,19,20,21,22,23,24,25,26,27,28,29,30,31,32,33,34,35,36,37,38,39,40,41,42,43,44,45,46,47,48,49,50,51,52,53,54,55,56,57,58,59,60,61,62,63,64,65,66,67,68,69,70,71,72,73,74,75,76,77,78,79,80,81,82,83,84,85,86,87,88,89,90,91,92,93,94,95,96,97,98,99,100,101,102,103,104,105,106,107,108,109,110,111,112,113,114,115,116,117,118,119,120,121,122,123,124,125,126,127,128,129,130,131,132,133,134,135,136,137,138,139,140,141,142,143,144,145,146,147,148,149,150,151,152,153,154,155,156,157,158,159,160] (fun a0 HA0=>?_)
 have c3:=ev HA0 2 rfl
 have c4:=ev HA0 3 rfl
 refine qfd rfl 0 B7 c3 ?_
 refine QSeq.pure rfl (.int .i64 x.kd) (fun E=>Af rfl B6 rfl (E.d 0 0) (AE HB2.o HLNx.o 0 rfl (o:=0) (k:=0) rfl rfl rfl)) ?_
 refine qfd rfl 0 B7 c4 ?_
 refine QSeq.pure rfl (.int .i64 y.kd) (fun E=>Af rfl B6 rfl (E.d 2 0) (AE HB3.o HLNy.o 0 rfl (o:=0) (k:=0) rfl rfl rfl)) ?_
 refine QSeq.pure rfl (.bool (x.kd == y.kd)) (fun E=>ex_bin rfl (E.d 1 2) (E.d 3 0) (Ag _ _ _ _ _ _) (Bn _ _ _ B6)) ?_
 refine qmv rfl 4 0 ?_
 refine AA (b:=(x.kd == y.kd)) rfl (.pointer (some ⟨w.heap.size,1,none⟩)) (fun E=>((Ac rfl rfl (E.sz 10 aF) (E.d 5 0)).trans (Ak _))) (fun E hb=>Ae rfl B7 rfl aD (E.v c3)) ?_
 intro cr hw
 have g5:=hid hw
 clear hw
 refine AA (b:=(x.kd == y.kd)) rfl (.int .i64 x.fr) (fun E=>((Ac rfl rfl (E.sz 10 aF) (E.d 5 1)).trans (Ak _))) (fun E hb=>Af rfl B6 rfl ((E.q 6 0 g5.out).1 hb) (AE HB2.o HLNx.o 1 rfl (o:=1) (k:=0) rfl rfl rfl)) ?_
 intro ct hw
 have g6:=hid hw
 clear hw
 refine AA (b:=(x.kd == y.kd)) rfl (.pointer (some ⟨w.heap.size+1,1,none⟩)) (fun E=>((Ac rfl rfl (E.sz 10 aF) (E.d 5 2)).trans (Ak _))) (fun E hb=>Ae rfl B7 rfl aD (E.v c4)) ?_
 intro cx hw
 have g7:=hid hw
 clear hw
 refine AA (b:=(x.kd == y.kd)) rfl (.int .i64 y.fr) (fun E=>((Ac rfl rfl (E.sz 10 aF) (E.d 5 3)).trans (Ak _))) (fun E hb=>Af rfl B6 rfl ((E.q 8 0 g7.out).1 hb) (AE HB3.o HLNy.o 1 rfl (o:=1) (k:=0) rfl rfl rfl)) ?_
 intro da hw
 have g8:=hid hw
 clear hw
 refine AA (b:=(x.kd == y.kd)) rfl (.bool (x.fr == y.fr)) (fun E=>((Ac rfl rfl (E.sz 10 aF) (E.d 5 4)).trans (Ak _))) (fun E hb=>ex_bin rfl ((E.q 7 2 g6.out).1 hb) ((E.q 9 0 g8.out).1 hb) (Ag _ _ _ _ _ _) (Bn _ _ _ B6)) ?_
 intro db hw
 have g9:=hid hw
 clear hw
 obtain ⟨pb11,hb11⟩:∃ b:Bool,b=((x.kd == y.kd) && (x.fr == y.fr)):=⟨_,rfl⟩
 have HB11:=hid hb11
 clear hb11
 refine QSeq.pure rfl (.bool pb11) (fun E=>A6 rfl (E.d 5 5) rfl rfl ((Be fun hb=>(E.q 10 0 g9.out).1 hb).trans (congrArg Value.bool HB11.o.symm))) ?_
 refine qmv rfl 11 0 ?_
 refine AA (b:=pb11) rfl (.pointer (some ⟨w.heap.size,2,none⟩)) (fun E=>((Ac rfl rfl (E.sz 17 aF) (E.d 12 0)).trans (Ak _))) (fun E hb=>Ae rfl B7 rfl aD (E.v c3)) ?_
 intro dd hw
 have i7:=hid hw
 clear hw
 refine AA (b:=pb11) rfl (.int .i64 x.to) (fun E=>((Ac rfl rfl (E.sz 17 aF) (E.d 12 1)).trans (Ak _))) (fun E hb=>Af rfl B6 rfl ((E.q 13 0 i7.out).1 hb) (AE HB2.o HLNx.o 2 rfl (o:=2) (k:=0) rfl rfl rfl)) ?_
 intro df hw
 have i8:=hid hw
 clear hw
 refine AA (b:=pb11) rfl (.pointer (some ⟨w.heap.size+1,2,none⟩)) (fun E=>((Ac rfl rfl (E.sz 17 aF) (E.d 12 2)).trans (Ak _))) (fun E hb=>Ae rfl B7 rfl aD (E.v c4)) ?_
 intro dg hw
 have i9:=hid hw
 clear hw
 refine AA (b:=pb11) rfl (.int .i64 y.to) (fun E=>((Ac rfl rfl (E.sz 17 aF) (E.d 12 3)).trans (Ak _))) (fun E hb=>Af rfl B6 rfl ((E.q 15 0 i9.out).1 hb) (AE HB3.o HLNy.o 2 rfl (o:=2) (k:=0) rfl rfl rfl)) ?_
 intro dh hw
 have j0:=hid hw
 clear hw
 refine AA (b:=pb11) rfl (.bool (x.to == y.to)) (fun E=>((Ac rfl rfl (E.sz 17 aF) (E.d 12 4)).trans (Ak _))) (fun E hb=>ex_bin rfl ((E.q 14 2 i8.out).1 hb) ((E.q 16 0 j0.out).1 hb) (Ag _ _ _ _ _ _) (Bn _ _ _ B6)) ?_
 intro di hw
 have j3:=hid hw
 clear hw
 obtain ⟨pb18,hb18⟩:∃ b:Bool,b=(pb11 && (x.to == y.to)):=⟨_,rfl⟩
 have HB18:=hid hb18
 clear hb18
 refine QSeq.pure rfl (.bool pb18) (fun E=>A6 rfl (E.d 12 5) rfl rfl ((Be fun hb=>(E.q 17 0 j3.out).1 hb).trans (congrArg Value.bool HB18.o.symm))) ?_
 refine qmv rfl 18 0 ?_
 refine AA (b:=pb18) rfl (.pointer (some ⟨w.heap.size,3,none⟩)) (fun E=>((Ac rfl rfl (E.sz 24 aF) (E.d 19 0)).trans (Ak _))) (fun E hb=>Ae rfl B7 rfl aD (E.v c3)) ?_
 intro dj hw
 have j4:=hid hw
 clear hw
 refine AA (b:=pb18) rfl (.agg (x.cm.cells).toArray) (fun E=>((Ac rfl rfl (E.sz 24 aF) (E.d 19 1)).trans (Ak _))) (fun E hb=>Aj rfl Tryz.underlying29 rfl (off:=3) (cs:=(x.cm.cells)) (by rw [Cm.len HOKx.o.cm.2.1];exact size_commit) ((E.q 20 0 j4.out).1 hb) (Cs.seg HB2.o HLNx.o 3 rfl rfl)) ?_
 intro dk hw
 have j5:=hid hw
 clear hw
 refine AA (b:=pb18) rfl (.pointer (some ⟨w.heap.size+1,3,none⟩)) (fun E=>((Ac rfl rfl (E.sz 24 aF) (E.d 19 2)).trans (Ak _))) (fun E hb=>Ae rfl B7 rfl aD (E.v c4)) ?_
 intro dl hw
 have j6:=hid hw
 clear hw
 refine AA (b:=pb18) rfl (.agg (y.cm.cells).toArray) (fun E=>((Ac rfl rfl (E.sz 24 aF) (E.d 19 3)).trans (Ak _))) (fun E hb=>Aj rfl Tryz.underlying29 rfl (off:=3) (cs:=(y.cm.cells)) (by rw [Cm.len HOKy.o.cm.2.1];exact size_commit) ((E.q 22 0 j6.out).1 hb) (Cs.seg HB3.o HLNy.o 3 rfl rfl)) ?_
 intro dm hw
 have j7:=hid hw
 clear hw
 refine AA (b:=pb18) rfl (.bool (eqb x.cm y.cm)) (fun E=>((Ac rfl rfl (E.sz 24 aF) (E.d 19 4)).trans (Ak _))) (fun E hb=>Am rfl ((E.q 21 2 j5.out).1 hb) ((E.q 23 0 j7.out).1 hb) (agg_guardE _ _ _ _ _ _ aD _) (EqW.run eqW_commit (ki_cm HOKx.o.cm.2.1) (ki_cm HOKy.o.cm.2.1) (cm_iff HOKx.o.cm HOKy.o.cm) _) rfl) ?_
 intro dp hw
 have j8:=hid hw
 clear hw
 obtain ⟨pb25,hb25⟩:∃ b:Bool,b=(pb18 && (eqb x.cm y.cm)):=⟨_,rfl⟩
 have HB25:=hid hb25
 clear hb25
 refine QSeq.pure rfl (.bool pb25) (fun E=>A6 rfl (E.d 19 5) rfl rfl ((Be fun hb=>(E.q 24 0 j8.out).1 hb).trans (congrArg Value.bool HB25.o.symm))) ?_
 refine qmv rfl 25 0 ?_
 refine AA (b:=pb25) rfl (.pointer (some ⟨w.heap.size,40,none⟩)) (fun E=>((Ac rfl rfl (E.sz 31 aF) (E.d 26 0)).trans (Ak _))) (fun E hb=>Ae rfl B7 rfl aD (E.v c3)) ?_
 intro dq hw
 have j9:=hid hw
 clear hw
 refine AA (b:=pb25) rfl (.agg (x.st.cells).toArray) (fun E=>((Ac rfl rfl (E.sz 31 aF) (E.d 26 1)).trans (Ak _))) (fun E hb=>Aj rfl Tryz.underlying32 rfl (off:=40) (cs:=(x.st.cells)) (by rw [St.len HOKx.o.st];kernel_rfl) ((E.q 27 0 j9.out).1 hb) (Cs.seg HB2.o HLNx.o 4 rfl rfl)) ?_
 intro dr hw
 have l7:=hid hw
 clear hw
 refine AA (b:=pb25) rfl (.pointer (some ⟨w.heap.size+1,40,none⟩)) (fun E=>((Ac rfl rfl (E.sz 31 aF) (E.d 26 2)).trans (Ak _))) (fun E hb=>Ae rfl B7 rfl aD (E.v c4)) ?_
 intro dt hw
 have l8:=hid hw
 clear hw
 refine AA (b:=pb25) rfl (.agg (y.st.cells).toArray) (fun E=>((Ac rfl rfl (E.sz 31 aF) (E.d 26 3)).trans (Ak _))) (fun E hb=>Aj rfl Tryz.underlying32 rfl (off:=40) (cs:=(y.st.cells)) (by rw [St.len HOKy.o.st];kernel_rfl) ((E.q 29 0 l8.out).1 hb) (Cs.seg HB3.o HLNy.o 4 rfl rfl)) ?_
 intro du hw
 have m7:=hid hw
 clear hw
 refine AA (b:=pb25) rfl (.bool (eqb x.st y.st)) (fun E=>((Ac rfl rfl (E.sz 31 aF) (E.d 26 4)).trans (Ak _))) (fun E hb=>Am rfl ((E.q 28 2 l7.out).1 hb) ((E.q 30 0 m7.out).1 hb) (agg_guardE _ _ _ _ _ _ aD _) (EqW.run eqW_stamp (ki_st HOKx.o.st) (ki_st HOKy.o.st) (st_iff HOKx.o.st HOKy.o.st) _) rfl) ?_
 intro dv hw
 have m8:=hid hw
 clear hw
 obtain ⟨pb32,hb32⟩:∃ b:Bool,b=(pb25 && (eqb x.st y.st)):=⟨_,rfl⟩
 have HB32:=hid hb32
 clear hb32
 refine QSeq.pure rfl (.bool pb32) (fun E=>A6 rfl (E.d 26 5) rfl rfl ((Be fun hb=>(E.q 31 0 m8.out).1 hb).trans (congrArg Value.bool HB32.o.symm))) ?_
 refine qmv rfl 32 0 ?_
 refine AA (b:=pb32) rfl (.pointer (some ⟨w.heap.size,78,none⟩)) (fun E=>((Ac rfl rfl (E.sz 38 aF) (E.d 33 0)).trans (Ak _))) (fun E hb=>Ae rfl B7 rfl aD (E.v c3)) ?_
 intro dw hw
 have m9:=hid hw
 clear hw
 refine AA (b:=pb32) rfl (.agg (xc5).toArray) (fun E=>((Ac rfl rfl (E.sz 38 aF) (E.d 33 1)).trans (Ak _))) (fun E hb=>Aj rfl Tryz.underlying35 rfl (off:=78) (cs:=(xc5)) (by rw [HCx5.o];kernel_rfl) ((E.q 34 0 m9.out).1 hb) (Cs.seg HB2.o HLNx.o 5 rfl rfl)) ?_
 intro dx hw
 have n5:=hid hw
 clear hw
 refine AA (b:=pb32) rfl (.pointer (some ⟨w.heap.size+1,78,none⟩)) (fun E=>((Ac rfl rfl (E.sz 38 aF) (E.d 33 2)).trans (Ak _))) (fun E hb=>Ae rfl B7 rfl aD (E.v c4)) ?_
 intro dy hw
 have n6:=hid hw
 clear hw
 refine AA (b:=pb32) rfl (.agg (yc5).toArray) (fun E=>((Ac rfl rfl (E.sz 38 aF) (E.d 33 3)).trans (Ak _))) (fun E hb=>Aj rfl Tryz.underlying35 rfl (off:=78) (cs:=(yc5)) (by rw [HCy5.o];kernel_rfl) ((E.q 36 0 n6.out).1 hb) (Cs.seg HB3.o HLNy.o 5 rfl rfl)) ?_
 intro dz hw
 have n7:=hid hw
 clear hw
 refine AH (b:=pb32) rfl (.bool (eqb x.ce y.ce)) (args:=#[.agg (xc5).toArray,.agg (yc5).toArray]) (fun E=>((Ac rfl rfl (E.sz 38 aF) (E.d 33 4)).trans (Ak _))) rfl Tryz.func60 (fun E hb=>An ((E.q 35 2 n5.out).1 hb) ((E.q 37 0 n7.out).1 hb)) (fun hb=>Eq_Ce _ _ _ _ x.ce y.ce _ bm.out bw.out bP bO) ?_
 intro eb cg hw hm
 have n8:=hid hw
 clear hw
 have ed:=hm.size
 have c7:=hid (show Mod (fun _=>False) w1 cg from hm)
 clear hm
 obtain ⟨pb39,hb39⟩:∃ b:Bool,b=(pb32 && (eqb x.ce y.ce)):=⟨_,rfl⟩
 have HB39:=hid hb39
 clear hb39
 refine QSeq.pure rfl (.bool pb39) (fun E=>A6 rfl (E.d 33 5) rfl rfl ((Be fun hb=>(E.q 38 0 n8.out).1 hb).trans (congrArg Value.bool HB39.o.symm))) ?_
 refine qmv rfl 39 0 ?_
 refine AA (b:=pb39) rfl (.pointer (some ⟨w.heap.size,116,none⟩)) (fun E=>((Ac rfl rfl (E.sz 45 aF) (E.d 40 0)).trans (Ak _))) (fun E hb=>Ae rfl B7 rfl aD (E.v c3)) ?_
 intro ee hw
 have o4:=hid hw
 clear hw
 refine AA (b:=pb39) rfl (.agg (x.ak.cells).toArray) (fun E=>((Ac rfl rfl (E.sz 45 aF) (E.d 40 1)).trans (Ak _))) (fun E hb=>Aj rfl Tryz.underlying37 rfl (off:=116) (cs:=(x.ak.cells)) (by rw [St.len HOKx.o.ak];kernel_rfl) ((E.q 41 0 o4.out).1 hb) (Cs.seg (HB2.o.mod c7.out (fun h=>h)) HLNx.o 6 rfl rfl)) ?_
 intro eg hw
 have o5:=hid hw
 clear hw
 refine AA (b:=pb39) rfl (.pointer (some ⟨w.heap.size+1,116,none⟩)) (fun E=>((Ac rfl rfl (E.sz 45 aF) (E.d 40 2)).trans (Ak _))) (fun E hb=>Ae rfl B7 rfl aD (E.v c4)) ?_
 intro eh hw
 have o6:=hid hw
 clear hw
 refine AA (b:=pb39) rfl (.agg (y.ak.cells).toArray) (fun E=>((Ac rfl rfl (E.sz 45 aF) (E.d 40 3)).trans (Ak _))) (fun E hb=>Aj rfl Tryz.underlying37 rfl (off:=116) (cs:=(y.ak.cells)) (by rw [St.len HOKy.o.ak];kernel_rfl) ((E.q 43 0 o6.out).1 hb) (Cs.seg (HB3.o.mod c7.out (fun h=>h)) HLNy.o 6 rfl rfl)) ?_
 intro ei hw
 have o7:=hid hw
 clear hw
 refine AA (b:=pb39) rfl (.bool (eqb x.ak y.ak)) (fun E=>((Ac rfl rfl (E.sz 45 aF) (E.d 40 4)).trans (Ak _))) (fun E hb=>Am rfl ((E.q 42 2 o5.out).1 hb) ((E.q 44 0 o7.out).1 hb) (agg_guardE _ _ _ _ _ _ aD _) (EqW.run eqW_ack (ki_st HOKx.o.ak) (ki_st HOKy.o.ak) (st_iff HOKx.o.ak HOKy.o.ak) _) rfl) ?_
 intro ej hw
 have o8:=hid hw
 clear hw
 obtain ⟨pb46,hb46⟩:∃ b:Bool,b=(pb39 && (eqb x.ak y.ak)):=⟨_,rfl⟩
 have HB46:=hid hb46
 clear hb46
 refine QSeq.pure rfl (.bool pb46) (fun E=>A6 rfl (E.d 40 5) rfl rfl ((Be fun hb=>(E.q 45 0 o8.out).1 hb).trans (congrArg Value.bool HB46.o.symm))) ?_
 refine qmv rfl 46 0 ?_
 refine AA (b:=pb46) rfl (.pointer (some ⟨w.heap.size,154,none⟩)) (fun E=>((Ac rfl rfl (E.sz 52 aF) (E.d 47 0)).trans (Ak _))) (fun E hb=>Ae rfl B7 rfl aD (E.v c3)) ?_
 intro eo hw
 have o9:=hid hw
 clear hw
 refine AA (b:=pb46) rfl (.int .i64 x.ep) (fun E=>((Ac rfl rfl (E.sz 52 aF) (E.d 47 1)).trans (Ak _))) (fun E hb=>Af rfl B6 rfl ((E.q 48 0 o9.out).1 hb) (AE (HB2.o.mod c7.out (fun h=>h)) HLNx.o 7 rfl (o:=154) (k:=0) rfl rfl rfl)) ?_
 intro eq hw
 have p4:=hid hw
 clear hw
 refine AA (b:=pb46) rfl (.pointer (some ⟨w.heap.size+1,154,none⟩)) (fun E=>((Ac rfl rfl (E.sz 52 aF) (E.d 47 2)).trans (Ak _))) (fun E hb=>Ae rfl B7 rfl aD (E.v c4)) ?_
 intro er hw
 have p5:=hid hw
 clear hw
 refine AA (b:=pb46) rfl (.int .i64 y.ep) (fun E=>((Ac rfl rfl (E.sz 52 aF) (E.d 47 3)).trans (Ak _))) (fun E hb=>Af rfl B6 rfl ((E.q 50 0 p5.out).1 hb) (AE (HB3.o.mod c7.out (fun h=>h)) HLNy.o 7 rfl (o:=154) (k:=0) rfl rfl rfl)) ?_
 intro et hw
 have p6:=hid hw
 clear hw
 refine AA (b:=pb46) rfl (.bool (x.ep == y.ep)) (fun E=>((Ac rfl rfl (E.sz 52 aF) (E.d 47 4)).trans (Ak _))) (fun E hb=>ex_bin rfl ((E.q 49 2 p4.out).1 hb) ((E.q 51 0 p6.out).1 hb) (Ag _ _ _ _ _ _) (Bn _ _ _ B6)) ?_
 intro eu hw
 have p7:=hid hw
 clear hw
 obtain ⟨pb53,hb53⟩:∃ b:Bool,b=(pb46 && (x.ep == y.ep)):=⟨_,rfl⟩
 have HB53:=hid hb53
 clear hb53
 refine QSeq.pure rfl (.bool pb53) (fun E=>A6 rfl (E.d 47 5) rfl rfl ((Be fun hb=>(E.q 52 0 p7.out).1 hb).trans (congrArg Value.bool HB53.o.symm))) ?_
 refine qmv rfl 53 0 ?_
 refine AA (b:=pb53) rfl (.pointer (some ⟨w.heap.size,155,none⟩)) (fun E=>((Ac rfl rfl (E.sz 59 aF) (E.d 54 0)).trans (Ak _))) (fun E hb=>Ae rfl B7 rfl aD (E.v c3)) ?_
 intro ew hw
 have p8:=hid hw
 clear hw
 refine AA (b:=pb53) rfl (.int .i64 x.rn) (fun E=>((Ac rfl rfl (E.sz 59 aF) (E.d 54 1)).trans (Ak _))) (fun E hb=>Af rfl B6 rfl ((E.q 55 0 p8.out).1 hb) (AE (HB2.o.mod c7.out (fun h=>h)) HLNx.o 8 rfl (o:=155) (k:=0) rfl rfl rfl)) ?_
 intro ex hw
 have p9:=hid hw
 clear hw
 refine AA (b:=pb53) rfl (.pointer (some ⟨w.heap.size+1,155,none⟩)) (fun E=>((Ac rfl rfl (E.sz 59 aF) (E.d 54 2)).trans (Ak _))) (fun E hb=>Ae rfl B7 rfl aD (E.v c4)) ?_
 intro ey hw
 have q6:=hid hw
 clear hw
 refine AA (b:=pb53) rfl (.int .i64 y.rn) (fun E=>((Ac rfl rfl (E.sz 59 aF) (E.d 54 3)).trans (Ak _))) (fun E hb=>Af rfl B6 rfl ((E.q 57 0 q6.out).1 hb) (AE (HB3.o.mod c7.out (fun h=>h)) HLNy.o 8 rfl (o:=155) (k:=0) rfl rfl rfl)) ?_
 intro ez hw
 have q7:=hid hw
 clear hw
 refine AA (b:=pb53) rfl (.bool (x.rn == y.rn)) (fun E=>((Ac rfl rfl (E.sz 59 aF) (E.d 54 4)).trans (Ak _))) (fun E hb=>ex_bin rfl ((E.q 56 2 p9.out).1 hb) ((E.q 58 0 q7.out).1 hb) (Ag _ _ _ _ _ _) (Bn _ _ _ B6)) ?_
 intro fc hw
 have q8:=hid hw
 clear hw
 obtain ⟨pb60,hb60⟩:∃ b:Bool,b=(pb53 && (x.rn == y.rn)):=⟨_,rfl⟩
 have HB60:=hid hb60
 clear hb60
 refine QSeq.pure rfl (.bool pb60) (fun E=>A6 rfl (E.d 54 5) rfl rfl ((Be fun hb=>(E.q 59 0 q8.out).1 hb).trans (congrArg Value.bool HB60.o.symm))) ?_
 refine qmv rfl 60 0 ?_
 refine AA (b:=pb60) rfl (.pointer (some ⟨w.heap.size,156,none⟩)) (fun E=>((Ac rfl rfl (E.sz 66 aF) (E.d 61 0)).trans (Ak _))) (fun E hb=>Ae rfl B7 rfl aD (E.v c3)) ?_
 intro fe hw
 have q9:=hid hw
 clear hw
 refine AA (b:=pb60) rfl (.int .u64 (x.tm:Nat)) (fun E=>((Ac rfl rfl (E.sz 66 aF) (E.d 61 1)).trans (Ak _))) (fun E hb=>Af rfl D8 rfl ((E.q 62 0 q9.out).1 hb) (AE (HB2.o.mod c7.out (fun h=>h)) HLNx.o 9 rfl (o:=156) (k:=0) rfl rfl rfl)) ?_
 intro ff hw
 have r3:=hid hw
 clear hw
 refine AA (b:=pb60) rfl (.pointer (some ⟨w.heap.size+1,156,none⟩)) (fun E=>((Ac rfl rfl (E.sz 66 aF) (E.d 61 2)).trans (Ak _))) (fun E hb=>Ae rfl B7 rfl aD (E.v c4)) ?_
 intro fg hw
 have r4:=hid hw
 clear hw
 refine AA (b:=pb60) rfl (.int .u64 (y.tm:Nat)) (fun E=>((Ac rfl rfl (E.sz 66 aF) (E.d 61 3)).trans (Ak _))) (fun E hb=>Af rfl D8 rfl ((E.q 64 0 r4.out).1 hb) (AE (HB3.o.mod c7.out (fun h=>h)) HLNy.o 9 rfl (o:=156) (k:=0) rfl rfl rfl)) ?_
 intro fh hw
 have r5:=hid hw
 clear hw
 refine AA (b:=pb60) rfl (.bool (((x.tm:Nat):Int) == ((y.tm:Nat):Int))) (fun E=>((Ac rfl rfl (E.sz 66 aF) (E.d 61 4)).trans (Ak _))) (fun E hb=>ex_bin rfl ((E.q 63 2 r3.out).1 hb) ((E.q 65 0 r5.out).1 hb) (Ag _ _ _ _ _ _) (Bn _ _ _ D8)) ?_
 intro fi hw
 have r6:=hid hw
 clear hw
 obtain ⟨pb67,hb67⟩:∃ b:Bool,b=(pb60 && (((x.tm:Nat):Int) == ((y.tm:Nat):Int))):=⟨_,rfl⟩
 have HB67:=hid hb67
 clear hb67
 refine QSeq.pure rfl (.bool pb67) (fun E=>A6 rfl (E.d 61 5) rfl rfl ((Be fun hb=>(E.q 66 0 r6.out).1 hb).trans (congrArg Value.bool HB67.o.symm))) ?_
 refine qmv rfl 67 0 ?_
 refine AA (b:=pb67) rfl (.pointer (some ⟨w.heap.size,157,none⟩)) (fun E=>((Ac rfl rfl (E.sz 73 aF) (E.d 68 0)).trans (Ak _))) (fun E hb=>Ae rfl B7 rfl aD (E.v c3)) ?_
 intro fj hw
 have r7:=hid hw
 clear hw
 refine AA (b:=pb67) rfl (.agg (xc10).toArray) (fun E=>((Ac rfl rfl (E.sz 73 aF) (E.d 68 1)).trans (Ak _))) (fun E hb=>Aj rfl Tryz.underlying40 rfl (off:=157) (cs:=(xc10)) (by rw [HCx10.o];kernel_rfl) ((E.q 69 0 r7.out).1 hb) (Cs.seg (HB2.o.mod c7.out (fun h=>h)) HLNx.o 10 rfl rfl)) ?_
 intro fk hw
 have r8:=hid hw
 clear hw
 refine AA (b:=pb67) rfl (.pointer (some ⟨w.heap.size+1,157,none⟩)) (fun E=>((Ac rfl rfl (E.sz 73 aF) (E.d 68 2)).trans (Ak _))) (fun E hb=>Ae rfl B7 rfl aD (E.v c4)) ?_
 intro fm hw
 have r9:=hid hw
 clear hw
 refine AA (b:=pb67) rfl (.agg (yc10).toArray) (fun E=>((Ac rfl rfl (E.sz 73 aF) (E.d 68 3)).trans (Ak _))) (fun E hb=>Aj rfl Tryz.underlying40 rfl (off:=157) (cs:=(yc10)) (by rw [HCy10.o];kernel_rfl) ((E.q 71 0 r9.out).1 hb) (Cs.seg (HB3.o.mod c7.out (fun h=>h)) HLNy.o 10 rfl rfl)) ?_
 intro fo hw
 have s0:=hid hw
 clear hw
 refine AH (b:=pb67) rfl (.bool (eqb x.pm y.pm)) (args:=#[.agg (xc10).toArray,.agg (yc10).toArray]) (fun E=>((Ac rfl rfl (E.sz 73 aF) (E.d 68 4)).trans (Ak _))) rfl Tryz.func61 (fun E hb=>An ((E.q 70 2 r8.out).1 hb) ((E.q 72 0 s0.out).1 hb)) (fun hb=>Eq_Pm _ _ _ _ x.pm y.pm _ (bn.out.mod c7.out (fun _ _ h=>h)) (d7.out.mod c7.out (fun _ _ h=>h)) bP bO) ?_
 intro fp fq hw hm
 have s5:=hid hw
 clear hw
 have ft:=hm.size
 have ch:=hid hm
 have c9:=hid (c7.out.goE hm)
 clear hm c7
 obtain ⟨pb74,hb74⟩:∃ b:Bool,b=(pb67 && (eqb x.pm y.pm)):=⟨_,rfl⟩
 have HB74:=hid hb74
 clear hb74
 refine QSeq.pure rfl (.bool pb74) (fun E=>A6 rfl (E.d 68 5) rfl rfl ((Be fun hb=>(E.q 73 0 s5.out).1 hb).trans (congrArg Value.bool HB74.o.symm))) ?_
 refine qmv rfl 74 0 ?_
 refine AA (b:=pb74) rfl (.pointer (some ⟨w.heap.size,163,none⟩)) (fun E=>((Ac rfl rfl (E.sz 80 aF) (E.d 75 0)).trans (Ak _))) (fun E hb=>Ae rfl B7 rfl aD (E.v c3)) ?_
 intro fv hw
 have s6:=hid hw
 clear hw
 refine AA (b:=pb74) rfl (.agg (xc11).toArray) (fun E=>((Ac rfl rfl (E.sz 80 aF) (E.d 75 1)).trans (Ak _))) (fun E hb=>Aj rfl C6 rfl (off:=163) (cs:=(xc11)) (by rw [HCx11.o];kernel_rfl) ((E.q 76 0 s6.out).1 hb) (Cs.seg (HB2.o.mod c9.out (fun h=>h)) HLNx.o 11 rfl rfl)) ?_
 intro fw hw
 have s7:=hid hw
 clear hw
 refine AA (b:=pb74) rfl (.pointer (some ⟨w.heap.size+1,163,none⟩)) (fun E=>((Ac rfl rfl (E.sz 80 aF) (E.d 75 2)).trans (Ak _))) (fun E hb=>Ae rfl B7 rfl aD (E.v c4)) ?_
 intro fx hw
 have s8:=hid hw
 clear hw
 refine AA (b:=pb74) rfl (.agg (yc11).toArray) (fun E=>((Ac rfl rfl (E.sz 80 aF) (E.d 75 3)).trans (Ak _))) (fun E hb=>Aj rfl C6 rfl (off:=163) (cs:=(yc11)) (by rw [HCy11.o];kernel_rfl) ((E.q 78 0 s8.out).1 hb) (Cs.seg (HB3.o.mod c9.out (fun h=>h)) HLNy.o 11 rfl rfl)) ?_
 intro fy hw
 have t0:=hid hw
 clear hw
 refine AH (b:=pb74) rfl (.bool (eqb x.pr y.pr)) (args:=#[.agg (xc11).toArray,.agg (yc11).toArray]) (fun E=>((Ac rfl rfl (E.sz 80 aF) (E.d 75 4)).trans (Ak _))) rfl Tryz.func62 (fun E hb=>An ((E.q 77 2 s7.out).1 hb) ((E.q 79 0 t0.out).1 hb)) (fun hb=>Eq_Pr _ _ _ _ x.pr y.pr _ (bp.out.mod c9.out (fun _ _ h=>h)) (d8.out.mod c9.out (fun _ _ h=>h)) bP bO) ?_
 intro fz gc hw hm
 have t1:=hid hw
 clear hw
 have gd:=hm.size
 have ci:=hid hm
 have c8:=hid (c9.out.goE hm)
 clear hm c9
 obtain ⟨pb81,hb81⟩:∃ b:Bool,b=(pb74 && (eqb x.pr y.pr)):=⟨_,rfl⟩
 have HB81:=hid hb81
 clear hb81
 refine QSeq.pure rfl (.bool pb81) (fun E=>A6 rfl (E.d 75 5) rfl rfl ((Be fun hb=>(E.q 80 0 t1.out).1 hb).trans (congrArg Value.bool HB81.o.symm))) ?_
 refine qmv rfl 81 0 ?_
 refine AA (b:=pb81) rfl (.pointer (some ⟨w.heap.size,174,none⟩)) (fun E=>((Ac rfl rfl (E.sz 87 aF) (E.d 82 0)).trans (Ak _))) (fun E hb=>Ae rfl B7 rfl aD (E.v c3)) ?_
 intro ge hw
 have t2:=hid hw
 clear hw
 refine AA (b:=pb81) rfl (.agg (x.vt.cells).toArray) (fun E=>((Ac rfl rfl (E.sz 87 aF) (E.d 82 1)).trans (Ak _))) (fun E hb=>Aj rfl Tryz.underlying49 rfl (off:=174) (cs:=(x.vt.cells)) (by rw [Vt.len HOKx.o.vt];kernel_rfl) ((E.q 83 0 t2.out).1 hb) (Cs.seg (HB2.o.mod c8.out (fun h=>h)) HLNx.o 12 rfl rfl)) ?_
 intro gf hw
 have t4:=hid hw
 clear hw
 refine AA (b:=pb81) rfl (.pointer (some ⟨w.heap.size+1,174,none⟩)) (fun E=>((Ac rfl rfl (E.sz 87 aF) (E.d 82 2)).trans (Ak _))) (fun E hb=>Ae rfl B7 rfl aD (E.v c4)) ?_
 intro gg hw
 have t8:=hid hw
 clear hw
 refine AA (b:=pb81) rfl (.agg (y.vt.cells).toArray) (fun E=>((Ac rfl rfl (E.sz 87 aF) (E.d 82 3)).trans (Ak _))) (fun E hb=>Aj rfl Tryz.underlying49 rfl (off:=174) (cs:=(y.vt.cells)) (by rw [Vt.len HOKy.o.vt];kernel_rfl) ((E.q 85 0 t8.out).1 hb) (Cs.seg (HB3.o.mod c8.out (fun h=>h)) HLNy.o 12 rfl rfl)) ?_
 intro gh hw
 have t9:=hid hw
 clear hw
 refine AA (b:=pb81) rfl (.bool (eqb x.vt y.vt)) (fun E=>((Ac rfl rfl (E.sz 87 aF) (E.d 82 4)).trans (Ak _))) (fun E hb=>Am rfl ((E.q 84 2 t4.out).1 hb) ((E.q 86 0 t9.out).1 hb) (agg_guardE _ _ _ _ _ _ aD _) (EqW.run eqW_vote (ki_vt HOKx.o.vt) (ki_vt HOKy.o.vt) (vt_iff HOKx.o.vt HOKy.o.vt) _) rfl) ?_
 intro gi hw
 have u0:=hid hw
 clear hw
 obtain ⟨pb88,hb88⟩:∃ b:Bool,b=(pb81 && (eqb x.vt y.vt)):=⟨_,rfl⟩
 have HB88:=hid hb88
 clear hb88
 refine QSeq.pure rfl (.bool pb88) (fun E=>A6 rfl (E.d 82 5) rfl rfl ((Be fun hb=>(E.q 87 0 u0.out).1 hb).trans (congrArg Value.bool HB88.o.symm))) ?_
 refine qmv rfl 88 0 ?_
 refine AA (b:=pb88) rfl (.pointer (some ⟨w.heap.size,212,none⟩)) (fun E=>((Ac rfl rfl (E.sz 94 aF) (E.d 89 0)).trans (Ak _))) (fun E hb=>Ae rfl B7 rfl aD (E.v c3)) ?_
 intro gj hw
 have u1:=hid hw
 clear hw
 refine AA (b:=pb88) rfl (.int .i64 x.ix) (fun E=>((Ac rfl rfl (E.sz 94 aF) (E.d 89 1)).trans (Ak _))) (fun E hb=>Af rfl B6 rfl ((E.q 90 0 u1.out).1 hb) (AE (HB2.o.mod c8.out (fun h=>h)) HLNx.o 13 rfl (o:=212) (k:=0) rfl rfl rfl)) ?_
 intro gk hw
 have u2:=hid hw
 clear hw
 refine AA (b:=pb88) rfl (.pointer (some ⟨w.heap.size+1,212,none⟩)) (fun E=>((Ac rfl rfl (E.sz 94 aF) (E.d 89 2)).trans (Ak _))) (fun E hb=>Ae rfl B7 rfl aD (E.v c4)) ?_
 intro gm hw
 have u3:=hid hw
 clear hw
 refine AA (b:=pb88) rfl (.int .i64 y.ix) (fun E=>((Ac rfl rfl (E.sz 94 aF) (E.d 89 3)).trans (Ak _))) (fun E hb=>Af rfl B6 rfl ((E.q 92 0 u3.out).1 hb) (AE (HB3.o.mod c8.out (fun h=>h)) HLNy.o 13 rfl (o:=212) (k:=0) rfl rfl rfl)) ?_
 intro gn hw
 have u4:=hid hw
 clear hw
 refine AA (b:=pb88) rfl (.bool (x.ix == y.ix)) (fun E=>((Ac rfl rfl (E.sz 94 aF) (E.d 89 4)).trans (Ak _))) (fun E hb=>ex_bin rfl ((E.q 91 2 u2.out).1 hb) ((E.q 93 0 u4.out).1 hb) (Ag _ _ _ _ _ _) (Bn _ _ _ B6)) ?_
 intro gq hw
 have u5:=hid hw
 clear hw
 obtain ⟨pb95,hb95⟩:∃ b:Bool,b=(pb88 && (x.ix == y.ix)):=⟨_,rfl⟩
 have HB95:=hid hb95
 clear hb95
 refine QSeq.pure rfl (.bool pb95) (fun E=>A6 rfl (E.d 89 5) rfl rfl ((Be fun hb=>(E.q 94 0 u5.out).1 hb).trans (congrArg Value.bool HB95.o.symm))) ?_
 refine qmv rfl 95 0 ?_
 refine AA (b:=pb95) rfl (.pointer (some ⟨w.heap.size,213,none⟩)) (fun E=>((Ac rfl rfl (E.sz 101 aF) (E.d 96 0)).trans (Ak _))) (fun E hb=>Ae rfl B7 rfl aD (E.v c3)) ?_
 intro gr hw
 have u6:=hid hw
 clear hw
 refine AA (b:=pb95) rfl (.agg (x.en.cells).toArray) (fun E=>((Ac rfl rfl (E.sz 101 aF) (E.d 96 1)).trans (Ak _))) (fun E hb=>Aj rfl Tryz.underlying51 rfl (off:=213) (cs:=(x.en.cells)) (by rw [En.len HOKx.o.en];kernel_rfl) ((E.q 97 0 u6.out).1 hb) (Cs.seg (HB2.o.mod c8.out (fun h=>h)) HLNx.o 14 rfl rfl)) ?_
 intro gu hw
 have u7:=hid hw
 clear hw
 refine AA (b:=pb95) rfl (.pointer (some ⟨w.heap.size+1,213,none⟩)) (fun E=>((Ac rfl rfl (E.sz 101 aF) (E.d 96 2)).trans (Ak _))) (fun E hb=>Ae rfl B7 rfl aD (E.v c4)) ?_
 intro gv hw
 have u9:=hid hw
 clear hw
 refine AA (b:=pb95) rfl (.agg (y.en.cells).toArray) (fun E=>((Ac rfl rfl (E.sz 101 aF) (E.d 96 3)).trans (Ak _))) (fun E hb=>Aj rfl Tryz.underlying51 rfl (off:=213) (cs:=(y.en.cells)) (by rw [En.len HOKy.o.en];kernel_rfl) ((E.q 99 0 u9.out).1 hb) (Cs.seg (HB3.o.mod c8.out (fun h=>h)) HLNy.o 14 rfl rfl)) ?_
 intro gx hw
 have v5:=hid hw
 clear hw
 refine AA (b:=pb95) rfl (.bool (eqb x.en y.en)) (fun E=>((Ac rfl rfl (E.sz 101 aF) (E.d 96 4)).trans (Ak _))) (fun E hb=>Am rfl ((E.q 98 2 u7.out).1 hb) ((E.q 100 0 v5.out).1 hb) (agg_guardE _ _ _ _ _ _ aD _) (EqW.run eqW_entry (ki_en HOKx.o.en) (ki_en HOKy.o.en) (en_iff HOKx.o.en HOKy.o.en) _) rfl) ?_
 intro gy hw
 have v6:=hid hw
 clear hw
 obtain ⟨pb102,hb102⟩:∃ b:Bool,b=(pb95 && (eqb x.en y.en)):=⟨_,rfl⟩
 have HB102:=hid hb102
 clear hb102
 refine QSeq.pure rfl (.bool pb102) (fun E=>A6 rfl (E.d 96 5) rfl rfl ((Be fun hb=>(E.q 101 0 v6.out).1 hb).trans (congrArg Value.bool HB102.o.symm))) ?_
 refine qmv rfl 102 0 ?_
 refine AA (b:=pb102) rfl (.pointer (some ⟨w.heap.size,248,none⟩)) (fun E=>((Ac rfl rfl (E.sz 108 aF) (E.d 103 0)).trans (Ak _))) (fun E hb=>Ae rfl B7 rfl aD (E.v c3)) ?_
 intro gz hw
 have v7:=hid hw
 clear hw
 refine AA (b:=pb102) rfl (.agg (xc15).toArray) (fun E=>((Ac rfl rfl (E.sz 108 aF) (E.d 103 1)).trans (Ak _))) (fun E hb=>Aj rfl Tryz.underlying54 rfl (off:=248) (cs:=(xc15)) (by rw [HCx15.o];kernel_rfl) ((E.q 104 0 v7.out).1 hb) (Cs.seg (HB2.o.mod c8.out (fun h=>h)) HLNx.o 15 rfl rfl)) ?_
 intro ia hw
 have v8:=hid hw
 clear hw
 refine AA (b:=pb102) rfl (.pointer (some ⟨w.heap.size+1,248,none⟩)) (fun E=>((Ac rfl rfl (E.sz 108 aF) (E.d 103 2)).trans (Ak _))) (fun E hb=>Ae rfl B7 rfl aD (E.v c4)) ?_
 intro ib hw
 have x4:=hid hw
 clear hw
 refine AA (b:=pb102) rfl (.agg (yc15).toArray) (fun E=>((Ac rfl rfl (E.sz 108 aF) (E.d 103 3)).trans (Ak _))) (fun E hb=>Aj rfl Tryz.underlying54 rfl (off:=248) (cs:=(yc15)) (by rw [HCy15.o];kernel_rfl) ((E.q 106 0 x4.out).1 hb) (Cs.seg (HB3.o.mod c8.out (fun h=>h)) HLNy.o 15 rfl rfl)) ?_
 intro ic hw
 have x5:=hid hw
 clear hw
 refine AH (b:=pb102) rfl (.bool (eqb x.op y.op)) (args:=#[.agg (xc15).toArray,.agg (yc15).toArray]) (fun E=>((Ac rfl rfl (E.sz 108 aF) (E.d 103 4)).trans (Ak _))) rfl Tryz.func63 (fun E hb=>An ((E.q 105 2 v8.out).1 hb) ((E.q 107 0 x5.out).1 hb)) (fun hb=>Eq_Op _ _ _ _ x.op y.op _ (bq.out.mod c8.out (fun _ _ h=>h)) (bx.out.mod c8.out (fun _ _ h=>h)) bP bO) ?_
 intro ig ii hw hm
 have x6:=hid hw
 clear hw
 have ij:=hm.size
 have cj:=hid hm
 have c6:=hid (c8.out.goE hm)
 clear hm c8
 obtain ⟨pb109,hb109⟩:∃ b:Bool,b=(pb102 && (eqb x.op y.op)):=⟨_,rfl⟩
 have HB109:=hid hb109
 clear hb109
 refine QSeq.pure rfl (.bool pb109) (fun E=>A6 rfl (E.d 103 5) rfl rfl ((Be fun hb=>(E.q 108 0 x6.out).1 hb).trans (congrArg Value.bool HB109.o.symm))) ?_
 refine qmv rfl 109 0 ?_
 refine AA (b:=pb109) rfl (.pointer (some ⟨w.heap.size,282,none⟩)) (fun E=>((Ac rfl rfl (E.sz 115 aF) (E.d 110 0)).trans (Ak _))) (fun E hb=>Ae rfl B7 rfl aD (E.v c3)) ?_
 intro ik hw
 have x7:=hid hw
 clear hw
 refine AA (b:=pb109) rfl (.agg (x.dn.cells).toArray) (fun E=>((Ac rfl rfl (E.sz 115 aF) (E.d 110 1)).trans (Ak _))) (fun E hb=>Aj rfl Tryz.underlying56 rfl (off:=282) (cs:=(x.dn.cells)) aD ((E.q 111 0 x7.out).1 hb) (Cs.seg (HB2.o.mod c6.out (fun h=>h)) HLNx.o 16 rfl rfl)) ?_
 intro il hw
 have x8:=hid hw
 clear hw
 refine AA (b:=pb109) rfl (.pointer (some ⟨w.heap.size+1,282,none⟩)) (fun E=>((Ac rfl rfl (E.sz 115 aF) (E.d 110 2)).trans (Ak _))) (fun E hb=>Ae rfl B7 rfl aD (E.v c4)) ?_
 intro im hw
 have x9:=hid hw
 clear hw
 refine AA (b:=pb109) rfl (.agg (y.dn.cells).toArray) (fun E=>((Ac rfl rfl (E.sz 115 aF) (E.d 110 3)).trans (Ak _))) (fun E hb=>Aj rfl Tryz.underlying56 rfl (off:=282) (cs:=(y.dn.cells)) aD ((E.q 113 0 x9.out).1 hb) (Cs.seg (HB3.o.mod c6.out (fun h=>h)) HLNy.o 16 rfl rfl)) ?_
 intro io hw
 have y0:=hid hw
 clear hw
 refine AA (b:=pb109) rfl (.bool (eqb x.dn y.dn)) (fun E=>((Ac rfl rfl (E.sz 115 aF) (E.d 110 4)).trans (Ak _))) (fun E hb=>Am rfl ((E.q 112 2 x8.out).1 hb) ((E.q 114 0 y0.out).1 hb) (agg_guardE _ _ _ _ _ _ aD _) (EqW.run eqW_deny (ki_dn _) (ki_dn _) (dn_iff HOKx.o.dn HOKy.o.dn) _) rfl) ?_
 intro ip hw
 have y5:=hid hw
 clear hw
 obtain ⟨pb116,hb116⟩:∃ b:Bool,b=(pb109 && (eqb x.dn y.dn)):=⟨_,rfl⟩
 have HB116:=hid hb116
 clear hb116
 refine QSeq.pure rfl (.bool pb116) (fun E=>A6 rfl (E.d 110 5) rfl rfl ((Be fun hb=>(E.q 115 0 y5.out).1 hb).trans (congrArg Value.bool HB116.o.symm))) ?_
 refine qmv rfl 116 0 ?_
 refine AA (b:=pb116) rfl (.pointer (some ⟨w.heap.size,286,none⟩)) (fun E=>((Ac rfl rfl (E.sz 122 aF) (E.d 117 0)).trans (Ak _))) (fun E hb=>Ae rfl B7 rfl aD (E.v c3)) ?_
 intro iq hw
 have y6:=hid hw
 clear hw
 refine AA (b:=pb116) rfl (.string x.rp) (fun E=>((Ac rfl rfl (E.sz 122 aF) (E.d 117 1)).trans (Ak _))) (fun E hb=>Af rfl Tryz.underlying9 rfl ((E.q 118 0 y6.out).1 hb) (AE (HB2.o.mod c6.out (fun h=>h)) HLNx.o 17 rfl (o:=286) (k:=0) rfl rfl rfl)) ?_
 intro ir hw
 have y7:=hid hw
 clear hw
 refine AA (b:=pb116) rfl (.pointer (some ⟨w.heap.size+1,286,none⟩)) (fun E=>((Ac rfl rfl (E.sz 122 aF) (E.d 117 2)).trans (Ak _))) (fun E hb=>Ae rfl B7 rfl aD (E.v c4)) ?_
 intro iu hw
 have y8:=hid hw
 clear hw
 refine AA (b:=pb116) rfl (.string y.rp) (fun E=>((Ac rfl rfl (E.sz 122 aF) (E.d 117 3)).trans (Ak _))) (fun E hb=>Af rfl Tryz.underlying9 rfl ((E.q 120 0 y8.out).1 hb) (AE (HB3.o.mod c6.out (fun h=>h)) HLNy.o 17 rfl (o:=286) (k:=0) rfl rfl rfl)) ?_
 intro iv hw
 have z0:=hid hw
 clear hw
 refine AA (b:=pb116) rfl (.bool (eqb x.rp y.rp)) (fun E=>((Ac rfl rfl (E.sz 122 aF) (E.d 117 4)).trans (Ak _))) (fun E hb=>Am rfl ((E.q 119 2 y7.out).1 hb) ((E.q 121 0 z0.out).1 hb) (guard_strE _) (run_eql_strE _) rfl) ?_
 intro iw hw
 have z7:=hid hw
 clear hw
 obtain ⟨pb123,hb123⟩:∃ b:Bool,b=(pb116 && (eqb x.rp y.rp)):=⟨_,rfl⟩
 have HB123:=hid hb123
 clear hb123
 refine QSeq.pure rfl (.bool pb123) (fun E=>A6 rfl (E.d 117 5) rfl rfl ((Be fun hb=>(E.q 122 0 z7.out).1 hb).trans (congrArg Value.bool HB123.o.symm))) ?_
 refine qmv rfl 123 0 ?_
 refine AA (b:=pb123) rfl (.pointer (some ⟨w.heap.size,287,none⟩)) (fun E=>((Ac rfl rfl (E.sz 129 aF) (E.d 124 0)).trans (Ak _))) (fun E hb=>Ae rfl B7 rfl aD (E.v c3)) ?_
 intro iy hw
 have z9:=hid hw
 clear hw
 refine AA (b:=pb123) rfl (.pointer (some ⟨w.heap.size,287,none⟩)) (fun E=>((Ac rfl rfl (E.sz 129 aF) (E.d 124 1)).trans (Ak _))) (fun E hb=>Ae rfl D3 rfl aD ((E.q 125 0 z9.out).1 hb)) ?_
 intro iz hw
 have aa:=hid hw
 clear hw
 refine AA (b:=pb123) rfl (.int .i64 x.dc.ep) (fun E=>((Ac rfl rfl (E.sz 129 aF) (E.d 124 2)).trans (Ak _))) (fun E hb=>Af rfl B6 rfl ((E.q 126 0 aa.out).1 hb) (AE (HB2.o.mod c6.out (fun h=>h)) HLNx.o 18 rfl (o:=287) (k:=0) rfl rfl rfl)) ?_
 intro ja hw
 have ab:=hid hw
 clear hw
 refine AA (b:=pb123) rfl (.pointer (some ⟨w.heap.size+1,287,none⟩)) (fun E=>((Ac rfl rfl (E.sz 129 aF) (E.d 124 3)).trans (Ak _))) (fun E hb=>Ae rfl B7 rfl aD (E.v c4)) ?_
 intro jb hw
 have ac:=hid hw
 clear hw
 refine AA (b:=pb123) rfl (.pointer (some ⟨w.heap.size+1,287,none⟩)) (fun E=>((Ac rfl rfl (E.sz 129 aF) (E.d 124 4)).trans (Ak _))) (fun E hb=>Ae rfl D3 rfl aD ((E.q 128 0 ac.out).1 hb)) ?_
 intro jc hw
 have ae:=hid hw
 clear hw
 refine AA (b:=pb123) rfl (.int .i64 y.dc.ep) (fun E=>((Ac rfl rfl (E.sz 129 aF) (E.d 124 5)).trans (Ak _))) (fun E hb=>Af rfl B6 rfl ((E.q 129 0 ae.out).1 hb) (AE (HB3.o.mod c6.out (fun h=>h)) HLNy.o 18 rfl (o:=287) (k:=0) rfl rfl rfl)) ?_
 intro jd hw
 have af:=hid hw
 clear hw
 refine AA (b:=pb123) rfl (.bool (x.dc.ep == y.dc.ep)) (fun E=>((Ac rfl rfl (E.sz 129 aF) (E.d 124 6)).trans (Ak _))) (fun E hb=>ex_bin rfl ((E.q 127 3 ab.out).1 hb) ((E.q 130 0 af.out).1 hb) (Ag _ _ _ _ _ _) (Bn _ _ _ B6)) ?_
 intro je hw
 have ag:=hid hw
 clear hw
 obtain ⟨pb132,hb132⟩:∃ b:Bool,b=(pb123 && (x.dc.ep == y.dc.ep)):=⟨_,rfl⟩
 have HB132:=hid hb132
 clear hb132
 refine QSeq.pure rfl (.bool pb132) (fun E=>A6 rfl (E.d 124 7) rfl rfl ((Be fun hb=>(E.q 131 0 ag.out).1 hb).trans (congrArg Value.bool HB132.o.symm))) ?_
 refine qmv rfl 132 0 ?_
 refine AA (b:=pb132) rfl (.pointer (some ⟨w.heap.size,287,none⟩)) (fun E=>((Ac rfl rfl (E.sz 138 aF) (E.d 133 0)).trans (Ak _))) (fun E hb=>Ae rfl B7 rfl aD (E.v c3)) ?_
 intro jf hw
 have ah:=hid hw
 clear hw
 refine AA (b:=pb132) rfl (.pointer (some ⟨w.heap.size,288,none⟩)) (fun E=>((Ac rfl rfl (E.sz 138 aF) (E.d 133 1)).trans (Ak _))) (fun E hb=>Ae rfl D3 rfl aD ((E.q 134 0 ah.out).1 hb)) ?_
 intro jg hw
 have ai:=hid hw
 clear hw
 refine AA (b:=pb132) rfl (.int .i64 x.dc.rn) (fun E=>((Ac rfl rfl (E.sz 138 aF) (E.d 133 2)).trans (Ak _))) (fun E hb=>Af rfl B6 rfl ((E.q 135 0 ai.out).1 hb) (AE (HB2.o.mod c6.out (fun h=>h)) HLNx.o 18 rfl (o:=287) (k:=1) rfl rfl rfl)) ?_
 intro jh hw
 have aj:=hid hw
 clear hw
 refine AA (b:=pb132) rfl (.pointer (some ⟨w.heap.size+1,287,none⟩)) (fun E=>((Ac rfl rfl (E.sz 138 aF) (E.d 133 3)).trans (Ak _))) (fun E hb=>Ae rfl B7 rfl aD (E.v c4)) ?_
 intro ji hw
 have am:=hid hw
 clear hw
 refine AA (b:=pb132) rfl (.pointer (some ⟨w.heap.size+1,288,none⟩)) (fun E=>((Ac rfl rfl (E.sz 138 aF) (E.d 133 4)).trans (Ak _))) (fun E hb=>Ae rfl D3 rfl aD ((E.q 137 0 am.out).1 hb)) ?_
 intro jj hw
 have ap:=hid hw
 clear hw
 refine AA (b:=pb132) rfl (.int .i64 y.dc.rn) (fun E=>((Ac rfl rfl (E.sz 138 aF) (E.d 133 5)).trans (Ak _))) (fun E hb=>Af rfl B6 rfl ((E.q 138 0 ap.out).1 hb) (AE (HB3.o.mod c6.out (fun h=>h)) HLNy.o 18 rfl (o:=287) (k:=1) rfl rfl rfl)) ?_
 intro jk hw
 have aq:=hid hw
 clear hw
 refine AA (b:=pb132) rfl (.bool (x.dc.rn == y.dc.rn)) (fun E=>((Ac rfl rfl (E.sz 138 aF) (E.d 133 6)).trans (Ak _))) (fun E hb=>ex_bin rfl ((E.q 136 3 aj.out).1 hb) ((E.q 139 0 aq.out).1 hb) (Ag _ _ _ _ _ _) (Bn _ _ _ B6)) ?_
 intro jl hw
 have ar:=hid hw
 clear hw
 obtain ⟨pb141,hb141⟩:∃ b:Bool,b=(pb132 && (x.dc.rn == y.dc.rn)):=⟨_,rfl⟩
 have HB141:=hid hb141
 clear hb141
 refine QSeq.pure rfl (.bool pb141) (fun E=>A6 rfl (E.d 133 7) rfl rfl ((Be fun hb=>(E.q 140 0 ar.out).1 hb).trans (congrArg Value.bool HB141.o.symm))) ?_
 refine qmv rfl 141 0 ?_
 refine AA (b:=pb141) rfl (.pointer (some ⟨w.heap.size,287,none⟩)) (fun E=>((Ac rfl rfl (E.sz 147 aF) (E.d 142 0)).trans (Ak _))) (fun E hb=>Ae rfl B7 rfl aD (E.v c3)) ?_
 intro jm hw
 have au:=hid hw
 clear hw
 refine AA (b:=pb141) rfl (.pointer (some ⟨w.heap.size,289,none⟩)) (fun E=>((Ac rfl rfl (E.sz 147 aF) (E.d 142 1)).trans (Ak _))) (fun E hb=>Ae rfl D3 rfl aD ((E.q 143 0 au.out).1 hb)) ?_
 intro jn hw
 have av:=hid hw
 clear hw
 refine AA (b:=pb141) rfl (.agg #[.int .i64 x.dc.ba.ep,.int .u64 (x.dc.ba.tm:Nat),Value.slice axdp x.dc.ba.ps.length kxdp,Value.slice axdo x.dc.ba.os.length kxdo,Value.slice axdt x.dc.ba.ts.length kxdt]) (fun E=>((Ac rfl rfl (E.sz 147 aF) (E.d 142 2)).trans (Ak _))) (fun E hb=>Aj rfl C2 rfl (off:=289) (cs:=[.int .i64 x.dc.ba.ep,.int .u64 (x.dc.ba.tm:Nat),Value.slice axdp x.dc.ba.ps.length kxdp,Value.slice axdo x.dc.ba.os.length kxdo,Value.slice axdt x.dc.ba.ts.length kxdt]) aD ((E.q 144 0 av.out).1 hb) (Cs.segA (HB2.o.mod c6.out (fun h=>h)) HLNx.o 18 rfl (o:=287) (k:=2) rfl rfl rfl)) ?_
 intro jo hw
 have aw:=hid hw
 clear hw
 refine AA (b:=pb141) rfl (.pointer (some ⟨w.heap.size+1,287,none⟩)) (fun E=>((Ac rfl rfl (E.sz 147 aF) (E.d 142 3)).trans (Ak _))) (fun E hb=>Ae rfl B7 rfl aD (E.v c4)) ?_
 intro jp hw
 have ax:=hid hw
 clear hw
 refine AA (b:=pb141) rfl (.pointer (some ⟨w.heap.size+1,289,none⟩)) (fun E=>((Ac rfl rfl (E.sz 147 aF) (E.d 142 4)).trans (Ak _))) (fun E hb=>Ae rfl D3 rfl aD ((E.q 146 0 ax.out).1 hb)) ?_
 intro jq hw
 have ay:=hid hw
 clear hw
 refine AA (b:=pb141) rfl (.agg #[.int .i64 y.dc.ba.ep,.int .u64 (y.dc.ba.tm:Nat),Value.slice aydp y.dc.ba.ps.length kydp,Value.slice aydo y.dc.ba.os.length kydo,Value.slice aydt y.dc.ba.ts.length kydt]) (fun E=>((Ac rfl rfl (E.sz 147 aF) (E.d 142 5)).trans (Ak _))) (fun E hb=>Aj rfl C2 rfl (off:=289) (cs:=[.int .i64 y.dc.ba.ep,.int .u64 (y.dc.ba.tm:Nat),Value.slice aydp y.dc.ba.ps.length kydp,Value.slice aydo y.dc.ba.os.length kydo,Value.slice aydt y.dc.ba.ts.length kydt]) aD ((E.q 147 0 ay.out).1 hb) (Cs.segA (HB3.o.mod c6.out (fun h=>h)) HLNy.o 18 rfl (o:=287) (k:=2) rfl rfl rfl)) ?_
 intro jr hw
 have az:=hid hw
 clear hw
 refine AH (b:=pb141) rfl (.bool (eqb x.dc.ba y.dc.ba)) (args:=#[.agg #[.int .i64 x.dc.ba.ep,.int .u64 (x.dc.ba.tm:Nat),Value.slice axdp x.dc.ba.ps.length kxdp,Value.slice axdo x.dc.ba.os.length kxdo,Value.slice axdt x.dc.ba.ts.length kxdt],.agg #[.int .i64 y.dc.ba.ep,.int .u64 (y.dc.ba.tm:Nat),Value.slice aydp y.dc.ba.ps.length kydp,Value.slice aydo y.dc.ba.os.length kydo,Value.slice aydt y.dc.ba.ts.length kydt]]) (fun E=>((Ac rfl rfl (E.sz 147 aF) (E.d 142 6)).trans (Ak _))) rfl Tryz.func64 (fun E hb=>An ((E.q 145 3 aw.out).1 hb) ((E.q 148 0 az.out).1 hb)) (fun hb=>Eq_Ba R R2 _ _ x.dc.ba y.dc.ba _ ⟨_,_,_,rfl,HODx.o.2.2,(d6.out.mod c6.out (fun _ _ h=>h)),(br.out.mod c6.out (fun _ _ h=>h)),(bt.out.mod c6.out (fun _ _ h=>h))⟩ ⟨_,_,_,rfl,HODy.o.2.2,(bz.out.mod c6.out (fun _ _ h=>h)),(cd.out.mod c6.out (fun _ _ h=>h)),(d9.out.mod c6.out (fun _ _ h=>h))⟩ bP bO) ?_
 intro js jt hw hm
 have bc:=hid hw
 clear hw
 have ju:=hm.size
 have ck:=hid hm
 have d5:=hid (c6.out.goE hm)
 clear hm c6
 obtain ⟨pb150,hb150⟩:∃ b:Bool,b=(pb141 && (eqb x.dc.ba y.dc.ba)):=⟨_,rfl⟩
 have HB150:=hid hb150
 clear hb150
 refine QSeq.pure rfl (.bool pb150) (fun E=>A6 rfl (E.d 142 7) rfl rfl ((Be fun hb=>(E.q 149 0 bc.out).1 hb).trans (congrArg Value.bool HB150.o.symm))) ?_
 refine qmv rfl 150 0 ?_
 refine AA (b:=pb150) rfl (.pointer (some ⟨w.heap.size,287,none⟩)) (fun E=>((Ac rfl rfl (E.sz 156 aF) (E.d 151 0)).trans (Ak _))) (fun E hb=>Ae rfl B7 rfl aD (E.v c3)) ?_
 intro jv hw
 have bf:=hid hw
 clear hw
 refine AA (b:=pb150) rfl (.pointer (some ⟨w.heap.size,294,none⟩)) (fun E=>((Ac rfl rfl (E.sz 156 aF) (E.d 151 1)).trans (Ak _))) (fun E hb=>Ae rfl D3 rfl aD ((E.q 152 0 bf.out).1 hb)) ?_
 intro jw hw
 have bg:=hid hw
 clear hw
 refine AA (b:=pb150) rfl (.slice axdl x.dc.l.length kxdl) (fun E=>((Ac rfl rfl (E.sz 156 aF) (E.d 151 2)).trans (Ak _))) (fun E hb=>Af rfl Tryz.underlying57 rfl ((E.q 153 0 bg.out).1 hb) (AE (HB2.o.mod d5.out (fun h=>h)) HLNx.o 18 rfl (o:=287) (k:=7) rfl rfl rfl)) ?_
 intro jx hw
 have bh:=hid hw
 clear hw
 refine AA (b:=pb150) rfl (.pointer (some ⟨w.heap.size+1,287,none⟩)) (fun E=>((Ac rfl rfl (E.sz 156 aF) (E.d 151 3)).trans (Ak _))) (fun E hb=>Ae rfl B7 rfl aD (E.v c4)) ?_
 intro jy hw
 have bi:=hid hw
 clear hw
 refine AA (b:=pb150) rfl (.pointer (some ⟨w.heap.size+1,294,none⟩)) (fun E=>((Ac rfl rfl (E.sz 156 aF) (E.d 151 4)).trans (Ak _))) (fun E hb=>Ae rfl D3 rfl aD ((E.q 155 0 bi.out).1 hb)) ?_
 intro jz hw
 have bj:=hid hw
 clear hw
 refine AA (b:=pb150) rfl (.slice aydl y.dc.l.length kydl) (fun E=>((Ac rfl rfl (E.sz 156 aF) (E.d 151 5)).trans (Ak _))) (fun E hb=>Af rfl Tryz.underlying57 rfl ((E.q 156 0 bj.out).1 hb) (AE (HB3.o.mod d5.out (fun h=>h)) HLNy.o 18 rfl (o:=287) (k:=7) rfl rfl rfl)) ?_
 intro ka hw
 have bk:=hid hw
 clear hw
 refine AH (b:=pb150) rfl (.bool (eqb x.dc.l y.dc.l)) (args:=#[.slice axdl x.dc.l.length kxdl,.slice aydl y.dc.l.length kydl]) (fun E=>((Ac rfl rfl (E.sz 156 aF) (E.d 151 6)).trans (Ak _))) rfl Tryz.func65 (fun E hb=>An ((E.q 154 3 bh.out).1 hb) ((E.q 157 0 bk.out).1 hb)) (fun hb=>EqL_Vt _ _ _ _ _ _ _ (bu.out.mod d5.out (fun _ _ h=>h)) (cf.out.mod d5.out (fun _ _ h=>h)) bP bO) ?_
 intro kb kc hw hm
 have bl:=hid hw
 clear hw
 have ke:=hm.size
 have co:=hid hm
 have cq:=hid (d5.out.goE hm)
 clear hm d5
 obtain ⟨pb159,hb159⟩:∃ b:Bool,b=(pb150 && (eqb x.dc.l y.dc.l)):=⟨_,rfl⟩
 have HB159:=hid hb159
 clear hb159
 refine QSeq.pure rfl (.bool pb159) (fun E=>A6 rfl (E.d 151 7) rfl rfl ((Be fun hb=>(E.q 158 0 bl.out).1 hb).trans (congrArg Value.bool HB159.o.symm))) ?_
 refine qas rfl 159 0 ?_
 clear ch ci cj ck co g5 g6 g7 g8 g9 i7 i8 i9 j0 j3 j4 j5 j6 j7 j8 j9 l7 l8 m7 m8 m9 n5 n6 n7 n8 o4 o5 o6 o7 o8 o9 p4 p5 p6 p7 p8 p9 q6 q7 q8 q9 r3 r4 r5 r6 r7 r8 r9 s0 s5 s6 s7 s8 t0 t1 t2 t4 t8 t9 u0 u1 u2 u3 u4 u5 u6 u7 u9 v5 v6 v7 v8 x4 x5 x6 x7 x8 x9 y0 y5 y6 y7 y8 z0 z7 z9 aa ab ac ae af ag ah ai aj am ap aq ar au av aw ax ay az bc bf bg bh bi bj bk bl
 refine qe ?_
 clear HA0 c3 c4 a0
 go_wp2
 go_ret
 exact ⟨Bs (by rw [HB159.o,HB150.o,HB141.o,HB132.o,HB123.o,HB116.o,HB109.o,HB102.o,HB95.o,HB88.o,HB81.o,HB74.o,HB67.o,HB60.o,HB53.o,HB46.o,HB39.o,HB32.o,HB25.o,HB18.o,HB11.o];exact mg_eqb x y),(HM0.o.trans cq.out (fun _ _ h=>h.elim))⟩
end Go.Proofs.YtnaoeginonpicaaGreat
