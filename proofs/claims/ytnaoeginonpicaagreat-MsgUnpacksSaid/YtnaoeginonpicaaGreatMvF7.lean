/- Texts that are built one behind the other: XKm, XGw, XGr1, XGr2, XGr3, XTn. No condition. -/
import Derived.Test.YtnaoeginonpicaaGreatMvF6
set_option maxRecDepth 100000
set_option linter.unusedVariables false
open Go renaming Lib.hid→B8
open Go.Proofs renaming Tryz.underlying3→B9,Tryz.underlying61→C1,Tryz.underlying45→C7,Tryz.underlying43→D0,Tryz.underlying52→D2,Tryz.underlying47→D4,Tryz.underlying124→D7,Tryz.underlying25→D8,Tryz.underlying59→D9,Tryz.underlying30→E0,Tryz.func22→E3,Tryz.underlying127→E4,Tryz.underlying100→E5,Tryz.func67→E6,Tryz.underlying29→E7,Tryz.underlying4→E8,Tryz.func21→E9
open Nat renaming le_refl→C0,le_trans→C4
open List renaming append_assoc→C2,length_append→C3,map_cons→C5,map_nil→C6,map_toArray→C8,not_mem_nil→C9,mem_cons→D1,size_toArray→D3,length_nil→D5,length_cons→D6
open List renaming setIfInBounds_toArray → sIB, set_cons_zero → sCZ, set_cons_succ → sCS
namespace Go.Proofs.YtnaoeginonpicaaGreat
open Go Go.RowKit Go.Gv
theorem run_eql_strE {t:TypeId} {a b:ByteArray} (w:World):(binOp .eql t (.string a) (.string b)).run Tryz.prog w=.ok (.bool (eqb a b)) w:=by
 rw [binOp_string_eql,Sem.run_pure]
 congr 2
 by_cases h:a=b
 ·rw [h,eqb_rfl];exact beq_self_eq_true _
 ·rw [eqb_ne h,beq_eq_false_iff_ne]
  intro e
  exact h (ByteArray.ext (Array.toList_inj.1 (by simpa [ByteArray.toList_eq] using e)))
theorem guard_strE {op:BinOp} {t:TypeId} {x y:Operand} {s:ByteArray} {v:Value} (w:World):(eqGuard op t x y (.string s) v).run Tryz.prog w=.ok () w:=by cases op<;>simp [eqGuard]
theorem pr_eqb (x y:Pr):(((((x.ep == y.ep) && (x.rn == y.rn)) && (x.vl == y.vl)) && (x.rp == y.rp)) && eqb (x.sb,x.mr) (y.sb,y.mr) && eqb x.ba y.ba)=eqb x y:=by
 rw [Bool.eq_iff_iff]
 simp only [Bool.and_eq_true,eqb_iff,beq_I,Prod.mk.injEq]
 cases x;cases y
 simp only [Pr.mk.injEq]
 constructor
 ·rintro ⟨⟨⟨⟨⟨h1,h2⟩,h3⟩,h4⟩,h5,h6⟩,h7⟩;exact ⟨h1,h2,h3,h4,h7,h5,h6⟩
 ·rintro ⟨h1,h2,h3,h4,h7,h5,h6⟩;exact ⟨⟨⟨⟨⟨h1,h2⟩,h3⟩,h4⟩,h5,h6⟩,h7⟩
theorem mg_eqb (x y:Mg):((((((((((((((((((((((x.kd == y.kd) && (x.fr == y.fr)) && (x.to == y.to)) && eqb x.cm y.cm) && eqb x.st y.st) && eqb x.ce y.ce) && eqb x.ak y.ak) && (x.ep == y.ep)) && (x.rn == y.rn)) && (((x.tm:Nat):Int) == ((y.tm:Nat):Int))) && eqb x.pm y.pm) && eqb x.pr y.pr) && eqb x.vt y.vt) && (x.ix == y.ix)) && eqb x.en y.en) && eqb x.op y.op) && eqb x.dn y.dn) && eqb x.rp y.rp) && (x.dc.ep == y.dc.ep)) && (x.dc.rn == y.dc.rn)) && eqb x.dc.ba y.dc.ba) && eqb x.dc.l y.dc.l)=eqb x y:=by
 rw [Bool.eq_iff_iff]
 simp only [Bool.and_eq_true,eqb_iff,beq_I,Int.ofNat_inj]
 obtain ⟨a0,a1,a2,a3,a4,a5,a6,a7,a8,a9,a10,a11,a12,a13,a14,a15,a16,a17,⟨d0,d1,d2,d3⟩⟩:=x
 obtain ⟨b0,b1,b2,b3,b4,b5,b6,b7,b8,b9,b10,b11,b12,b13,b14,b15,b16,b17,⟨e0,e1,e2,e3⟩⟩:=y
 simp only [Mg.mk.injEq,Dc.mk.injEq]
 constructor
 ·rintro ⟨⟨⟨⟨⟨⟨⟨⟨⟨⟨⟨⟨⟨⟨⟨⟨⟨⟨⟨⟨⟨h0,h1⟩,h2⟩,h3⟩,h4⟩,h5⟩,h6⟩,h7⟩,h8⟩,h9⟩,h10⟩,h11⟩,h12⟩,h13⟩,h14⟩,h15⟩,h16⟩,h17⟩,h18⟩,h19⟩,h20⟩,h21⟩;exact ⟨h0,h1,h2,h3,h4,h5,h6,h7,h8,h9,h10,h11,h12,h13,h14,h15,h16,h17,h18,h19,h20,h21⟩
 ·rintro ⟨h0,h1,h2,h3,h4,h5,h6,h7,h8,h9,h10,h11,h12,h13,h14,h15,h16,h17,h18,h19,h20,h21⟩;exact ⟨⟨⟨⟨⟨⟨⟨⟨⟨⟨⟨⟨⟨⟨⟨⟨⟨⟨⟨⟨⟨h0,h1⟩,h2⟩,h3⟩,h4⟩,h5⟩,h6⟩,h7⟩,h8⟩,h9⟩,h10⟩,h11⟩,h12⟩,h13⟩,h14⟩,h15⟩,h16⟩,h17⟩,h18⟩,h19⟩,h20⟩,h21⟩
open Go.Proofs renaming Tryz.func65→va',Tryz.ntmps65→vb',Tryz.underlying57→vc',Tryz.underlying49→ve' in
open Go.Proofs.YtnaoeginonpicaaGreat renaming VtR→vd',eqW_vote→vf',ki_vt→vg',vt_iff→vh' in
set_option maxHeartbeats 4000000 in
theorem EqL_Vt:EqsL VtR 65:=
 fm9'
set_option maxHeartbeats 4000000 in
theorem Eq_Pr:Eqs PrR 62:=by
 intro R R2 cs ds x y w hx hy hB hB2
 obtain ⟨vx_ba.ps,vx_ba.os,vx_ba.ts,rfl,hokx,hx_ba.ps,hx_ba.os,hx_ba.ts⟩:=hx
 obtain ⟨ax_ba.ps,kx_ba.ps,rfl⟩:=hx_ba.ps.shape
 have Hx_ba.ps:=B8 hx_ba.ps
 clear hx_ba.ps
 obtain ⟨ax_ba.os,kx_ba.os,rfl⟩:=hx_ba.os.shape
 have Hx_ba.os:=B8 hx_ba.os
 clear hx_ba.os
 obtain ⟨ax_ba.ts,kx_ba.ts,rfl⟩:=hx_ba.ts.shape
 have Hx_ba.ts:=B8 hx_ba.ts
 clear hx_ba.ts
 have HOKx:=B8 hokx
 clear hokx
 obtain ⟨vy_ba.ps,vy_ba.os,vy_ba.ts,rfl,hoky,hy_ba.ps,hy_ba.os,hy_ba.ts⟩:=hy
 obtain ⟨ay_ba.ps,ky_ba.ps,rfl⟩:=hy_ba.ps.shape
 have Hy_ba.ps:=B8 hy_ba.ps
 clear hy_ba.ps
 obtain ⟨ay_ba.os,ky_ba.os,rfl⟩:=hy_ba.os.shape
 have Hy_ba.os:=B8 hy_ba.os
 clear hy_ba.os
 obtain ⟨ay_ba.ts,ky_ba.ts,rfl⟩:=hy_ba.ts.shape
 have Hy_ba.ts:=B8 hy_ba.ts
 clear hy_ba.ts
 have HOKy:=B8 hoky
 clear hoky
 have HBR:=B8 hB
 have HBT:=B8 hB2
 clear hB hB2
 go_enter Tryz.func62,Tryz.ntmps62
 go_upto_region 1 with (fail)
 obtain ⟨w1,hw1⟩:∃ zz,zz=((w.alloc (.cells (x.cells (.slice ax_ba.ps x.ba.ps.length kx_ba.ps) (.slice ax_ba.os x.ba.os.length kx_ba.os) (.slice ax_ba.ts x.ba.ts.length kx_ba.ts):List Value).toArray 47)).alloc (.cells (y.cells (.slice ay_ba.ps y.ba.ps.length ky_ba.ps) (.slice ay_ba.os y.ba.os.length ky_ba.os) (.slice ay_ba.ts y.ba.ts.length ky_ba.ts):List Value).toArray 47)):=⟨_,rfl⟩
 change Code.wp _ _ _ _ ((w.alloc (.cells (x.cells (.slice ax_ba.ps x.ba.ps.length kx_ba.ps) (.slice ax_ba.os x.ba.os.length kx_ba.os) (.slice ax_ba.ts x.ba.ts.length kx_ba.ts):List Value).toArray 47)).alloc (.cells (y.cells (.slice ay_ba.ps y.ba.ps.length ky_ba.ps) (.slice ay_ba.os y.ba.os.length ky_ba.os) (.slice ay_ba.ts y.ba.ts.length ky_ba.ts):List Value).toArray 47))
 rw [← hw1]
 have HB2:=hid (show Cs w1 (w.heap.size) (x.cells (.slice ax_ba.ps x.ba.ps.length kx_ba.ps) (.slice ax_ba.os x.ba.os.length kx_ba.os) (.slice ax_ba.ts x.ba.ts.length kx_ba.ts):List Value).toArray 47 by rw [hw1];exact (Cs.new _ _ _).alloc _)
 have HB3:=hid (show Cs w1 (w.heap.size+1) (y.cells (.slice ay_ba.ps y.ba.ps.length ky_ba.ps) (.slice ay_ba.os y.ba.os.length ky_ba.os) (.slice ay_ba.ts y.ba.ts.length ky_ba.ts):List Value).toArray 47 by rw [hw1];exact Cs_newN _ _ _ bA)
 have hm:Mod (fun _=>False) w w1:=by rw [hw1];exact ((Mod.refl _ _).alloc _).alloc _
 have HM0:=hid (show Mod (fun _=>False) w w1 from hm.mono iB)
 have hs1:w1.heap.size=w.heap.size+2:=by rw [hw1];simp
 have l7:=hid (Hx_ba.ps.out.mod hm iA)
 clear Hx_ba.ps
 have l8:=hid (Hx_ba.os.out.mod hm iA)
 clear Hx_ba.os
 have m7:=hid (Hx_ba.ts.out.mod hm iA)
 clear Hx_ba.ts
 have m8:=hid (Hy_ba.ps.out.mod hm iA)
 clear Hy_ba.ps
 have m9:=hid (Hy_ba.os.out.mod hm iA)
 clear Hy_ba.os
 have n5:=hid (Hy_ba.ts.out.mod hm iA)
 clear Hy_ba.ts
 clear hw1 hm
 go_upto_region 1 with (fail)
 refine Ab 45 [5,6,7,8,9,10,11,12,13,14,15,16,17,18,19,20,21,22,23,24,25,26,27,28,29,30,31,32,33,34,35,36,37,38,39,40,41,42,43,44,4] [0,1,2,3,4,5,6,7,8,9,10,11,12,13,14,15,16,17,18,19,20,21,22,23,24,25,26,27,28,29,30,31,32,33,34,35,36,37,38,39,40] (fun a0 HA0=>?_)
 have c3:=ev HA0 2 rfl
 have c4:=ev HA0 3 rfl
 refine qfd rfl 0 D4 c3 ?_
 refine QSeq.pure rfl _ (fun E=>Af rfl B9 rfl (E.d 0 0) (AC HB2.o rfl)) ?_
 refine qfd rfl 0 D4 c4 ?_
 refine QSeq.pure rfl _ (fun E=>Af rfl B9 rfl (E.d 2 0) (AC HB3.o rfl)) ?_
 refine QSeq.pure rfl (.bool (x.ep == y.ep)) (fun E=>ex_bin rfl (E.d 1 2) (E.d 3 0) (Ai _ _ _ _ _ _) (Bs _ _ _ B9)) ?_
 refine qmv rfl 4 0 ?_
 refine qmy rfl 5 0 (.pointer (some ⟨w.heap.size,1,none⟩)) (fun E hb=>Ae rfl D4 rfl aE (E.v c3)) ?_
 intro n8 hw
 have c6:=hid hw
 clear hw
 refine qmy rfl 5 1 (.int .i64 x.rn) (fun E hb=>Af rfl B9 rfl ((E.q 6 0 c6.out).1 hb) (AC HB2.o rfl)) ?_
 intro o5 hw
 have c7:=hid hw
 clear hw
 refine qmy rfl 5 2 (.pointer (some ⟨w.heap.size+1,1,none⟩)) (fun E hb=>Ae rfl D4 rfl aE (E.v c4)) ?_
 intro o6 hw
 have c8:=hid hw
 clear hw
 refine qmy rfl 5 3 (.int .i64 y.rn) (fun E hb=>Af rfl B9 rfl ((E.q 8 0 c8.out).1 hb) (AC HB3.o rfl)) ?_
 intro o7 hw
 have c9:=hid hw
 clear hw
 refine qmy rfl 5 4 (.bool (x.rn == y.rn)) (fun E hb=>ex_bin rfl ((E.q 7 2 c7.out).1 hb) ((E.q 9 0 c9.out).1 hb) (Ai _ _ _ _ _ _) (Bs _ _ _ B9)) ?_
 intro o8 hw
 have d5:=hid hw
 clear hw
 refine QSeq.pure rfl (.bool ((x.ep == y.ep) && (x.rn == y.rn))) (fun E=>A5 rfl (E.d 5 5) rfl rfl (Be fun hb=>(E.q 10 0 d5.out).1 hb)) ?_
 refine qmv rfl 11 0 ?_
 refine qmy rfl 12 0 (.pointer (some ⟨w.heap.size,2,none⟩)) (fun E hb=>Ae rfl D4 rfl aE (E.v c3)) ?_
 intro o9 hw
 have d6:=hid hw
 clear hw
 refine qmy rfl 12 1 (.int .i64 x.vl) (fun E hb=>Af rfl B9 rfl ((E.q 13 0 d6.out).1 hb) (AC HB2.o rfl)) ?_
 intro p5 hw
 have d7:=hid hw
 clear hw
 refine qmy rfl 12 2 (.pointer (some ⟨w.heap.size+1,2,none⟩)) (fun E hb=>Ae rfl D4 rfl aE (E.v c4)) ?_
 intro p6 hw
 have d8:=hid hw
 clear hw
 refine qmy rfl 12 3 (.int .i64 y.vl) (fun E hb=>Af rfl B9 rfl ((E.q 15 0 d8.out).1 hb) (AC HB3.o rfl)) ?_
 intro p7 hw
 have d9:=hid hw
 clear hw
 refine qmy rfl 12 4 (.bool (x.vl == y.vl)) (fun E hb=>ex_bin rfl ((E.q 14 2 d7.out).1 hb) ((E.q 16 0 d9.out).1 hb) (Ai _ _ _ _ _ _) (Bs _ _ _ B9)) ?_
 intro p8 hw
 have g5:=hid hw
 clear hw
 refine QSeq.pure rfl (.bool (((x.ep == y.ep) && (x.rn == y.rn)) && (x.vl == y.vl))) (fun E=>A5 rfl (E.d 12 5) rfl rfl (Be fun hb=>(E.q 17 0 g5.out).1 hb)) ?_
 refine qmv rfl 18 0 ?_
 refine qmy rfl 19 0 (.pointer (some ⟨w.heap.size,3,none⟩)) (fun E hb=>Ae rfl D4 rfl aE (E.v c3)) ?_
 intro p9 hw
 have g6:=hid hw
 clear hw
 refine qmy rfl 19 1 (.int .i64 x.rp) (fun E hb=>Af rfl B9 rfl ((E.q 20 0 g6.out).1 hb) (AC HB2.o rfl)) ?_
 intro q6 hw
 have g7:=hid hw
 clear hw
 refine qmy rfl 19 2 (.pointer (some ⟨w.heap.size+1,3,none⟩)) (fun E hb=>Ae rfl D4 rfl aE (E.v c4)) ?_
 intro q7 hw
 have g8:=hid hw
 clear hw
 refine qmy rfl 19 3 (.int .i64 y.rp) (fun E hb=>Af rfl B9 rfl ((E.q 22 0 g8.out).1 hb) (AC HB3.o rfl)) ?_
 intro q8 hw
 have g9:=hid hw
 clear hw
 refine qmy rfl 19 4 (.bool (x.rp == y.rp)) (fun E hb=>ex_bin rfl ((E.q 21 2 g7.out).1 hb) ((E.q 23 0 g9.out).1 hb) (Ai _ _ _ _ _ _) (Bs _ _ _ B9)) ?_
 intro q9 hw
 have i7:=hid hw
 clear hw
 refine QSeq.pure rfl (.bool ((((x.ep == y.ep) && (x.rn == y.rn)) && (x.vl == y.vl)) && (x.rp == y.rp))) (fun E=>A5 rfl (E.d 19 5) rfl rfl (Be fun hb=>(E.q 24 0 i7.out).1 hb)) ?_
 refine qmv rfl 25 0 ?_
 refine qmy rfl 26 0 (.pointer (some ⟨w.heap.size,9,none⟩)) (fun E hb=>Ae rfl D4 rfl aE (E.v c3)) ?_
 intro r5 hw
 have i8:=hid hw
 clear hw
 refine qmy rfl 26 1 (.agg #[.int .i64 x.sb,.int .i64 x.mr]) (fun E hb=>Ak rfl Tryz.underlying27 rfl (off:=9) (cs:=[.int .i64 x.sb,.int .i64 x.mr]) aE ((E.q 27 0 i8.out).1 hb) (AK HB2.o rfl)) ?_
 intro r6 hw
 have i9:=hid hw
 clear hw
 refine qmy rfl 26 2 (.pointer (some ⟨w.heap.size+1,9,none⟩)) (fun E hb=>Ae rfl D4 rfl aE (E.v c4)) ?_
 intro r7 hw
 have j0:=hid hw
 clear hw
 refine qmy rfl 26 3 (.agg #[.int .i64 y.sb,.int .i64 y.mr]) (fun E hb=>Ak rfl Tryz.underlying27 rfl (off:=9) (cs:=[.int .i64 y.sb,.int .i64 y.mr]) aE ((E.q 29 0 j0.out).1 hb) (AK HB3.o rfl)) ?_
 intro r8 hw
 have j3:=hid hw
 clear hw
 refine qmy rfl 26 4 (.bool (eqb (x.sb,x.mr) (y.sb,y.mr))) (fun E hb=>Aq rfl ((E.q 28 2 i9.out).1 hb) ((E.q 30 0 j3.out).1 hb) (agg_guardE _ _ _ _ _ _ aE _) (EqW.run eqW_sig (ki_2 x.sb x.mr) (ki_2 y.sb y.mr) (two_iff x.sb x.mr y.sb y.mr) _) rfl) ?_
 intro r9 hw
 have j4:=hid hw
 clear hw
 refine QSeq.pure rfl (.bool (((((x.ep == y.ep) && (x.rn == y.rn)) && (x.vl == y.vl)) && (x.rp == y.rp)) && (eqb (x.sb,x.mr) (y.sb,y.mr)))) (fun E=>A5 rfl (E.d 26 5) rfl rfl (Be fun hb=>(E.q 31 0 j4.out).1 hb)) ?_
 refine qmv rfl 32 0 ?_
 refine qmy rfl 33 0 (.pointer (some ⟨w.heap.size,4,none⟩)) (fun E hb=>Ae rfl D4 rfl aE (E.v c3)) ?_
 intro s0 hw
 have j5:=hid hw
 clear hw
 refine qmy rfl 33 1 (.agg #[.int .i64 x.ba.ep,.int .u64 (x.ba.tm:Nat),.slice ax_ba.ps x.ba.ps.length kx_ba.ps,.slice ax_ba.os x.ba.os.length kx_ba.os,.slice ax_ba.ts x.ba.ts.length kx_ba.ts]) (fun E hb=>Ak rfl C7 rfl (off:=4) (cs:=[.int .i64 x.ba.ep,.int .u64 (x.ba.tm:Nat),.slice ax_ba.ps x.ba.ps.length kx_ba.ps,.slice ax_ba.os x.ba.os.length kx_ba.os,.slice ax_ba.ts x.ba.ts.length kx_ba.ts]) aE ((E.q 34 0 j5.out).1 hb) (AK HB2.o rfl)) ?_
 intro s5 hw
 have j6:=hid hw
 clear hw
 refine qmy rfl 33 2 (.pointer (some ⟨w.heap.size+1,4,none⟩)) (fun E hb=>Ae rfl D4 rfl aE (E.v c4)) ?_
 intro s6 hw
 have j7:=hid hw
 clear hw
 refine qmy rfl 33 3 (.agg #[.int .i64 y.ba.ep,.int .u64 (y.ba.tm:Nat),.slice ay_ba.ps y.ba.ps.length ky_ba.ps,.slice ay_ba.os y.ba.os.length ky_ba.os,.slice ay_ba.ts y.ba.ts.length ky_ba.ts]) (fun E hb=>Ak rfl C7 rfl (off:=4) (cs:=[.int .i64 y.ba.ep,.int .u64 (y.ba.tm:Nat),.slice ay_ba.ps y.ba.ps.length ky_ba.ps,.slice ay_ba.os y.ba.os.length ky_ba.os,.slice ay_ba.ts y.ba.ts.length ky_ba.ts]) aE ((E.q 36 0 j7.out).1 hb) (AK HB3.o rfl)) ?_
 intro s7 hw
 have j8:=hid hw
 clear hw
 refine AH (b:=(((((x.ep == y.ep) && (x.rn == y.rn)) && (x.vl == y.vl)) && (x.rp == y.rp)) && (eqb (x.sb,x.mr) (y.sb,y.mr)))) rfl (.bool (eqb x.ba y.ba)) (args:=#[.agg #[.int .i64 x.ba.ep,.int .u64 (x.ba.tm:Nat),Value.slice ax_ba.ps x.ba.ps.length kx_ba.ps,Value.slice ax_ba.os x.ba.os.length kx_ba.os,Value.slice ax_ba.ts x.ba.ts.length kx_ba.ts],.agg #[.int .i64 y.ba.ep,.int .u64 (y.ba.tm:Nat),Value.slice ay_ba.ps y.ba.ps.length ky_ba.ps,Value.slice ay_ba.os y.ba.os.length ky_ba.os,Value.slice ay_ba.ts y.ba.ts.length ky_ba.ts]]) (fun E=>((Ag rfl rfl (E.sz 38 aM) (E.d 33 4)).trans (beq_t _))) rfl Tryz.func64 (fun E hb=>Ar ((E.q 35 2 j6.out).1 hb) ((E.q 37 0 j8.out).1 hb)) (fun hb=>Eq_Ba R R2 _ _ x.ba y.ba _ ⟨_,_,_,rfl,HOKx.o.2.2.2.2.1,l7.out,l8.out,m7.out⟩ ⟨_,_,_,rfl,HOKy.o.2.2.2.2.1,m8.out,m9.out,n5.out⟩ bO bN) ?_
 intro s8 n6 hw hm
 have j9:=hid hw
 clear hw
 have t0:=hm.size
 have n7:=hid (show Mod (fun _=>False) w1 n6 from hm)
 clear hm
 refine QSeq.pure rfl (.bool ((((((x.ep == y.ep) && (x.rn == y.rn)) && (x.vl == y.vl)) && (x.rp == y.rp)) && (eqb (x.sb,x.mr) (y.sb,y.mr))) && (eqb x.ba y.ba))) (fun E=>A5 rfl (E.d 33 5) rfl rfl (Be fun hb=>(E.q 38 0 j9.out).1 hb)) ?_
 refine qas rfl 39 0 ?_
 clear c6 c7 c8 c9 d5 d6 d7 d8 d9 g5 g6 g7 g8 g9 i7 i8 i9 j0 j3 j4 j5 j6 j7 j8 j9
 refine qe ?_
 clear HA0 c3 c4 a0
 go_wp2
 go_ret
 exact ⟨Bw (pr_eqb x y),(HM0.o.trans n7.out iB)⟩
set_option maxHeartbeats 8000000 in
theorem Eq_Mg:Eqs MgR 13:=by
 intro R R2 cs ds x y w hx hy hB hB2
 obtain ⟨xc5,xc10,xc11,xc15,xc18,rfl,hokx,h5,h10,h11,h15,h18⟩:=hx
 have HLNx:=hid (Mg.lns hokx h5 h10 h11 h15 h18)
 obtain ⟨xdp,xdo,xdt,xdl,rfl,hokdx,hd0,hd1,hd2,hd3⟩:=h18
 have HCx5:=hid (CeR.len h5)
 have d6:=B8 h5
 have HCx10:=hid (PmR.len h10)
 have Hx10:=B8 h10
 have HCx11:=hid (PrR.len h11)
 have d7:=B8 h11
 have HCx15:=hid (OpR.len h15)
 have d8:=B8 h15
 obtain ⟨axdp,kxdp,rfl⟩:=hd0.shape
 have HDx0:=B8 hd0
 obtain ⟨axdo,kxdo,rfl⟩:=hd1.shape
 have HDx1:=B8 hd1
 obtain ⟨axdt,kxdt,rfl⟩:=hd2.shape
 have HDx2:=B8 hd2
 obtain ⟨axdl,kxdl,rfl⟩:=hd3.shape
 have HDx3:=B8 hd3
 have HOKx:=B8 hokx
 have HODx:=B8 hokdx
 clear hokx hokdx h5 h10 h11 h15 hd0 hd1 hd2 hd3
 obtain ⟨yc5,yc10,yc11,yc15,yc18,rfl,hoky,h5,h10,h11,h15,h18⟩:=hy
 have HLNy:=hid (Mg.lns hoky h5 h10 h11 h15 h18)
 obtain ⟨ydp,ydo,ydt,ydl,rfl,hokdy,hd0,hd1,hd2,hd3⟩:=h18
 have HCy5:=hid (CeR.len h5)
 have Hy5:=B8 h5
 have HCy10:=hid (PmR.len h10)
 have Hy10:=B8 h10
 have HCy11:=hid (PrR.len h11)
 have Hy11:=B8 h11
 have HCy15:=hid (OpR.len h15)
 have Hy15:=B8 h15
 obtain ⟨aydp,kydp,rfl⟩:=hd0.shape
 have HDy0:=B8 hd0
 obtain ⟨aydo,kydo,rfl⟩:=hd1.shape
 have HDy1:=B8 hd1
 obtain ⟨aydt,kydt,rfl⟩:=hd2.shape
 have HDy2:=B8 hd2
 obtain ⟨aydl,kydl,rfl⟩:=hd3.shape
 have HDy3:=B8 hd3
 have HOKy:=B8 hoky
 have HODy:=B8 hokdy
 clear hoky hokdy h5 h10 h11 h15 hd0 hd1 hd2 hd3
 have HBR:=B8 hB
 have HBT:=B8 hB2
 clear hB hB2
 go_enter Tryz.func13,Tryz.ntmps13
 go_upto_region 1 with (fail)
 obtain ⟨w1,hw1⟩:∃ zz,zz=((w.alloc (.cells ((x.segs xc5 xc10 xc11 xc15 (x.dc.cells (.slice axdp x.dc.ba.ps.length kxdp) (.slice axdo x.dc.ba.os.length kxdo) (.slice axdt x.dc.ba.ts.length kxdt) (.slice axdl x.dc.l.length kxdl))).flatten:List Value).toArray 61)).alloc (.cells ((y.segs yc5 yc10 yc11 yc15 (y.dc.cells (.slice aydp y.dc.ba.ps.length kydp) (.slice aydo y.dc.ba.os.length kydo) (.slice aydt y.dc.ba.ts.length kydt) (.slice aydl y.dc.l.length kydl))).flatten:List Value).toArray 61)):=⟨_,rfl⟩
 change Code.wp _ _ _ _ ((w.alloc (.cells ((x.segs xc5 xc10 xc11 xc15 (x.dc.cells (.slice axdp x.dc.ba.ps.length kxdp) (.slice axdo x.dc.ba.os.length kxdo) (.slice axdt x.dc.ba.ts.length kxdt) (.slice axdl x.dc.l.length kxdl))).flatten:List Value).toArray 61)).alloc (.cells ((y.segs yc5 yc10 yc11 yc15 (y.dc.cells (.slice aydp y.dc.ba.ps.length kydp) (.slice aydo y.dc.ba.os.length kydo) (.slice aydt y.dc.ba.ts.length kydt) (.slice aydl y.dc.l.length kydl))).flatten:List Value).toArray 61))
 rw [← hw1]
 have HB2:=hid (show Cs w1 (w.heap.size) ((x.segs xc5 xc10 xc11 xc15 (x.dc.cells (.slice axdp x.dc.ba.ps.length kxdp) (.slice axdo x.dc.ba.os.length kxdo) (.slice axdt x.dc.ba.ts.length kxdt) (.slice axdl x.dc.l.length kxdl))).flatten:List Value).toArray 61 by rw [hw1];exact (Cs.new _ _ _).alloc _)
 have HB3:=hid (show Cs w1 (w.heap.size+1) ((y.segs yc5 yc10 yc11 yc15 (y.dc.cells (.slice aydp y.dc.ba.ps.length kydp) (.slice aydo y.dc.ba.os.length kydo) (.slice aydt y.dc.ba.ts.length kydt) (.slice aydl y.dc.l.length kydl))).flatten:List Value).toArray 61 by rw [hw1];exact Cs_newN _ _ _ bA)
 have hm:Mod (fun _=>False) w w1:=by rw [hw1];exact ((Mod.refl _ _).alloc _).alloc _
 have HM0:=hid (show Mod (fun _=>False) w w1 from hm.mono iB)
 have hs1:w1.heap.size=w.heap.size+2:=by rw [hw1];simp
 have bp:=hid (d6.out.mod hm iA)
 clear d6
 have bq:=hid (Hx10.o.mod hm iA)
 clear Hx10
 have br:=hid (d7.out.mod hm iA)
 clear d7
 have bt:=hid (d8.out.mod hm iA)
 clear d8
 have d6:=hid (HDx0.o.mod hm iA)
 clear HDx0
 have bu:=hid (HDx1.o.mod hm iA)
 clear HDx1
 have bw:=hid (HDx2.o.mod hm iA)
 clear HDx2
 have Hx8:=hid (HDx3.o.mod hm iA)
 clear HDx3
 have Hx9:=hid (Hy5.o.mod hm iA)
 clear Hy5
 have Hx10:=hid (Hy10.o.mod hm iA)
 clear Hy10
 have d7:=hid (Hy11.o.mod hm iA)
 clear Hy11
 have bx:=hid (Hy15.o.mod hm iA)
 clear Hy15
 have bz:=hid (HDy0.o.mod hm iA)
 clear HDy0
 have cd:=hid (HDy1.o.mod hm iA)
 clear HDy1
 have d8:=hid (HDy2.o.mod hm iA)
 clear HDy2
 have cf:=hid (HDy3.o.mod hm iA)
 clear HDy3
 clear hw1 hm
 go_upto_region 1 with (fail)
 refine Ab 165 [5,6,7,8,9,10,11,12,13,14,15,16,17,18,19,20,21,22,23,24,25,26,27,28,29,30,31,32,33,34,35,36,37,38,39,40,41,42,43,44,45,46,47,48,49,50,51,52,53,54,55,56,57,58,59,60,61,62,63,64,65,66,67,68,69,70,71,72,73,74,75,76,77,78,79,80,81,82,83,84,85,86,87,88,89,90,91,92,93,94,95,96,97,98,99,100,101,102,103,104,105,106,107,108,109,110,111,112,113,114,115,116,117,118,119,120,121,122,123,124,125,126,127,128,129,130,131,132,133,134,135,136,137,138,139,140,141,142,143,144,145,146,147,148,149,150,151,152,153,154,155,156,157,158,159,160,161,162,163,164,4] [0,1,2,3,4,5,6,7,8,9,10,11,12,13,14,15,16,17,18,19,20,21,22,23,24,25,26,27,28,29,30,31,32,33,34,35,36,37,38,39,40,41,42,43,44,45,46,47,48,49,50,51,52,53,54,55,56,57,58,59,60,61,62,63,64,65,66,67,68,69,70,71,72,73,74,75,76,77,78,79,80,81,82,83,84,85,86,87,88,89,90,91,92,93,94,95,96,97,98,99,100,101,102,103,104,105,106,107,108,109,110,111,112,113,114,115,116,117,118,119,120,121,122,123,124,125,126,127,128,129,130,131,132,133,134,135,136,137,138,139,140,141,142,143,144,145,146,147,148,149,150,151,152,153,154,155,156,157,158,159,160] (fun a0 HA0=>?_)
 have c3:=ev HA0 2 rfl
 have c4:=ev HA0 3 rfl
 refine qfd rfl 0 C1 c3 ?_
 refine QSeq.pure rfl (.int .i64 x.kd) (fun E=>Af rfl B9 rfl (E.d 0 0) (AD HB2.o HLNx.o 0 rfl (o:=0) (k:=0) rfl rfl rfl)) ?_
 refine qfd rfl 0 C1 c4 ?_
 refine QSeq.pure rfl (.int .i64 y.kd) (fun E=>Af rfl B9 rfl (E.d 2 0) (AD HB3.o HLNy.o 0 rfl (o:=0) (k:=0) rfl rfl rfl)) ?_
 refine QSeq.pure rfl (.bool (x.kd == y.kd)) (fun E=>ex_bin rfl (E.d 1 2) (E.d 3 0) (Ai _ _ _ _ _ _) (Bs _ _ _ B9)) ?_
 refine qmv rfl 4 0 ?_
 refine qmy rfl 5 0 (.pointer (some ⟨w.heap.size,1,none⟩)) (fun E hb=>Ae rfl C1 rfl aE (E.v c3)) ?_
 intro ct hw
 have d9:=hid hw
 clear hw
 refine qmy rfl 5 1 (.int .i64 x.fr) (fun E hb=>Af rfl B9 rfl ((E.q 6 0 d9.out).1 hb) (AD HB2.o HLNx.o 1 rfl (o:=1) (k:=0) rfl rfl rfl)) ?_
 intro cw hw
 have g5:=hid hw
 clear hw
 refine qmy rfl 5 2 (.pointer (some ⟨w.heap.size+1,1,none⟩)) (fun E hb=>Ae rfl C1 rfl aE (E.v c4)) ?_
 intro cx hw
 have g6:=hid hw
 clear hw
 refine qmy rfl 5 3 (.int .i64 y.fr) (fun E hb=>Af rfl B9 rfl ((E.q 8 0 g6.out).1 hb) (AD HB3.o HLNy.o 1 rfl (o:=1) (k:=0) rfl rfl rfl)) ?_
 intro cy hw
 have g7:=hid hw
 clear hw
 refine qmy rfl 5 4 (.bool (x.fr == y.fr)) (fun E hb=>ex_bin rfl ((E.q 7 2 g5.out).1 hb) ((E.q 9 0 g7.out).1 hb) (Ai _ _ _ _ _ _) (Bs _ _ _ B9)) ?_
 intro da hw
 have g8:=hid hw
 clear hw
 obtain ⟨pb11,hb11⟩:∃ b:Bool,b=((x.kd == y.kd) && (x.fr == y.fr)):=⟨_,rfl⟩
 have HB11:=hid hb11
 clear hb11
 refine QSeq.pure rfl (.bool pb11) (fun E=>A5 rfl (E.d 5 5) rfl rfl ((Be fun hb=>(E.q 10 0 g8.out).1 hb).trans (congrArg Value.bool HB11.o.symm))) ?_
 refine qmv rfl 11 0 ?_
 refine qmy rfl 12 0 (.pointer (some ⟨w.heap.size,2,none⟩)) (fun E hb=>Ae rfl C1 rfl aE (E.v c3)) ?_
 intro db hw
 have g9:=hid hw
 clear hw
 refine qmy rfl 12 1 (.int .i64 x.to) (fun E hb=>Af rfl B9 rfl ((E.q 13 0 g9.out).1 hb) (AD HB2.o HLNx.o 2 rfl (o:=2) (k:=0) rfl rfl rfl)) ?_
 intro dd hw
 have i7:=hid hw
 clear hw
 refine qmy rfl 12 2 (.pointer (some ⟨w.heap.size+1,2,none⟩)) (fun E hb=>Ae rfl C1 rfl aE (E.v c4)) ?_
 intro df hw
 have i8:=hid hw
 clear hw
 refine qmy rfl 12 3 (.int .i64 y.to) (fun E hb=>Af rfl B9 rfl ((E.q 15 0 i8.out).1 hb) (AD HB3.o HLNy.o 2 rfl (o:=2) (k:=0) rfl rfl rfl)) ?_
 intro dg hw
 have i9:=hid hw
 clear hw
 refine qmy rfl 12 4 (.bool (x.to == y.to)) (fun E hb=>ex_bin rfl ((E.q 14 2 i7.out).1 hb) ((E.q 16 0 i9.out).1 hb) (Ai _ _ _ _ _ _) (Bs _ _ _ B9)) ?_
 intro dh hw
 have j0:=hid hw
 clear hw
 obtain ⟨pb18,hb18⟩:∃ b:Bool,b=(pb11 && (x.to == y.to)):=⟨_,rfl⟩
 have HB18:=hid hb18
 clear hb18
 refine QSeq.pure rfl (.bool pb18) (fun E=>A5 rfl (E.d 12 5) rfl rfl ((Be fun hb=>(E.q 17 0 j0.out).1 hb).trans (congrArg Value.bool HB18.o.symm))) ?_
 refine qmv rfl 18 0 ?_
 refine qmy rfl 19 0 (.pointer (some ⟨w.heap.size,3,none⟩)) (fun E hb=>Ae rfl C1 rfl aE (E.v c3)) ?_
 intro di hw
 have j3:=hid hw
 clear hw
 refine qmy rfl 19 1 (.agg (x.cm.cells).toArray) (fun E hb=>Ak rfl E7 rfl (off:=3) (cs:=(x.cm.cells)) (by rw [Cm.len HOKx.o.cm.2.1];exact size_commit) ((E.q 20 0 j3.out).1 hb) (Cs.seg HB2.o HLNx.o 3 rfl rfl)) ?_
 intro dj hw
 have j4:=hid hw
 clear hw
 refine qmy rfl 19 2 (.pointer (some ⟨w.heap.size+1,3,none⟩)) (fun E hb=>Ae rfl C1 rfl aE (E.v c4)) ?_
 intro dk hw
 have j5:=hid hw
 clear hw
 refine qmy rfl 19 3 (.agg (y.cm.cells).toArray) (fun E hb=>Ak rfl E7 rfl (off:=3) (cs:=(y.cm.cells)) (by rw [Cm.len HOKy.o.cm.2.1];exact size_commit) ((E.q 22 0 j5.out).1 hb) (Cs.seg HB3.o HLNy.o 3 rfl rfl)) ?_
 intro dl hw
 have j6:=hid hw
 clear hw
 refine qmy rfl 19 4 (.bool (eqb x.cm y.cm)) (fun E hb=>Aq rfl ((E.q 21 2 j4.out).1 hb) ((E.q 23 0 j6.out).1 hb) (agg_guardE _ _ _ _ _ _ aE _) (EqW.run eqW_commit (ki_cm HOKx.o.cm.2.1) (ki_cm HOKy.o.cm.2.1) (cm_iff HOKx.o.cm HOKy.o.cm) _) rfl) ?_
 intro dm hw
 have j7:=hid hw
 clear hw
 obtain ⟨pb25,hb25⟩:∃ b:Bool,b=(pb18 && (eqb x.cm y.cm)):=⟨_,rfl⟩
 have HB25:=hid hb25
 clear hb25
 refine QSeq.pure rfl (.bool pb25) (fun E=>A5 rfl (E.d 19 5) rfl rfl ((Be fun hb=>(E.q 24 0 j7.out).1 hb).trans (congrArg Value.bool HB25.o.symm))) ?_
 refine qmv rfl 25 0 ?_
 refine qmy rfl 26 0 (.pointer (some ⟨w.heap.size,40,none⟩)) (fun E hb=>Ae rfl C1 rfl aE (E.v c3)) ?_
 intro dp hw
 have j8:=hid hw
 clear hw
 refine qmy rfl 26 1 (.agg (x.st.cells).toArray) (fun E hb=>Ak rfl Tryz.underlying32 rfl (off:=40) (cs:=(x.st.cells)) (by rw [St.len HOKx.o.st];kernel_rfl) ((E.q 27 0 j8.out).1 hb) (Cs.seg HB2.o HLNx.o 4 rfl rfl)) ?_
 intro dq hw
 have j9:=hid hw
 clear hw
 refine qmy rfl 26 2 (.pointer (some ⟨w.heap.size+1,40,none⟩)) (fun E hb=>Ae rfl C1 rfl aE (E.v c4)) ?_
 intro dr hw
 have l7:=hid hw
 clear hw
 refine qmy rfl 26 3 (.agg (y.st.cells).toArray) (fun E hb=>Ak rfl Tryz.underlying32 rfl (off:=40) (cs:=(y.st.cells)) (by rw [St.len HOKy.o.st];kernel_rfl) ((E.q 29 0 l7.out).1 hb) (Cs.seg HB3.o HLNy.o 4 rfl rfl)) ?_
 intro dt hw
 have l8:=hid hw
 clear hw
 refine qmy rfl 26 4 (.bool (eqb x.st y.st)) (fun E hb=>Aq rfl ((E.q 28 2 j9.out).1 hb) ((E.q 30 0 l8.out).1 hb) (agg_guardE _ _ _ _ _ _ aE _) (EqW.run eqW_stamp (ki_st HOKx.o.st) (ki_st HOKy.o.st) (st_iff HOKx.o.st HOKy.o.st) _) rfl) ?_
 intro du hw
 have m7:=hid hw
 clear hw
 obtain ⟨pb32,hb32⟩:∃ b:Bool,b=(pb25 && (eqb x.st y.st)):=⟨_,rfl⟩
 have HB32:=hid hb32
 clear hb32
 refine QSeq.pure rfl (.bool pb32) (fun E=>A5 rfl (E.d 26 5) rfl rfl ((Be fun hb=>(E.q 31 0 m7.out).1 hb).trans (congrArg Value.bool HB32.o.symm))) ?_
 refine qmv rfl 32 0 ?_
 refine qmy rfl 33 0 (.pointer (some ⟨w.heap.size,78,none⟩)) (fun E hb=>Ae rfl C1 rfl aE (E.v c3)) ?_
 intro dv hw
 have m8:=hid hw
 clear hw
 refine qmy rfl 33 1 (.agg (xc5).toArray) (fun E hb=>Ak rfl Tryz.underlying35 rfl (off:=78) (cs:=(xc5)) (by rw [HCx5.o];kernel_rfl) ((E.q 34 0 m8.out).1 hb) (Cs.seg HB2.o HLNx.o 5 rfl rfl)) ?_
 intro dw hw
 have m9:=hid hw
 clear hw
 refine qmy rfl 33 2 (.pointer (some ⟨w.heap.size+1,78,none⟩)) (fun E hb=>Ae rfl C1 rfl aE (E.v c4)) ?_
 intro dx hw
 have n5:=hid hw
 clear hw
 refine qmy rfl 33 3 (.agg (yc5).toArray) (fun E hb=>Ak rfl Tryz.underlying35 rfl (off:=78) (cs:=(yc5)) (by rw [HCy5.o];kernel_rfl) ((E.q 36 0 n5.out).1 hb) (Cs.seg HB3.o HLNy.o 5 rfl rfl)) ?_
 intro dy hw
 have n6:=hid hw
 clear hw
 refine AH (b:=pb32) rfl (.bool (eqb x.ce y.ce)) (args:=#[.agg (xc5).toArray,.agg (yc5).toArray]) (fun E=>((Ag rfl rfl (E.sz 38 aM) (E.d 33 4)).trans (beq_t _))) rfl Tryz.func60 (fun E hb=>Ar ((E.q 35 2 m9.out).1 hb) ((E.q 37 0 n6.out).1 hb)) (fun hb=>Eq_Ce _ _ _ _ x.ce y.ce _ bp.out Hx9.o bO bN) ?_
 intro dz cg hw hm
 have n7:=hid hw
 clear hw
 have eb:=hm.size
 have c7:=hid (show Mod (fun _=>False) w1 cg from hm)
 clear hm
 obtain ⟨pb39,hb39⟩:∃ b:Bool,b=(pb32 && (eqb x.ce y.ce)):=⟨_,rfl⟩
 have HB39:=hid hb39
 clear hb39
 refine QSeq.pure rfl (.bool pb39) (fun E=>A5 rfl (E.d 33 5) rfl rfl ((Be fun hb=>(E.q 38 0 n7.out).1 hb).trans (congrArg Value.bool HB39.o.symm))) ?_
 refine qmv rfl 39 0 ?_
 refine qmy rfl 40 0 (.pointer (some ⟨w.heap.size,116,none⟩)) (fun E hb=>Ae rfl C1 rfl aE (E.v c3)) ?_
 intro ed hw
 have n8:=hid hw
 clear hw
 refine qmy rfl 40 1 (.agg (x.ak.cells).toArray) (fun E hb=>Ak rfl Tryz.underlying37 rfl (off:=116) (cs:=(x.ak.cells)) (by rw [St.len HOKx.o.ak];kernel_rfl) ((E.q 41 0 n8.out).1 hb) (Cs.seg (HB2.o.mod c7.out (fun h=>h)) HLNx.o 6 rfl rfl)) ?_
 intro ee hw
 have o5:=hid hw
 clear hw
 refine qmy rfl 40 2 (.pointer (some ⟨w.heap.size+1,116,none⟩)) (fun E hb=>Ae rfl C1 rfl aE (E.v c4)) ?_
 intro eg hw
 have o6:=hid hw
 clear hw
 refine qmy rfl 40 3 (.agg (y.ak.cells).toArray) (fun E hb=>Ak rfl Tryz.underlying37 rfl (off:=116) (cs:=(y.ak.cells)) (by rw [St.len HOKy.o.ak];kernel_rfl) ((E.q 43 0 o6.out).1 hb) (Cs.seg (HB3.o.mod c7.out (fun h=>h)) HLNy.o 6 rfl rfl)) ?_
 intro eh hw
 have o7:=hid hw
 clear hw
 refine qmy rfl 40 4 (.bool (eqb x.ak y.ak)) (fun E hb=>Aq rfl ((E.q 42 2 o5.out).1 hb) ((E.q 44 0 o7.out).1 hb) (agg_guardE _ _ _ _ _ _ aE _) (EqW.run eqW_ack (ki_st HOKx.o.ak) (ki_st HOKy.o.ak) (st_iff HOKx.o.ak HOKy.o.ak) _) rfl) ?_
 intro ei hw
 have o8:=hid hw
 clear hw
 obtain ⟨pb46,hb46⟩:∃ b:Bool,b=(pb39 && (eqb x.ak y.ak)):=⟨_,rfl⟩
 have HB46:=hid hb46
 clear hb46
 refine QSeq.pure rfl (.bool pb46) (fun E=>A5 rfl (E.d 40 5) rfl rfl ((Be fun hb=>(E.q 45 0 o8.out).1 hb).trans (congrArg Value.bool HB46.o.symm))) ?_
 refine qmv rfl 46 0 ?_
 refine qmy rfl 47 0 (.pointer (some ⟨w.heap.size,154,none⟩)) (fun E hb=>Ae rfl C1 rfl aE (E.v c3)) ?_
 intro ej hw
 have o9:=hid hw
 clear hw
 refine qmy rfl 47 1 (.int .i64 x.ep) (fun E hb=>Af rfl B9 rfl ((E.q 48 0 o9.out).1 hb) (AD (HB2.o.mod c7.out (fun h=>h)) HLNx.o 7 rfl (o:=154) (k:=0) rfl rfl rfl)) ?_
 intro eo hw
 have p5:=hid hw
 clear hw
 refine qmy rfl 47 2 (.pointer (some ⟨w.heap.size+1,154,none⟩)) (fun E hb=>Ae rfl C1 rfl aE (E.v c4)) ?_
 intro eq hw
 have p6:=hid hw
 clear hw
 refine qmy rfl 47 3 (.int .i64 y.ep) (fun E hb=>Af rfl B9 rfl ((E.q 50 0 p6.out).1 hb) (AD (HB3.o.mod c7.out (fun h=>h)) HLNy.o 7 rfl (o:=154) (k:=0) rfl rfl rfl)) ?_
 intro er hw
 have p7:=hid hw
 clear hw
 refine qmy rfl 47 4 (.bool (x.ep == y.ep)) (fun E hb=>ex_bin rfl ((E.q 49 2 p5.out).1 hb) ((E.q 51 0 p7.out).1 hb) (Ai _ _ _ _ _ _) (Bs _ _ _ B9)) ?_
 intro et hw
 have p8:=hid hw
 clear hw
 obtain ⟨pb53,hb53⟩:∃ b:Bool,b=(pb46 && (x.ep == y.ep)):=⟨_,rfl⟩
 have HB53:=hid hb53
 clear hb53
 refine QSeq.pure rfl (.bool pb53) (fun E=>A5 rfl (E.d 47 5) rfl rfl ((Be fun hb=>(E.q 52 0 p8.out).1 hb).trans (congrArg Value.bool HB53.o.symm))) ?_
 refine qmv rfl 53 0 ?_
 refine qmy rfl 54 0 (.pointer (some ⟨w.heap.size,155,none⟩)) (fun E hb=>Ae rfl C1 rfl aE (E.v c3)) ?_
 intro eu hw
 have p9:=hid hw
 clear hw
 refine qmy rfl 54 1 (.int .i64 x.rn) (fun E hb=>Af rfl B9 rfl ((E.q 55 0 p9.out).1 hb) (AD (HB2.o.mod c7.out (fun h=>h)) HLNx.o 8 rfl (o:=155) (k:=0) rfl rfl rfl)) ?_
 intro ew hw
 have q6:=hid hw
 clear hw
 refine qmy rfl 54 2 (.pointer (some ⟨w.heap.size+1,155,none⟩)) (fun E hb=>Ae rfl C1 rfl aE (E.v c4)) ?_
 intro ex hw
 have q7:=hid hw
 clear hw
 refine qmy rfl 54 3 (.int .i64 y.rn) (fun E hb=>Af rfl B9 rfl ((E.q 57 0 q7.out).1 hb) (AD (HB3.o.mod c7.out (fun h=>h)) HLNy.o 8 rfl (o:=155) (k:=0) rfl rfl rfl)) ?_
 intro ey hw
 have q8:=hid hw
 clear hw
 refine qmy rfl 54 4 (.bool (x.rn == y.rn)) (fun E hb=>ex_bin rfl ((E.q 56 2 q6.out).1 hb) ((E.q 58 0 q8.out).1 hb) (Ai _ _ _ _ _ _) (Bs _ _ _ B9)) ?_
 intro ez hw
 have q9:=hid hw
 clear hw
 obtain ⟨pb60,hb60⟩:∃ b:Bool,b=(pb53 && (x.rn == y.rn)):=⟨_,rfl⟩
 have HB60:=hid hb60
 clear hb60
 refine QSeq.pure rfl (.bool pb60) (fun E=>A5 rfl (E.d 54 5) rfl rfl ((Be fun hb=>(E.q 59 0 q9.out).1 hb).trans (congrArg Value.bool HB60.o.symm))) ?_
 refine qmv rfl 60 0 ?_
 refine qmy rfl 61 0 (.pointer (some ⟨w.heap.size,156,none⟩)) (fun E hb=>Ae rfl C1 rfl aE (E.v c3)) ?_
 intro fc hw
 have r5:=hid hw
 clear hw
 refine qmy rfl 61 1 (.int .u64 (x.tm:Nat)) (fun E hb=>Af rfl E0 rfl ((E.q 62 0 r5.out).1 hb) (AD (HB2.o.mod c7.out (fun h=>h)) HLNx.o 9 rfl (o:=156) (k:=0) rfl rfl rfl)) ?_
 intro fe hw
 have r6:=hid hw
 clear hw
 refine qmy rfl 61 2 (.pointer (some ⟨w.heap.size+1,156,none⟩)) (fun E hb=>Ae rfl C1 rfl aE (E.v c4)) ?_
 intro ff hw
 have r7:=hid hw
 clear hw
 refine qmy rfl 61 3 (.int .u64 (y.tm:Nat)) (fun E hb=>Af rfl E0 rfl ((E.q 64 0 r7.out).1 hb) (AD (HB3.o.mod c7.out (fun h=>h)) HLNy.o 9 rfl (o:=156) (k:=0) rfl rfl rfl)) ?_
 intro fg hw
 have r8:=hid hw
 clear hw
 refine qmy rfl 61 4 (.bool (((x.tm:Nat):Int) == ((y.tm:Nat):Int))) (fun E hb=>ex_bin rfl ((E.q 63 2 r6.out).1 hb) ((E.q 65 0 r8.out).1 hb) (Ai _ _ _ _ _ _) (Bs _ _ _ E0)) ?_
 intro fh hw
 have r9:=hid hw
 clear hw
 obtain ⟨pb67,hb67⟩:∃ b:Bool,b=(pb60 && (((x.tm:Nat):Int) == ((y.tm:Nat):Int))):=⟨_,rfl⟩
 have HB67:=hid hb67
 clear hb67
 refine QSeq.pure rfl (.bool pb67) (fun E=>A5 rfl (E.d 61 5) rfl rfl ((Be fun hb=>(E.q 66 0 r9.out).1 hb).trans (congrArg Value.bool HB67.o.symm))) ?_
 refine qmv rfl 67 0 ?_
 refine qmy rfl 68 0 (.pointer (some ⟨w.heap.size,157,none⟩)) (fun E hb=>Ae rfl C1 rfl aE (E.v c3)) ?_
 intro fi hw
 have s0:=hid hw
 clear hw
 refine qmy rfl 68 1 (.agg (xc10).toArray) (fun E hb=>Ak rfl Tryz.underlying40 rfl (off:=157) (cs:=(xc10)) (by rw [HCx10.o];kernel_rfl) ((E.q 69 0 s0.out).1 hb) (Cs.seg (HB2.o.mod c7.out (fun h=>h)) HLNx.o 10 rfl rfl)) ?_
 intro fj hw
 have s5:=hid hw
 clear hw
 refine qmy rfl 68 2 (.pointer (some ⟨w.heap.size+1,157,none⟩)) (fun E hb=>Ae rfl C1 rfl aE (E.v c4)) ?_
 intro fk hw
 have s6:=hid hw
 clear hw
 refine qmy rfl 68 3 (.agg (yc10).toArray) (fun E hb=>Ak rfl Tryz.underlying40 rfl (off:=157) (cs:=(yc10)) (by rw [HCy10.o];kernel_rfl) ((E.q 71 0 s6.out).1 hb) (Cs.seg (HB3.o.mod c7.out (fun h=>h)) HLNy.o 10 rfl rfl)) ?_
 intro fm hw
 have s7:=hid hw
 clear hw
 refine AH (b:=pb67) rfl (.bool (eqb x.pm y.pm)) (args:=#[.agg (xc10).toArray,.agg (yc10).toArray]) (fun E=>((Ag rfl rfl (E.sz 73 aM) (E.d 68 4)).trans (beq_t _))) rfl Tryz.func61 (fun E hb=>Ar ((E.q 70 2 s5.out).1 hb) ((E.q 72 0 s7.out).1 hb)) (fun hb=>Eq_Pm _ _ _ _ x.pm y.pm _ (bq.out.mod c7.out iA) (Hx10.o.mod c7.out iA) bO bN) ?_
 intro fo fp hw hm
 have s8:=hid hw
 clear hw
 have fq:=hm.size
 have ch:=hid hm
 have c9:=hid (c7.out.goE hm)
 clear hm c7
 obtain ⟨pb74,hb74⟩:∃ b:Bool,b=(pb67 && (eqb x.pm y.pm)):=⟨_,rfl⟩
 have HB74:=hid hb74
 clear hb74
 refine QSeq.pure rfl (.bool pb74) (fun E=>A5 rfl (E.d 68 5) rfl rfl ((Be fun hb=>(E.q 73 0 s8.out).1 hb).trans (congrArg Value.bool HB74.o.symm))) ?_
 refine qmv rfl 74 0 ?_
 refine qmy rfl 75 0 (.pointer (some ⟨w.heap.size,163,none⟩)) (fun E hb=>Ae rfl C1 rfl aE (E.v c3)) ?_
 intro ft hw
 have t0:=hid hw
 clear hw
 refine qmy rfl 75 1 (.agg (xc11).toArray) (fun E hb=>Ak rfl D4 rfl (off:=163) (cs:=(xc11)) (by rw [HCx11.o];kernel_rfl) ((E.q 76 0 t0.out).1 hb) (Cs.seg (HB2.o.mod c9.out (fun h=>h)) HLNx.o 11 rfl rfl)) ?_
 intro fv hw
 have t1:=hid hw
 clear hw
 refine qmy rfl 75 2 (.pointer (some ⟨w.heap.size+1,163,none⟩)) (fun E hb=>Ae rfl C1 rfl aE (E.v c4)) ?_
 intro fw hw
 have t2:=hid hw
 clear hw
 refine qmy rfl 75 3 (.agg (yc11).toArray) (fun E hb=>Ak rfl D4 rfl (off:=163) (cs:=(yc11)) (by rw [HCy11.o];kernel_rfl) ((E.q 78 0 t2.out).1 hb) (Cs.seg (HB3.o.mod c9.out (fun h=>h)) HLNy.o 11 rfl rfl)) ?_
 intro fx hw
 have t8:=hid hw
 clear hw
 refine AH (b:=pb74) rfl (.bool (eqb x.pr y.pr)) (args:=#[.agg (xc11).toArray,.agg (yc11).toArray]) (fun E=>((Ag rfl rfl (E.sz 80 aM) (E.d 75 4)).trans (beq_t _))) rfl Tryz.func62 (fun E hb=>Ar ((E.q 77 2 t1.out).1 hb) ((E.q 79 0 t8.out).1 hb)) (fun hb=>Eq_Pr _ _ _ _ x.pr y.pr _ (br.out.mod c9.out iA) (d7.out.mod c9.out iA) bO bN) ?_
 intro fy fz hw hm
 have t9:=hid hw
 clear hw
 have gc:=hm.size
 have cj:=hid hm
 have c8:=hid (c9.out.goE hm)
 clear hm c9
 obtain ⟨pb81,hb81⟩:∃ b:Bool,b=(pb74 && (eqb x.pr y.pr)):=⟨_,rfl⟩
 have HB81:=hid hb81
 clear hb81
 refine QSeq.pure rfl (.bool pb81) (fun E=>A5 rfl (E.d 75 5) rfl rfl ((Be fun hb=>(E.q 80 0 t9.out).1 hb).trans (congrArg Value.bool HB81.o.symm))) ?_
 refine qmv rfl 81 0 ?_
 refine qmy rfl 82 0 (.pointer (some ⟨w.heap.size,174,none⟩)) (fun E hb=>Ae rfl C1 rfl aE (E.v c3)) ?_
 intro gd hw
 have u0:=hid hw
 clear hw
 refine qmy rfl 82 1 (.agg (x.vt.cells).toArray) (fun E hb=>Ak rfl Tryz.underlying49 rfl (off:=174) (cs:=(x.vt.cells)) (by rw [Vt.len HOKx.o.vt];kernel_rfl) ((E.q 83 0 u0.out).1 hb) (Cs.seg (HB2.o.mod c8.out (fun h=>h)) HLNx.o 12 rfl rfl)) ?_
 intro ge hw
 have u1:=hid hw
 clear hw
 refine qmy rfl 82 2 (.pointer (some ⟨w.heap.size+1,174,none⟩)) (fun E hb=>Ae rfl C1 rfl aE (E.v c4)) ?_
 intro gf hw
 have u2:=hid hw
 clear hw
 refine qmy rfl 82 3 (.agg (y.vt.cells).toArray) (fun E hb=>Ak rfl Tryz.underlying49 rfl (off:=174) (cs:=(y.vt.cells)) (by rw [Vt.len HOKy.o.vt];kernel_rfl) ((E.q 85 0 u2.out).1 hb) (Cs.seg (HB3.o.mod c8.out (fun h=>h)) HLNy.o 12 rfl rfl)) ?_
 intro gg hw
 have u3:=hid hw
 clear hw
 refine qmy rfl 82 4 (.bool (eqb x.vt y.vt)) (fun E hb=>Aq rfl ((E.q 84 2 u1.out).1 hb) ((E.q 86 0 u3.out).1 hb) (agg_guardE _ _ _ _ _ _ aE _) (EqW.run eqW_vote (ki_vt HOKx.o.vt) (ki_vt HOKy.o.vt) (vt_iff HOKx.o.vt HOKy.o.vt) _) rfl) ?_
 intro gh hw
 have u4:=hid hw
 clear hw
 obtain ⟨pb88,hb88⟩:∃ b:Bool,b=(pb81 && (eqb x.vt y.vt)):=⟨_,rfl⟩
 have HB88:=hid hb88
 clear hb88
 refine QSeq.pure rfl (.bool pb88) (fun E=>A5 rfl (E.d 82 5) rfl rfl ((Be fun hb=>(E.q 87 0 u4.out).1 hb).trans (congrArg Value.bool HB88.o.symm))) ?_
 refine qmv rfl 88 0 ?_
 refine qmy rfl 89 0 (.pointer (some ⟨w.heap.size,212,none⟩)) (fun E hb=>Ae rfl C1 rfl aE (E.v c3)) ?_
 intro gi hw
 have u5:=hid hw
 clear hw
 refine qmy rfl 89 1 (.int .i64 x.ix) (fun E hb=>Af rfl B9 rfl ((E.q 90 0 u5.out).1 hb) (AD (HB2.o.mod c8.out (fun h=>h)) HLNx.o 13 rfl (o:=212) (k:=0) rfl rfl rfl)) ?_
 intro gj hw
 have u6:=hid hw
 clear hw
 refine qmy rfl 89 2 (.pointer (some ⟨w.heap.size+1,212,none⟩)) (fun E hb=>Ae rfl C1 rfl aE (E.v c4)) ?_
 intro gk hw
 have u7:=hid hw
 clear hw
 refine qmy rfl 89 3 (.int .i64 y.ix) (fun E hb=>Af rfl B9 rfl ((E.q 92 0 u7.out).1 hb) (AD (HB3.o.mod c8.out (fun h=>h)) HLNy.o 13 rfl (o:=212) (k:=0) rfl rfl rfl)) ?_
 intro gm hw
 have u9:=hid hw
 clear hw
 refine qmy rfl 89 4 (.bool (x.ix == y.ix)) (fun E hb=>ex_bin rfl ((E.q 91 2 u6.out).1 hb) ((E.q 93 0 u9.out).1 hb) (Ai _ _ _ _ _ _) (Bs _ _ _ B9)) ?_
 intro gn hw
 have v5:=hid hw
 clear hw
 obtain ⟨pb95,hb95⟩:∃ b:Bool,b=(pb88 && (x.ix == y.ix)):=⟨_,rfl⟩
 have HB95:=hid hb95
 clear hb95
 refine QSeq.pure rfl (.bool pb95) (fun E=>A5 rfl (E.d 89 5) rfl rfl ((Be fun hb=>(E.q 94 0 v5.out).1 hb).trans (congrArg Value.bool HB95.o.symm))) ?_
 refine qmv rfl 95 0 ?_
 refine qmy rfl 96 0 (.pointer (some ⟨w.heap.size,213,none⟩)) (fun E hb=>Ae rfl C1 rfl aE (E.v c3)) ?_
 intro gq hw
 have v6:=hid hw
 clear hw
 refine qmy rfl 96 1 (.agg (x.en.cells).toArray) (fun E hb=>Ak rfl Tryz.underlying51 rfl (off:=213) (cs:=(x.en.cells)) (by rw [En.len HOKx.o.en];kernel_rfl) ((E.q 97 0 v6.out).1 hb) (Cs.seg (HB2.o.mod c8.out (fun h=>h)) HLNx.o 14 rfl rfl)) ?_
 intro gr hw
 have v7:=hid hw
 clear hw
 refine qmy rfl 96 2 (.pointer (some ⟨w.heap.size+1,213,none⟩)) (fun E hb=>Ae rfl C1 rfl aE (E.v c4)) ?_
 intro gu hw
 have v8:=hid hw
 clear hw
 refine qmy rfl 96 3 (.agg (y.en.cells).toArray) (fun E hb=>Ak rfl Tryz.underlying51 rfl (off:=213) (cs:=(y.en.cells)) (by rw [En.len HOKy.o.en];kernel_rfl) ((E.q 99 0 v8.out).1 hb) (Cs.seg (HB3.o.mod c8.out (fun h=>h)) HLNy.o 14 rfl rfl)) ?_
 intro gv hw
 have x4:=hid hw
 clear hw
 refine qmy rfl 96 4 (.bool (eqb x.en y.en)) (fun E hb=>Aq rfl ((E.q 98 2 v7.out).1 hb) ((E.q 100 0 x4.out).1 hb) (agg_guardE _ _ _ _ _ _ aE _) (EqW.run eqW_entry (ki_en HOKx.o.en) (ki_en HOKy.o.en) (en_iff HOKx.o.en HOKy.o.en) _) rfl) ?_
 intro gx hw
 have x5:=hid hw
 clear hw
 obtain ⟨pb102,hb102⟩:∃ b:Bool,b=(pb95 && (eqb x.en y.en)):=⟨_,rfl⟩
 have HB102:=hid hb102
 clear hb102
 refine QSeq.pure rfl (.bool pb102) (fun E=>A5 rfl (E.d 96 5) rfl rfl ((Be fun hb=>(E.q 101 0 x5.out).1 hb).trans (congrArg Value.bool HB102.o.symm))) ?_
 refine qmv rfl 102 0 ?_
 refine qmy rfl 103 0 (.pointer (some ⟨w.heap.size,248,none⟩)) (fun E hb=>Ae rfl C1 rfl aE (E.v c3)) ?_
 intro gy hw
 have x6:=hid hw
 clear hw
 refine qmy rfl 103 1 (.agg (xc15).toArray) (fun E hb=>Ak rfl Tryz.underlying54 rfl (off:=248) (cs:=(xc15)) (by rw [HCx15.o];kernel_rfl) ((E.q 104 0 x6.out).1 hb) (Cs.seg (HB2.o.mod c8.out (fun h=>h)) HLNx.o 15 rfl rfl)) ?_
 intro gz hw
 have x7:=hid hw
 clear hw
 refine qmy rfl 103 2 (.pointer (some ⟨w.heap.size+1,248,none⟩)) (fun E hb=>Ae rfl C1 rfl aE (E.v c4)) ?_
 intro ia hw
 have x8:=hid hw
 clear hw
 refine qmy rfl 103 3 (.agg (yc15).toArray) (fun E hb=>Ak rfl Tryz.underlying54 rfl (off:=248) (cs:=(yc15)) (by rw [HCy15.o];kernel_rfl) ((E.q 106 0 x8.out).1 hb) (Cs.seg (HB3.o.mod c8.out (fun h=>h)) HLNy.o 15 rfl rfl)) ?_
 intro ib hw
 have x9:=hid hw
 clear hw
 refine AH (b:=pb102) rfl (.bool (eqb x.op y.op)) (args:=#[.agg (xc15).toArray,.agg (yc15).toArray]) (fun E=>((Ag rfl rfl (E.sz 108 aM) (E.d 103 4)).trans (beq_t _))) rfl Tryz.func63 (fun E hb=>Ar ((E.q 105 2 x7.out).1 hb) ((E.q 107 0 x9.out).1 hb)) (fun hb=>Eq_Op _ _ _ _ x.op y.op _ (bt.out.mod c8.out iA) (bx.out.mod c8.out iA) bO bN) ?_
 intro ic ig hw hm
 have y0:=hid hw
 clear hw
 have ii:=hm.size
 have ck:=hid hm
 have c6:=hid (c8.out.goE hm)
 clear hm c8
 obtain ⟨pb109,hb109⟩:∃ b:Bool,b=(pb102 && (eqb x.op y.op)):=⟨_,rfl⟩
 have HB109:=hid hb109
 clear hb109
 refine QSeq.pure rfl (.bool pb109) (fun E=>A5 rfl (E.d 103 5) rfl rfl ((Be fun hb=>(E.q 108 0 y0.out).1 hb).trans (congrArg Value.bool HB109.o.symm))) ?_
 refine qmv rfl 109 0 ?_
 refine qmy rfl 110 0 (.pointer (some ⟨w.heap.size,282,none⟩)) (fun E hb=>Ae rfl C1 rfl aE (E.v c3)) ?_
 intro ij hw
 have y5:=hid hw
 clear hw
 refine qmy rfl 110 1 (.agg (x.dn.cells).toArray) (fun E hb=>Ak rfl Tryz.underlying56 rfl (off:=282) (cs:=(x.dn.cells)) aE ((E.q 111 0 y5.out).1 hb) (Cs.seg (HB2.o.mod c6.out (fun h=>h)) HLNx.o 16 rfl rfl)) ?_
 intro ik hw
 have y6:=hid hw
 clear hw
 refine qmy rfl 110 2 (.pointer (some ⟨w.heap.size+1,282,none⟩)) (fun E hb=>Ae rfl C1 rfl aE (E.v c4)) ?_
 intro il hw
 have y7:=hid hw
 clear hw
 refine qmy rfl 110 3 (.agg (y.dn.cells).toArray) (fun E hb=>Ak rfl Tryz.underlying56 rfl (off:=282) (cs:=(y.dn.cells)) aE ((E.q 113 0 y7.out).1 hb) (Cs.seg (HB3.o.mod c6.out (fun h=>h)) HLNy.o 16 rfl rfl)) ?_
 intro im hw
 have y8:=hid hw
 clear hw
 refine qmy rfl 110 4 (.bool (eqb x.dn y.dn)) (fun E hb=>Aq rfl ((E.q 112 2 y6.out).1 hb) ((E.q 114 0 y8.out).1 hb) (agg_guardE _ _ _ _ _ _ aE _) (EqW.run eqW_deny (ki_dn _) (ki_dn _) (dn_iff HOKx.o.dn HOKy.o.dn) _) rfl) ?_
 intro io hw
 have z0:=hid hw
 clear hw
 obtain ⟨pb116,hb116⟩:∃ b:Bool,b=(pb109 && (eqb x.dn y.dn)):=⟨_,rfl⟩
 have HB116:=hid hb116
 clear hb116
 refine QSeq.pure rfl (.bool pb116) (fun E=>A5 rfl (E.d 110 5) rfl rfl ((Be fun hb=>(E.q 115 0 z0.out).1 hb).trans (congrArg Value.bool HB116.o.symm))) ?_
 refine qmv rfl 116 0 ?_
 refine qmy rfl 117 0 (.pointer (some ⟨w.heap.size,286,none⟩)) (fun E hb=>Ae rfl C1 rfl aE (E.v c3)) ?_
 intro ip hw
 have z3:=hid hw
 clear hw
 refine qmy rfl 117 1 (.string x.rp) (fun E hb=>Af rfl Tryz.underlying9 rfl ((E.q 118 0 z3.out).1 hb) (AD (HB2.o.mod c6.out (fun h=>h)) HLNx.o 17 rfl (o:=286) (k:=0) rfl rfl rfl)) ?_
 intro iq hw
 have z4:=hid hw
 clear hw
 refine qmy rfl 117 2 (.pointer (some ⟨w.heap.size+1,286,none⟩)) (fun E hb=>Ae rfl C1 rfl aE (E.v c4)) ?_
 intro ir hw
 have z5:=hid hw
 clear hw
 refine qmy rfl 117 3 (.string y.rp) (fun E hb=>Af rfl Tryz.underlying9 rfl ((E.q 120 0 z5.out).1 hb) (AD (HB3.o.mod c6.out (fun h=>h)) HLNy.o 17 rfl (o:=286) (k:=0) rfl rfl rfl)) ?_
 intro iu hw
 have z6:=hid hw
 clear hw
 refine qmy rfl 117 4 (.bool (eqb x.rp y.rp)) (fun E hb=>Aq rfl ((E.q 119 2 z4.out).1 hb) ((E.q 121 0 z6.out).1 hb) (guard_strE _) (run_eql_strE _) rfl) ?_
 intro iv hw
 have z7:=hid hw
 clear hw
 obtain ⟨pb123,hb123⟩:∃ b:Bool,b=(pb116 && (eqb x.rp y.rp)):=⟨_,rfl⟩
 have HB123:=hid hb123
 clear hb123
 refine QSeq.pure rfl (.bool pb123) (fun E=>A5 rfl (E.d 117 5) rfl rfl ((Be fun hb=>(E.q 122 0 z7.out).1 hb).trans (congrArg Value.bool HB123.o.symm))) ?_
 refine qmv rfl 123 0 ?_
 refine qmy rfl 124 0 (.pointer (some ⟨w.heap.size,287,none⟩)) (fun E hb=>Ae rfl C1 rfl aE (E.v c3)) ?_
 intro iw hw
 have z9:=hid hw
 clear hw
 refine qmy rfl 124 1 (.pointer (some ⟨w.heap.size,287,none⟩)) (fun E hb=>Ae rfl D9 rfl aE ((E.q 125 0 z9.out).1 hb)) ?_
 intro iy hw
 have aa:=hid hw
 clear hw
 refine qmy rfl 124 2 (.int .i64 x.dc.ep) (fun E hb=>Af rfl B9 rfl ((E.q 126 0 aa.out).1 hb) (AD (HB2.o.mod c6.out (fun h=>h)) HLNx.o 18 rfl (o:=287) (k:=0) rfl rfl rfl)) ?_
 intro iz hw
 have ac:=hid hw
 clear hw
 refine qmy rfl 124 3 (.pointer (some ⟨w.heap.size+1,287,none⟩)) (fun E hb=>Ae rfl C1 rfl aE (E.v c4)) ?_
 intro ja hw
 have ae:=hid hw
 clear hw
 refine qmy rfl 124 4 (.pointer (some ⟨w.heap.size+1,287,none⟩)) (fun E hb=>Ae rfl D9 rfl aE ((E.q 128 0 ae.out).1 hb)) ?_
 intro jb hw
 have af:=hid hw
 clear hw
 refine qmy rfl 124 5 (.int .i64 y.dc.ep) (fun E hb=>Af rfl B9 rfl ((E.q 129 0 af.out).1 hb) (AD (HB3.o.mod c6.out (fun h=>h)) HLNy.o 18 rfl (o:=287) (k:=0) rfl rfl rfl)) ?_
 intro jc hw
 have ag:=hid hw
 clear hw
 refine qmy rfl 124 6 (.bool (x.dc.ep == y.dc.ep)) (fun E hb=>ex_bin rfl ((E.q 127 3 ac.out).1 hb) ((E.q 130 0 ag.out).1 hb) (Ai _ _ _ _ _ _) (Bs _ _ _ B9)) ?_
 intro jd hw
 have ah:=hid hw
 clear hw
 obtain ⟨pb132,hb132⟩:∃ b:Bool,b=(pb123 && (x.dc.ep == y.dc.ep)):=⟨_,rfl⟩
 have HB132:=hid hb132
 clear hb132
 refine QSeq.pure rfl (.bool pb132) (fun E=>A5 rfl (E.d 124 7) rfl rfl ((Be fun hb=>(E.q 131 0 ah.out).1 hb).trans (congrArg Value.bool HB132.o.symm))) ?_
 refine qmv rfl 132 0 ?_
 refine qmy rfl 133 0 (.pointer (some ⟨w.heap.size,287,none⟩)) (fun E hb=>Ae rfl C1 rfl aE (E.v c3)) ?_
 intro je hw
 have aj:=hid hw
 clear hw
 refine qmy rfl 133 1 (.pointer (some ⟨w.heap.size,288,none⟩)) (fun E hb=>Ae rfl D9 rfl aE ((E.q 134 0 aj.out).1 hb)) ?_
 intro jf hw
 have am:=hid hw
 clear hw
 refine qmy rfl 133 2 (.int .i64 x.dc.rn) (fun E hb=>Af rfl B9 rfl ((E.q 135 0 am.out).1 hb) (AD (HB2.o.mod c6.out (fun h=>h)) HLNx.o 18 rfl (o:=287) (k:=1) rfl rfl rfl)) ?_
 intro jg hw
 have ap:=hid hw
 clear hw
 refine qmy rfl 133 3 (.pointer (some ⟨w.heap.size+1,287,none⟩)) (fun E hb=>Ae rfl C1 rfl aE (E.v c4)) ?_
 intro jh hw
 have aq:=hid hw
 clear hw
 refine qmy rfl 133 4 (.pointer (some ⟨w.heap.size+1,288,none⟩)) (fun E hb=>Ae rfl D9 rfl aE ((E.q 137 0 aq.out).1 hb)) ?_
 intro ji hw
 have ar:=hid hw
 clear hw
 refine qmy rfl 133 5 (.int .i64 y.dc.rn) (fun E hb=>Af rfl B9 rfl ((E.q 138 0 ar.out).1 hb) (AD (HB3.o.mod c6.out (fun h=>h)) HLNy.o 18 rfl (o:=287) (k:=1) rfl rfl rfl)) ?_
 intro jj hw
 have au:=hid hw
 clear hw
 refine qmy rfl 133 6 (.bool (x.dc.rn == y.dc.rn)) (fun E hb=>ex_bin rfl ((E.q 136 3 ap.out).1 hb) ((E.q 139 0 au.out).1 hb) (Ai _ _ _ _ _ _) (Bs _ _ _ B9)) ?_
 intro jk hw
 have av:=hid hw
 clear hw
 obtain ⟨pb141,hb141⟩:∃ b:Bool,b=(pb132 && (x.dc.rn == y.dc.rn)):=⟨_,rfl⟩
 have HB141:=hid hb141
 clear hb141
 refine QSeq.pure rfl (.bool pb141) (fun E=>A5 rfl (E.d 133 7) rfl rfl ((Be fun hb=>(E.q 140 0 av.out).1 hb).trans (congrArg Value.bool HB141.o.symm))) ?_
 refine qmv rfl 141 0 ?_
 refine qmy rfl 142 0 (.pointer (some ⟨w.heap.size,287,none⟩)) (fun E hb=>Ae rfl C1 rfl aE (E.v c3)) ?_
 intro jl hw
 have aw:=hid hw
 clear hw
 refine qmy rfl 142 1 (.pointer (some ⟨w.heap.size,289,none⟩)) (fun E hb=>Ae rfl D9 rfl aE ((E.q 143 0 aw.out).1 hb)) ?_
 intro jm hw
 have ax:=hid hw
 clear hw
 refine qmy rfl 142 2 (.agg #[.int .i64 x.dc.ba.ep,.int .u64 (x.dc.ba.tm:Nat),Value.slice axdp x.dc.ba.ps.length kxdp,Value.slice axdo x.dc.ba.os.length kxdo,Value.slice axdt x.dc.ba.ts.length kxdt]) (fun E hb=>Ak rfl C7 rfl (off:=289) (cs:=[.int .i64 x.dc.ba.ep,.int .u64 (x.dc.ba.tm:Nat),Value.slice axdp x.dc.ba.ps.length kxdp,Value.slice axdo x.dc.ba.os.length kxdo,Value.slice axdt x.dc.ba.ts.length kxdt]) aE ((E.q 144 0 ax.out).1 hb) (Cs.segA (HB2.o.mod c6.out (fun h=>h)) HLNx.o 18 rfl (o:=287) (k:=2) rfl rfl rfl)) ?_
 intro jn hw
 have ay:=hid hw
 clear hw
 refine qmy rfl 142 3 (.pointer (some ⟨w.heap.size+1,287,none⟩)) (fun E hb=>Ae rfl C1 rfl aE (E.v c4)) ?_
 intro jo hw
 have az:=hid hw
 clear hw
 refine qmy rfl 142 4 (.pointer (some ⟨w.heap.size+1,289,none⟩)) (fun E hb=>Ae rfl D9 rfl aE ((E.q 146 0 az.out).1 hb)) ?_
 intro jp hw
 have bb:=hid hw
 clear hw
 refine qmy rfl 142 5 (.agg #[.int .i64 y.dc.ba.ep,.int .u64 (y.dc.ba.tm:Nat),Value.slice aydp y.dc.ba.ps.length kydp,Value.slice aydo y.dc.ba.os.length kydo,Value.slice aydt y.dc.ba.ts.length kydt]) (fun E hb=>Ak rfl C7 rfl (off:=289) (cs:=[.int .i64 y.dc.ba.ep,.int .u64 (y.dc.ba.tm:Nat),Value.slice aydp y.dc.ba.ps.length kydp,Value.slice aydo y.dc.ba.os.length kydo,Value.slice aydt y.dc.ba.ts.length kydt]) aE ((E.q 147 0 bb.out).1 hb) (Cs.segA (HB3.o.mod c6.out (fun h=>h)) HLNy.o 18 rfl (o:=287) (k:=2) rfl rfl rfl)) ?_
 intro jq hw
 have bc:=hid hw
 clear hw
 refine AH (b:=pb141) rfl (.bool (eqb x.dc.ba y.dc.ba)) (args:=#[.agg #[.int .i64 x.dc.ba.ep,.int .u64 (x.dc.ba.tm:Nat),Value.slice axdp x.dc.ba.ps.length kxdp,Value.slice axdo x.dc.ba.os.length kxdo,Value.slice axdt x.dc.ba.ts.length kxdt],.agg #[.int .i64 y.dc.ba.ep,.int .u64 (y.dc.ba.tm:Nat),Value.slice aydp y.dc.ba.ps.length kydp,Value.slice aydo y.dc.ba.os.length kydo,Value.slice aydt y.dc.ba.ts.length kydt]]) (fun E=>((Ag rfl rfl (E.sz 147 aM) (E.d 142 6)).trans (beq_t _))) rfl Tryz.func64 (fun E hb=>Ar ((E.q 145 3 ay.out).1 hb) ((E.q 148 0 bc.out).1 hb)) (fun hb=>Eq_Ba R R2 _ _ x.dc.ba y.dc.ba _ ⟨_,_,_,rfl,HODx.o.2.2,(d6.out.mod c6.out iA),(bu.out.mod c6.out iA),(bw.out.mod c6.out iA)⟩ ⟨_,_,_,rfl,HODy.o.2.2,(bz.out.mod c6.out iA),(cd.out.mod c6.out iA),(d8.out.mod c6.out iA)⟩ bO bN) ?_
 intro jr js hw hm
 have bf:=hid hw
 clear hw
 have jt:=hm.size
 have co:=hid hm
 have d5:=hid (c6.out.goE hm)
 clear hm c6
 obtain ⟨pb150,hb150⟩:∃ b:Bool,b=(pb141 && (eqb x.dc.ba y.dc.ba)):=⟨_,rfl⟩
 have HB150:=hid hb150
 clear hb150
 refine QSeq.pure rfl (.bool pb150) (fun E=>A5 rfl (E.d 142 7) rfl rfl ((Be fun hb=>(E.q 149 0 bf.out).1 hb).trans (congrArg Value.bool HB150.o.symm))) ?_
 refine qmv rfl 150 0 ?_
 refine qmy rfl 151 0 (.pointer (some ⟨w.heap.size,287,none⟩)) (fun E hb=>Ae rfl C1 rfl aE (E.v c3)) ?_
 intro ju hw
 have bg:=hid hw
 clear hw
 refine qmy rfl 151 1 (.pointer (some ⟨w.heap.size,294,none⟩)) (fun E hb=>Ae rfl D9 rfl aE ((E.q 152 0 bg.out).1 hb)) ?_
 intro jv hw
 have bh:=hid hw
 clear hw
 refine qmy rfl 151 2 (.slice axdl x.dc.l.length kxdl) (fun E hb=>Af rfl Tryz.underlying57 rfl ((E.q 153 0 bh.out).1 hb) (AD (HB2.o.mod d5.out (fun h=>h)) HLNx.o 18 rfl (o:=287) (k:=7) rfl rfl rfl)) ?_
 intro jw hw
 have bj:=hid hw
 clear hw
 refine qmy rfl 151 3 (.pointer (some ⟨w.heap.size+1,287,none⟩)) (fun E hb=>Ae rfl C1 rfl aE (E.v c4)) ?_
 intro jx hw
 have bk:=hid hw
 clear hw
 refine qmy rfl 151 4 (.pointer (some ⟨w.heap.size+1,294,none⟩)) (fun E hb=>Ae rfl D9 rfl aE ((E.q 155 0 bk.out).1 hb)) ?_
 intro jy hw
 have bl:=hid hw
 clear hw
 refine qmy rfl 151 5 (.slice aydl y.dc.l.length kydl) (fun E hb=>Af rfl Tryz.underlying57 rfl ((E.q 156 0 bl.out).1 hb) (AD (HB3.o.mod d5.out (fun h=>h)) HLNy.o 18 rfl (o:=287) (k:=7) rfl rfl rfl)) ?_
 intro jz hw
 have bm:=hid hw
 clear hw
 refine AH (b:=pb150) rfl (.bool (eqb x.dc.l y.dc.l)) (args:=#[.slice axdl x.dc.l.length kxdl,.slice aydl y.dc.l.length kydl]) (fun E=>((Ag rfl rfl (E.sz 156 aM) (E.d 151 6)).trans (beq_t _))) rfl Tryz.func65 (fun E hb=>Ar ((E.q 154 3 bj.out).1 hb) ((E.q 157 0 bm.out).1 hb)) (fun hb=>EqL_Vt _ _ _ _ _ _ _ (Hx8.o.mod d5.out iA) (cf.out.mod d5.out iA) bO bN) ?_
 intro ka kb hw hm
 have bn:=hid hw
 clear hw
 have ke:=hm.size
 have cq:=hid hm
 have cr:=hid (d5.out.goE hm)
 clear hm d5
 obtain ⟨pb159,hb159⟩:∃ b:Bool,b=(pb150 && (eqb x.dc.l y.dc.l)):=⟨_,rfl⟩
 have HB159:=hid hb159
 clear hb159
 refine QSeq.pure rfl (.bool pb159) (fun E=>A5 rfl (E.d 151 7) rfl rfl ((Be fun hb=>(E.q 158 0 bn.out).1 hb).trans (congrArg Value.bool HB159.o.symm))) ?_
 refine qas rfl 159 0 ?_
 clear ch cj ck co cq d9 g5 g6 g7 g8 g9 i7 i8 i9 j0 j3 j4 j5 j6 j7 j8 j9 l7 l8 m7 m8 m9 n5 n6 n7 n8 o5 o6 o7 o8 o9 p5 p6 p7 p8 p9 q6 q7 q8 q9 r5 r6 r7 r8 r9 s0 s5 s6 s7 s8 t0 t1 t2 t8 t9 u0 u1 u2 u3 u4 u5 u6 u7 u9 v5 v6 v7 v8 x4 x5 x6 x7 x8 x9 y0 y5 y6 y7 y8 z0 z3 z4 z5 z6 z7 z9 aa ac ae af ag ah aj am ap aq ar au av aw ax ay az bb bc bf bg bh bj bk bl bm bn
 refine qe ?_
 clear HA0 c3 c4 a0
 go_wp2
 go_ret
 exact ⟨Bw (by rw [HB159.o,HB150.o,HB141.o,HB132.o,HB123.o,HB116.o,HB109.o,HB102.o,HB95.o,HB88.o,HB81.o,HB74.o,HB67.o,HB60.o,HB53.o,HB46.o,HB39.o,HB32.o,HB25.o,HB18.o,HB11.o];exact mg_eqb x y),(HM0.o.trans cr.out iB)⟩
/-- how far a list's reading has come: what is still to come gives the same; or it failed -/
def Ru {α:Type} (g:RSt→α × RSt) (n:Nat) (s1:RSt) (k:Nat) (acc:List α) (st:RSt):Prop:=(st≠none→B0 g (n - k) acc st=B0 g n [] s1)∧(st=none→(B0 g n [] s1).2=none)
theorem Ru.start {α:Type} {g:RSt→α × RSt} (hg:Suf g) (n:Nat) (s1:RSt):Ru g n s1 0 [] s1:=⟨fun _=>rfl,fun h=>by subst h;exact (gItems_suf hg n []).no⟩
theorem Ru.step {α:Type} {g:RSt→α × RSt} {n:Nat} {s1:RSt} {k:Nat} {acc:List α} {st st2:RSt} {x:α} (h:Ru g n s1 k acc st) (hk:k < n) (hst:st≠none) (hs:(g st).2=st2) (hx:st2≠none→x=(g st).1):Ru g n s1 (k+1) (acc ++ [x]) st2:=by
 have h1:=h.1 hst
 rw [show n - k=(n - (k+1))+1 by omega] at h1
 simp only [B0] at h1
 subst hs
 refine ⟨fun h2=>?_,fun h2=>?_⟩
 ·rw [if_neg h2] at h1
  rw [hx h2]
  exact h1
 ·rw [if_pos h2] at h1
  rw [← h1]
theorem Ru.fin {α:Type} {g:RSt→α × RSt} {n:Nat} {s1:RSt} {k:Nat} {acc:List α} {st:RSt} (h:Ru g n s1 k acc st) (hk:¬ (k < n∧st≠none)) (hk2:k≤n):(B0 g n [] s1).2=st∧(st≠none→acc=(B0 g n [] s1).1):=by
 by_cases hs:st=none
 ·exact ⟨(h.2 hs).trans hs.symm,fun h=>absurd hs h⟩
 ·have hkn:k=n:=by
   by_cases e:k < n
   ·exact absurd ⟨e,hs⟩ hk
   ·omega
  have h1:=h.1 hs
  subst hkn
  rw [Nat.sub_self] at h1
  rw [← h1]
  exact ⟨rfl,fun _=>rfl⟩
theorem AJ {T:TypeId} {R:Nat→Prop} {w:World} {r:Nat} {s:RSt} (h:RrR T R w r s):w.cell? ⟨r,1,none⟩=some (.bool s.isNone):=by
 obtain ⟨v,h1,-⟩:=h
 exact (h1.1.cell 1).trans rfl
theorem go_false {k n:Nat} {st:RSt} {a:Bool} (h:¬ (k < n∧st≠none)) (ha:a=decide (((k:Nat):Int) < ((n:Nat):Int))):(a && (!st.isNone))=false:=by
 subst ha
 cases st with
 | none=>simp
 | some l=>
  have:¬ k < n:=fun e=>h ⟨e,by simp⟩
  simp
  omega
theorem GetsU.to {α:Type} {A:Rep α} {T:TypeId} {F:FuncId} {g:RSt→α × RSt} (h:GetsU A T F g) {s s':RSt} (hs:(g s).2=s') {R:Nat→Prop} {r:Nat} {w:World} (h1:RrR T R w r s) (h2:∀ k,R k→k < w.heap.size) (h3:(s.getD []).length≤900000) :
 Calls Tryz.prog F #[.pointer (some ⟨r,0,none⟩)] w fun e w'=>∃ cs y,e=.returned (.agg cs.toArray)∧A.rd (New w w') w' cs y∧RrR T R w' r s'∧(s'≠none→y=(g s).1)∧Mod R w w':=by
 subst hs
 exact h R r s w h1 h2 h3
theorem Gets.toU {α:Type} {A:Rep α} {T:TypeId} {F:FuncId} {g:RSt→α × RSt} (h:Gets A T F g):GetsU A T F g:=by
 intro R r s w h1 h2 h3
 exact (h R r s w h1 h2 h3).mono fun e w' ⟨cs,he,h4,h5,h6⟩=>⟨cs,_,he,h4,h5,fun _=>rfl,h6⟩
open Go.Proofs renaming Tryz.func53→va',Tryz.ntmps53→vb',Tryz.func46→vc' in
open Go.Proofs.YtnaoeginonpicaaGreat renaming dI_Q→vd' in
set_option maxHeartbeats 2000000 in
theorem dSig_Q:GetsF 100 53 (fun x:Int × Int=>[.int .i64 x.1,.int .i64 x.2]) gSig:=
 fm3'
open Go.Proofs renaming Tryz.func50→va',Tryz.ntmps50→vb',Tryz.func46→vc' in
open Go.Proofs.YtnaoeginonpicaaGreat renaming dI_Q→vd' in
set_option maxHeartbeats 2000000 in
theorem dName_Q:GetsF 100 50 (fun x:Int × Int=>[.int .i64 x.1,.int .i64 x.2]) gSig:=
 fm4'
open Go.Proofs renaming Tryz.func47→va',Tryz.ntmps47→vb',Tryz.func50→vc',Tryz.func51→ve',Tryz.func46→vg',Tryz.func53→vi' in
open Go.Proofs.YtnaoeginonpicaaGreat renaming dName_Q→vd',RefRHash_R→vf',dI_Q→vh',dSig_Q→vj' in
set_option maxHeartbeats 4000000 in
theorem dCm_Q:GetsF 100 47 Cm.cells gCm:=
 fm5'
open Go.Proofs renaming Tryz.func48→va',Tryz.ntmps48→vb',Tryz.func46→vc',Tryz.func50→ve',Tryz.func51→vg',Tryz.func52→vi',Tryz.func53→vk' in
open Go.Proofs.YtnaoeginonpicaaGreat renaming dI_Q→vd',dName_Q→vf',RefRHash_R→vh',RefRNum_R→vj',dSig_Q→vl' in
set_option maxHeartbeats 4000000 in
theorem dSt_Q:GetsF 100 48 St.cells gSt:=
 fm6'
theorem dSt_G:Gets StR 100 48 gSt:=GetsF.to (A:=StR) dSt_Q fun _ _ _ hb=>⟨rfl,gSt_OK hb⟩
open Go.Proofs renaming Tryz.func58→va',Tryz.ntmps58→vb',Tryz.func46→vc',Tryz.func53→ve' in
open Go.Proofs.YtnaoeginonpicaaGreat renaming dI_Q→vd',dSig_Q→vf' in
set_option maxHeartbeats 4000000 in
theorem dDn_Q:GetsF 100 58 Dn.cells gDn:=
 fm7'
theorem dDn_G:Gets DnR 100 58 gDn:=GetsF.to (A:=DnR) dDn_Q fun _ _ _ hb=>⟨rfl,gDn_OK hb⟩
set_option maxHeartbeats 4000000 in
theorem dOp_G:Gets OpR 100 57 gOp:=by
 intro R r s w hR hB hl
 have HRD:=B8 hR
 have HBR:=B8 hB
 have HBY:=hid hR.bytes
 clear hR hB
 have HLN:=B8 hl
 clear hl
 go_enter Tryz.func57,Tryz.ntmps57
 go_upto_region 1 with (fail)
 obtain ⟨w1,hw1⟩:∃ zz,zz=(w.alloc (.cells zq2.toArray 54)):=⟨_,rfl⟩
 change Code.wp _ _ _ _ (w.alloc (.cells zq2.toArray 54))
 rw [← hw1]
 have HB2:=hid (show Cs w1 (w.heap.size) zq2.toArray 54 by rw [hw1];exact Cs.new _ _ _)
 have hm:Mod (fun _=>False) w w1:=by rw [hw1];exact (Mod.refl _ _).alloc _
 have HM0:=hid (show Mod (fun k=>(R k)) w w1 from hm.mono iB)
 have hs1:w1.heap.size=w.heap.size+1:=by rw [hw1];simp
 have c7:=hid (HRD.o.mod hm iA)
 clear HRD
 clear hw1 hm
 go_upto_region 1 with (fail)
 refine Ab 10 [3,4,5,6,7,8,9,17] [0,1,2,3,4,5,6,7] (fun a0 HA0=>?_)
 have c3:=ev HA0 0 rfl
 have c8:=ev HA0 2 rfl
 refine qmo rfl c3 ?_
 refine QSeq.call rfl rfl Tryz.func46 (dI_Q c7.out) (fun E=>Ar (E.d 0 0) rfl) ?_
 rintro e g6 ⟨rfl,qrd,hm⟩
 refine ⟨_,rfl,?_⟩
 have c9:=hid qrd
 have i9:=hm.size
 have d5:=hid (show Mod (fun k=>(R k)) w1 g6 from hm)
 clear hm
 clear qrd c7
 refine qmo rfl c3 ?_
 refine QSeq.call rfl rfl Tryz.func59 (dRow_Q c9.out (C4 (gI_suf.len _) HLN.o)) (fun E=>Ar (E.d 2 0) rfl) ?_
 rintro e j0 ⟨vr,rfl,qrow,qrd,hm⟩
 obtain ⟨ao_row,cap_row,rfl⟩:=qrow.shape
 refine ⟨_,rfl,?_⟩
 have d6:=hid qrow
 have d7:=hid qrd
 have j3:=hm.size
 have g7:=hid hm
 have d8:=hid (AA (S':=(fun k=>(R k))) d5.out hm (fun _ h=>h) aQ)
 clear hm d5
 clear qrow qrd c9
 refine qmo rfl c3 ?_
 refine QSeq.call rfl rfl Tryz.func51 (RefRHash_R d7.out) (fun E=>Ap (E.d 4 0)) ?_
 rintro e j4 ⟨rfl,qrd,hm⟩
 refine ⟨_,rfl,?_⟩
 have d9:=hid qrd
 have j5:=hm.size
 have g5:=hid hm
 have c4:=hid (AA (S':=(fun k=>(R k))) d8.out hm (fun _ h=>h) aQ)
 clear hm d8
 clear qrd d7
 refine QSeq.go fun act E=>?_
 refine Bu rfl (Aa rfl) (v:=.agg ((gOp s).1.cells (Value.slice ao_row (rRow 256 (gI s).2).1.length cap_row):List Value).toArray) (Bo rfl (z:=zq2) (places:=[(0,1),(1,1),(2,32)]) aE (parts:=[(0,.int .i64 (gI s).1),(1,.slice ao_row (rRow 256 (gI s).2).1.length cap_row),(2,hv (A6 (rRow 256 (gI s).2).2).1)]) dJ (r:=(gOp s).1.cells (Value.slice ao_row (rRow 256 (gI s).2).1.length cap_row)) cO) ?_
 clear act E
 refine QSeq.go fun act E=>?_
 refine Am rfl (Aa rfl) rfl (HB2.o.mod c4.out aH) (off:=0) (vs:=((gOp s).1.cells (Value.slice ao_row (rRow 256 (gI s).2).1.length cap_row))) cE (one_op2 _ _ rfl) fS (E.v c8) (ec (E.d 6 0)) ?_
 intro g8 qc0 hm
 have qB2:=qc0.eqv (b:=(((gOp s).1.cells (Value.slice ao_row (rRow 256 (gI s).2).1.length cap_row)):List Value).toArray) (Aw _ _ fT)
 clear qc0
 have Hx9:=hid qB2
 have j6:=hm.size
 have c6:=hid hm
 have g9:=hid (AA (S':=(fun k=>(R k)∨(k=w.heap.size))) c4.out hm iD aR)
 clear hm c4
 clear act E qB2 HB2
 have i7:=hid (d9.out.mod c6.out (sB HBR))
 have i8:=hid ((d6.out.mod g5.out aT).mod c6.out aD)
 clear d9 d6 g7 g5 c6
 refine qe ?_
 clear HA0 c3 c8 a0
 go_wp2
 exact bodyPost_ret (A0 rfl _ _ w.heap.size ((gOp s).1.cells (Value.slice ao_row (rRow 256 (gI s).2).1.length cap_row)) rfl (fun k u hu=>by rw [Hx9.o.cell];simpa using hu) Tryz.underlying54 rfl cE) rfl ⟨_,rfl,⟨_,rfl,gOp_OK HBY.o,(i8.out.widen (R':=(fun k=>New w g8 k)) bB (C0 _))⟩,i7.out,(HM0.o.trans g9.out aC)⟩
set_option maxHeartbeats 8000000 in
theorem dCe_U:GetsU CeR 100 49 gCe:=by
 intro R r s w hR hB hl
 have HRD:=B8 hR
 have HBR:=B8 hB
 have HBY:=hid hR.bytes
 have HLN:=B8 hl
 clear hR hB hl
 go_enter Tryz.func49,Tryz.ntmps49
 go_upto_region 1 with (fail)
 obtain ⟨w1,hw1⟩:∃ zz,zz=(w.alloc (.cells zq1.toArray 35)):=⟨_,rfl⟩
 change Code.wp _ _ _ _ (w.alloc (.cells zq1.toArray 35))
 rw [← hw1]
 have HB2:=hid (show Cs w1 (w.heap.size) zq1.toArray 35 by rw [hw1];exact Cs.new _ _ _)
 have hm:Mod (fun _=>False) w w1:=by rw [hw1];exact (Mod.refl _ _).alloc _
 have HM0:=hid (show Mod (fun k=>(R k)) w w1 from hm.mono iB)
 have hs1:w1.heap.size=w.heap.size+1:=by rw [hw1];simp
 have g8:=hid (HRD.o.mod hm iA)
 clear HRD
 clear hw1 hm
 go_upto_region 1 with (fail)
 refine Ab 31 [6,7,8,3,35] [0,1,2,3,4] (fun a0 HA0=>?_)
 have c3:=ev HA0 0 rfl
 refine qmo rfl c3 ?_
 refine QSeq.call rfl rfl Tryz.func47 (dCm_Q _ _ _ _ g8.out aK) (fun E=>Ap (E.d 0 0)) ?_
 rintro e c4 ⟨rfl,qrd,hm⟩
 refine ⟨_,rfl,?_⟩
 have g9:=hid qrd
 have s8:=hm.size
 have i7:=hid (show Mod (fun k=>(R k)) w1 c4 from hm)
 clear hm
 clear qrd g8
 refine QSeq.go fun act E=>?_
 refine Bu rfl (Aa rfl) (v:=.agg ((Ce.cells (Ce.mk (gCm s).1 []) (Value.slice none 0 0)):List Value).toArray) (Bo rfl (z:=zq1) (places:=[(0,37),(37,1)]) aE (parts:=[(0,(gCm s).1.val)]) (by simp only [C8,C5,C6,show act.eval (.tmp 7)=(gCm s).1.val from (E.d 1 0)];try rfl) (r:=(Ce.cells (Ce.mk (gCm s).1 []) (Value.slice none 0 0))) (by exact Bn (ns:=[37,1]) rfl [(0,(gCm s).1.val)] [zq6,[.slice none 0 0]] rfl ⟨(szv (Cm.len (rHash_HK (gSig_suf.bytes HBY.o) |>.1))),trivial⟩)) ?_
 clear act E
 refine QSeq.go fun act E=>?_
 refine qc_alloc rfl (Aa rfl) rfl (z:=zq1) aE ?_
 intro t0 qqx hm
 have t1:=qqx.lt
 have i8:=hid qqx
 have t2:=hm.size
 have i9:=hid hm
 have j0:=hid (i7.out.goE hm)
 clear hm i7
 clear act E qqx
 refine QSeq.go fun act E=>?_
 have hlz:((Ce.cells (Ce.mk (gCm s).1 []) (Value.slice none 0 0))).length=List.length (zq1:List Value):=(by rw [ce_len _ _ (gCm_OK HBY.o).2.1];rfl)
 refine Am rfl (Aa rfl) rfl i8.out (off:=0) (vs:=(Ce.cells (Ce.mk (gCm s).1 []) (Value.slice none 0 0))) dI (one_ce2 _ _ rfl) bS (E.d 3 0) (ec (E.d 2 1)) ?_
 intro q8 qc0 hm
 have qqx:=qc0.eqv (b:=((Ce.cells (Ce.mk (gCm s).1 []) (Value.slice none 0 0)):List Value).toArray) (Aw zq1.toArray _ eK)
 clear qc0 hlz
 have j3:=hid qqx
 have t8:=hm.size
 have j4:=hid hm
 have j5:=hid (AA (S':=(fun k=>(R k))) j0.out hm (fun _ h=>h) cQ)
 clear hm j0
 clear act E qqx i8
 have Hx8:=hid ((g9.out.mod i9.out iA).mod j4.out (sB HBR))
 clear g9 i9 j4
 refine qe ?_
 clear HA0 c3 a0
 go_upto_region 2 with (fail)
 refine Ab 31 [9,10,4] [0,1,2] (fun a0 HA0=>?_)
 have c3:=ev HA0 0 rfl
 refine qmo rfl c3 ?_
 refine QSeq.call rfl rfl Tryz.func46 (RefRInt_R Hx8.o aM) (fun E=>Ar (E.d 0 0) rfl) ?_
 rintro e c6 ⟨rfl,qrd,hm⟩
 refine ⟨_,rfl,?_⟩
 have Hx9:=hid qrd
 have t9:=hm.size
 have d5:=hid (show Mod (fun k=>(R k)) q8 c6 from hm)
 clear hm
 clear qrd Hx8
 refine qas rfl 1 0 ?_
 refine qe ?_
 clear HA0 c3 a0
 obtain ⟨n1,hn⟩:∃ n,n=(rInt 100 (gCm s).2).1:=⟨_,rfl⟩
 obtain ⟨s1,hs1⟩:∃ z,z=(rInt 100 (gCm s).2).2:=⟨_,rfl⟩
 have hn100_1:n1≤100:=by have:=rInt_le 100 (gCm s).2;omega
 have HLS1:=hid (show (s1.getD []).length≤900000 by rw [hs1];exact C4 ((rInt_suf 100).len _) (C4 (gCm_suf.len _) HLN.o))
 have HGL1:=hid (show Av gSt (gCm s).2=B0 gSt n1 [] s1 by rw [hn,hs1];rfl)
 rw [← hn]
 have hq:=Hx9.o
 rw [← hs1] at hq
 have HR1:=B8 hq
 clear hq hn hs1 Hx9
 go_upto_region 3 with (fail)
 refine Ab 31 [5] [0] (fun a0 HA0=>?_)
 refine QSeq.pure rfl (.int .i64 0) (fun E=>An rfl rfl) ?_
 refine qe ?_
 clear HA0 a0
 go_wp2
 go_loopw [5] (fun ti wr=>∃ (k:Nat) (acc:List St) (st:RSt) (v:Value),ti=.int .i64 (k:Int)∧k≤n1∧acc.length=k∧(st.getD []).length≤900000∧Ru gSt n1 s1 k acc st∧c6.heap.size≤wr.heap.size∧OwS StR 32 (fun b=>c6.heap.size≤b∧b < wr.heap.size) (fun b=>c6.heap.size≤b∧b < wr.heap.size) wr v acc∧Cs wr (c4.heap.size) ((Ce.cells (Ce.mk (gCm s).1 acc) (v)):List Value).toArray 35∧RrR 100 R wr r st∧Cs wr (w.heap.size) zq1.toArray 35∧Mod R w wr) (fun ti _=>n1 - (intOf ti).toNat)
 case atStart=>exact ⟨0,[],s1,.slice none 0 0,rfl,Nat.zero_le _,rfl,HLS1.o,Ru.start gSt_suf _ _,C0 _,OwS.nil _ _ _ _ _,(j3.out.mod d5.out aH),HR1.o,((HB2.o.mod j5.out aH).mod d5.out aH),((HM0.o.trans j5.out iA).trans d5.out iA)⟩
 case round=>
  obtain ⟨k1,acc1,st1,v1,rfl,hk,hka,hst,hru,hz,ha,hbx,hr,hk_0,hm⟩:=hrel
  obtain ⟨wl1,rfl⟩:∃ x,x=wr:=⟨_,rfl⟩
  obtain ⟨aol1,capl1,rfl⟩:=ha.shape
  have HAL1:=B8 ha
  have HBXL1:=B8 hbx
  have HRL1:=B8 hr
  have HML1:=B8 hm
  have HST1:=B8 hst
  have HRU1:=B8 hru
  have HKA1:=B8 hka
  have HKP1_0:=B8 hk_0
  clear ha hbx hr hm hst hru hka hk_0 HR1 HB2 HM0 j3
  by_cases hgo1:k1 < n1∧st1≠none
  ·obtain ⟨hlt1,hsn1⟩:=hgo1
   cases st1 with
   | none=>exact absurd rfl hsn1
   | some l1=>
    go_upto_region 4 with (fail)
    refine Ab 31 [11,12,13,14,15,16,17,18,19,20] [0,1,2,3,4,5,6,7,8,9] (fun a0 HA0=>?_)
    have c3:=ev HA0 0 rfl
    have c9:=ev HA0 4 rfl
    have c7:=ev HA0 5 rfl
    refine qmo rfl c7 ?_
    refine qmo rfl c9 ?_
    refine QSeq.pure rfl (.bool true) (fun E=>Aq rfl (E.d 0 1) (E.d 1 0) (Ai _ _ _ _ _ _) (A1 _ _ _ B9) (congrArg Value.bool (decide_eq_true aL))) ?_
    refine qmv rfl 2 0 ?_
    refine AB rfl (.pointer (some ⟨r,0,none⟩)) (fun E=>((Ag rfl rfl (E.sz 14 aM) (E.d 3 0)).trans rfl)) (fun E=>Al rfl (E.v c3)) ?_
    refine AB rfl (.pointer (some ⟨r,0,none⟩)) (fun E=>((Ag rfl rfl (E.sz 14 aM) (E.d 3 1)).trans rfl)) (fun E=>ex_nil rfl (E.d 4 0)) ?_
    refine AB rfl (.pointer (some ⟨r,1,none⟩)) (fun E=>((Ag rfl rfl (E.sz 14 aM) (E.d 3 2)).trans rfl)) (fun E=>Ae rfl E5 rfl aE (E.d 5 0)) ?_
    refine AB rfl (.bool false) (fun E=>((Ag rfl rfl (E.sz 14 aM) (E.d 3 3)).trans rfl)) (fun E=>Af rfl E8 rfl (E.d 6 0) (AJ HRL1.o)) ?_
    refine AB rfl (.bool true) (fun E=>((Ag rfl rfl (E.sz 14 aM) (E.d 3 4)).trans rfl)) (fun E=>B1 rfl (E.d 7 0)) ?_
    refine QSeq.pure rfl (.bool true) (fun E=>Bp rfl (E.d 3 5) (E.d 8 0) rfl) ?_
    refine qe ?_
    clear HA0 c3 c9 c7 a0
    obtain ⟨st2_1,hp2⟩:∃ z,z=(gSt (some l1)).2:=⟨_,rfl⟩
    have HP2_1:=hid hp2.symm
    clear hp2
    have HST2_1:=hid (show (st2_1.getD []).length≤900000 by rw [← HP2_1.o];exact C4 (gSt_suf.len _) HST1.o)
    go_upto_region 6 with (fail)
    generalize ha0:Act.mk _ _=a0
    have c3:a0.eval (.tmp 0)=.pointer (some ⟨r,0,none⟩):=by rw [← ha0];rfl
    have c8:a0.eval (.tmp 3)=.pointer (some ⟨c4.heap.size,0,none⟩):=by rw [← ha0];rfl
    have hsz0:a0.tmps.size=31:=by rw [← ha0];rfl
    have HA0:=hid ha0
    clear ha0
    refine Bc 31 hsz0 [23,24,25,26,27,28,29,38] (fun k=>(R k)∨(New c6 wl1 k)∨(k=c4.heap.size)) (fun k j=>(k=0∧((R j)))∨(k=2∧((New c6 wl1 j)))∨(k=3∧((j=c4.heap.size)))) bK [qi (.pointer (some ⟨c4.heap.size,37,none⟩)),qi (.slice aol1 acc1.length capl1),qi (.pointer (some ⟨r,0,none⟩)),qv 0,qv 1,qv 2,qi (.pointer (some ⟨c4.heap.size,37,none⟩)),qv 3] ⟨Ac,Ac,Ac,Ah,Ah,Ah,Ac,Ah,trivial⟩ [3,4,5,7] ⟨?_,?_,?_,?_,?_,?_,?_,?_,trivial⟩ ?_
    ·exact stq (fun E=>Ae rfl Tryz.underlying35 rfl aE (E.v c8))
    ·refine Ay rfl rfl rfl fun _ _ _ _ _ _ hm0 _ _ hd hub _=>?_
     have h0:=hd ⟨0,.data⟩ bA rfl _ rfl
     refine Bl rfl (Aa rfl) (Af rfl Tryz.underlying33 rfl h0 (AL (pre:=[]) (mid:=(Ce.mk (gCm s).1 acc1).c.cells) (post:=[.slice aol1 acc1.length capl1]) (m:=37) (k:=0) (HBXL1.o.mod hm0 bI) (Cm.len (gCm_OK HBY.o).2.1) rfl rfl)) QE.refl ?_
     rfl
    ·exact stq (fun E=>Al rfl (E.v c3))
    ·exact Ad rfl
    ·exact Ad rfl
    ·exact Ad rfl
    ·exact stq (fun E=>Ae rfl Tryz.underlying35 rfl aE (E.v c8))
    ·exact Ad rfl
    intro d6 hr
    have u0:=hr.size
    have j6:=hid (hr.new (S:=(fun k=>(R k)∨(New c6 wl1 k)∨(k=c4.heap.size))))
    have j7:=hid (HAL1.o.mod hr aD aD)
    clear HAL1
    have j8:=hid (HBXL1.o.mod hr aG)
    clear HBXL1
    have j9:=hid (HRL1.o.mod hr aO)
    clear HRL1
    clear hr
    refine QChain.go fun Z act E=>?_
    refine Aj (args:=#[.pointer (some ⟨r,0,none⟩)]) rfl (Aa rfl) rfl Tryz.func48 (Ap (E.d 2)) (dSt_G.toU.to HP2_1.o j9.out aK HST1.o) ?_
    rintro e d7 ⟨cs1,y1,rfl,qel,qrd,hy1,hm⟩
    have HY1:=B8 hy1
    clear hy1
    have u1:=hm.size
    refine ⟨_,rfl,hm.mono aW,(fun _=>rfl),?_⟩
    intro d8 hr
    have u2:=hr.size
    have d9:=hid ((qel.widen (R':=(fun k=>(New d6 d7 k))) (fun _ h=>h)).mod hr aD)
    have l7:=hid (qrd.mod hr aO)
    have hmr:=hm.two hr
    have l8:=hid (j7.out.mod hmr bE bE)
    have m7:=hid (j8.out.mod hmr bM)
    clear j7 j8
    clear hmr
    have m8:=hid (j6.out.goM hm hr aS)
    clear j6 hm hr Z act E qel qrd j9
    refine QChain.go fun Z act E=>?_
    refine qc_buildS (e:=32) (cs:=cs1) (zc:=zq3) (sz:=38) rfl (Aa rfl) rfl Tryz.underlying33 aE rfl aM aM (chv (v:=.agg cs1.toArray) (E.d 3)) (StR.len d9.out) ?_
    intro u3 qrow hm
    have u4:=qrow.lt
    have u5:=hm.size
    refine ⟨hm.mono iB,(fun _=>rfl),?_⟩
    intro q9 hr
    have u6:=hr.size
    have g5:=hid (qrow.mod hr aG)
    have hmr:=Mod.after hm hr
    have m9:=hid (l8.out.mod hmr aD aD)
    have n5:=hid (m7.out.mod hmr aG)
    have n6:=hid (l7.out.mod hmr aO)
    have g6:=hid (d9.out.mod hmr aD)
    clear l8 m7 l7 d9
    clear hmr
    have n7:=hid (m8.out.go hm hr)
    clear m8 hm hr Z act E qrow
    refine QChain.go fun Z act E=>?_
    refine qc_appS (A:=StR) (e:=32) rfl (Aa rfl) rfl (.agg zq3.toArray) 80 Tryz.underlying33 info_St (by rfl) (of_decide_eq_true aE) (E.d 1) (chv (v:=.slice (some ⟨d8.heap.size,0,none⟩) 1 1) (E.d 4)) (m9.out) (AI (R:=(fun k=>(New d6 d7 k)∨(k=d8.heap.size))) g5.out (g6.out.widen bF) bV) aD fX eW ?_
    intro ao11 cap11 r5 qacc1 hm
    have u7:=hm.size
    refine ⟨hm.mono cG,(fun _=>rfl),?_⟩
    intro u9 hr
    have v5:=hr.size
    have n8:=hid ((qacc1.widen (R':=(fun k=>(New c6 wl1 k)∨(New q9 r5 k))) (E':=(fun k=>(New c6 wl1 k)∨(New d6 d7 k)∨(k=d8.heap.size))) (fun _ h=>h) bD).mod hr aD aD)
    have hmr:=hm.two hr
    have o5:=hid (n5.out.mod hmr aG)
    have o6:=hid (n6.out.mod hmr aO)
    have o7:=hid (g6.out.mod hmr aD)
    have o8:=hid (g5.out.mod hmr aG)
    clear n5 n6 g6 g5
    clear hmr
    have o9:=hid (n7.out.goM hm hr aS)
    clear n7 hm hr Z act E qacc1 m9
    refine QChain.go fun Z act E=>?_
    refine Am rfl (Aa rfl) rfl o5.out (off:=37) (vs:=[Value.slice ao11 (acc1.length+1) cap11]) aE fK (by show 37+1≤_;rw [D3,ce_len _ _ (gCm_OK HBY.o).2.1];decide) (E.d 6) (by rw [show act.eval ((.tmp 28))=_ from (chv (v:=.slice ao11 (acc1.length+1) cap11) (E.d 5))];rfl) ?_
    intro r6 qc0 hm
    have qqx:Cs r6 (c4.heap.size) ((Ce.cells (Ce.mk (gCm s).1 (acc1 ++ [y1])) (Value.slice ao11 (acc1.length+1) cap11)):List Value).toArray 35:=by rw [show lay _ 37 _=((Ce.cells (Ce.mk (gCm s).1 (acc1 ++ [y1])) (Value.slice ao11 (acc1.length+1) cap11)):List Value).toArray from lay_l (gCm s).1 _ _ (gCm_OK HBY.o).2.1] at qc0;exact qc0
    clear qc0
    have v6:=hm.size
    refine ⟨hm.mono cG,(fun _=>rfl),?_⟩
    intro v7 hr
    have v8:=hr.size
    have r7:=hid (qqx.mod hr aG)
    have hmr:=hm.two hr
    have r8:=hid (n8.out.mod hmr aD aD)
    have r9:=hid (o6.out.mod hmr aO)
    have s0:=hid (o7.out.mod hmr aD)
    have s5:=hid (o8.out.mod hmr aG)
    clear n8 o6 o7 o8
    clear hmr
    have p5:=hid (o9.out.goM hm hr aS)
    clear o9 hm hr Z act E qqx o5
    refine QChain.nil fun vs hl hzz hrows hne=>?_
    obtain ⟨Z,hYZ,hZb,hV⟩:=hzz
    have f2:=fvi hV hl 2
    have f3:=fvc hV hl 3
    have f4:=fvc hV hl 4
    have f5:=fvc hV hl 5
    rw [show vs=[gw vs 0,gw vs 1,gw vs 2,gw vs 3,gw vs 4,gw vs 5,gw vs 6,gw vs 7] from (Bi hl).trans rfl]
    have ha0:=HA0.o
    subst ha0
    clear HA0 hV hYZ hZb hsz0 hrows hne c3 c8
    simp only [Au,Act.put,sIB,sCZ,sCS,List.set_nil,f2,f3,f4,f5]
    clear hl f2 f3 f4 f5
    clear s0
    clear s5
    go_upto_region 5 with (fail)
    refine Ab 31 [21,22,5] [0,1,2] (fun a0 HA0=>?_)
    have c7:=ev HA0 5 rfl
    refine QSeq.pure rfl _ (fun E=>Al rfl (E.y 2 c7)) ?_
    refine QSeq.pure rfl (.int .i64 (((k1:Nat):Int)+1)) (fun E=>Aq rfl (E.d 0 0) rfl (Ai _ _ _ _ _ _) (Bz _ _ B9) (congrArg (Value.int .i64) (IntWalk.i64_in _ aL))) ?_
    refine qas rfl 1 0 ?_
    refine qe ?_
    clear HA0 c7 a0
    go_wp2
    go_roundw
    case rel=>exact ⟨k1+1,acc1 ++ [y1],st2_1,_,by go_num,by omega,by rw [C3,HKA1.o];rfl,HST2_1.o,HRU1.o.step hlt1 bA HP2_1.o HY1.o,by omega,(r8.out.widen cS bZ),r7.out,r9.out,(HKP1_0.o.mod p5.out bP),(HML1.o.trans p5.out bJ)⟩
    case measure=>simp [intOf]<;>omega
  ·skip
   obtain ⟨bA1,hbA1⟩:∃ b:Bool,b=decide (((k1:Nat):Int) < ((n1:Nat):Int)):=⟨_,rfl⟩
   go_upto_region 4 with (fail)
   refine Ab 31 [11,12,13,14,15,16,17,18,19,20] [0,1,2,3,4,5,6,7,8,9] (fun a0 HA0=>?_)
   have c3:=ev HA0 0 rfl
   have c9:=ev HA0 4 rfl
   have c7:=ev HA0 5 rfl
   refine qmo rfl c7 ?_
   refine qmo rfl c9 ?_
   refine QSeq.pure rfl (.bool bA1) (fun E=>Aq rfl (E.d 0 1) (E.d 1 0) (Ai _ _ _ _ _ _) (A1 _ _ _ B9) (congrArg Value.bool hbA1.symm)) ?_
   refine qmv rfl 2 0 ?_
   refine qmy rfl 3 0 (.pointer (some ⟨r,0,none⟩)) (fun E hb=>Al rfl (E.v c3)) ?_
   intro x4 hw
   have p6:=hid hw
   clear hw
   refine qmy rfl 3 1 (.pointer (some ⟨r,0,none⟩)) (fun E hb=>ex_nil rfl ((E.q 4 0 p6.out).1 hb)) ?_
   intro x5 hw
   have p7:=hid hw
   clear hw
   refine qmy rfl 3 2 (.pointer (some ⟨r,1,none⟩)) (fun E hb=>Ae rfl E5 rfl aE ((E.q 5 0 p7.out).1 hb)) ?_
   intro x6 hw
   have p8:=hid hw
   clear hw
   refine qmy rfl 3 3 (.bool st1.isNone) (fun E hb=>Af rfl E8 rfl ((E.q 6 0 p8.out).1 hb) (AJ HRL1.o)) ?_
   intro x7 hw
   have p9:=hid hw
   clear hw
   refine qmy rfl 3 4 (.bool (!st1.isNone)) (fun E hb=>B1 rfl ((E.q 7 0 p9.out).1 hb)) ?_
   intro x8 hw
   have q6:=hid hw
   clear hw
   refine QSeq.pure rfl (.bool (bA1 && (!st1.isNone))) (fun E=>A5 rfl (E.d 3 5) rfl rfl (Be fun hb=>(E.q 8 0 q6.out).1 hb)) ?_
   clear p6 p7 p8 p9 q6
   refine qe ?_
   clear HA0 c3 c9 c7 a0
   rw [go_false hgo1 hbA1]
   have HF1:=hid (HRU1.o.fin hgo1 hk)
   clear hbA1 hgo1
   go_upto_region 7 with (fail)
   refine Ab 31 [30,32] [0,1] (fun a0 HA0=>?_)
   have q7:=ev HA0 2 rfl
   have c8:=ev HA0 3 rfl
   refine QSeq.pure rfl _ (fun E=>Ak rfl Tryz.underlying35 rfl (off:=0) (cs:=(Ce.cells (Ce.mk (gCm s).1 acc1) (Value.slice aol1 acc1.length capl1))) gX (E.v c8) (Cs.whole HBXL1.o)) ?_
   refine QSeq.go fun act E=>?_
   refine Am rfl (Aa rfl) rfl HKP1_0.o (off:=0) (vs:=(Ce.cells (Ce.mk (gCm s).1 acc1) (Value.slice aol1 acc1.length capl1))) gX (one_ce2 _ _ rfl) (by rw [ce_len _ _ (gCm_OK HBY.o).2.1];decide) (E.v q7) (ec (E.d 0 0)) ?_
   intro s6 qc0 hm
   have qB2:=qc0.eqv (b:=((Ce.cells (Ce.mk (gCm s).1 acc1) (Value.slice aol1 acc1.length capl1)):List Value).toArray) (Aw _ _ (by rw [ce_len _ _ (gCm_OK HBY.o).2.1];rfl))
   clear qc0
   have s7:=hid qB2
   have x9:=hm.size
   have g7:=hid (show Mod (fun k=>(k=w.heap.size)) wl1 s6 from hm)
   clear hm
   clear act E qB2 HKP1_0
   refine qe ?_
   clear HA0 q7 c8 a0
   have hse:(gCe s).2=st1:=(congrArg Prod.snd HGL1.o).trans HF1.o.1
   go_wp2
   exact bodyPost_ret (A0 rfl _ _ w.heap.size ((Ce.cells (Ce.mk (gCm s).1 acc1) (Value.slice aol1 acc1.length capl1))) rfl (fun k u hu=>by rw [s7.out.cell];simpa using hu) Tryz.underlying35 rfl gX) rfl ⟨_,(Ce.mk (gCm s).1 acc1),rfl,⟨_,rfl,gCm_OK HBY.o,(HAL1.o.mod g7.out aD aD).rd.widen cX⟩,(by rw [hse];exact (HRL1.o.mod g7.out (sB HBR))),(fun h=>by rw [hse] at h;show Ce.mk _ _=Ce.mk _ (Av gSt (gCm s).2).1;rw [HGL1.o,← HF1.o.2 h]),(HML1.o.trans g7.out cW)⟩
set_option maxHeartbeats 8000000 in
theorem dPm_U:GetsU PmR 100 54 gPm:=by
 intro R r s w hR hB hl
 have HRD:=B8 hR
 have HBR:=B8 hB
 have HBY:=hid hR.bytes
 have HLN:=B8 hl
 clear hR hB hl
 go_enter Tryz.func54,Tryz.ntmps54
 go_upto_region 1 with (fail)
 obtain ⟨w1,hw1⟩:∃ zz,zz=(w.alloc (.cells zq9.toArray 40)):=⟨_,rfl⟩
 change Code.wp _ _ _ _ (w.alloc (.cells zq9.toArray 40))
 rw [← hw1]
 have HB2:=hid (show Cs w1 (w.heap.size) zq9.toArray 40 by rw [hw1];exact Cs.new _ _ _)
 have hm:Mod (fun _=>False) w w1:=by rw [hw1];exact (Mod.refl _ _).alloc _
 have HM0:=hid (show Mod (fun k=>(R k)) w w1 from hm.mono iB)
 have hs1:w1.heap.size=w.heap.size+1:=by rw [hw1];simp
 have i7:=hid (HRD.o.mod hm iA)
 clear HRD
 clear hw1 hm
 go_upto_region 1 with (fail)
 refine Ab 38 [6,7,8,9,10,11,12,3,46] [0,1,2,3,4,5,6,7,8] (fun a0 HA0=>?_)
 have c3:=ev HA0 0 rfl
 refine qmo rfl c3 ?_
 refine QSeq.call rfl rfl Tryz.func46 (dI_Q i7.out) (fun E=>Ar (E.d 0 0) rfl) ?_
 rintro e s5 ⟨rfl,qrd,hm⟩
 refine ⟨_,rfl,?_⟩
 have i8:=hid qrd
 have v5:=hm.size
 have i9:=hid (show Mod (fun k=>(R k)) w1 s5 from hm)
 clear hm
 clear qrd i7
 refine qmo rfl c3 ?_
 refine QSeq.call rfl rfl Tryz.func46 (dI_Q i8.out) (fun E=>Ar (E.d 2 0) rfl) ?_
 rintro e v6 ⟨rfl,qrd,hm⟩
 refine ⟨_,rfl,?_⟩
 have j0:=hid qrd
 have v7:=hm.size
 have s6:=hid hm
 have j3:=hid (AA (S':=(fun k=>(R k))) i9.out hm (fun _ h=>h) aQ)
 clear hm i9
 clear qrd i8
 refine qmo rfl c3 ?_
 refine QSeq.call rfl rfl Tryz.func52 (RefRNum_R j0.out) (fun E=>Ap (E.d 4 0)) ?_
 rintro e c4 ⟨rfl,qrd,hm⟩
 refine ⟨_,rfl,?_⟩
 have j4:=hid qrd
 have v8:=hm.size
 have s7:=hid hm
 have j5:=hid (AA (S':=(fun k=>(R k))) j3.out hm (fun _ h=>h) aQ)
 clear hm j3
 clear qrd j0
 refine QSeq.go fun act E=>?_
 refine Bu rfl (Aa rfl) (v:=.agg ((Pm.cells (Pm.mk (gI s).1 (gI (gI s).2).1 (rNum (gI (gI s).2).2).1 [] 0 0) (Value.slice none 0 0)):List Value).toArray) (Bo rfl (z:=zq9) (places:=[(0,1),(1,1),(2,1),(3,1),(4,2)]) aE (parts:=[(0,.int .i64 (gI s).1),(1,.int .i64 (gI (gI s).2).1),(2,.int .u64 ((rNum (gI (gI s).2).2).1:Nat))]) (by simp only [C8,C5,C6,show act.eval (.tmp 7)=.int .i64 (gI s).1 from (E.d 1 4),show act.eval (.tmp 9)=.int .i64 (gI (gI s).2).1 from (E.d 3 2),show act.eval (.tmp 11)=.int .u64 ((rNum (gI (gI s).2).2).1:Nat) from (E.d 5 0)];try rfl) (r:=(Pm.cells (Pm.mk (gI s).1 (gI (gI s).2).1 (rNum (gI (gI s).2).2).1 [] 0 0) (Value.slice none 0 0))) (by exact Bn (ns:=[1,1,1,1,2]) rfl [(0,.int .i64 (gI s).1),(1,.int .i64 (gI (gI s).2).1),(2,.int .u64 ((rNum (gI (gI s).2).2).1:Nat))] [[.int .i64 0],[.int .i64 0],[.int .u64 0],[.slice none 0 0],[.int .i64 0,.int .i64 0]] rfl ⟨rfl,rfl,rfl,trivial⟩)) ?_
 clear act E
 refine QSeq.go fun act E=>?_
 refine qc_alloc rfl (Aa rfl) rfl (z:=zq9) aE ?_
 intro x4 qqx hm
 have x5:=qqx.lt
 have Hx8:=hid qqx
 have x6:=hm.size
 have j6:=hid hm
 have j7:=hid (j5.out.goE hm)
 clear hm j5
 clear act E qqx
 refine QSeq.go fun act E=>?_
 have hlz:((Pm.cells (Pm.mk (gI s).1 (gI (gI s).2).1 (rNum (gI (gI s).2).2).1 [] 0 0) (Value.slice none 0 0))).length=List.length (zq9:List Value):=rfl
 refine Am rfl (Aa rfl) rfl Hx8.o (off:=0) (vs:=(Pm.cells (Pm.mk (gI s).1 (gI (gI s).2).1 (rNum (gI (gI s).2).2).1 [] 0 0) (Value.slice none 0 0))) dI dO bS (E.d 7 0) (ec (E.d 6 1)) ?_
 intro s8 qc0 hm
 have qqx:=qc0.eqv (b:=((Pm.cells (Pm.mk (gI s).1 (gI (gI s).2).1 (rNum (gI (gI s).2).2).1 [] 0 0) (Value.slice none 0 0)):List Value).toArray) (Aw zq9.toArray _ eK)
 clear qc0 hlz
 have Hx10:=hid qqx
 have x7:=hm.size
 have j8:=hid hm
 have j9:=hid (AA (S':=(fun k=>(R k))) j7.out hm (fun _ h=>h) cQ)
 clear hm j7
 clear act E qqx Hx8
 have l7:=hid ((j4.out.mod j6.out iA).mod j8.out (sB HBR))
 clear j4 s6 s7 j6 j8
 refine qe ?_
 clear HA0 c3 a0
 go_upto_region 2 with (fail)
 refine Ab 38 [13,14,4] [0,1,2] (fun a0 HA0=>?_)
 have c3:=ev HA0 0 rfl
 refine qmo rfl c3 ?_
 refine QSeq.call rfl rfl Tryz.func46 (RefRInt_R l7.out aM) (fun E=>Ar (E.d 0 0) rfl) ?_
 rintro e c6 ⟨rfl,qrd,hm⟩
 refine ⟨_,rfl,?_⟩
 have l8:=hid qrd
 have x8:=hm.size
 have d5:=hid (show Mod (fun k=>(R k)) s8 c6 from hm)
 clear hm
 clear qrd l7
 refine qas rfl 1 0 ?_
 refine qe ?_
 clear HA0 c3 a0
 obtain ⟨n1,hn⟩:∃ n,n=(rInt 100 (rNum (gI (gI s).2).2).2).1:=⟨_,rfl⟩
 obtain ⟨s1,hs1⟩:∃ z,z=(rInt 100 (rNum (gI (gI s).2).2).2).2:=⟨_,rfl⟩
 have hn100_1:n1≤100:=by have:=rInt_le 100 (rNum (gI (gI s).2).2).2;omega
 have HLS1:=hid (show (s1.getD []).length≤900000 by rw [hs1];exact C4 ((rInt_suf 100).len _) (C4 (rNum_suf.len _) (C4 (gI_suf.len _) (C4 (gI_suf.len _) HLN.o))))
 have HGL1:=hid (show Av gCe (rNum (gI (gI s).2).2).2=B0 gCe n1 [] s1 by rw [hn,hs1];rfl)
 rw [← hn]
 have hq:=l8.out
 rw [← hs1] at hq
 have HR1:=B8 hq
 clear hq hn hs1 l8
 go_upto_region 3 with (fail)
 refine Ab 38 [5] [0] (fun a0 HA0=>?_)
 refine QSeq.pure rfl (.int .i64 0) (fun E=>An rfl rfl) ?_
 refine qe ?_
 clear HA0 a0
 go_wp2
 go_loopw [5] (fun ti wr=>∃ (k:Nat) (acc:List Ce) (st:RSt) (v:Value),ti=.int .i64 (k:Int)∧k≤n1∧acc.length=k∧(st.getD []).length≤900000∧Ru gCe n1 s1 k acc st∧c6.heap.size≤wr.heap.size∧OwS CeR 35 (fun b=>c6.heap.size≤b∧b < wr.heap.size) (fun b=>c6.heap.size≤b∧b < wr.heap.size) wr v acc∧Cs wr (c4.heap.size) ((Pm.cells (Pm.mk (gI s).1 (gI (gI s).2).1 (rNum (gI (gI s).2).2).1 acc 0 0) (v)):List Value).toArray 40∧RrR 100 R wr r st∧Cs wr (w.heap.size) zq9.toArray 40∧Mod R w wr) (fun ti _=>n1 - (intOf ti).toNat)
 case atStart=>exact ⟨0,[],s1,.slice none 0 0,rfl,Nat.zero_le _,rfl,HLS1.o,Ru.start gCe_suf _ _,C0 _,OwS.nil _ _ _ _ _,(Hx10.o.mod d5.out aH),HR1.o,((HB2.o.mod j9.out aH).mod d5.out aH),((HM0.o.trans j9.out iA).trans d5.out iA)⟩
 case round=>
  obtain ⟨k1,acc1,st1,v1,rfl,hk,hka,hst,hru,hz,ha,hbx,hr,hk_0,hm⟩:=hrel
  obtain ⟨wl1,rfl⟩:∃ x,x=wr:=⟨_,rfl⟩
  obtain ⟨aol1,capl1,rfl⟩:=ha.shape
  have HAL1:=B8 ha
  have HBXL1:=B8 hbx
  have HRL1:=B8 hr
  have HML1:=B8 hm
  have HST1:=B8 hst
  have HRU1:=B8 hru
  have HKA1:=B8 hka
  have HKP1_0:=B8 hk_0
  clear ha hbx hr hm hst hru hka hk_0 HR1 HB2 HM0 Hx10
  by_cases hgo1:k1 < n1∧st1≠none
  ·obtain ⟨hlt1,hsn1⟩:=hgo1
   cases st1 with
   | none=>exact absurd rfl hsn1
   | some l1=>
    go_upto_region 4 with (fail)
    refine Ab 38 [15,16,17,18,19,20,21,22,23,24] [0,1,2,3,4,5,6,7,8,9] (fun a0 HA0=>?_)
    have c3:=ev HA0 0 rfl
    have c9:=ev HA0 4 rfl
    have c8:=ev HA0 5 rfl
    refine qmo rfl c8 ?_
    refine qmo rfl c9 ?_
    refine QSeq.pure rfl (.bool true) (fun E=>Aq rfl (E.d 0 1) (E.d 1 0) (Ai _ _ _ _ _ _) (A1 _ _ _ B9) (congrArg Value.bool (decide_eq_true aL))) ?_
    refine qmv rfl 2 0 ?_
    refine AB rfl (.pointer (some ⟨r,0,none⟩)) (fun E=>((Ag rfl rfl (E.sz 18 aM) (E.d 3 0)).trans rfl)) (fun E=>Al rfl (E.v c3)) ?_
    refine AB rfl (.pointer (some ⟨r,0,none⟩)) (fun E=>((Ag rfl rfl (E.sz 18 aM) (E.d 3 1)).trans rfl)) (fun E=>ex_nil rfl (E.d 4 0)) ?_
    refine AB rfl (.pointer (some ⟨r,1,none⟩)) (fun E=>((Ag rfl rfl (E.sz 18 aM) (E.d 3 2)).trans rfl)) (fun E=>Ae rfl E5 rfl aE (E.d 5 0)) ?_
    refine AB rfl (.bool false) (fun E=>((Ag rfl rfl (E.sz 18 aM) (E.d 3 3)).trans rfl)) (fun E=>Af rfl E8 rfl (E.d 6 0) (AJ HRL1.o)) ?_
    refine AB rfl (.bool true) (fun E=>((Ag rfl rfl (E.sz 18 aM) (E.d 3 4)).trans rfl)) (fun E=>B1 rfl (E.d 7 0)) ?_
    refine QSeq.pure rfl (.bool true) (fun E=>Bp rfl (E.d 3 5) (E.d 8 0) rfl) ?_
    refine qe ?_
    clear HA0 c3 c9 c8 a0
    obtain ⟨st2_1,hp2⟩:∃ z,z=(gCe (some l1)).2:=⟨_,rfl⟩
    have HP2_1:=hid hp2.symm
    clear hp2
    have HST2_1:=hid (show (st2_1.getD []).length≤900000 by rw [← HP2_1.o];exact C4 (gCe_suf.len _) HST1.o)
    go_upto_region 6 with (fail)
    generalize ha0:Act.mk _ _=a0
    have c3:a0.eval (.tmp 0)=.pointer (some ⟨r,0,none⟩):=by rw [← ha0];rfl
    have c7:a0.eval (.tmp 3)=.pointer (some ⟨c4.heap.size,0,none⟩):=by rw [← ha0];rfl
    have hsz0:a0.tmps.size=38:=by rw [← ha0];rfl
    have HA0:=hid ha0
    clear ha0
    refine Bc 38 hsz0 [27,28,29,30,31,32,33,45] (fun k=>(R k)∨(New c6 wl1 k)∨(k=c4.heap.size)) (fun k j=>(k=0∧((R j)))∨(k=2∧((New c6 wl1 j)))∨(k=3∧((j=c4.heap.size)))) bK [qi (.pointer (some ⟨c4.heap.size,3,none⟩)),qi (.slice aol1 acc1.length capl1),qi (.pointer (some ⟨r,0,none⟩)),qv 0,qv 1,qv 2,qi (.pointer (some ⟨c4.heap.size,3,none⟩)),qv 3] ⟨Ac,Ac,Ac,Ah,Ah,Ah,Ac,Ah,trivial⟩ [3,4,5,7] ⟨?_,?_,?_,?_,?_,?_,?_,?_,trivial⟩ ?_
    ·exact stq (fun E=>Ae rfl Tryz.underlying40 rfl aE (E.v c7))
    ·refine Ay rfl rfl rfl fun _ _ _ _ _ _ hm0 _ _ hd hub _=>?_
     have h0:=hd ⟨0,.data⟩ bA rfl _ rfl
     refine Bl rfl (Aa rfl) (Af rfl Tryz.underlying38 rfl h0 (AC (HBXL1.o.mod hm0 bI) rfl)) QE.refl ?_
     rfl
    ·exact stq (fun E=>Al rfl (E.v c3))
    ·exact Ad rfl
    ·exact Ad rfl
    ·exact Ad rfl
    ·exact stq (fun E=>Ae rfl Tryz.underlying40 rfl aE (E.v c7))
    ·exact Ad rfl
    intro d6 hr
    have x9:=hr.size
    have m7:=hid (hr.new (S:=(fun k=>(R k)∨(New c6 wl1 k)∨(k=c4.heap.size))))
    have m8:=hid (HAL1.o.mod hr aD aD)
    clear HAL1
    have m9:=hid (HBXL1.o.mod hr aG)
    clear HBXL1
    have n5:=hid (HRL1.o.mod hr aO)
    clear HRL1
    clear hr
    refine QChain.go fun Z act E=>?_
    refine Aj (args:=#[.pointer (some ⟨r,0,none⟩)]) rfl (Aa rfl) rfl Tryz.func49 (Ap (E.d 2)) (dCe_U.to HP2_1.o n5.out aK HST1.o) ?_
    rintro e d7 ⟨cs1,y1,rfl,qel,qrd,hy1,hm⟩
    have HY1:=B8 hy1
    clear hy1
    have y0:=hm.size
    refine ⟨_,rfl,hm.mono aW,(fun _=>rfl),?_⟩
    intro d8 hr
    have y5:=hr.size
    have d9:=hid ((qel.widen (R':=(fun k=>(New d6 d7 k))) (fun _ h=>h)).mod hr aD)
    have n6:=hid (qrd.mod hr aO)
    have hmr:=hm.two hr
    have n7:=hid (m8.out.mod hmr bE bE)
    have n8:=hid (m9.out.mod hmr bM)
    clear m8 m9
    clear hmr
    have o5:=hid (m7.out.goM hm hr aS)
    clear m7 hm hr Z act E qel qrd n5
    refine QChain.go fun Z act E=>?_
    refine qc_buildS (e:=35) (cs:=cs1) (zc:=zq1) (sz:=38) rfl (Aa rfl) rfl Tryz.underlying38 aE rfl aM aM (chv (v:=.agg cs1.toArray) (E.d 3)) (CeR.len d9.out) ?_
    intro y6 qrow hm
    have y7:=qrow.lt
    have y8:=hm.size
    refine ⟨hm.mono iB,(fun _=>rfl),?_⟩
    intro t0 hr
    have z0:=hr.size
    have g5:=hid (qrow.mod hr aG)
    have hmr:=Mod.after hm hr
    have o6:=hid (n7.out.mod hmr aD aD)
    have o7:=hid (n8.out.mod hmr aG)
    have o8:=hid (n6.out.mod hmr aO)
    have g6:=hid (d9.out.mod hmr aD)
    clear n7 n8 n6 d9
    clear hmr
    have o9:=hid (o5.out.go hm hr)
    clear o5 hm hr Z act E qrow
    refine QChain.go fun Z act E=>?_
    refine qc_appS (A:=CeR) (e:=35) rfl (Aa rfl) rfl (.agg zq1.toArray) 96 Tryz.underlying38 info_Ce (by rfl) (of_decide_eq_true aE) (E.d 1) (chv (v:=.slice (some ⟨d8.heap.size,0,none⟩) 1 1) (E.d 4)) (o6.out) (AI (R:=(fun k=>(New d6 d7 k)∨(k=d8.heap.size))) g5.out (g6.out.widen bF) bV) aD fX eW ?_
    intro ao13 cap13 t1 qacc1 hm
    have z3:=hm.size
    refine ⟨hm.mono cG,(fun _=>rfl),?_⟩
    intro z4 hr
    have z5:=hr.size
    have p5:=hid ((qacc1.widen (R':=(fun k=>(New c6 wl1 k)∨(New t0 t1 k))) (E':=(fun k=>(New c6 wl1 k)∨(New d6 d7 k)∨(k=d8.heap.size))) (fun _ h=>h) bD).mod hr aD aD)
    have hmr:=hm.two hr
    have p6:=hid (o7.out.mod hmr aG)
    have p7:=hid (o8.out.mod hmr aO)
    have p8:=hid (g6.out.mod hmr aD)
    have p9:=hid (g5.out.mod hmr aG)
    clear o7 o8 g6 g5
    clear hmr
    have q6:=hid (o9.out.goM hm hr aS)
    clear o9 hm hr Z act E qacc1 o6
    refine QChain.go fun Z act E=>?_
    refine Am rfl (Aa rfl) rfl p6.out (off:=3) (vs:=[Value.slice ao13 (acc1.length+1) cap13]) aE fK (by show 3+1≤6;decide) (E.d 6) (by rw [show act.eval ((.tmp 32))=_ from (chv (v:=.slice ao13 (acc1.length+1) cap13) (E.d 5))];rfl) ?_
    intro t2 qc0 hm
    have qqx:Cs t2 (c4.heap.size) ((Pm.cells (Pm.mk (gI s).1 (gI (gI s).2).1 (rNum (gI (gI s).2).2).1 (acc1 ++ [y1]) 0 0) (Value.slice ao13 (acc1.length+1) cap13)):List Value).toArray 40:=by rw [show lay _ 3 _=((Pm.cells (Pm.mk (gI s).1 (gI (gI s).2).1 (rNum (gI (gI s).2).2).1 (acc1 ++ [y1]) 0 0) (Value.slice ao13 (acc1.length+1) cap13)):List Value).toArray from rfl] at qc0;exact qc0
    clear qc0
    have z6:=hm.size
    refine ⟨hm.mono cG,(fun _=>rfl),?_⟩
    intro z7 hr
    have z9:=hr.size
    have t8:=hid (qqx.mod hr aG)
    have hmr:=hm.two hr
    have t9:=hid (p5.out.mod hmr aD aD)
    have u0:=hid (p7.out.mod hmr aO)
    have u1:=hid (p8.out.mod hmr aD)
    have u2:=hid (p9.out.mod hmr aG)
    clear p5 p7 p8 p9
    clear hmr
    have q7:=hid (q6.out.goM hm hr aS)
    clear q6 hm hr Z act E qqx p6
    refine QChain.nil fun vs hl hzz hrows hne=>?_
    obtain ⟨Z,hYZ,hZb,hV⟩:=hzz
    have f2:=fvi hV hl 2
    have f3:=fvc hV hl 3
    have f4:=fvc hV hl 4
    have f5:=fvc hV hl 5
    rw [show vs=[gw vs 0,gw vs 1,gw vs 2,gw vs 3,gw vs 4,gw vs 5,gw vs 6,gw vs 7] from (Bi hl).trans rfl]
    have ha0:=HA0.o
    subst ha0
    clear HA0 hV hYZ hZb hsz0 hrows hne c3 c7
    simp only [Au,Act.put,sIB,sCZ,sCS,List.set_nil,f2,f3,f4,f5]
    clear hl f2 f3 f4 f5
    clear u1
    clear u2
    go_upto_region 5 with (fail)
    refine Ab 38 [25,26,5] [0,1,2] (fun a0 HA0=>?_)
    have c8:=ev HA0 5 rfl
    refine QSeq.pure rfl _ (fun E=>Al rfl (E.y 2 c8)) ?_
    refine QSeq.pure rfl (.int .i64 (((k1:Nat):Int)+1)) (fun E=>Aq rfl (E.d 0 0) rfl (Ai _ _ _ _ _ _) (Bz _ _ B9) (congrArg (Value.int .i64) (IntWalk.i64_in _ aL))) ?_
    refine qas rfl 1 0 ?_
    refine qe ?_
    clear HA0 c8 a0
    go_wp2
    go_roundw
    case rel=>exact ⟨k1+1,acc1 ++ [y1],st2_1,_,by go_num,by omega,by rw [C3,HKA1.o];rfl,HST2_1.o,HRU1.o.step hlt1 bA HP2_1.o HY1.o,by omega,(t9.out.widen cS bZ),t8.out,u0.out,(HKP1_0.o.mod q7.out bP),(HML1.o.trans q7.out bJ)⟩
    case measure=>simp [intOf]<;>omega
  ·skip
   obtain ⟨bA1,hbA1⟩:∃ b:Bool,b=decide (((k1:Nat):Int) < ((n1:Nat):Int)):=⟨_,rfl⟩
   go_upto_region 4 with (fail)
   refine Ab 38 [15,16,17,18,19,20,21,22,23,24] [0,1,2,3,4,5,6,7,8,9] (fun a0 HA0=>?_)
   have c3:=ev HA0 0 rfl
   have c9:=ev HA0 4 rfl
   have c8:=ev HA0 5 rfl
   refine qmo rfl c8 ?_
   refine qmo rfl c9 ?_
   refine QSeq.pure rfl (.bool bA1) (fun E=>Aq rfl (E.d 0 1) (E.d 1 0) (Ai _ _ _ _ _ _) (A1 _ _ _ B9) (congrArg Value.bool hbA1.symm)) ?_
   refine qmv rfl 2 0 ?_
   refine qmy rfl 3 0 (.pointer (some ⟨r,0,none⟩)) (fun E hb=>Al rfl (E.v c3)) ?_
   intro aa hw
   have q8:=hid hw
   clear hw
   refine qmy rfl 3 1 (.pointer (some ⟨r,0,none⟩)) (fun E hb=>ex_nil rfl ((E.q 4 0 q8.out).1 hb)) ?_
   intro ac hw
   have q9:=hid hw
   clear hw
   refine qmy rfl 3 2 (.pointer (some ⟨r,1,none⟩)) (fun E hb=>Ae rfl E5 rfl aE ((E.q 5 0 q9.out).1 hb)) ?_
   intro ae hw
   have r5:=hid hw
   clear hw
   refine qmy rfl 3 3 (.bool st1.isNone) (fun E hb=>Af rfl E8 rfl ((E.q 6 0 r5.out).1 hb) (AJ HRL1.o)) ?_
   intro af hw
   have r6:=hid hw
   clear hw
   refine qmy rfl 3 4 (.bool (!st1.isNone)) (fun E hb=>B1 rfl ((E.q 7 0 r6.out).1 hb)) ?_
   intro ag hw
   have r7:=hid hw
   clear hw
   refine QSeq.pure rfl (.bool (bA1 && (!st1.isNone))) (fun E=>A5 rfl (E.d 3 5) rfl rfl (Be fun hb=>(E.q 8 0 r7.out).1 hb)) ?_
   clear q8 q9 r5 r6 r7
   refine qe ?_
   clear HA0 c3 c9 c8 a0
   rw [go_false hgo1 hbA1]
   have HF1:=hid (HRU1.o.fin hgo1 hk)
   clear hbA1 hgo1
   go_upto_region 7 with (fail)
   refine Ab 38 [34,35,36,41] [0,1,2,3] (fun a0 HA0=>?_)
   have c3:=ev HA0 0 rfl
   have c7:=ev HA0 3 rfl
   refine qmo rfl c3 ?_
   refine QSeq.call rfl rfl Tryz.func53 (dSig_Q _ _ _ _ HRL1.o aK) (fun E=>Ap (E.d 0 0)) ?_
   rintro e u3 ⟨rfl,qrd,hm⟩
   refine ⟨_,rfl,?_⟩
   have r8:=hid qrd
   have ah:=hm.size
   have g7:=hid (show Mod (fun k=>(R k)) wl1 u3 from hm)
   clear hm
   clear qrd HRL1
   refine qfd rfl 4 Tryz.underlying40 c7 ?_
   refine QSeq.go fun act E=>?_
   refine Am rfl (Aa rfl) rfl (HBXL1.o.mod g7.out aH) (off:=4) (vs:=[.int .i64 (gSig st1).1.1,.int .i64 (gSig st1).1.2]) aE gG (by show 4+2≤6;decide) (E.d 2 0) (ec (E.d 1 1)) ?_
   intro u4 qc0 hm
   have qqx:=qc0.eqv (b:=((Pm.cells (Pm.mk (gI s).1 (gI (gI s).2).1 (rNum (gI (gI s).2).2).1 acc1 (gSig st1).1.1 (gSig st1).1.2) (Value.slice aol1 acc1.length capl1)):List Value).toArray) rfl
   clear qc0
   have u5:=hid qqx
   have aj:=hm.size
   have r9:=hid hm
   have g8:=hid (AA (S':=(fun k=>(R k)∨(k=c4.heap.size))) g7.out hm iD aR)
   clear hm g7
   clear act E qqx HBXL1
   have u6:=hid (r8.out.mod r9.out (sB HBR))
   clear r8 r9
   refine qe ?_
   clear HA0 c3 c7 a0
   go_upto_region 8 with (fail)
   refine Ab 38 [37,39] [0,1] (fun a0 HA0=>?_)
   have s0:=ev HA0 2 rfl
   have c7:=ev HA0 3 rfl
   refine QSeq.pure rfl _ (fun E=>Ak rfl Tryz.underlying40 rfl (off:=0) (cs:=(Pm.cells (Pm.mk (gI s).1 (gI (gI s).2).1 (rNum (gI (gI s).2).2).1 acc1 (gSig st1).1.1 (gSig st1).1.2) (Value.slice aol1 acc1.length capl1))) aE (E.v c7) (Cs.whole u5.out)) ?_
   refine QSeq.go fun act E=>?_
   refine Am rfl (Aa rfl) rfl (HKP1_0.o.mod g8.out bM) (off:=0) (vs:=(Pm.cells (Pm.mk (gI s).1 (gI (gI s).2).1 (rNum (gI (gI s).2).2).1 acc1 (gSig st1).1.1 (gSig st1).1.2) (Value.slice aol1 acc1.length capl1))) aE dO (by show 6≤6;decide) (E.v s0) (ec (E.d 0 0)) ?_
   intro u7 qc0 hm
   have qB2:=qc0.eqv (b:=((Pm.cells (Pm.mk (gI s).1 (gI (gI s).2).1 (rNum (gI (gI s).2).2).1 acc1 (gSig st1).1.1 (gSig st1).1.2) (Value.slice aol1 acc1.length capl1)):List Value).toArray) (Aw zq9.toArray _ rfl)
   clear qc0
   have u9:=hid qB2
   have am:=hm.size
   have g9:=hid (show Mod (fun k=>(k=w.heap.size)) u4 u7 from hm)
   clear hm
   clear act E qB2 HKP1_0
   refine qe ?_
   clear HA0 s0 c7 a0
   have hse:(gPm s).2=(gSig st1).2:=by show (gSig (Av gCe _).2).2=_;rw [HGL1.o,HF1.o.1]
   go_wp2
   exact bodyPost_ret (A0 rfl _ _ w.heap.size ((Pm.cells (Pm.mk (gI s).1 (gI (gI s).2).1 (rNum (gI (gI s).2).2).1 acc1 (gSig st1).1.1 (gSig st1).1.2) (Value.slice aol1 acc1.length capl1))) rfl (fun k u hu=>by rw [u9.out.cell];simpa using hu) Tryz.underlying40 rfl aE) rfl ⟨_,(Pm.mk (gI s).1 (gI (gI s).2).1 (rNum (gI (gI s).2).2).1 acc1 (gSig st1).1.1 (gSig st1).1.2),rfl,⟨_,rfl,⟨A8 _,A8 _,rNum_lt (gI_suf.bytes (gI_suf.bytes HBY.o)),A8 _,A8 _⟩,((HAL1.o.mod g8.out bE bE).mod g9.out aD aD).rd.widen cX⟩,(by rw [hse];exact (u6.out.mod g9.out (sB HBR))),(fun h=>by rw [hse] at h;have hne:st1≠none:=fun e=>h (by rw [e];exact gSig_suf.no);show Pm.mk _ _ _ _ _ _=Pm.mk _ _ _ (Av gCe _).1 (gSig (Av gCe _).2).1.1 (gSig (Av gCe _).2).1.2;rw [HGL1.o,← HF1.o.2 hne,HF1.o.1]),((HML1.o.trans g8.out aC).trans g9.out cW)⟩
set_option maxHeartbeats 16000000 in
theorem dBa_U:GetsU BaR 100 55 gBa:=by
 intro R r s w hR hB hl
 have HRD:=B8 hR
 have HBR:=B8 hB
 have HBY:=hid hR.bytes
 have HLN:=B8 hl
 clear hR hB hl
 go_enter Tryz.func55,Tryz.ntmps55
 go_upto_region 1 with (fail)
 obtain ⟨w1,hw1⟩:∃ zz,zz=(w.alloc (.cells zq8.toArray 45)):=⟨_,rfl⟩
 change Code.wp _ _ _ _ (w.alloc (.cells zq8.toArray 45))
 rw [← hw1]
 have HB2:=hid (show Cs w1 (w.heap.size) zq8.toArray 45 by rw [hw1];exact Cs.new _ _ _)
 have hm:Mod (fun _=>False) w w1:=by rw [hw1];exact (Mod.refl _ _).alloc _
 have HM0:=hid (show Mod (fun k=>(R k)) w w1 from hm.mono iB)
 have hs1:w1.heap.size=w.heap.size+1:=by rw [hw1];simp
 have q6:=hid (HRD.o.mod hm iA)
 clear HRD
 clear hw1 hm
 go_upto_region 1 with (fail)
 refine Ab 103 [11,12,13,14,15,3,109] [0,1,2,3,4,5,6] (fun a0 HA0=>?_)
 have c3:=ev HA0 0 rfl
 refine qmo rfl c3 ?_
 refine QSeq.call rfl rfl Tryz.func46 (dI_Q q6.out) (fun E=>Ar (E.d 0 0) rfl) ?_
 rintro e df ⟨rfl,qrd,hm⟩
 refine ⟨_,rfl,?_⟩
 have q7:=hid qrd
 have fc:=hm.size
 have q8:=hid (show Mod (fun k=>(R k)) w1 df from hm)
 clear hm
 clear qrd q6
 refine qmo rfl c3 ?_
 refine QSeq.call rfl rfl Tryz.func52 (RefRNum_R q7.out) (fun E=>Ap (E.d 2 0)) ?_
 rintro e c4 ⟨rfl,qrd,hm⟩
 refine ⟨_,rfl,?_⟩
 have q9:=hid qrd
 have fe:=hm.size
 have dg:=hid hm
 have r5:=hid (AA (S':=(fun k=>(R k))) q8.out hm (fun _ h=>h) aQ)
 clear hm q8
 clear qrd q7
 refine QSeq.go fun act E=>?_
 refine Bu rfl (Aa rfl) (v:=.agg ((Ba.cells (Ba.mk (gI s).1 (rNum (gI s).2).1 [] [] []) (Value.slice none 0 0) (Value.slice none 0 0) (Value.slice none 0 0)):List Value).toArray) (Bo rfl (z:=zq8) (places:=[(0,1),(1,1),(2,1),(3,1),(4,1)]) aE (parts:=[(0,.int .i64 (gI s).1),(1,.int .u64 ((rNum (gI s).2).1:Nat))]) (by simp only [C8,C5,C6,show act.eval (.tmp 12)=.int .i64 (gI s).1 from (E.d 1 2),show act.eval (.tmp 14)=.int .u64 ((rNum (gI s).2).1:Nat) from (E.d 3 0)];try rfl) (r:=(Ba.cells (Ba.mk (gI s).1 (rNum (gI s).2).1 [] [] []) (Value.slice none 0 0) (Value.slice none 0 0) (Value.slice none 0 0))) (by exact Bn (ns:=[1,1,1,1,1]) rfl [(0,.int .i64 (gI s).1),(1,.int .u64 ((rNum (gI s).2).1:Nat))] [[.int .i64 0],[.int .u64 0],[.slice none 0 0],[.slice none 0 0],[.slice none 0 0]] rfl ⟨rfl,rfl,trivial⟩)) ?_
 clear act E
 refine QSeq.go fun act E=>?_
 refine qc_alloc rfl (Aa rfl) rfl (z:=zq8) aE ?_
 intro ff qqx hm
 have fg:=qqx.lt
 have r6:=hid qqx
 have fh:=hm.size
 have r7:=hid hm
 have r8:=hid (r5.out.goE hm)
 clear hm r5
 clear act E qqx
 refine QSeq.go fun act E=>?_
 have hlz:((Ba.cells (Ba.mk (gI s).1 (rNum (gI s).2).1 [] [] []) (Value.slice none 0 0) (Value.slice none 0 0) (Value.slice none 0 0))).length=List.length (zq8:List Value):=rfl
 refine Am rfl (Aa rfl) rfl r6.out (off:=0) (vs:=(Ba.cells (Ba.mk (gI s).1 (rNum (gI s).2).1 [] [] []) (Value.slice none 0 0) (Value.slice none 0 0) (Value.slice none 0 0))) dI dS bS (E.d 5 0) (ec (E.d 4 1)) ?_
 intro dh qc0 hm
 have qqx:=qc0.eqv (b:=((Ba.cells (Ba.mk (gI s).1 (rNum (gI s).2).1 [] [] []) (Value.slice none 0 0) (Value.slice none 0 0) (Value.slice none 0 0)):List Value).toArray) (Aw zq8.toArray _ eK)
 clear qc0 hlz
 have Hx8:=hid qqx
 have fi:=hm.size
 have r9:=hid hm
 have s0:=hid (AA (S':=(fun k=>(R k))) r8.out hm (fun _ h=>h) cQ)
 clear hm r8
 clear act E qqx r6
 have Hx10:=hid ((q9.out.mod r7.out iA).mod r9.out (sB HBR))
 clear q9 dg r7 r9
 refine qe ?_
 clear HA0 c3 a0
 go_upto_region 2 with (fail)
 refine Ab 103 [16,17,4] [0,1,2] (fun a0 HA0=>?_)
 have c3:=ev HA0 0 rfl
 refine qmo rfl c3 ?_
 refine QSeq.call rfl rfl Tryz.func46 (RefRInt_R Hx10.o aM) (fun E=>Ar (E.d 0 0) rfl) ?_
 rintro e c7 ⟨rfl,qrd,hm⟩
 refine ⟨_,rfl,?_⟩
 have s5:=hid qrd
 have fj:=hm.size
 have j6:=hid (show Mod (fun k=>(R k)) dh c7 from hm)
 clear hm
 clear qrd Hx10
 refine qas rfl 1 0 ?_
 refine qe ?_
 clear HA0 c3 a0
 obtain ⟨n1,hn⟩:∃ n,n=(rInt 100 (rNum (gI s).2).2).1:=⟨_,rfl⟩
 obtain ⟨s1,hs1⟩:∃ z,z=(rInt 100 (rNum (gI s).2).2).2:=⟨_,rfl⟩
 have hn100_1:n1≤100:=by have:=rInt_le 100 (rNum (gI s).2).2;omega
 have HLS1:=hid (show (s1.getD []).length≤900000 by rw [hs1];exact C4 ((rInt_suf 100).len _) (C4 (rNum_suf.len _) (C4 (gI_suf.len _) HLN.o)))
 have HGL1:=hid (show Av gPm (rNum (gI s).2).2=B0 gPm n1 [] s1 by rw [hn,hs1];rfl)
 rw [← hn]
 have hq:=s5.out
 rw [← hs1] at hq
 have HR1:=B8 hq
 clear hq hn hs1 s5
 go_upto_region 3 with (fail)
 refine Ab 103 [5] [0] (fun a0 HA0=>?_)
 refine QSeq.pure rfl (.int .i64 0) (fun E=>An rfl rfl) ?_
 refine qe ?_
 clear HA0 a0
 go_wp2
 go_loopw [5] (fun ti wr=>∃ (k:Nat) (acc:List Pm) (st:RSt) (v:Value),ti=.int .i64 (k:Int)∧k≤n1∧acc.length=k∧(st.getD []).length≤900000∧Ru gPm n1 s1 k acc st∧c7.heap.size≤wr.heap.size∧OwS PmR 40 (fun b=>c7.heap.size≤b∧b < wr.heap.size) (fun b=>c7.heap.size≤b∧b < wr.heap.size) wr v acc∧Cs wr (c4.heap.size) ((Ba.cells (Ba.mk (gI s).1 (rNum (gI s).2).1 acc [] []) (v) (Value.slice none 0 0) (Value.slice none 0 0)):List Value).toArray 45∧RrR 100 R wr r st∧Cs wr (w.heap.size) zq8.toArray 45∧Mod R w wr) (fun ti _=>n1 - (intOf ti).toNat)
 case atStart=>exact ⟨0,[],s1,.slice none 0 0,rfl,Nat.zero_le _,rfl,HLS1.o,Ru.start gPm_suf _ _,C0 _,OwS.nil _ _ _ _ _,(Hx8.o.mod j6.out aH),HR1.o,((HB2.o.mod s0.out aH).mod j6.out aH),((HM0.o.trans s0.out iA).trans j6.out iA)⟩
 case round=>
  obtain ⟨k1,acc1,st1,v1,rfl,hk,hka,hst,hru,hz,ha,hbx,hr,hk_0,hm⟩:=hrel
  obtain ⟨wl1,rfl⟩:∃ x,x=wr:=⟨_,rfl⟩
  obtain ⟨aol1,capl1,rfl⟩:=ha.shape
  have HAL1:=B8 ha
  have HBXL1:=B8 hbx
  have HRL1:=B8 hr
  have HML1:=B8 hm
  have HST1:=B8 hst
  have HRU1:=B8 hru
  have HKA1:=B8 hka
  have HKP1_0:=B8 hk_0
  clear ha hbx hr hm hst hru hka hk_0 HR1 HB2 HM0 Hx8
  by_cases hgo1:k1 < n1∧st1≠none
  ·obtain ⟨hlt1,hsn1⟩:=hgo1
   cases st1 with
   | none=>exact absurd rfl hsn1
   | some l1=>
    go_upto_region 4 with (fail)
    refine Ab 103 [18,19,20,21,22,23,24,25,26,27] [0,1,2,3,4,5,6,7,8,9] (fun a0 HA0=>?_)
    have c3:=ev HA0 0 rfl
    have c6:=ev HA0 4 rfl
    have d8:=ev HA0 5 rfl
    refine qmo rfl d8 ?_
    refine qmo rfl c6 ?_
    refine QSeq.pure rfl (.bool true) (fun E=>Aq rfl (E.d 0 1) (E.d 1 0) (Ai _ _ _ _ _ _) (A1 _ _ _ B9) (congrArg Value.bool (decide_eq_true aL))) ?_
    refine qmv rfl 2 0 ?_
    refine AB rfl (.pointer (some ⟨r,0,none⟩)) (fun E=>((Ag rfl rfl (E.sz 21 aM) (E.d 3 0)).trans rfl)) (fun E=>Al rfl (E.v c3)) ?_
    refine AB rfl (.pointer (some ⟨r,0,none⟩)) (fun E=>((Ag rfl rfl (E.sz 21 aM) (E.d 3 1)).trans rfl)) (fun E=>ex_nil rfl (E.d 4 0)) ?_
    refine AB rfl (.pointer (some ⟨r,1,none⟩)) (fun E=>((Ag rfl rfl (E.sz 21 aM) (E.d 3 2)).trans rfl)) (fun E=>Ae rfl E5 rfl aE (E.d 5 0)) ?_
    refine AB rfl (.bool false) (fun E=>((Ag rfl rfl (E.sz 21 aM) (E.d 3 3)).trans rfl)) (fun E=>Af rfl E8 rfl (E.d 6 0) (AJ HRL1.o)) ?_
    refine AB rfl (.bool true) (fun E=>((Ag rfl rfl (E.sz 21 aM) (E.d 3 4)).trans rfl)) (fun E=>B1 rfl (E.d 7 0)) ?_
    refine QSeq.pure rfl (.bool true) (fun E=>Bp rfl (E.d 3 5) (E.d 8 0) rfl) ?_
    refine qe ?_
    clear HA0 c3 c6 d8 a0
    obtain ⟨st2_1,hp2⟩:∃ z,z=(gPm (some l1)).2:=⟨_,rfl⟩
    have HP2_1:=hid hp2.symm
    clear hp2
    have HST2_1:=hid (show (st2_1.getD []).length≤900000 by rw [← HP2_1.o];exact C4 (gPm_suf.len _) HST1.o)
    go_upto_region 6 with (fail)
    generalize ha0:Act.mk _ _=a0
    have c3:a0.eval (.tmp 0)=.pointer (some ⟨r,0,none⟩):=by rw [← ha0];rfl
    have c8:a0.eval (.tmp 3)=.pointer (some ⟨c4.heap.size,0,none⟩):=by rw [← ha0];rfl
    have hsz0:a0.tmps.size=103:=by rw [← ha0];rfl
    have HA0:=hid ha0
    clear ha0
    refine Bc 103 hsz0 [30,31,32,33,34,35,36,110] (fun k=>(R k)∨(New c7 wl1 k)∨(k=c4.heap.size)) (fun k j=>(k=0∧((R j)))∨(k=2∧((New c7 wl1 j)))∨(k=3∧((j=c4.heap.size)))) bK [qi (.pointer (some ⟨c4.heap.size,2,none⟩)),qi (.slice aol1 acc1.length capl1),qi (.pointer (some ⟨r,0,none⟩)),qv 0,qv 1,qv 2,qi (.pointer (some ⟨c4.heap.size,2,none⟩)),qv 3] ⟨Ac,Ac,Ac,Ah,Ah,Ah,Ac,Ah,trivial⟩ [3,4,5,7] ⟨?_,?_,?_,?_,?_,?_,?_,?_,trivial⟩ ?_
    ·exact stq (fun E=>Ae rfl C7 rfl aE (E.v c8))
    ·refine Ay rfl rfl rfl fun _ _ _ _ _ _ hm0 _ _ hd hub _=>?_
     have h0:=hd ⟨0,.data⟩ bA rfl _ rfl
     refine Bl rfl (Aa rfl) (Af rfl Tryz.underlying41 rfl h0 (AC (HBXL1.o.mod hm0 bI) rfl)) QE.refl ?_
     rfl
    ·exact stq (fun E=>Al rfl (E.v c3))
    ·exact Ad rfl
    ·exact Ad rfl
    ·exact Ad rfl
    ·exact stq (fun E=>Ae rfl C7 rfl aE (E.v c8))
    ·exact Ad rfl
    intro j7 hr
    have fk:=hr.size
    have s6:=hid (hr.new (S:=(fun k=>(R k)∨(New c7 wl1 k)∨(k=c4.heap.size))))
    have s7:=hid (HAL1.o.mod hr aD aD)
    clear HAL1
    have s8:=hid (HBXL1.o.mod hr aG)
    clear HBXL1
    have t0:=hid (HRL1.o.mod hr aO)
    clear HRL1
    clear hr
    refine QChain.go fun Z act E=>?_
    refine Aj (args:=#[.pointer (some ⟨r,0,none⟩)]) rfl (Aa rfl) rfl Tryz.func54 (Ap (E.d 2)) (dPm_U.to HP2_1.o t0.out aK HST1.o) ?_
    rintro e j8 ⟨cs1,y1,rfl,qel,qrd,hy1,hm⟩
    have HY1:=B8 hy1
    clear hy1
    have fm:=hm.size
    refine ⟨_,rfl,hm.mono aW,(fun _=>rfl),?_⟩
    intro j9 hr
    have fo:=hr.size
    have l7:=hid ((qel.widen (R':=(fun k=>(New j7 j8 k))) (fun _ h=>h)).mod hr aD)
    have t1:=hid (qrd.mod hr aO)
    have hmr:=hm.two hr
    have t2:=hid (s7.out.mod hmr bE bE)
    have t8:=hid (s8.out.mod hmr bM)
    clear s7 s8
    clear hmr
    have t9:=hid (s6.out.goM hm hr aS)
    clear s6 hm hr Z act E qel qrd t0
    refine QChain.go fun Z act E=>?_
    refine qc_buildS (e:=40) (cs:=cs1) (zc:=zq9) (sz:=6) rfl (Aa rfl) rfl Tryz.underlying41 aE rfl aM aM (chv (v:=.agg cs1.toArray) (E.d 3)) (PmR.len l7.out) ?_
    intro fp qrow hm
    have fq:=qrow.lt
    have ft:=hm.size
    refine ⟨hm.mono iB,(fun _=>rfl),?_⟩
    intro di hr
    have fv:=hr.size
    have l8:=hid (qrow.mod hr aG)
    have hmr:=Mod.after hm hr
    have u0:=hid (t2.out.mod hmr aD aD)
    have u1:=hid (t8.out.mod hmr aG)
    have u2:=hid (t1.out.mod hmr aO)
    have m7:=hid (l7.out.mod hmr aD)
    clear t2 t8 t1 l7
    clear hmr
    have u3:=hid (t9.out.go hm hr)
    clear t9 hm hr Z act E qrow
    refine QChain.go fun Z act E=>?_
    refine qc_appS (A:=PmR) (e:=40) rfl (Aa rfl) rfl (.agg zq9.toArray) 64 Tryz.underlying41 info_Pm (by rfl) (of_decide_eq_true aE) (E.d 1) (chv (v:=.slice (some ⟨j9.heap.size,0,none⟩) 1 1) (E.d 4)) (u0.out) (AI (R:=(fun k=>(New j7 j8 k)∨(k=j9.heap.size))) l8.out (m7.out.widen bF) bV) aD fX eW ?_
    intro ao12 cap12 dj qacc1 hm
    have fw:=hm.size
    refine ⟨hm.mono cG,(fun _=>rfl),?_⟩
    intro fx hr
    have fy:=hr.size
    have u4:=hid ((qacc1.widen (R':=(fun k=>(New c7 wl1 k)∨(New di dj k))) (E':=(fun k=>(New c7 wl1 k)∨(New j7 j8 k)∨(k=j9.heap.size))) (fun _ h=>h) bD).mod hr aD aD)
    have hmr:=hm.two hr
    have u5:=hid (u1.out.mod hmr aG)
    have u6:=hid (u2.out.mod hmr aO)
    have u7:=hid (m7.out.mod hmr aD)
    have u9:=hid (l8.out.mod hmr aG)
    clear u1 u2 m7 l8
    clear hmr
    have v5:=hid (u3.out.goM hm hr aS)
    clear u3 hm hr Z act E qacc1 u0
    refine QChain.go fun Z act E=>?_
    refine Am rfl (Aa rfl) rfl u5.out (off:=2) (vs:=[Value.slice ao12 (acc1.length+1) cap12]) aE fK (by show 2+1≤5;decide) (E.d 6) (by rw [show act.eval ((.tmp 35))=_ from (chv (v:=.slice ao12 (acc1.length+1) cap12) (E.d 5))];rfl) ?_
    intro dk qc0 hm
    have qqx:Cs dk (c4.heap.size) ((Ba.cells (Ba.mk (gI s).1 (rNum (gI s).2).1 (acc1 ++ [y1]) [] []) (Value.slice ao12 (acc1.length+1) cap12) (Value.slice none 0 0) (Value.slice none 0 0)):List Value).toArray 45:=by rw [show lay _ 2 _=((Ba.cells (Ba.mk (gI s).1 (rNum (gI s).2).1 (acc1 ++ [y1]) [] []) (Value.slice ao12 (acc1.length+1) cap12) (Value.slice none 0 0) (Value.slice none 0 0)):List Value).toArray from rfl] at qc0;exact qc0
    clear qc0
    have fz:=hm.size
    refine ⟨hm.mono cG,(fun _=>rfl),?_⟩
    intro gc hr
    have gd:=hr.size
    have dl:=hid (qqx.mod hr aG)
    have hmr:=hm.two hr
    have dm:=hid (u4.out.mod hmr aD aD)
    have dp:=hid (u6.out.mod hmr aO)
    have dq:=hid (u7.out.mod hmr aD)
    have dr:=hid (u9.out.mod hmr aG)
    clear u4 u6 u7 u9
    clear hmr
    have v6:=hid (v5.out.goM hm hr aS)
    clear v5 hm hr Z act E qqx u5
    refine QChain.nil fun vs hl hzz hrows hne=>?_
    obtain ⟨Z,hYZ,hZb,hV⟩:=hzz
    have f2:=fvi hV hl 2
    have f3:=fvc hV hl 3
    have f4:=fvc hV hl 4
    have f5:=fvc hV hl 5
    rw [show vs=[gw vs 0,gw vs 1,gw vs 2,gw vs 3,gw vs 4,gw vs 5,gw vs 6,gw vs 7] from (Bi hl).trans rfl]
    have ha0:=HA0.o
    subst ha0
    clear HA0 hV hYZ hZb hsz0 hrows hne c3 c8
    simp only [Au,Act.put,sIB,sCZ,sCS,List.set_nil,f2,f3,f4,f5]
    clear hl f2 f3 f4 f5
    clear dq
    clear dr
    go_upto_region 5 with (fail)
    refine Ab 103 [28,29,5] [0,1,2] (fun a0 HA0=>?_)
    have d8:=ev HA0 5 rfl
    refine QSeq.pure rfl _ (fun E=>Al rfl (E.y 2 d8)) ?_
    refine QSeq.pure rfl (.int .i64 (((k1:Nat):Int)+1)) (fun E=>Aq rfl (E.d 0 0) rfl (Ai _ _ _ _ _ _) (Bz _ _ B9) (congrArg (Value.int .i64) (IntWalk.i64_in _ aL))) ?_
    refine qas rfl 1 0 ?_
    refine qe ?_
    clear HA0 d8 a0
    go_wp2
    go_roundw
    case rel=>exact ⟨k1+1,acc1 ++ [y1],st2_1,_,by go_num,by omega,by rw [C3,HKA1.o];rfl,HST2_1.o,HRU1.o.step hlt1 bA HP2_1.o HY1.o,by omega,(dm.out.widen cS bZ),dl.out,dp.out,(HKP1_0.o.mod v6.out bP),(HML1.o.trans v6.out bJ)⟩
    case measure=>simp [intOf]<;>omega
  ·skip
   obtain ⟨bA1,hbA1⟩:∃ b:Bool,b=decide (((k1:Nat):Int) < ((n1:Nat):Int)):=⟨_,rfl⟩
   go_upto_region 4 with (fail)
   refine Ab 103 [18,19,20,21,22,23,24,25,26,27] [0,1,2,3,4,5,6,7,8,9] (fun a0 HA0=>?_)
   have c3:=ev HA0 0 rfl
   have c6:=ev HA0 4 rfl
   have d8:=ev HA0 5 rfl
   refine qmo rfl d8 ?_
   refine qmo rfl c6 ?_
   refine QSeq.pure rfl (.bool bA1) (fun E=>Aq rfl (E.d 0 1) (E.d 1 0) (Ai _ _ _ _ _ _) (A1 _ _ _ B9) (congrArg Value.bool hbA1.symm)) ?_
   refine qmv rfl 2 0 ?_
   refine qmy rfl 3 0 (.pointer (some ⟨r,0,none⟩)) (fun E hb=>Al rfl (E.v c3)) ?_
   intro ge hw
   have v7:=hid hw
   clear hw
   refine qmy rfl 3 1 (.pointer (some ⟨r,0,none⟩)) (fun E hb=>ex_nil rfl ((E.q 4 0 v7.out).1 hb)) ?_
   intro gf hw
   have v8:=hid hw
   clear hw
   refine qmy rfl 3 2 (.pointer (some ⟨r,1,none⟩)) (fun E hb=>Ae rfl E5 rfl aE ((E.q 5 0 v8.out).1 hb)) ?_
   intro gg hw
   have x4:=hid hw
   clear hw
   refine qmy rfl 3 3 (.bool st1.isNone) (fun E hb=>Af rfl E8 rfl ((E.q 6 0 x4.out).1 hb) (AJ HRL1.o)) ?_
   intro gh hw
   have x5:=hid hw
   clear hw
   refine qmy rfl 3 4 (.bool (!st1.isNone)) (fun E hb=>B1 rfl ((E.q 7 0 x5.out).1 hb)) ?_
   intro gi hw
   have x6:=hid hw
   clear hw
   refine QSeq.pure rfl (.bool (bA1 && (!st1.isNone))) (fun E=>A5 rfl (E.d 3 5) rfl rfl (Be fun hb=>(E.q 8 0 x6.out).1 hb)) ?_
   clear v7 v8 x4 x5 x6
   refine qe ?_
   clear HA0 c3 c6 d8 a0
   rw [go_false hgo1 hbA1]
   have HF1:=hid (HRU1.o.fin hgo1 hk)
   clear hbA1 hgo1
   go_upto_region 7 with (fail)
   refine Ab 103 [37,38,4] [0,1,2] (fun a0 HA0=>?_)
   have c3:=ev HA0 0 rfl
   refine qmo rfl c3 ?_
   refine QSeq.call rfl rfl Tryz.func46 (RefRInt_R HRL1.o aM) (fun E=>Ar (E.d 0 0) rfl) ?_
   rintro e c9 ⟨rfl,qrd,hm⟩
   refine ⟨_,rfl,?_⟩
   have x7:=hid qrd
   have gj:=hm.size
   have j4:=hid (show Mod (fun k=>(R k)) wl1 c9 from hm)
   clear hm
   clear qrd HRL1
   refine qas rfl 1 0 ?_
   refine qe ?_
   clear HA0 c3 a0
   obtain ⟨n2,hn⟩:∃ n,n=(rInt 100 st1).1:=⟨_,rfl⟩
   obtain ⟨s2,hs1⟩:∃ z,z=(rInt 100 st1).2:=⟨_,rfl⟩
   have hn100_2:n2≤100:=by have:=rInt_le 100 st1;omega
   have HLS2:=hid (show (s2.getD []).length≤900000 by rw [hs1];exact C4 ((rInt_suf 100).len _) HST1.o)
   have HGL2:=hid (show Av gOp st1=B0 gOp n2 [] s2 by rw [hn,hs1];rfl)
   rw [← hn]
   have hq:=x7.out
   rw [← hs1] at hq
   have HR2:=B8 hq
   clear hq hn hs1 x7
   go_upto_region 8 with (fail)
   refine Ab 103 [6] [0] (fun a0 HA0=>?_)
   refine QSeq.pure rfl (.int .i64 0) (fun E=>An rfl rfl) ?_
   refine qe ?_
   clear HA0 a0
   go_wp2
   go_loopw [6] (fun ti wr=>∃ (k:Nat) (acc:List Op) (st:RSt) (v:Value),ti=.int .i64 (k:Int)∧k≤n2∧acc.length=k∧(st.getD []).length≤900000∧Ru gOp n2 s2 k acc st∧c9.heap.size≤wr.heap.size∧OwS OpR 54 (fun b=>c9.heap.size≤b∧b < wr.heap.size) (fun b=>c9.heap.size≤b∧b < wr.heap.size) wr v acc∧Cs wr (c4.heap.size) ((Ba.cells (Ba.mk (gI s).1 (rNum (gI s).2).1 acc1 acc []) (Value.slice aol1 acc1.length capl1) (v) (Value.slice none 0 0)):List Value).toArray 45∧RrR 100 R wr r st∧Cs wr (w.heap.size) zq8.toArray 45∧OwS PmR 40 (fun b=>c7.heap.size≤b∧b < wl1.heap.size) (fun b=>c7.heap.size≤b∧b < wl1.heap.size) wr (.slice aol1 acc1.length capl1) acc1∧Mod R w wr) (fun ti _=>n2 - (intOf ti).toNat)
   case atStart=>exact ⟨0,[],s2,.slice none 0 0,rfl,Nat.zero_le _,rfl,HLS2.o,Ru.start gOp_suf _ _,C0 _,OwS.nil _ _ _ _ _,(HBXL1.o.mod j4.out aH),HR2.o,(HKP1_0.o.mod j4.out aH),(HAL1.o.mod j4.out aT aT),(HML1.o.trans j4.out iA)⟩
   case round=>
    obtain ⟨k2,acc2,st2,v2,rfl,hk,hka,hst,hru,hz,ha,hbx,hr,hk_0,hk_1,hm⟩:=hrel
    obtain ⟨wl2,rfl⟩:∃ x,x=wr:=⟨_,rfl⟩
    obtain ⟨aol2,capl2,rfl⟩:=ha.shape
    have HAL2:=B8 ha
    have HBXL2:=B8 hbx
    have HRL2:=B8 hr
    have HML2:=B8 hm
    have HST2:=B8 hst
    have HRU2:=B8 hru
    have HKA2:=B8 hka
    have HKP2_0:=B8 hk_0
    have HKP2_1:=B8 hk_1
    clear ha hbx hr hm hst hru hka hk_0 hk_1 HAL1 HBXL1 HR2 HML1 HKP1_0
    by_cases hgo2:k2 < n2∧st2≠none
    ·obtain ⟨hlt2,hsn2⟩:=hgo2
     cases st2 with
     | none=>exact absurd rfl hsn2
     | some l2=>
      go_upto_region 9 with (fail)
      refine Ab 103 [39,40,41,42,43,44,45,46,47,48] [0,1,2,3,4,5,6,7,8,9] (fun a0 HA0=>?_)
      have c3:=ev HA0 0 rfl
      have c6:=ev HA0 4 rfl
      have d9:=ev HA0 6 rfl
      refine qmo rfl d9 ?_
      refine qmo rfl c6 ?_
      refine QSeq.pure rfl (.bool true) (fun E=>Aq rfl (E.d 0 1) (E.d 1 0) (Ai _ _ _ _ _ _) (A1 _ _ _ B9) (congrArg Value.bool (decide_eq_true aL))) ?_
      refine qmv rfl 2 0 ?_
      refine AB rfl (.pointer (some ⟨r,0,none⟩)) (fun E=>((Ag rfl rfl (E.sz 42 aM) (E.d 3 0)).trans rfl)) (fun E=>Al rfl (E.v c3)) ?_
      refine AB rfl (.pointer (some ⟨r,0,none⟩)) (fun E=>((Ag rfl rfl (E.sz 42 aM) (E.d 3 1)).trans rfl)) (fun E=>ex_nil rfl (E.d 4 0)) ?_
      refine AB rfl (.pointer (some ⟨r,1,none⟩)) (fun E=>((Ag rfl rfl (E.sz 42 aM) (E.d 3 2)).trans rfl)) (fun E=>Ae rfl E5 rfl aE (E.d 5 0)) ?_
      refine AB rfl (.bool false) (fun E=>((Ag rfl rfl (E.sz 42 aM) (E.d 3 3)).trans rfl)) (fun E=>Af rfl E8 rfl (E.d 6 0) (AJ HRL2.o)) ?_
      refine AB rfl (.bool true) (fun E=>((Ag rfl rfl (E.sz 42 aM) (E.d 3 4)).trans rfl)) (fun E=>B1 rfl (E.d 7 0)) ?_
      refine QSeq.pure rfl (.bool true) (fun E=>Bp rfl (E.d 3 5) (E.d 8 0) rfl) ?_
      refine qe ?_
      clear HA0 c3 c6 d9 a0
      obtain ⟨st2_2,hp2⟩:∃ z,z=(gOp (some l2)).2:=⟨_,rfl⟩
      have HP2_2:=hid hp2.symm
      clear hp2
      have HST2_2:=hid (show (st2_2.getD []).length≤900000 by rw [← HP2_2.o];exact C4 (gOp_suf.len _) HST2.o)
      go_upto_region 11 with (fail)
      generalize ha0:Act.mk _ _=a0
      have c3:a0.eval (.tmp 0)=.pointer (some ⟨r,0,none⟩):=by rw [← ha0];rfl
      have c8:a0.eval (.tmp 3)=.pointer (some ⟨c4.heap.size,0,none⟩):=by rw [← ha0];rfl
      have hsz0:a0.tmps.size=103:=by rw [← ha0];rfl
      have HA0:=hid ha0
      clear ha0
      refine Bc 103 hsz0 [51,52,53,54,55,56,57,110] (fun k=>(R k)∨(New c9 wl2 k)∨(k=c4.heap.size)) (fun k j=>(k=0∧((R j)))∨(k=2∧((New c9 wl2 j)))∨(k=3∧((j=c4.heap.size)))) bK [qi (.pointer (some ⟨c4.heap.size,3,none⟩)),qi (.slice aol2 acc2.length capl2),qi (.pointer (some ⟨r,0,none⟩)),qv 0,qv 1,qv 2,qi (.pointer (some ⟨c4.heap.size,3,none⟩)),qv 3] ⟨Ac,Ac,Ac,Ah,Ah,Ah,Ac,Ah,trivial⟩ [3,4,5,7] ⟨?_,?_,?_,?_,?_,?_,?_,?_,trivial⟩ ?_
      ·exact stq (fun E=>Ae rfl C7 rfl aE (E.v c8))
      ·refine Ay rfl rfl rfl fun _ _ _ _ _ _ hm0 _ _ hd hub _=>?_
       have h0:=hd ⟨0,.data⟩ bA rfl _ rfl
       refine Bl rfl (Aa rfl) (Af rfl Tryz.underlying42 rfl h0 (AC (HBXL2.o.mod hm0 bI) rfl)) QE.refl ?_
       rfl
      ·exact stq (fun E=>Al rfl (E.v c3))
      ·exact Ad rfl
      ·exact Ad rfl
      ·exact Ad rfl
      ·exact stq (fun E=>Ae rfl C7 rfl aE (E.v c8))
      ·exact Ad rfl
      intro m8 hr
      have gk:=hr.size
      have x8:=hid (hr.new (S:=(fun k=>(R k)∨(New c9 wl2 k)∨(k=c4.heap.size))))
      have x9:=hid (HAL2.o.mod hr aD aD)
      clear HAL2
      have y0:=hid (HBXL2.o.mod hr aG)
      clear HBXL2
      have y5:=hid (HRL2.o.mod hr aO)
      clear HRL2
      clear hr
      refine QChain.go fun Z act E=>?_
      refine Aj (args:=#[.pointer (some ⟨r,0,none⟩)]) rfl (Aa rfl) rfl Tryz.func57 (Ap (E.d 2)) (dOp_G.toU.to HP2_2.o y5.out aK HST2.o) ?_
      rintro e m9 ⟨cs2,y2,rfl,qel,qrd,hy2,hm⟩
      have HY2:=B8 hy2
      clear hy2
      have gm:=hm.size
      refine ⟨_,rfl,hm.mono aW,(fun _=>rfl),?_⟩
      intro n5 hr
      have gn:=hr.size
      have n6:=hid ((qel.widen (R':=(fun k=>(New m8 m9 k))) (fun _ h=>h)).mod hr aD)
      have y6:=hid (qrd.mod hr aO)
      have hmr:=hm.two hr
      have y7:=hid (x9.out.mod hmr bE bE)
      have y8:=hid (y0.out.mod hmr bM)
      clear x9 y0
      clear hmr
      have z0:=hid (x8.out.goM hm hr aS)
      clear x8 hm hr Z act E qel qrd y5
      refine QChain.go fun Z act E=>?_
      refine qc_buildS (e:=54) (cs:=cs2) (zc:=zq2) (sz:=34) rfl (Aa rfl) rfl Tryz.underlying42 aE rfl aM aM (chv (v:=.agg cs2.toArray) (E.d 3)) (OpR.len n6.out) ?_
      intro gq qrow hm
      have gr:=qrow.lt
      have gu:=hm.size
      refine ⟨hm.mono iB,(fun _=>rfl),?_⟩
      intro dt hr
      have gv:=hr.size
      have n7:=hid (qrow.mod hr aG)
      have hmr:=Mod.after hm hr
      have z3:=hid (y7.out.mod hmr aD aD)
      have z4:=hid (y8.out.mod hmr aG)
      have z5:=hid (y6.out.mod hmr aO)
      have n8:=hid (n6.out.mod hmr aD)
      clear y7 y8 y6 n6
      clear hmr
      have z6:=hid (z0.out.go hm hr)
      clear z0 hm hr Z act E qrow
      refine QChain.go fun Z act E=>?_
      refine qc_appS (A:=OpR) (e:=54) rfl (Aa rfl) rfl (.agg zq2.toArray) 64 Tryz.underlying42 info_Op (by rfl) (of_decide_eq_true aE) (E.d 1) (chv (v:=.slice (some ⟨n5.heap.size,0,none⟩) 1 1) (E.d 4)) (z3.out) (AI (R:=(fun k=>(New m8 m9 k)∨(k=n5.heap.size))) n7.out (n8.out.widen bF) bV) aD (by rw [HKA2.o];simp only [D6,D5];omega) (by rw [HKA2.o];simp only [D6,D5];rw [Ax];omega) ?_
      intro ao14 cap14 du qacc2 hm
      have gx:=hm.size
      refine ⟨hm.mono cG,(fun _=>rfl),?_⟩
      intro gy hr
      have gz:=hr.size
      have z7:=hid ((qacc2.widen (R':=(fun k=>(New c9 wl2 k)∨(New dt du k))) (E':=(fun k=>(New c9 wl2 k)∨(New m8 m9 k)∨(k=n5.heap.size))) (fun _ h=>h) bD).mod hr aD aD)
      have hmr:=hm.two hr
      have z9:=hid (z4.out.mod hmr aG)
      have aa:=hid (z5.out.mod hmr aO)
      have ac:=hid (n8.out.mod hmr aD)
      have ae:=hid (n7.out.mod hmr aG)
      clear z4 z5 n8 n7
      clear hmr
      have af:=hid (z6.out.goM hm hr aS)
      clear z6 hm hr Z act E qacc2 z3
      refine QChain.go fun Z act E=>?_
      refine Am rfl (Aa rfl) rfl z9.out (off:=3) (vs:=[Value.slice ao14 (acc2.length+1) cap14]) aE fK (by show 3+1≤5;decide) (E.d 6) (by rw [show act.eval ((.tmp 56))=_ from (chv (v:=.slice ao14 (acc2.length+1) cap14) (E.d 5))];rfl) ?_
      intro dv qc0 hm
      have qqx:Cs dv (c4.heap.size) ((Ba.cells (Ba.mk (gI s).1 (rNum (gI s).2).1 acc1 (acc2 ++ [y2]) []) (Value.slice aol1 acc1.length capl1) (Value.slice ao14 (acc2.length+1) cap14) (Value.slice none 0 0)):List Value).toArray 45:=by rw [show lay _ 3 _=((Ba.cells (Ba.mk (gI s).1 (rNum (gI s).2).1 acc1 (acc2 ++ [y2]) []) (Value.slice aol1 acc1.length capl1) (Value.slice ao14 (acc2.length+1) cap14) (Value.slice none 0 0)):List Value).toArray from rfl] at qc0;exact qc0
      clear qc0
      have ia:=hm.size
      refine ⟨hm.mono cG,(fun _=>rfl),?_⟩
      intro ib hr
      have ic:=hr.size
      have dw:=hid (qqx.mod hr aG)
      have hmr:=hm.two hr
      have dx:=hid (z7.out.mod hmr aD aD)
      have dy:=hid (aa.out.mod hmr aO)
      have dz:=hid (ac.out.mod hmr aD)
      have eb:=hid (ae.out.mod hmr aG)
      clear z7 aa ac ae
      clear hmr
      have o5:=hid (af.out.goM hm hr aS)
      clear af hm hr Z act E qqx z9
      refine QChain.nil fun vs hl hzz hrows hne=>?_
      obtain ⟨Z,hYZ,hZb,hV⟩:=hzz
      have f2:=fvi hV hl 2
      have f3:=fvc hV hl 3
      have f4:=fvc hV hl 4
      have f5:=fvc hV hl 5
      rw [show vs=[gw vs 0,gw vs 1,gw vs 2,gw vs 3,gw vs 4,gw vs 5,gw vs 6,gw vs 7] from (Bi hl).trans rfl]
      have ha0:=HA0.o
      subst ha0
      clear HA0 hV hYZ hZb hsz0 hrows hne c3 c8
      simp only [Au,Act.put,sIB,sCZ,sCS,List.set_nil,f2,f3,f4,f5]
      clear hl f2 f3 f4 f5
      clear dz
      clear eb
      go_upto_region 10 with (fail)
      refine Ab 103 [49,50,6] [0,1,2] (fun a0 HA0=>?_)
      have d9:=ev HA0 6 rfl
      refine QSeq.pure rfl _ (fun E=>Al rfl (E.y 2 d9)) ?_
      refine QSeq.pure rfl (.int .i64 (((k2:Nat):Int)+1)) (fun E=>Aq rfl (E.d 0 0) rfl (Ai _ _ _ _ _ _) (Bz _ _ B9) (congrArg (Value.int .i64) (IntWalk.i64_in _ aL))) ?_
      refine qas rfl 1 0 ?_
      refine qe ?_
      clear HA0 d9 a0
      go_wp2
      go_roundw
      case rel=>exact ⟨k2+1,acc2 ++ [y2],st2_2,_,by go_num,by omega,by rw [C3,HKA2.o];rfl,HST2_2.o,HRU2.o.step hlt2 bA HP2_2.o HY2.o,by omega,(dx.out.widen cS bZ),dw.out,dy.out,(HKP2_0.o.mod o5.out bP),(HKP2_1.o.mod o5.out bQ bQ),(HML2.o.trans o5.out bJ)⟩
      case measure=>simp [intOf]<;>omega
    ·skip
     obtain ⟨bA2,hbA2⟩:∃ b:Bool,b=decide (((k2:Nat):Int) < ((n2:Nat):Int)):=⟨_,rfl⟩
     go_upto_region 9 with (fail)
     refine Ab 103 [39,40,41,42,43,44,45,46,47,48] [0,1,2,3,4,5,6,7,8,9] (fun a0 HA0=>?_)
     have c3:=ev HA0 0 rfl
     have c6:=ev HA0 4 rfl
     have d9:=ev HA0 6 rfl
     refine qmo rfl d9 ?_
     refine qmo rfl c6 ?_
     refine QSeq.pure rfl (.bool bA2) (fun E=>Aq rfl (E.d 0 1) (E.d 1 0) (Ai _ _ _ _ _ _) (A1 _ _ _ B9) (congrArg Value.bool hbA2.symm)) ?_
     refine qmv rfl 2 0 ?_
     refine qmy rfl 3 0 (.pointer (some ⟨r,0,none⟩)) (fun E hb=>Al rfl (E.v c3)) ?_
     intro ig hw
     have ag:=hid hw
     clear hw
     refine qmy rfl 3 1 (.pointer (some ⟨r,0,none⟩)) (fun E hb=>ex_nil rfl ((E.q 4 0 ag.out).1 hb)) ?_
     intro ii hw
     have ah:=hid hw
     clear hw
     refine qmy rfl 3 2 (.pointer (some ⟨r,1,none⟩)) (fun E hb=>Ae rfl E5 rfl aE ((E.q 5 0 ah.out).1 hb)) ?_
     intro ij hw
     have aj:=hid hw
     clear hw
     refine qmy rfl 3 3 (.bool st2.isNone) (fun E hb=>Af rfl E8 rfl ((E.q 6 0 aj.out).1 hb) (AJ HRL2.o)) ?_
     intro ik hw
     have am:=hid hw
     clear hw
     refine qmy rfl 3 4 (.bool (!st2.isNone)) (fun E hb=>B1 rfl ((E.q 7 0 am.out).1 hb)) ?_
     intro il hw
     have ap:=hid hw
     clear hw
     refine QSeq.pure rfl (.bool (bA2 && (!st2.isNone))) (fun E=>A5 rfl (E.d 3 5) rfl rfl (Be fun hb=>(E.q 8 0 ap.out).1 hb)) ?_
     clear ag ah aj am ap
     refine qe ?_
     clear HA0 c3 c6 d9 a0
     rw [go_false hgo2 hbA2]
     have HF2:=hid (HRU2.o.fin hgo2 hk)
     clear hbA2 hgo2
     go_upto_region 12 with (fail)
     refine Ab 103 [58,59,4] [0,1,2] (fun a0 HA0=>?_)
     have c3:=ev HA0 0 rfl
     refine qmo rfl c3 ?_
     refine QSeq.call rfl rfl Tryz.func46 (RefRInt_R HRL2.o aM) (fun E=>Ar (E.d 0 0) rfl) ?_
     rintro e d6 ⟨rfl,qrd,hm⟩
     refine ⟨_,rfl,?_⟩
     have aq:=hid qrd
     have im:=hm.size
     have i8:=hid (show Mod (fun k=>(R k)) wl2 d6 from hm)
     clear hm
     clear qrd HRL2
     refine qas rfl 1 0 ?_
     refine qe ?_
     clear HA0 c3 a0
     obtain ⟨n3,hn⟩:∃ n,n=(rInt 100 st2).1:=⟨_,rfl⟩
     obtain ⟨s3,hs1⟩:∃ z,z=(rInt 100 st2).2:=⟨_,rfl⟩
     have hn100_3:n3≤100:=by have:=rInt_le 100 st2;omega
     have HLS3:=hid (show (s3.getD []).length≤900000 by rw [hs1];exact C4 ((rInt_suf 100).len _) HST2.o)
     have HGL3:=hid (show Av gTb st2=B0 gTb n3 [] s3 by rw [hn,hs1];rfl)
     rw [← hn]
     have hq:=aq.out
     rw [← hs1] at hq
     have HR3:=B8 hq
     clear hq hn hs1 aq
     go_upto_region 13 with (fail)
     refine Ab 103 [7] [0] (fun a0 HA0=>?_)
     refine QSeq.pure rfl (.int .i64 0) (fun E=>An rfl rfl) ?_
     refine qe ?_
     clear HA0 a0
     go_wp2
     go_loopw [7] (fun ti wr=>∃ (k:Nat) (acc:List Tb) (st:RSt) (v:Value),ti=.int .i64 (k:Int)∧k≤n3∧acc.length=k∧(st.getD []).length≤900000∧Ru gTb n3 s3 k acc st∧d6.heap.size≤wr.heap.size∧OwS TbR 127 (fun b=>d6.heap.size≤b∧b < wr.heap.size) (fun b=>d6.heap.size≤b∧b < wr.heap.size) wr v acc∧Cs wr (c4.heap.size) ((Ba.cells (Ba.mk (gI s).1 (rNum (gI s).2).1 acc1 acc2 acc) (Value.slice aol1 acc1.length capl1) (Value.slice aol2 acc2.length capl2) (v)):List Value).toArray 45∧RrR 100 R wr r st∧Cs wr (w.heap.size) zq8.toArray 45∧OwS PmR 40 (fun b=>c7.heap.size≤b∧b < wl1.heap.size) (fun b=>c7.heap.size≤b∧b < wl1.heap.size) wr (.slice aol1 acc1.length capl1) acc1∧OwS OpR 54 (fun b=>c9.heap.size≤b∧b < wl2.heap.size) (fun b=>c9.heap.size≤b∧b < wl2.heap.size) wr (.slice aol2 acc2.length capl2) acc2∧Mod R w wr) (fun ti _=>n3 - (intOf ti).toNat)
     case atStart=>exact ⟨0,[],s3,.slice none 0 0,rfl,Nat.zero_le _,rfl,HLS3.o,Ru.start gTb_suf _ _,C0 _,OwS.nil _ _ _ _ _,(HBXL2.o.mod i8.out aH),HR3.o,(HKP2_0.o.mod i8.out aH),(HKP2_1.o.mod i8.out aT aT),(HAL2.o.mod i8.out aT aT),(HML2.o.trans i8.out iA)⟩
     case round=>
      obtain ⟨k3,acc3,st3,v3,rfl,hk,hka,hst,hru,hz,ha,hbx,hr,hk_0,hk_1,hk_2,hm⟩:=hrel
      obtain ⟨wl3,rfl⟩:∃ x,x=wr:=⟨_,rfl⟩
      obtain ⟨aol3,capl3,rfl⟩:=ha.shape
      have HAL3:=B8 ha
      have HBXL3:=B8 hbx
      have HRL3:=B8 hr
      have HML3:=B8 hm
      have HST3:=B8 hst
      have HRU3:=B8 hru
      have HKA3:=B8 hka
      have HKP3_0:=B8 hk_0
      have HKP3_1:=B8 hk_1
      have HKP3_2:=B8 hk_2
      clear ha hbx hr hm hst hru hka hk_0 hk_1 hk_2 HAL2 HBXL2 HR3 HML2 HKP2_0 HKP2_1
      by_cases hgo3:k3 < n3∧st3≠none
      ·obtain ⟨hlt3,hsn3⟩:=hgo3
       cases st3 with
       | none=>exact absurd rfl hsn3
       | some l3=>
        go_upto_region 14 with (fail)
        refine Ab 103 [60,61,62,63,64,65,66,67,68,69] [0,1,2,3,4,5,6,7,8,9] (fun a0 HA0=>?_)
        have c3:=ev HA0 0 rfl
        have c6:=ev HA0 4 rfl
        have g5:=ev HA0 7 rfl
        refine qmo rfl g5 ?_
        refine qmo rfl c6 ?_
        refine QSeq.pure rfl (.bool true) (fun E=>Aq rfl (E.d 0 1) (E.d 1 0) (Ai _ _ _ _ _ _) (A1 _ _ _ B9) (congrArg Value.bool (decide_eq_true aL))) ?_
        refine qmv rfl 2 0 ?_
        refine AB rfl (.pointer (some ⟨r,0,none⟩)) (fun E=>((Ag rfl rfl (E.sz 63 aM) (E.d 3 0)).trans rfl)) (fun E=>Al rfl (E.v c3)) ?_
        refine AB rfl (.pointer (some ⟨r,0,none⟩)) (fun E=>((Ag rfl rfl (E.sz 63 aM) (E.d 3 1)).trans rfl)) (fun E=>ex_nil rfl (E.d 4 0)) ?_
        refine AB rfl (.pointer (some ⟨r,1,none⟩)) (fun E=>((Ag rfl rfl (E.sz 63 aM) (E.d 3 2)).trans rfl)) (fun E=>Ae rfl E5 rfl aE (E.d 5 0)) ?_
        refine AB rfl (.bool false) (fun E=>((Ag rfl rfl (E.sz 63 aM) (E.d 3 3)).trans rfl)) (fun E=>Af rfl E8 rfl (E.d 6 0) (AJ HRL3.o)) ?_
        refine AB rfl (.bool true) (fun E=>((Ag rfl rfl (E.sz 63 aM) (E.d 3 4)).trans rfl)) (fun E=>B1 rfl (E.d 7 0)) ?_
        refine QSeq.pure rfl (.bool true) (fun E=>Bp rfl (E.d 3 5) (E.d 8 0) rfl) ?_
        refine qe ?_
        clear HA0 c3 c6 g5 a0
        go_upto_region 16 with (fail)
        refine Ab 103 [72,73,74,8,107] [0,1,2,3,4] (fun a0 HA0=>?_)
        have c3:=ev HA0 0 rfl
        refine qmo rfl c3 ?_
        refine QSeq.call rfl rfl Tryz.func46 (dI_Q HRL3.o) (fun E=>Ar (E.d 0 0) rfl) ?_
        rintro e d7 ⟨rfl,qrd,hm⟩
        refine ⟨_,rfl,?_⟩
        have ar:=hid qrd
        have io:=hm.size
        have au:=hid (show Mod (fun k=>(R k)) wl3 d7 from hm)
        clear hm
        clear qrd HRL3
        refine QSeq.go fun act E=>?_
        refine Bu rfl (Aa rfl) (v:=.agg ((Tb.cells (Tb.mk (gI (some l3)).1 []) (Value.slice none 0 0)):List Value).toArray) (Bo rfl (z:=[.int .i64 0,.slice none 0 0]) (places:=[(0,1),(1,1)]) aE (parts:=[(0,.int .i64 (gI (some l3)).1)]) (by simp only [C8,C5,C6,show act.eval (.tmp 73)=.int .i64 (gI (some l3)).1 from (E.d 1 0)];try rfl) (r:=(Tb.cells (Tb.mk (gI (some l3)).1 []) (Value.slice none 0 0))) (by exact Bn (ns:=[1,1]) rfl [(0,.int .i64 (gI (some l3)).1)] [[.int .i64 0],[.slice none 0 0]] rfl ⟨rfl,trivial⟩)) ?_
        clear act E
        refine QSeq.go fun act E=>?_
        refine qc_alloc rfl (Aa rfl) rfl (z:=[.int .i64 0,.slice none 0 0]) aE ?_
        intro ip qqt hm
        have iq:=qqt.lt
        have av:=hid qqt
        have ir:=hm.size
        have aw:=hid hm
        have ax:=hid (au.out.goE hm)
        clear hm au
        clear act E qqt
        refine QSeq.go fun act E=>?_
        have hlz:((Tb.cells (Tb.mk (gI (some l3)).1 []) (Value.slice none 0 0))).length=List.length ([.int .i64 0,.slice none 0 0]:List Value):=rfl
        refine Am rfl (Aa rfl) rfl av.out (off:=0) (vs:=(Tb.cells (Tb.mk (gI (some l3)).1 []) (Value.slice none 0 0))) dI gF bS (E.d 3 0) (ec (E.d 2 1)) ?_
        intro ed qc0 hm
        have qqt:=qc0.eqv (b:=((Tb.cells (Tb.mk (gI (some l3)).1 []) (Value.slice none 0 0)):List Value).toArray) (Aw #[.int .i64 0,.slice none 0 0] _ eK)
        clear qc0 hlz
        have ay:=hid qqt
        have iu:=hm.size
        have az:=hid hm
        have g8:=hid (AA (S':=(fun k=>(R k))) ax.out hm (fun _ h=>h) cQ)
        clear hm ax
        clear act E qqt av
        have bb:=hid ((ar.out.mod aw.out iA).mod az.out (sB HBR))
        clear ar aw az
        refine qe ?_
        clear HA0 c3 a0
        go_upto_region 17 with (fail)
        refine Ab 103 [75,76,9] [0,1,2] (fun a0 HA0=>?_)
        have c3:=ev HA0 0 rfl
        refine qmo rfl c3 ?_
        refine QSeq.call rfl rfl Tryz.func46 (RefRInt_R bb.out aM) (fun E=>Ar (E.d 0 0) rfl) ?_
        rintro e d5 ⟨rfl,qrd,hm⟩
        refine ⟨_,rfl,?_⟩
        have bc:=hid qrd
        have iv:=hm.size
        have g7:=hid (show Mod (fun k=>(R k)) ed d5 from hm)
        clear hm
        clear qrd bb
        refine qas rfl 1 0 ?_
        refine qe ?_
        clear HA0 c3 a0
        obtain ⟨n4,hn⟩:∃ n,n=(rInt 100 (gI (some l3)).2).1:=⟨_,rfl⟩
        obtain ⟨s4,hs1⟩:∃ z,z=(rInt 100 (gI (some l3)).2).2:=⟨_,rfl⟩
        have hn100_4:n4≤100:=by have:=rInt_le 100 (gI (some l3)).2;omega
        have HLS4:=hid (show (s4.getD []).length≤900000 by rw [hs1];exact C4 ((rInt_suf 100).len _) (C4 (gI_suf.len _) HST3.o))
        have HGL4:=hid (show Av gDn (gI (some l3)).2=B0 gDn n4 [] s4 by rw [hn,hs1];rfl)
        rw [← hn]
        have hq:=bc.out
        rw [← hs1] at hq
        have HR4:=B8 hq
        clear hq hn hs1 bc
        go_upto_region 18 with (fail)
        refine Ab 103 [10] [0] (fun a0 HA0=>?_)
        refine QSeq.pure rfl (.int .i64 0) (fun E=>An rfl rfl) ?_
        refine qe ?_
        clear HA0 a0
        go_wp2
        go_loopw [10] (fun ti wr=>∃ (k:Nat) (acc:List Dn) (st:RSt) (v:Value),ti=.int .i64 (k:Int)∧k≤n4∧acc.length=k∧(st.getD []).length≤900000∧Ru gDn n4 s4 k acc st∧d5.heap.size≤wr.heap.size∧OwS DnR 56 (fun b=>d5.heap.size≤b∧b < wr.heap.size) (fun b=>d5.heap.size≤b∧b < wr.heap.size) wr v acc∧Cs wr (d7.heap.size) ((Tb.cells (Tb.mk (gI (some l3)).1 acc) (v)):List Value).toArray 127∧RrR 100 R wr r st∧Cs wr (w.heap.size) zq8.toArray 45∧OwS PmR 40 (fun b=>c7.heap.size≤b∧b < wl1.heap.size) (fun b=>c7.heap.size≤b∧b < wl1.heap.size) wr (.slice aol1 acc1.length capl1) acc1∧OwS OpR 54 (fun b=>c9.heap.size≤b∧b < wl2.heap.size) (fun b=>c9.heap.size≤b∧b < wl2.heap.size) wr (.slice aol2 acc2.length capl2) acc2∧Cs wr (c4.heap.size) ((Ba.cells (Ba.mk (gI s).1 (rNum (gI s).2).1 acc1 acc2 acc3) (Value.slice aol1 acc1.length capl1) (Value.slice aol2 acc2.length capl2) (Value.slice aol3 acc3.length capl3)):List Value).toArray 45∧OwS TbR 127 (fun b=>d6.heap.size≤b∧b < wl3.heap.size) (fun b=>d6.heap.size≤b∧b < wl3.heap.size) wr (.slice aol3 acc3.length capl3) acc3∧Mod R w wr) (fun ti _=>n4 - (intOf ti).toNat)
        case atStart=>exact ⟨0,[],s4,.slice none 0 0,rfl,Nat.zero_le _,rfl,HLS4.o,Ru.start gDn_suf _ _,C0 _,OwS.nil _ _ _ _ _,(ay.out.mod g7.out aH),HR4.o,((HKP3_0.o.mod g8.out aH).mod g7.out aH),((HKP3_1.o.mod g8.out aT aT).mod g7.out aT aT),((HKP3_2.o.mod g8.out aT aT).mod g7.out aT aT),((HBXL3.o.mod g8.out aH).mod g7.out aH),((HAL3.o.mod g8.out aT aT).mod g7.out aT aT),((HML3.o.trans g8.out iA).trans g7.out iA)⟩
        case round=>
         obtain ⟨k4,acc4,st4,v4,rfl,hk,hka,hst,hru,hz,ha,hbx,hr,hk_0,hk_1,hk_2,hk_3,hk_4,hm⟩:=hrel
         obtain ⟨wl4,rfl⟩:∃ x,x=wr:=⟨_,rfl⟩
         obtain ⟨aol4,capl4,rfl⟩:=ha.shape
         have HAL4:=B8 ha
         have HBXL4:=B8 hbx
         have HRL4:=B8 hr
         have HML4:=B8 hm
         have HST4:=B8 hst
         have HRU4:=B8 hru
         have HKA4:=B8 hka
         have HKP4_0:=B8 hk_0
         have HKP4_1:=B8 hk_1
         have HKP4_2:=B8 hk_2
         have HKP4_3:=B8 hk_3
         have HKP4_4:=B8 hk_4
         clear ha hbx hr hm hst hru hka hk_0 hk_1 hk_2 hk_3 hk_4 HAL3 HBXL3 HR4 HML3 HKP3_0 HKP3_1 HKP3_2 ay
         by_cases hgo4:k4 < n4∧st4≠none
         ·obtain ⟨hlt4,hsn4⟩:=hgo4
          cases st4 with
          | none=>exact absurd rfl hsn4
          | some l4=>
           go_upto_region 19 with (fail)
           refine Ab 103 [77,78,79,80,81,82,83,84,85,86] [0,1,2,3,4,5,6,7,8,9] (fun a0 HA0=>?_)
           have c3:=ev HA0 0 rfl
           have i9:=ev HA0 9 rfl
           have g6:=ev HA0 10 rfl
           refine qmo rfl g6 ?_
           refine qmo rfl i9 ?_
           refine QSeq.pure rfl (.bool true) (fun E=>Aq rfl (E.d 0 1) (E.d 1 0) (Ai _ _ _ _ _ _) (A1 _ _ _ B9) (congrArg Value.bool (decide_eq_true aL))) ?_
           refine qmv rfl 2 0 ?_
           refine AB rfl (.pointer (some ⟨r,0,none⟩)) (fun E=>((Ag rfl rfl (E.sz 80 aM) (E.d 3 0)).trans rfl)) (fun E=>Al rfl (E.v c3)) ?_
           refine AB rfl (.pointer (some ⟨r,0,none⟩)) (fun E=>((Ag rfl rfl (E.sz 80 aM) (E.d 3 1)).trans rfl)) (fun E=>ex_nil rfl (E.d 4 0)) ?_
           refine AB rfl (.pointer (some ⟨r,1,none⟩)) (fun E=>((Ag rfl rfl (E.sz 80 aM) (E.d 3 2)).trans rfl)) (fun E=>Ae rfl E5 rfl aE (E.d 5 0)) ?_
           refine AB rfl (.bool false) (fun E=>((Ag rfl rfl (E.sz 80 aM) (E.d 3 3)).trans rfl)) (fun E=>Af rfl E8 rfl (E.d 6 0) (AJ HRL4.o)) ?_
           refine AB rfl (.bool true) (fun E=>((Ag rfl rfl (E.sz 80 aM) (E.d 3 4)).trans rfl)) (fun E=>B1 rfl (E.d 7 0)) ?_
           refine QSeq.pure rfl (.bool true) (fun E=>Bp rfl (E.d 3 5) (E.d 8 0) rfl) ?_
           refine qe ?_
           clear HA0 c3 i9 g6 a0
           obtain ⟨st2_4,hp2⟩:∃ z,z=(gDn (some l4)).2:=⟨_,rfl⟩
           have HP2_4:=hid hp2.symm
           clear hp2
           have HST2_4:=hid (show (st2_4.getD []).length≤900000 by rw [← HP2_4.o];exact C4 (gDn_suf.len _) HST4.o)
           go_upto_region 21 with (fail)
           generalize ha0:Act.mk _ _=a0
           have c3:a0.eval (.tmp 0)=.pointer (some ⟨r,0,none⟩):=by rw [← ha0];rfl
           have g9:a0.eval (.tmp 8)=.pointer (some ⟨d7.heap.size,0,none⟩):=by rw [← ha0];rfl
           have hsz0:a0.tmps.size=103:=by rw [← ha0];rfl
           have HA0:=hid ha0
           clear ha0
           refine Bc 103 hsz0 [89,90,91,92,93,94,95,110] (fun k=>(R k)∨(New d5 wl4 k)∨(k=d7.heap.size)) (fun k j=>(k=0∧((R j)))∨(k=2∧((New d5 wl4 j)))∨(k=3∧((j=d7.heap.size)))) bK [qi (.pointer (some ⟨d7.heap.size,1,none⟩)),qi (.slice aol4 acc4.length capl4),qi (.pointer (some ⟨r,0,none⟩)),qv 0,qv 1,qv 2,qi (.pointer (some ⟨d7.heap.size,1,none⟩)),qv 3] ⟨Ac,Ac,Ac,Ah,Ah,Ah,Ac,Ah,trivial⟩ [3,4,5,7] ⟨?_,?_,?_,?_,?_,?_,?_,?_,trivial⟩ ?_
           ·exact stq (fun E=>Ae rfl E4 rfl aE (E.v g9))
           ·refine Ay rfl rfl rfl fun _ _ _ _ _ _ hm0 _ _ hd hub _=>?_
            have h0:=hd ⟨0,.data⟩ bA rfl _ rfl
            refine Bl rfl (Aa rfl) (Af rfl Tryz.underlying125 rfl h0 (AC (HBXL4.o.mod hm0 bI) rfl)) QE.refl ?_
            rfl
           ·exact stq (fun E=>Al rfl (E.v c3))
           ·exact Ad rfl
           ·exact Ad rfl
           ·exact Ad rfl
           ·exact stq (fun E=>Ae rfl E4 rfl aE (E.v g9))
           ·exact Ad rfl
           intro o6 hr
           have iw:=hr.size
           have bf:=hid (hr.new (S:=(fun k=>(R k)∨(New d5 wl4 k)∨(k=d7.heap.size))))
           have bg:=hid (HAL4.o.mod hr aD aD)
           clear HAL4
           have bh:=hid (HBXL4.o.mod hr aG)
           clear HBXL4
           have bj:=hid (HRL4.o.mod hr aO)
           clear HRL4
           clear hr
           refine QChain.go fun Z act E=>?_
           refine Aj (args:=#[.pointer (some ⟨r,0,none⟩)]) rfl (Aa rfl) rfl Tryz.func58 (Ap (E.d 2)) (dDn_G.toU.to HP2_4.o bj.out aK HST4.o) ?_
           rintro e o7 ⟨cs4,y4,rfl,qel,qrd,hy4,hm⟩
           have HY4:=B8 hy4
           clear hy4
           have iy:=hm.size
           refine ⟨_,rfl,hm.mono aW,(fun _=>rfl),?_⟩
           intro o8 hr
           have iz:=hr.size
           have o9:=hid ((qel.widen (R':=(fun k=>(New o6 o7 k))) (fun _ h=>h)).mod hr aD)
           have bk:=hid (qrd.mod hr aO)
           have hmr:=hm.two hr
           have bl:=hid (bg.out.mod hmr bE bE)
           have bm:=hid (bh.out.mod hmr bM)
           clear bg bh
           clear hmr
           have bn:=hid (bf.out.goM hm hr aS)
           clear bf hm hr Z act E qel qrd bj
           refine QChain.go fun Z act E=>?_
           refine qc_buildS (e:=56) (cs:=cs4) (zc:=zq12) (sz:=4) rfl (Aa rfl) rfl Tryz.underlying125 aE rfl aM aM (chv (v:=.agg cs4.toArray) (E.d 3)) (DnR.len o9.out) ?_
           intro ja qrow hm
           have jb:=qrow.lt
           have jc:=hm.size
           refine ⟨hm.mono iB,(fun _=>rfl),?_⟩
           intro ee hr
           have jd:=hr.size
           have p5:=hid (qrow.mod hr aG)
           have hmr:=Mod.after hm hr
           have bp:=hid (bl.out.mod hmr aD aD)
           have bq:=hid (bm.out.mod hmr aG)
           have br:=hid (bk.out.mod hmr aO)
           have p6:=hid (o9.out.mod hmr aD)
           clear bl bm bk o9
           clear hmr
           have bt:=hid (bn.out.go hm hr)
           clear bn hm hr Z act E qrow
           refine QChain.go fun Z act E=>?_
           refine qc_appS (A:=DnR) (e:=56) rfl (Aa rfl) rfl (.agg zq12.toArray) 32 Tryz.underlying125 info_Dn (by rfl) (of_decide_eq_true aE) (E.d 1) (chv (v:=.slice (some ⟨o8.heap.size,0,none⟩) 1 1) (E.d 4)) (bp.out) (AI (R:=(fun k=>(New o6 o7 k)∨(k=o8.heap.size))) p5.out (p6.out.widen bF) bV) aD (by rw [HKA4.o];simp only [D6,D5];omega) (by rw [HKA4.o];simp only [D6,D5];rw [Ax];omega) ?_
           intro ao21 cap21 eg qacc4 hm
           have je:=hm.size
           refine ⟨hm.mono cG,(fun _=>rfl),?_⟩
           intro jf hr
           have jg:=hr.size
           have bu:=hid ((qacc4.widen (R':=(fun k=>(New d5 wl4 k)∨(New ee eg k))) (E':=(fun k=>(New d5 wl4 k)∨(New o6 o7 k)∨(k=o8.heap.size))) (fun _ h=>h) bD).mod hr aD aD)
           have hmr:=hm.two hr
           have bw:=hid (bq.out.mod hmr aG)
           have bx:=hid (br.out.mod hmr aO)
           have bz:=hid (p6.out.mod hmr aD)
           have cd:=hid (p5.out.mod hmr aG)
           clear bq br p6 p5
           clear hmr
           have cf:=hid (bt.out.goM hm hr aS)
           clear bt hm hr Z act E qacc4 bp
           refine QChain.go fun Z act E=>?_
           refine Am rfl (Aa rfl) rfl bw.out (off:=1) (vs:=[Value.slice ao21 (acc4.length+1) cap21]) aE fK (by show 1+1≤2;decide) (E.d 6) (by rw [show act.eval ((.tmp 94))=_ from (chv (v:=.slice ao21 (acc4.length+1) cap21) (E.d 5))];rfl) ?_
           intro eh qc0 hm
           have qqt:Cs eh (d7.heap.size) ((Tb.cells (Tb.mk (gI (some l3)).1 (acc4 ++ [y4])) (Value.slice ao21 (acc4.length+1) cap21)):List Value).toArray 127:=by rw [show lay _ 1 _=((Tb.cells (Tb.mk (gI (some l3)).1 (acc4 ++ [y4])) (Value.slice ao21 (acc4.length+1) cap21)):List Value).toArray from rfl] at qc0;exact qc0
           clear qc0
           have jh:=hm.size
           refine ⟨hm.mono cG,(fun _=>rfl),?_⟩
           intro ji hr
           have jj:=hr.size
           have ei:=hid (qqt.mod hr aG)
           have hmr:=hm.two hr
           have ej:=hid (bu.out.mod hmr aD aD)
           have eo:=hid (bx.out.mod hmr aO)
           have eq:=hid (bz.out.mod hmr aD)
           have er:=hid (cd.out.mod hmr aG)
           clear bu bx bz cd
           clear hmr
           have i7:=hid (cf.out.goM hm hr aS)
           clear cf hm hr Z act E qqt bw
           refine QChain.nil fun vs hl hzz hrows hne=>?_
           obtain ⟨Z,hYZ,hZb,hV⟩:=hzz
           have f2:=fvi hV hl 2
           have f3:=fvc hV hl 3
           have f4:=fvc hV hl 4
           have f5:=fvc hV hl 5
           rw [show vs=[gw vs 0,gw vs 1,gw vs 2,gw vs 3,gw vs 4,gw vs 5,gw vs 6,gw vs 7] from (Bi hl).trans rfl]
           have ha0:=HA0.o
           subst ha0
           clear HA0 hV hYZ hZb hsz0 hrows hne c3 g9
           simp only [Au,Act.put,sIB,sCZ,sCS,List.set_nil,f2,f3,f4,f5]
           clear hl f2 f3 f4 f5
           clear eq
           clear er
           go_upto_region 20 with (fail)
           refine Ab 103 [87,88,10] [0,1,2] (fun a0 HA0=>?_)
           have g6:=ev HA0 10 rfl
           refine QSeq.pure rfl _ (fun E=>Al rfl (E.y 2 g6)) ?_
           refine QSeq.pure rfl (.int .i64 (((k4:Nat):Int)+1)) (fun E=>Aq rfl (E.d 0 0) rfl (Ai _ _ _ _ _ _) (Bz _ _ B9) (congrArg (Value.int .i64) (IntWalk.i64_in _ aL))) ?_
           refine qas rfl 1 0 ?_
           refine qe ?_
           clear HA0 g6 a0
           go_wp2
           go_roundw
           case rel=>exact ⟨k4+1,acc4 ++ [y4],st2_4,_,by go_num,by omega,by rw [C3,HKA4.o];rfl,HST2_4.o,HRU4.o.step hlt4 bA HP2_4.o HY4.o,by omega,(ej.out.widen cS bZ),ei.out,eo.out,(HKP4_0.o.mod i7.out bP),(HKP4_1.o.mod i7.out bQ bQ),(HKP4_2.o.mod i7.out bQ bQ),(HKP4_3.o.mod i7.out bP),(HKP4_4.o.mod i7.out bQ bQ),(HML4.o.trans i7.out bJ)⟩
           case measure=>simp [intOf]<;>omega
         ·skip
          obtain ⟨bA4,hbA4⟩:∃ b:Bool,b=decide (((k4:Nat):Int) < ((n4:Nat):Int)):=⟨_,rfl⟩
          go_upto_region 19 with (fail)
          refine Ab 103 [77,78,79,80,81,82,83,84,85,86] [0,1,2,3,4,5,6,7,8,9] (fun a0 HA0=>?_)
          have c3:=ev HA0 0 rfl
          have i9:=ev HA0 9 rfl
          have g6:=ev HA0 10 rfl
          refine qmo rfl g6 ?_
          refine qmo rfl i9 ?_
          refine QSeq.pure rfl (.bool bA4) (fun E=>Aq rfl (E.d 0 1) (E.d 1 0) (Ai _ _ _ _ _ _) (A1 _ _ _ B9) (congrArg Value.bool hbA4.symm)) ?_
          refine qmv rfl 2 0 ?_
          refine qmy rfl 3 0 (.pointer (some ⟨r,0,none⟩)) (fun E hb=>Al rfl (E.v c3)) ?_
          intro jk hw
          have cg:=hid hw
          clear hw
          refine qmy rfl 3 1 (.pointer (some ⟨r,0,none⟩)) (fun E hb=>ex_nil rfl ((E.q 4 0 cg.out).1 hb)) ?_
          intro jl hw
          have ch:=hid hw
          clear hw
          refine qmy rfl 3 2 (.pointer (some ⟨r,1,none⟩)) (fun E hb=>Ae rfl E5 rfl aE ((E.q 5 0 ch.out).1 hb)) ?_
          intro jm hw
          have cj:=hid hw
          clear hw
          refine qmy rfl 3 3 (.bool st4.isNone) (fun E hb=>Af rfl E8 rfl ((E.q 6 0 cj.out).1 hb) (AJ HRL4.o)) ?_
          intro jn hw
          have ck:=hid hw
          clear hw
          refine qmy rfl 3 4 (.bool (!st4.isNone)) (fun E hb=>B1 rfl ((E.q 7 0 ck.out).1 hb)) ?_
          intro jo hw
          have co:=hid hw
          clear hw
          refine QSeq.pure rfl (.bool (bA4 && (!st4.isNone))) (fun E=>A5 rfl (E.d 3 5) rfl rfl (Be fun hb=>(E.q 8 0 co.out).1 hb)) ?_
          clear cg ch cj ck co
          refine qe ?_
          clear HA0 c3 i9 g6 a0
          rw [go_false hgo4 hbA4]
          have HF4:=hid (HRU4.o.fin hgo4 hk)
          clear hbA4 hgo4
          have HEL:=hid (show TbR.rd (fun k=>(New d5 wl4 k)) wl4 (Tb.cells (Tb.mk (gI (some l3)).1 acc4) (Value.slice aol4 acc4.length capl4)) (Tb.mk (gI (some l3)).1 acc4) from ⟨_,rfl,A8 _,HAL4.o.rd.widen cX⟩)
          go_upto_region 22 with (fail)
          refine Ab 103 [96,97,98,99,100,101,109] [0,1,2,3,4,5,6] (fun a0 HA0=>?_)
          have c8:=ev HA0 3 rfl
          have g9:=ev HA0 8 rfl
          refine qfd rfl 4 C7 c8 ?_
          refine QSeq.pure rfl _ (fun E=>Af rfl D0 rfl (E.d 0 0) (AC HKP4_3.o rfl)) ?_
          refine QSeq.pure rfl _ (fun E=>Ak rfl E4 rfl (off:=0) (cs:=(Tb.cells (Tb.mk (gI (some l3)).1 acc4) (Value.slice aol4 acc4.length capl4))) aE (E.v g9) (Cs.whole HBXL4.o)) ?_
          refine QSeq.go fun act E=>?_
          refine qc_buildS (e:=127) (cs:=(Tb.cells (Tb.mk (gI (some l3)).1 acc4) (Value.slice aol4 acc4.length capl4))) (zc:=[.int .i64 0,.slice none 0 0]) (sz:=2) rfl (Aa rfl) rfl D0 aE rfl aM aM (E.d 2 0) (TbR.len HEL.o) ?_
          intro cq qrow hm
          have jp:=qrow.lt
          have p7:=hid qrow
          have jq:=hm.size
          have j5:=hid (show Mod (fun _=>False) wl4 cq from hm)
          clear hm
          clear act E qrow
          refine QSeq.go fun act E=>?_
          refine qc_appS (A:=TbR) (e:=127) rfl (Aa rfl) rfl (.agg #[.int .i64 0,.slice none 0 0]) 32 D0 info_Tb (by rfl) (of_decide_eq_true aE) (E.d 1 2) (E.d 3 0) ((HKP4_4.o.mod j5.out iA iA)) (AI (R:=(fun k=>(New d5 wl4 k)∨(k=wl4.heap.size))) p7.out ((HEL.o.mod j5.out iA).widen bF) bV) aD (by rw [HKA3.o];simp only [D6,D5];omega) (by rw [HKA3.o];simp only [D6,D5];rw [Ax];omega) ?_
          intro ao17 cap17 et qacc3 hm
          have cr:=hid (qacc3.widen (R':=(fun k=>(New d6 wl3 k)∨(New cq et k))) (E':=(fun k=>(New d6 wl3 k)∨(New d5 wl4 k)∨(k=wl4.heap.size))) (fun _ h=>h) bD)
          have jr:=hm.size
          have ct:=hid hm
          have p8:=hid (AA (S':=(fun k=>(New d6 wl3 k))) j5.out hm iC aQ)
          clear hm j5
          clear act E qacc3 HKP4_4
          refine qfd rfl 4 C7 c8 ?_
          refine QSeq.go fun act E=>?_
          refine Am rfl (Aa rfl) rfl (HKP4_3.o.mod p8.out aG) (off:=4) (vs:=[Value.slice ao17 (acc3.length+1) cap17]) aE one1 (by show 4+1≤5;decide) (E.d 5 0) (ec (E.d 4 1)) ?_
          intro js qc0 hm
          have qqx:=qc0.eqv (b:=((Ba.cells (Ba.mk (gI s).1 (rNum (gI s).2).1 acc1 acc2 (acc3 ++ [(Tb.mk (gI (some l3)).1 acc4)])) (Value.slice aol1 acc1.length capl1) (Value.slice aol2 acc2.length capl2) (Value.slice ao17 (acc3.length+1) cap17)):List Value).toArray) rfl
          clear qc0
          have eu:=hid qqx
          have jt:=hm.size
          have p9:=hid hm
          have j0:=hid (AA (S':=(fun k=>(New d6 wl3 k)∨(k=c4.heap.size))) p8.out hm iD aR)
          clear hm p8
          clear act E qqx HKP4_3
          have ew:=hid (cr.out.mod p9.out aD aD)
          have ex:=hid ((p7.out.mod ct.out aG).mod p9.out aG)
          clear cr p7 ct p9
          refine qe ?_
          clear HA0 c8 g9 a0
          clear HEL
          clear ex
          have hp2:(gTb (some l3)).2=st4:=(congrArg Prod.snd HGL4.o).trans HF4.o.1
          have HP2_3:=B8 hp2
          have HY3:=hid (show st4≠none→(Tb.mk (gI (some l3)).1 acc4)=(gTb (some l3)).1 from fun h=>by show Tb.mk _ _=Tb.mk _ (Av gDn _).1;rw [HGL4.o,← HF4.o.2 h])
          clear hp2
          clear HAL4
          clear HBXL4
          go_upto_region 15 with (fail)
          refine Ab 103 [70,71,7] [0,1,2] (fun a0 HA0=>?_)
          have g5:=ev HA0 7 rfl
          refine QSeq.pure rfl _ (fun E=>Al rfl (E.y 2 g5)) ?_
          refine QSeq.pure rfl (.int .i64 (((k3:Nat):Int)+1)) (fun E=>Aq rfl (E.d 0 0) rfl (Ai _ _ _ _ _ _) (Bz _ _ B9) (congrArg (Value.int .i64) (IntWalk.i64_in _ aL))) ?_
          refine qas rfl 1 0 ?_
          refine qe ?_
          clear HA0 g5 a0
          go_wp2
          go_roundw
          case rel=>exact ⟨k3+1,acc3 ++ [(Tb.mk (gI (some l3)).1 acc4)],st4,_,by go_num,by omega,by rw [C3,HKA3.o];rfl,HST4.o,HRU3.o.step hlt3 bA HP2_3.o HY3.o,by omega,(ew.out.widen cS bZ),eu.out,(HRL4.o.mod j0.out aO),(HKP4_0.o.mod j0.out aG),(HKP4_1.o.mod j0.out aD aD),(HKP4_2.o.mod j0.out aD aD),(HML4.o.trans j0.out (by intro k h1 h2;rcases h2 with h2|h2<;>first|exact h2|omega))⟩
          case measure=>simp [intOf]<;>omega
      ·skip
       obtain ⟨bA3,hbA3⟩:∃ b:Bool,b=decide (((k3:Nat):Int) < ((n3:Nat):Int)):=⟨_,rfl⟩
       go_upto_region 14 with (fail)
       refine Ab 103 [60,61,62,63,64,65,66,67,68,69] [0,1,2,3,4,5,6,7,8,9] (fun a0 HA0=>?_)
       have c3:=ev HA0 0 rfl
       have c6:=ev HA0 4 rfl
       have g5:=ev HA0 7 rfl
       refine qmo rfl g5 ?_
       refine qmo rfl c6 ?_
       refine QSeq.pure rfl (.bool bA3) (fun E=>Aq rfl (E.d 0 1) (E.d 1 0) (Ai _ _ _ _ _ _) (A1 _ _ _ B9) (congrArg Value.bool hbA3.symm)) ?_
       refine qmv rfl 2 0 ?_
       refine qmy rfl 3 0 (.pointer (some ⟨r,0,none⟩)) (fun E hb=>Al rfl (E.v c3)) ?_
       intro ju hw
       have cw:=hid hw
       clear hw
       refine qmy rfl 3 1 (.pointer (some ⟨r,0,none⟩)) (fun E hb=>ex_nil rfl ((E.q 4 0 cw.out).1 hb)) ?_
       intro jv hw
       have cx:=hid hw
       clear hw
       refine qmy rfl 3 2 (.pointer (some ⟨r,1,none⟩)) (fun E hb=>Ae rfl E5 rfl aE ((E.q 5 0 cx.out).1 hb)) ?_
       intro jw hw
       have cy:=hid hw
       clear hw
       refine qmy rfl 3 3 (.bool st3.isNone) (fun E hb=>Af rfl E8 rfl ((E.q 6 0 cy.out).1 hb) (AJ HRL3.o)) ?_
       intro jx hw
       have da:=hid hw
       clear hw
       refine qmy rfl 3 4 (.bool (!st3.isNone)) (fun E hb=>B1 rfl ((E.q 7 0 da.out).1 hb)) ?_
       intro jy hw
       have db:=hid hw
       clear hw
       refine QSeq.pure rfl (.bool (bA3 && (!st3.isNone))) (fun E=>A5 rfl (E.d 3 5) rfl rfl (Be fun hb=>(E.q 8 0 db.out).1 hb)) ?_
       clear cw cx cy da db
       refine qe ?_
       clear HA0 c3 c6 g5 a0
       rw [go_false hgo3 hbA3]
       have HF3:=hid (HRU3.o.fin hgo3 hk)
       clear hbA3 hgo3
       go_upto_region 23 with (fail)
       refine Ab 103 [102,104] [0,1] (fun a0 HA0=>?_)
       have dd:=ev HA0 2 rfl
       have c8:=ev HA0 3 rfl
       refine QSeq.pure rfl _ (fun E=>Ak rfl C7 rfl (off:=0) (cs:=(Ba.cells (Ba.mk (gI s).1 (rNum (gI s).2).1 acc1 acc2 acc3) (Value.slice aol1 acc1.length capl1) (Value.slice aol2 acc2.length capl2) (Value.slice aol3 acc3.length capl3))) aE (E.v c8) (Cs.whole HBXL3.o)) ?_
       refine QSeq.go fun act E=>?_
       refine Am rfl (Aa rfl) rfl HKP3_0.o (off:=0) (vs:=(Ba.cells (Ba.mk (gI s).1 (rNum (gI s).2).1 acc1 acc2 acc3) (Value.slice aol1 acc1.length capl1) (Value.slice aol2 acc2.length capl2) (Value.slice aol3 acc3.length capl3))) aE dS (by show 5≤5;decide) (E.v dd) (ec (E.d 0 0)) ?_
       intro ey qc0 hm
       have qB2:=qc0.eqv (b:=((Ba.cells (Ba.mk (gI s).1 (rNum (gI s).2).1 acc1 acc2 acc3) (Value.slice aol1 acc1.length capl1) (Value.slice aol2 acc2.length capl2) (Value.slice aol3 acc3.length capl3)):List Value).toArray) (Aw zq8.toArray _ rfl)
       clear qc0
       have ez:=hid qB2
       have jz:=hm.size
       have j3:=hid (show Mod (fun k=>(k=w.heap.size)) wl3 ey from hm)
       clear hm
       clear act E qB2 HKP3_0
       refine qe ?_
       clear HA0 dd c8 a0
       have h1:(Av gPm (rNum (gI s).2).2).2=st1:=(congrArg Prod.snd HGL1.o).trans HF1.o.1
       have h2:(Av gOp st1).2=st2:=(congrArg Prod.snd HGL2.o).trans HF2.o.1
       have h3:(Av gTb st2).2=st3:=(congrArg Prod.snd HGL3.o).trans HF3.o.1
       have hse:(gBa s).2=st3:=by show (Av gTb (Av gOp (Av gPm _).2).2).2=_;rw [h1,h2,h3]
       go_wp2
       exact bodyPost_ret (A0 rfl _ _ w.heap.size ((Ba.cells (Ba.mk (gI s).1 (rNum (gI s).2).1 acc1 acc2 acc3) (Value.slice aol1 acc1.length capl1) (Value.slice aol2 acc2.length capl2) (Value.slice aol3 acc3.length capl3))) rfl (fun k u hu=>by rw [ez.out.cell];simpa using hu) C7 rfl aE) rfl ⟨_,(Ba.mk (gI s).1 (rNum (gI s).2).1 acc1 acc2 acc3),rfl,⟨_,_,_,rfl,⟨A8 _,rNum_lt (gI_suf.bytes HBY.o)⟩,(HKP3_1.o.mod j3.out aD aD).rd.widen cX,(HKP3_2.o.mod j3.out aD aD).rd.widen cX,(HAL3.o.mod j3.out aD aD).rd.widen cX⟩,(by rw [hse];exact (HRL3.o.mod j3.out (sB HBR))),(fun h=>by rw [hse] at h;have hn2:st2≠none:=fun e=>h (by rw [← h3,e];exact (gList_suf gTb_suf).no);have hn1:st1≠none:=fun e=>hn2 (by rw [← h2,e];exact (gList_suf gOp_suf).no);show Ba.mk _ _ _ _ _=Ba.mk _ _ (Av gPm _).1 (Av gOp (Av gPm _).2).1 (Av gTb (Av gOp (Av gPm _).2).2).1;rw [h1,h2,HGL1.o,HGL2.o,HGL3.o,← HF1.o.2 hn1,← HF2.o.2 hn2,← HF3.o.2 h]),(HML3.o.trans j3.out cW)⟩
open Go.Proofs renaming Tryz.func56→va',Tryz.ntmps56→vb',Tryz.func46→vc',Tryz.func51→ve',Tryz.func53→vg' in
open Go.Proofs.YtnaoeginonpicaaGreat renaming dI_Q→vd',RefRHash_R→vf',dSig_Q→vh' in
set_option maxHeartbeats 4000000 in
theorem dVt_Q:GetsF 100 56 Vt.cells gVt:=
 fm8'
theorem dVt_G:Gets VtR 100 56 gVt:=GetsF.to (A:=VtR) dVt_Q fun _ _ _ hb=>⟨rfl,gVt_OK hb⟩
/-- the block of bytes that are one's own: one of them may be written -/
theorem OwR.cs {R:Nat→Prop} {N n cap:Nat} {ao:Option Addr} {w:World} {bs:List Int} (h:OwR R N w (.slice ao n cap) bs) (hp:0 < bs.length) :
 ∃ g cl,ao=some ⟨g,0,none⟩∧Cs w g (List.toArray cl) 5∧R g∧(∀ i (hi:i < bs.length),cl[i]? = some (bv bs[i]))∧bs.length≤cl.length∧
  ∀ w' i x,i < bs.length→0≤x∧x < 256→Cs w' g (List.toArray (cl.set i (bv x))) 5→OwR R N w' (.slice ao n cap) (bs.set i x):=by
 obtain ⟨h1,h2,h3⟩:=h
 have hby:=h1.bytes
 obtain ⟨hl,hE,⟨e,hn⟩|⟨g,cap',cur,e,hc,q1,q2,q3,q4,q5⟩⟩:=h1
 ·have:bs.length=0:=by simpa using hn
  omega
 ·injection e with e1 e2 e3
  subst e1 e2 e3
  have hget:∀ i (hi:i < bs.length),cur.toList[i]? = some (bv bs[i]):=by
   intro i hi
   have e:(cur.toList.take (bs.length * 1))[i]? = (bs.map bv)[i]?:=by rw [q4]
   rw [List.getElem?_take,if_pos aL] at e
   rw [e]
   simp [hi]
  have hlen:bs.length≤cur.toList.length:=by have:cur.toList.length=cur.size:=rfl;omega
  refine ⟨g,cur.toList,rfl,hc,h2 g rfl,hget,hlen,fun w' i x hi hx hc'=>⟨?_,h2,by simpa using h3⟩⟩
  have hbx:∀ z ∈ bs.set i x,0≤z∧z < 256:=fun z hz=>by
   rcases List.mem_or_eq_of_mem_set hz with hz|rfl
   ·exact hby z hz
   ·exact hx
  refine ⟨by simp,isB_all hbx,.inr ⟨g,cap,_,by simp,hc',by simpa using q1,q2,?_,?_,?_⟩⟩
  ·simpa using q3
  ·have:((cur.toList.set i (bv x)).toArray.toList.take ((bs.set i x).length * 1))=(bs.set i x).map bv:=by
    simp only [List.length_set,List.map_set,Nat.mul_one]
    rw [List.take_set,← q4,Nat.mul_one]
   exact this
  ·intro u hu
   have hu':u ∈ cur.toList.set i (bv x):=hu
   rcases List.mem_or_eq_of_mem_set hu' with hu'|rfl
   ·exact q5 u hu'
   ·exact ⟨x,rfl,hx⟩
theorem lay_set1 (cl:List Value) (i:Nat) (v:Value) (h:i < cl.length):lay cl.toArray (0+i * 1) [v]=(cl.set i v).toArray:=by
 unfold lay
 congr 1
 simp only [Nat.zero_add,Nat.mul_one,D6,D5]
 rw [List.set_eq_take_append_cons_drop,if_pos h]
 simp
end Go.Proofs.YtnaoeginonpicaaGreat
