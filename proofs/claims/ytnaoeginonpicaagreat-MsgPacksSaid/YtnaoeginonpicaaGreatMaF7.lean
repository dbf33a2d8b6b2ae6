/- Texts that are built one behind the other: XKp2, XKm, XRo. No condition. -/
import Derived.Test.YtnaoeginonpicaaGreatMaF6
import Derived.Deep.CutBlock
set_option maxRecDepth 100000
set_option linter.unusedVariables false
open List renaming setIfInBounds_toArray → sIB, set_cons_zero → sCZ, set_cons_succ → sCS
/- gavelkeep: comparisons of tombstones, batches. -/
namespace Go.Proofs.YtnaoeginonpicaaGreat
open Go Go.RowKit Go.Gv
set_option maxHeartbeats 4000000 in
theorem EqL_Tb:EqsL TbR 95:=by
 intro R R2 v v2 l m w hs ht hB hB2
 obtain ⟨ao,cap,rfl⟩:=hs.shape
 obtain ⟨bo,bcap,rfl⟩:=ht.shape
 have hlm:l.length≤maxLen:=hs.bd
 rw [Ax] at hlm
 have HS:=Lib.hid hs
 have HT:=Lib.hid ht
 have HBR:=Lib.hid hB
 have HBT:=Lib.hid hB2
 clear hs ht hB hB2
 go_enter Tryz.func95,Tryz.ntmps95
 go_upto_region 1 with (fail)
 have HM0:=hid (Mod.refl (fun _=>False) w)
 by_cases hl:l.length=m.length
 rotate_left
 ·skip
  go_upto_region 1 with (fail)
  refine Aa 42 [6,7,8,9,10] [0,1,2,3,4] (fun a0 HA0=>?_)
  have oe0:=ev HA0 0 rfl
  have oe1:=ev HA0 1 rfl
  refine QSeq.pure rfl _ (fun E=>Ai rfl (E.v oe0)) ?_
  refine QSeq.pure rfl (.int .i64 l.length) (fun E=>A0 rfl (E.d 0 0) Tryz.underlying43) ?_
  refine QSeq.pure rfl _ (fun E=>Ai rfl (E.v oe1)) ?_
  refine QSeq.pure rfl (.int .i64 m.length) (fun E=>A0 rfl (E.d 2 0) Tryz.underlying43) ?_
  refine QSeq.pure rfl (.bool true) (fun E=>An rfl (E.d 1 2) (E.d 3 0) (Ag _ _ _ _ _ _) (run_neq_i _ _ _ Tryz.underlying3) (congrArg Value.bool (ne_tt (by omega)))) ?_
  refine QSeq.nil (t':=[_,_,_,_,_]) rfl ?_
  obtain rfl:=HA0.out
  clear HA0 oe0 oe1
  simp only [pz,Act.put,sIB,sCZ,sCS]
  go_upto_region 2 with (fail)
  refine Aa 42 [4] [0] (fun a0 HA0=>?_)
  refine QSeq.pure rfl (.bool false) (fun E=>Af rfl rfl) ?_
  refine QSeq.nil (t':=[_]) rfl ?_
  obtain rfl:=HA0.out
  clear HA0
  simp only [pz,Act.put,sIB,sCZ,sCS]
  go_wp2
  go_ret
  exact ⟨Bm (eqb_ne fun e=>hl (by rw [e])).symm,HM0.out⟩
 ·skip
  go_upto_region 1 with (fail)
  refine Aa 42 [6,7,8,9,10] [0,1,2,3,4] (fun a0 HA0=>?_)
  have oe0:=ev HA0 0 rfl
  have oe1:=ev HA0 1 rfl
  refine QSeq.pure rfl _ (fun E=>Ai rfl (E.v oe0)) ?_
  refine QSeq.pure rfl (.int .i64 l.length) (fun E=>A0 rfl (E.d 0 0) Tryz.underlying43) ?_
  refine QSeq.pure rfl _ (fun E=>Ai rfl (E.v oe1)) ?_
  refine QSeq.pure rfl (.int .i64 m.length) (fun E=>A0 rfl (E.d 2 0) Tryz.underlying43) ?_
  refine QSeq.pure rfl (.bool false) (fun E=>An rfl (E.d 1 2) (E.d 3 0) (Ag _ _ _ _ _ _) (run_neq_i _ _ _ Tryz.underlying3) (congrArg Value.bool (ne_ff (by omega)))) ?_
  refine QSeq.nil (t':=[_,_,_,_,_]) rfl ?_
  obtain rfl:=HA0.out
  clear HA0 oe0 oe1
  simp only [pz,Act.put,sIB,sCZ,sCS]
  go_upto_region 3 with (fail)
  refine Aa 42 [11,12,13] [0,1,2] (fun a0 HA0=>?_)
  have oe0:=ev HA0 0 rfl
  refine QSeq.pure rfl _ (fun E=>Ai rfl (E.v oe0)) ?_
  refine QSeq.pure rfl (.int .i64 l.length) (fun E=>A0 rfl (E.d 0 0) Tryz.underlying43) ?_
  refine QSeq.pure rfl (.int .i64 0) (fun E=>Ai rfl rfl) ?_
  refine QSeq.nil (t':=[_,_,_]) rfl ?_
  obtain rfl:=HA0.out
  clear HA0 oe0
  simp only [pz,Act.put,sIB,sCZ,sCS]
  have HLE:=Lib.hid hl
  clear hl
  go_wp2
  go_loopw [13,5] (fun ti t5 wr=>∃ k:Nat,ti=.int .i64 (k:Int)∧k≤l.length∧l.take k=m.take k∧w.heap.size≤wr.heap.size∧RdS TbR R wr (.slice ao l.length cap) l∧RdS TbR R2 wr (.slice bo m.length bcap) m∧Mod (fun _=>False) w wr) (fun ti t5 _=>l.length - (intOf ti).toNat)
  case atStart=>exact ⟨0,rfl,Nat.zero_le _,rfl,Nat.le_refl _,HS.out,HT.out,HM0.out⟩
  case round=>
   obtain ⟨k,rfl,hk,htk,hz,hs,ht,hm⟩:=hrel
   obtain ⟨wl,rfl⟩:∃ x,x=wr:=⟨_,rfl⟩
   have HS2:=Lib.hid hs
   have HT2:=Lib.hid ht
   have HML:=Lib.hid hm
   have HTK:=Lib.hid htk
   clear hs ht hm htk HS HT HM0
   by_cases hlt:k < l.length
   ·have hlt2:k < m.length:=by have:=HLE.out;omega
    go_upto_region 4 with (fail)
    refine Aa 42 [14] [0] (fun a0 HA0=>?_)
    have oe12:=ev HA0 12 rfl
    have oe13:=ev HA0 13 rfl
    refine QSeq.pure rfl (.bool true) (fun E=>An rfl (E.v oe13) (E.v oe12) (Ag _ _ _ _ _ _) (A6 _ _ _ Tryz.underlying3) (congrArg Value.bool (decide_eq_true (by omega)))) ?_
    refine QSeq.nil (t':=[_]) rfl ?_
    obtain rfl:=HA0.out
    clear HA0 oe12 oe13
    simp only [pz,Act.put,sIB,sCZ,sCS]
    go_upto_region 5 with (fail)
    refine Aa 42 [15,5] [0,1] (fun a0 HA0=>?_)
    have oe13:=ev HA0 13 rfl
    refine QSeq.pure rfl _ (fun E=>Ai rfl (E.v oe13)) ?_
    refine QSeq.pure rfl _ (fun E=>Af rfl (E.d 0 0)) ?_
    refine QSeq.nil (t':=[_,_]) rfl ?_
    obtain rfl:=HA0.out
    clear HA0 oe13
    simp only [pz,Act.put,sIB,sCZ,sCS]
    have hat:=HS2.out.at hlt
    obtain ⟨g1,o1,c1,eao,hrg,hrd,hcs⟩:=hat
    subst eao
    obtain ⟨x,hx⟩:∃ z,z=l[k]:=⟨_,rfl⟩
    rw [← hx] at hrd
    have HX1:=Lib.hid hx
    have hcl:c1.length=2:=TbR.len hrd
    have HCL1:=Lib.hid hcl
    have HAT1:=hid (show CellsAt R wl g1 (o1+k * 2) c1 from ⟨hrg,hcs⟩)
    have HRD1:=Lib.hid hrd
    clear hcl hcs hrd hrg hx
    have hat:=HT2.out.at hlt2
    obtain ⟨g2,o2,c2,eao,hrg,hrd,hcs⟩:=hat
    subst eao
    obtain ⟨y,hy⟩:∃ z,z=m[k]:=⟨_,rfl⟩
    rw [← hy] at hrd
    have HX2:=Lib.hid hy
    have hcl:c2.length=2:=TbR.len hrd
    have HCL2:=Lib.hid hcl
    have HAT2:=hid (show CellsAt R2 wl g2 (o2+k * 2) c2 from ⟨hrg,hcs⟩)
    have HRD2:=Lib.hid hrd
    clear hcl hcs hrd hrg hy
    obtain ⟨b,hb⟩:∃ b,b=eqb x y:=⟨_,rfl⟩
    have HB:=Lib.hid hb
    clear hb
    obtain ⟨v_l1,rfl,hok1,hsl1⟩:=HRD1.out
    obtain ⟨al1,kl1,rfl⟩:=hsl1.shape
    have HSL1:=Lib.hid hsl1
    clear hok1 hsl1
    clear HRD1
    obtain ⟨v_l2,rfl,hok2,hsl2⟩:=HRD2.out
    obtain ⟨al2,kl2,rfl⟩:=hsl2.shape
    have HSL2:=Lib.hid hsl2
    clear hok2 hsl2
    clear HRD2
    go_upto_region 6 with (fail)
    generalize ha0:Act.mk _ _=a0
    have oe0:a0.eval (.tmp 0)=.slice (some ⟨g1,o1,none⟩) l.length cap:=by rw [← ha0];rfl
    have oe1:a0.eval (.tmp 1)=.slice (some ⟨g2,o2,none⟩) m.length bcap:=by rw [← ha0];rfl
    have oe5:a0.eval (.tmp 5)=.int .i64 ((k:Nat):Int):=by rw [← ha0];rfl
    have hsz0:a0.tmps.size=42:=by rw [← ha0];rfl
    have HA0:=hid ha0
    clear ha0
    refine A1 42 hsz0 [16,17,18,19,20,21,22,23,24,25,26,27,28,29,30,31,32,33,34,35,36,37,38,39,40] [qi (.slice (some ⟨g1,o1,none⟩) l.length cap),qi (.int .i64 ((k:Nat):Int)),qi (.pointer (some ⟨g1,o1+k * 2,none⟩)),qi (.pointer (some ⟨g1,o1+k * 2,none⟩)),qi (.int .i64 x.ix),qi (.slice (some ⟨g2,o2,none⟩) m.length bcap),qi (.int .i64 ((k:Nat):Int)),qi (.pointer (some ⟨g2,o2+k * 2,none⟩)),qi (.pointer (some ⟨g2,o2+k * 2,none⟩)),qi (.int .i64 y.ix),qi (.bool (!(x.ix == y.ix))),qi (.bool (!(x.ix == y.ix))),qc (!(!(x.ix == y.ix))) (qi (.slice (some ⟨g1,o1,none⟩) l.length cap)),qc (!(!(x.ix == y.ix))) (qi (.int .i64 ((k:Nat):Int))),qc (!(!(x.ix == y.ix))) (qi (.pointer (some ⟨g1,o1+k * 2,none⟩))),qc (!(!(x.ix == y.ix))) (qi (.pointer (some ⟨g1,o1+k * 2+1,none⟩))),qc (!(!(x.ix == y.ix))) (qi (.slice al1 x.l.length kl1)),qc (!(!(x.ix == y.ix))) (qi (.slice (some ⟨g2,o2,none⟩) m.length bcap)),qc (!(!(x.ix == y.ix))) (qi (.int .i64 ((k:Nat):Int))),qc (!(!(x.ix == y.ix))) (qi (.pointer (some ⟨g2,o2+k * 2,none⟩))),qc (!(!(x.ix == y.ix))) (qi (.pointer (some ⟨g2,o2+k * 2+1,none⟩))),qc (!(!(x.ix == y.ix))) (qi (.slice al2 y.l.length kl2)),qc (!(!(x.ix == y.ix))) (qi (.bool (eqb x.l y.l))),qc (!(!(x.ix == y.ix))) (qi (.bool (!(eqb x.l y.l)))),qi (.bool ((!(x.ix == y.ix)) || (!(eqb x.l y.l))))] ⟨Ab,Ab,Ab,Ab,Ab,Ab,Ab,Ab,Ab,Ab,Ab,Ab,(qc_stable Ab),(qc_stable Ab),(qc_stable Ab),(qc_stable Ab),(qc_stable Ab),(qc_stable Ab),(qc_stable Ab),(qc_stable Ab),(qc_stable Ab),(qc_stable Ab),(qc_stable Ab),(qc_stable Ab),Ab,trivial⟩ [] ⟨?_,?_,?_,?_,?_,?_,?_,?_,?_,?_,?_,?_,?_,?_,?_,?_,?_,?_,?_,?_,?_,?_,?_,?_,?_,trivial⟩ ?_
    ·exact stq (fun E=>Ai rfl (E.v oe0))
    ·exact stq (fun E=>Ai rfl (E.v oe5))
    ·exact stq (fun E=>Bk (i:=k) (s:=2) rfl Tryz.underlying43 (by kernel_rfl) (E.d 0) (E.d 1) (by first|exact hlt|exact hlt2))
    ·exact stq (fun E=>Ad rfl Tryz.underlying127 rfl (by kernel_rfl) (E.d 2))
    ·exact stq (fun E=>Aj rfl Tryz.underlying3 rfl (E.d 3) ((HAT1.out.mod E.m.old (by intro k h1 h2;have hb:=HBR.out k h1;omega)).2 0 _ rfl))
    ·exact stq (fun E=>Ai rfl (E.v oe1))
    ·exact stq (fun E=>Ai rfl (E.v oe5))
    ·exact stq (fun E=>Bk (i:=k) (s:=2) rfl Tryz.underlying43 (by kernel_rfl) (E.d 5) (E.d 6) (by first|exact hlt|exact hlt2))
    ·exact stq (fun E=>Ad rfl Tryz.underlying127 rfl (by kernel_rfl) (E.d 7))
    ·exact stq (fun E=>Aj rfl Tryz.underlying3 rfl (E.d 8) ((HAT2.out.mod E.m.old (by intro k h1 h2;have hb:=HBT.out k h1;omega)).2 0 _ rfl))
    ·exact stq (fun E=>ex_bin rfl (E.d 4) (E.d 9) (Ag _ _ _ _ _ _) (run_neq_i _ _ _ Tryz.underlying3))
    ·exact stq (fun E=>Ai rfl (E.d 10))
    ·refine Av rfl rfl rfl fun _ _ _ _ _ _ _ hout hsz hd _ _=>?_
     have h11:=hd ⟨11,.guard⟩ (by simp) rfl _ rfl
     refine qe_guard rfl (b:=(!(!(x.ix == y.ix)))) ((Ae rfl rfl (hsz 27 (by decide)) h11).trans (by simp)) rfl (fun hb l' hl'=>?_)
     have hb0:=hb
     have hb:(!(x.ix == y.ix))=false:=by simpa using hb
     refine Bd rfl ((Ae rfl rfl (hsz 27 (by decide)) h11).trans (by rw [hb];rfl)) (Ai rfl ((hout 0 (by decide)).trans oe0)) QE.refl ?_
     rw [hl'];rfl
    ·refine Av rfl rfl rfl fun _ _ _ _ _ _ _ hout hsz hd _ _=>?_
     have h11:=hd ⟨11,.guard⟩ (by simp) rfl _ rfl
     refine qe_guard rfl (b:=(!(!(x.ix == y.ix)))) ((Ae rfl rfl (hsz 27 (by decide)) h11).trans (by simp)) rfl (fun hb l' hl'=>?_)
     have hb0:=hb
     have hb:(!(x.ix == y.ix))=false:=by simpa using hb
     refine Bd rfl ((Ae rfl rfl (hsz 27 (by decide)) h11).trans (by rw [hb];rfl)) (Ai rfl ((hout 5 (by decide)).trans oe5)) QE.refl ?_
     rw [hl'];rfl
    ·refine Av rfl rfl rfl fun _ _ _ _ _ _ _ _ hsz hd _ _=>?_
     have h11:=hd ⟨11,.guard⟩ (by simp) rfl _ rfl
     have h12:=hd ⟨12,.data⟩ (by simp) rfl _ rfl
     have h13:=hd ⟨13,.data⟩ (by simp) rfl _ rfl
     refine qe_guard rfl (b:=(!(!(x.ix == y.ix)))) ((Ae rfl rfl (hsz 27 (by decide)) h11).trans (by simp)) rfl (fun hb l' hl'=>?_)
     have hb0:=hb
     have hb:(!(x.ix == y.ix))=false:=by simpa using hb
     refine Bd rfl ((Ae rfl rfl (hsz 27 (by decide)) h11).trans (by rw [hb];rfl)) (Bk (i:=k) (s:=2) rfl Tryz.underlying43 (by kernel_rfl) (h12.1 hb0) (h13.1 hb0) (by first|exact hlt|exact hlt2)) QE.refl ?_
     rw [hl'];rfl
    ·refine Av rfl rfl rfl fun _ _ _ _ _ _ _ _ hsz hd _ _=>?_
     have h11:=hd ⟨11,.guard⟩ (by simp) rfl _ rfl
     have h14:=hd ⟨14,.data⟩ (by simp) rfl _ rfl
     refine qe_guard rfl (b:=(!(!(x.ix == y.ix)))) ((Ae rfl rfl (hsz 27 (by decide)) h11).trans (by simp)) rfl (fun hb l' hl'=>?_)
     have hb0:=hb
     have hb:(!(x.ix == y.ix))=false:=by simpa using hb
     refine Bd rfl ((Ae rfl rfl (hsz 27 (by decide)) h11).trans (by rw [hb];rfl)) (Ad rfl Tryz.underlying127 rfl (by kernel_rfl) (h14.1 hb0)) QE.refl ?_
     rw [hl'];rfl
    ·refine Av rfl rfl rfl fun _ _ _ _ _ hm _ _ hsz hd _ _=>?_
     have h11:=hd ⟨11,.guard⟩ (by simp) rfl _ rfl
     have h15:=hd ⟨15,.data⟩ (by simp) rfl _ rfl
     refine qe_guard rfl (b:=(!(!(x.ix == y.ix)))) ((Ae rfl rfl (hsz 27 (by decide)) h11).trans (by simp)) rfl (fun hb l' hl'=>?_)
     have hb0:=hb
     have hb:(!(x.ix == y.ix))=false:=by simpa using hb
     refine Bd rfl ((Ae rfl rfl (hsz 27 (by decide)) h11).trans (by rw [hb];rfl)) (Aj rfl Tryz.underlying125 rfl (h15.1 hb0) ((HAT1.out.mod hm.old (by intro k h1 h2;have hb:=HBR.out k h1;omega)).2 1 _ rfl)) QE.refl ?_
     rw [hl'];rfl
    ·refine Av rfl rfl rfl fun _ _ _ _ _ _ _ hout hsz hd _ _=>?_
     have h11:=hd ⟨11,.guard⟩ (by simp) rfl _ rfl
     refine qe_guard rfl (b:=(!(!(x.ix == y.ix)))) ((Ae rfl rfl (hsz 27 (by decide)) h11).trans (by simp)) rfl (fun hb l' hl'=>?_)
     have hb0:=hb
     have hb:(!(x.ix == y.ix))=false:=by simpa using hb
     refine Bd rfl ((Ae rfl rfl (hsz 27 (by decide)) h11).trans (by rw [hb];rfl)) (Ai rfl ((hout 1 (by decide)).trans oe1)) QE.refl ?_
     rw [hl'];rfl
    ·refine Av rfl rfl rfl fun _ _ _ _ _ _ _ hout hsz hd _ _=>?_
     have h11:=hd ⟨11,.guard⟩ (by simp) rfl _ rfl
     refine qe_guard rfl (b:=(!(!(x.ix == y.ix)))) ((Ae rfl rfl (hsz 27 (by decide)) h11).trans (by simp)) rfl (fun hb l' hl'=>?_)
     have hb0:=hb
     have hb:(!(x.ix == y.ix))=false:=by simpa using hb
     refine Bd rfl ((Ae rfl rfl (hsz 27 (by decide)) h11).trans (by rw [hb];rfl)) (Ai rfl ((hout 5 (by decide)).trans oe5)) QE.refl ?_
     rw [hl'];rfl
    ·refine Av rfl rfl rfl fun _ _ _ _ _ _ _ _ hsz hd _ _=>?_
     have h11:=hd ⟨11,.guard⟩ (by simp) rfl _ rfl
     have h17:=hd ⟨17,.data⟩ (by simp) rfl _ rfl
     have h18:=hd ⟨18,.data⟩ (by simp) rfl _ rfl
     refine qe_guard rfl (b:=(!(!(x.ix == y.ix)))) ((Ae rfl rfl (hsz 27 (by decide)) h11).trans (by simp)) rfl (fun hb l' hl'=>?_)
     have hb0:=hb
     have hb:(!(x.ix == y.ix))=false:=by simpa using hb
     refine Bd rfl ((Ae rfl rfl (hsz 27 (by decide)) h11).trans (by rw [hb];rfl)) (Bk (i:=k) (s:=2) rfl Tryz.underlying43 (by kernel_rfl) (h17.1 hb0) (h18.1 hb0) (by first|exact hlt|exact hlt2)) QE.refl ?_
     rw [hl'];rfl
    ·refine Av rfl rfl rfl fun _ _ _ _ _ _ _ _ hsz hd _ _=>?_
     have h11:=hd ⟨11,.guard⟩ (by simp) rfl _ rfl
     have h19:=hd ⟨19,.data⟩ (by simp) rfl _ rfl
     refine qe_guard rfl (b:=(!(!(x.ix == y.ix)))) ((Ae rfl rfl (hsz 27 (by decide)) h11).trans (by simp)) rfl (fun hb l' hl'=>?_)
     have hb0:=hb
     have hb:(!(x.ix == y.ix))=false:=by simpa using hb
     refine Bd rfl ((Ae rfl rfl (hsz 27 (by decide)) h11).trans (by rw [hb];rfl)) (Ad rfl Tryz.underlying127 rfl (by kernel_rfl) (h19.1 hb0)) QE.refl ?_
     rw [hl'];rfl
    ·refine Av rfl rfl rfl fun _ _ _ _ _ hm _ _ hsz hd _ _=>?_
     have h11:=hd ⟨11,.guard⟩ (by simp) rfl _ rfl
     have h20:=hd ⟨20,.data⟩ (by simp) rfl _ rfl
     refine qe_guard rfl (b:=(!(!(x.ix == y.ix)))) ((Ae rfl rfl (hsz 27 (by decide)) h11).trans (by simp)) rfl (fun hb l' hl'=>?_)
     have hb0:=hb
     have hb:(!(x.ix == y.ix))=false:=by simpa using hb
     refine Bd rfl ((Ae rfl rfl (hsz 27 (by decide)) h11).trans (by rw [hb];rfl)) (Aj rfl Tryz.underlying125 rfl (h20.1 hb0) ((HAT2.out.mod hm.old (by intro k h1 h2;have hb:=HBT.out k h1;omega)).2 1 _ rfl)) QE.refl ?_
     rw [hl'];rfl
    ·refine Av rfl rfl rfl fun _ _ _ _ _ hm _ _ hsz hd _ _=>?_
     have h11:=hd ⟨11,.chain⟩ (by simp) rfl _ rfl
     have h16:=hd ⟨16,.data⟩ (by simp) rfl _ rfl
     have h21:=hd ⟨21,.data⟩ (by simp) rfl _ rfl
     refine qe_guard rfl (b:=(!(!(x.ix == y.ix)))) ((Ae rfl rfl (hsz 27 (by decide)) h11).trans (by simp)) rfl (fun hb l' hl'=>?_)
     have hb0:=hb
     have hb:(!(x.ix == y.ix))=false:=by simpa using hb
     refine qe_callF (args:=#[.slice al1 x.l.length kl1,.slice al2 y.l.length kl2]) rfl ((Ae rfl rfl (hsz 27 (by decide)) h11).trans (by rw [hb];rfl)) rfl Tryz.func128 (Az (h16.1 hb0) (h21.1 hb0)) (EqL_Dn _ _ _ _ _ _ _ (HSL1.out.mod hm.old (by intro k h1 h2;have hb:=HBR.out k h1;omega)) (HSL2.out.mod hm.old (by intro k h1 h2;have hb:=HBT.out k h1;omega)) (by intro k h1;have hb:=HBR.out k h1;(try have:=hm.size);omega) (by intro k h1;have hb:=HBT.out k h1;(try have:=hm.size);omega)) ?_
     rintro e w2 ⟨rfl,hm2⟩
     exact ⟨_,rfl,QE.still hm2,(by rw [hl'];rfl)⟩
    ·refine Av rfl rfl rfl fun _ _ _ _ _ _ _ _ hsz hd _ _=>?_
     have h11:=hd ⟨11,.guard⟩ (by simp) rfl _ rfl
     have h22:=hd ⟨22,.data⟩ (by simp) rfl _ rfl
     refine qe_guard rfl (b:=(!(!(x.ix == y.ix)))) ((Ae rfl rfl (hsz 27 (by decide)) h11).trans (by simp)) rfl (fun hb l' hl'=>?_)
     have hb0:=hb
     have hb:(!(x.ix == y.ix))=false:=by simpa using hb
     refine Bd rfl ((Ae rfl rfl (hsz 27 (by decide)) h11).trans (by rw [hb];rfl)) (ex_not rfl (h22.1 hb0)) QE.refl ?_
     rw [hl'];rfl
    ·exact stq (fun E=>A2 rfl (E.d 11) rfl rfl (or_val fun hb=>(E.d 23).1 (by rw [hb];rfl)))
    intro u6_0 hr
    have zu6_0:=hr.size
    have Cx1:=hid (hr.new (S:=(fun _=>False)))
    clear hr
    refine QChain.nil fun vs hl hzz hrows hne=>?_
    obtain ⟨Z,hYZ,hZb,hV⟩:=hzz
    have f0:=fvi hV hl 0
    have f1:=fvi hV hl 1
    have f5:=fvi hV hl 5
    have f6:=fvi hV hl 6
    have f11:=fvi hV hl 11
    have f24:=fvi hV hl 24
    rw [show vs=[gw vs 0,gw vs 1,gw vs 2,gw vs 3,gw vs 4,gw vs 5,gw vs 6,gw vs 7,gw vs 8,gw vs 9,gw vs 10,gw vs 11,gw vs 12,gw vs 13,gw vs 14,gw vs 15,gw vs 16,gw vs 17,gw vs 18,gw vs 19,gw vs 20,gw vs 21,gw vs 22,gw vs 23,gw vs 24] from (Be hl).trans rfl]
    have ha0:=HA0.out
    subst ha0
    clear HA0 hV hYZ hZb hsz0 hrows hne oe0 oe1 oe5
    simp only [Au,Act.put,sIB,sCZ,sCS,f0,f1,f5,f6,f11,f24]
    clear hl f0 f1 f5 f6 f11 f24
    rw [tb_eqb,← HB.out]
    cases b with
    | false=>
     go_upto_region 7 with (fail)
     refine Aa 42 [4] [0] (fun a0 HA0=>?_)
     refine QSeq.pure rfl (.bool false) (fun E=>Af rfl rfl) ?_
     refine QSeq.nil (t':=[_]) rfl ?_
     obtain rfl:=HA0.out
     clear HA0
     simp only [pz,Act.put,sIB,sCZ,sCS]
     go_wp2
     go_ret
     exact ⟨Bm (take_ne hlt hlt2 (fun e=>by have h:=HB.out;rw [HX1.out,HX2.out,e,eqb_rfl] at h;cases h)).symm,(HML.out.trans Cx1.out (fun _ _ h=>h.elim))⟩
    | true=>
     go_upto_region 8 with (fail)
     refine Aa 42 [41,13] [0,1] (fun a0 HA0=>?_)
     have oe13:=ev HA0 13 rfl
     refine QSeq.pure rfl (.int .i64 (((k:Nat):Int)+1)) (fun E=>An rfl (E.y 1 oe13) rfl (Ag _ _ _ _ _ _) (run_add_i _ _ Tryz.underlying3) (congrArg (Value.int .i64) (IntWalk.i64_in _ (by omega)))) ?_
     refine QSeq.pure rfl _ (fun E=>Ai rfl (E.d 0 0)) ?_
     refine QSeq.nil (t':=[_,_]) rfl ?_
     obtain rfl:=HA0.out
     clear HA0 oe13
     simp only [pz,Act.put,sIB,sCZ,sCS]
     go_wp2
     go_roundw
     case rel=>exact ⟨k+1,by go_num,by omega,take_succ2 hlt hlt2 HTK.out (by have h:=eqb_iff.1 HB.out.symm;rw [HX1.out,HX2.out] at h;exact h),by omega,(HS2.out.mod Cx1.out (fun _ _ h=>h)),(HT2.out.mod Cx1.out (fun _ _ h=>h)),(HML.out.trans Cx1.out (fun _ _ h=>h.elim))⟩
     case measure=>simp [intOf]<;>omega
   ·skip
    go_upto_region 4 with (fail)
    refine Aa 42 [14] [0] (fun a0 HA0=>?_)
    have oe12:=ev HA0 12 rfl
    have oe13:=ev HA0 13 rfl
    refine QSeq.pure rfl (.bool false) (fun E=>An rfl (E.v oe13) (E.v oe12) (Ag _ _ _ _ _ _) (A6 _ _ _ Tryz.underlying3) (congrArg Value.bool (decide_eq_false (by omega)))) ?_
    refine QSeq.nil (t':=[_]) rfl ?_
    obtain rfl:=HA0.out
    clear HA0 oe12 oe13
    simp only [pz,Act.put,sIB,sCZ,sCS]
    go_upto_region 9 with (fail)
    refine Aa 42 [4] [0] (fun a0 HA0=>?_)
    refine QSeq.pure rfl (.bool true) (fun E=>Af rfl rfl) ?_
    refine QSeq.nil (t':=[_]) rfl ?_
    obtain rfl:=HA0.out
    clear HA0
    simp only [pz,Act.put,sIB,sCZ,sCS]
    go_wp2
    go_ret
    exact ⟨Bm (take_all (by omega) (by have:=HLE.out;omega) HTK.out).symm,HML.out⟩
set_option maxHeartbeats 8000000 in
theorem Eq_Ba:Eqs BaR 64:=by
 intro R R2 cs ds x y w hx hy hB hB2
 obtain ⟨vx_ps,vx_os,vx_ts,rfl,hokx,hx_ps,hx_os,hx_ts⟩:=hx
 obtain ⟨ax_ps,kx_ps,rfl⟩:=hx_ps.shape
 have Hx_ps:=Lib.hid hx_ps
 clear hx_ps
 obtain ⟨ax_os,kx_os,rfl⟩:=hx_os.shape
 have Hx_os:=Lib.hid hx_os
 clear hx_os
 obtain ⟨ax_ts,kx_ts,rfl⟩:=hx_ts.shape
 have Hx_ts:=Lib.hid hx_ts
 clear hx_ts
 have HOKx:=Lib.hid hokx
 clear hokx
 obtain ⟨vy_ps,vy_os,vy_ts,rfl,hoky,hy_ps,hy_os,hy_ts⟩:=hy
 obtain ⟨ay_ps,ky_ps,rfl⟩:=hy_ps.shape
 have Hy_ps:=Lib.hid hy_ps
 clear hy_ps
 obtain ⟨ay_os,ky_os,rfl⟩:=hy_os.shape
 have Hy_os:=Lib.hid hy_os
 clear hy_os
 obtain ⟨ay_ts,ky_ts,rfl⟩:=hy_ts.shape
 have Hy_ts:=Lib.hid hy_ts
 clear hy_ts
 have HOKy:=Lib.hid hoky
 clear hoky
 have HBR:=Lib.hid hB
 have HBT:=Lib.hid hB2
 clear hB hB2
 go_enter Tryz.func64,Tryz.ntmps64
 go_upto_region 1 with (fail)
 obtain ⟨w1,hw1⟩:∃ zz,zz=((w.alloc (.cells (x.cells (.slice ax_ps x.ps.length kx_ps) (.slice ax_os x.os.length kx_os) (.slice ax_ts x.ts.length kx_ts):List Value).toArray 45)).alloc (.cells (y.cells (.slice ay_ps y.ps.length ky_ps) (.slice ay_os y.os.length ky_os) (.slice ay_ts y.ts.length ky_ts):List Value).toArray 45)):=⟨_,rfl⟩
 change Code.wp _ _ _ _ ((w.alloc (.cells (x.cells (.slice ax_ps x.ps.length kx_ps) (.slice ax_os x.os.length kx_os) (.slice ax_ts x.ts.length kx_ts):List Value).toArray 45)).alloc (.cells (y.cells (.slice ay_ps y.ps.length ky_ps) (.slice ay_os y.os.length ky_os) (.slice ay_ts y.ts.length ky_ts):List Value).toArray 45))
 rw [← hw1]
 have HB2:=hid (show Cs w1 (w.heap.size) (x.cells (.slice ax_ps x.ps.length kx_ps) (.slice ax_os x.os.length kx_os) (.slice ax_ts x.ts.length kx_ts):List Value).toArray 45 by rw [hw1];exact (Cs.new _ _ _).alloc _)
 have HB3:=hid (show Cs w1 (w.heap.size+1) (y.cells (.slice ay_ps y.ps.length ky_ps) (.slice ay_os y.os.length ky_os) (.slice ay_ts y.ts.length ky_ts):List Value).toArray 45 by rw [hw1];exact Cs_newN _ _ _ (by simp))
 have hm:Mod (fun _=>False) w w1:=by rw [hw1];exact ((Mod.refl _ _).alloc _).alloc _
 have HM0:=hid (show Mod (fun _=>False) w w1 from hm.mono (fun _ _ h=>h.elim))
 have hs1:w1.heap.size=w.heap.size+2:=by rw [hw1];simp
 have Hx1:=hid (Hx_ps.out.mod hm (fun _ _ h=>h))
 clear Hx_ps
 have Hx2:=hid (Hx_os.out.mod hm (fun _ _ h=>h))
 clear Hx_os
 have Hx3:=hid (Hx_ts.out.mod hm (fun _ _ h=>h))
 clear Hx_ts
 have Hx4:=hid (Hy_ps.out.mod hm (fun _ _ h=>h))
 clear Hy_ps
 have Hx5:=hid (Hy_os.out.mod hm (fun _ _ h=>h))
 clear Hy_os
 have Hx6:=hid (Hy_ts.out.mod hm (fun _ _ h=>h))
 clear Hy_ts
 clear hw1 hm
 have hlx:x.ps.length≤maxLen:=Hx1.out.bd
 have hly:y.ps.length≤maxLen:=Hx4.out.bd
 rw [Ax] at hlx hly
 go_upto_region 1 with (fail)
 refine Aa 62 [6,7,8,9,10,11,12,13,14,15,16,17,18,19,20,21,22,23,24,25,26,27,28,29,30,31,32,33,34,35,36,37,38,39,40,41,42] [0,1,2,3,4,5,6,7,8,9,10,11,12,13,14,15,16,17,18,19,20,21,22,23,24,25,26,27,28,29,30,31,32,33,34,35,36] (fun a0 HA0=>?_)
 have oe2:=ev HA0 2 rfl
 have oe3:=ev HA0 3 rfl
 refine QSeq.pure rfl (.pointer (some ⟨w.heap.size,0,none⟩)) (fun E=>Ad rfl Tryz.underlying45 rfl (by kernel_rfl) (E.v oe2)) ?_
 refine QSeq.pure rfl _ (fun E=>Aj rfl Tryz.underlying3 rfl (E.d 0 0) (Cs.lit1 HB2.out rfl)) ?_
 refine QSeq.pure rfl (.pointer (some ⟨w.heap.size+1,0,none⟩)) (fun E=>Ad rfl Tryz.underlying45 rfl (by kernel_rfl) (E.v oe3)) ?_
 refine QSeq.pure rfl _ (fun E=>Aj rfl Tryz.underlying3 rfl (E.d 2 0) (Cs.lit1 HB3.out rfl)) ?_
 refine QSeq.pure rfl (.bool (!(x.ep == y.ep))) (fun E=>ex_bin rfl (E.d 1 2) (E.d 3 0) (Ag _ _ _ _ _ _) (run_neq_i _ _ _ Tryz.underlying3)) ?_
 refine QSeq.pure rfl _ (fun E=>Ai rfl (E.d 4 0)) ?_
 refine QSeq.may (b:=(!(!(x.ep == y.ep)))) rfl (.pointer (some ⟨w.heap.size,1,none⟩)) (fun E=>((Ae rfl rfl (E.sz 11 (by decide)) (E.d 5 0)).trans (beq_f _))) (fun E hb0=>(by have hb:(!(x.ep == y.ep))=false:=(by simpa using hb0);exact Ad rfl Tryz.underlying45 rfl (by kernel_rfl) (E.v oe2))) ?_
 intro v1_6 hw
 have hv1_6:=hid hw
 clear hw
 refine QSeq.may (b:=(!(!(x.ep == y.ep)))) rfl (.int .u64 (x.tm:Nat)) (fun E=>((Ae rfl rfl (E.sz 11 (by decide)) (E.d 5 1)).trans (beq_f _))) (fun E hb0=>(by have hb:(!(x.ep == y.ep))=false:=(by simpa using hb0);exact Aj rfl Tryz.underlying30 rfl ((E.q 6 0 hv1_6.out).1 hb0) (Cs.lit1 HB2.out rfl))) ?_
 intro v1_7 hw
 have hv1_7:=hid hw
 clear hw
 refine QSeq.may (b:=(!(!(x.ep == y.ep)))) rfl (.pointer (some ⟨w.heap.size+1,1,none⟩)) (fun E=>((Ae rfl rfl (E.sz 11 (by decide)) (E.d 5 2)).trans (beq_f _))) (fun E hb0=>(by have hb:(!(x.ep == y.ep))=false:=(by simpa using hb0);exact Ad rfl Tryz.underlying45 rfl (by kernel_rfl) (E.v oe3))) ?_
 intro v1_8 hw
 have hv1_8:=hid hw
 clear hw
 refine QSeq.may (b:=(!(!(x.ep == y.ep)))) rfl (.int .u64 (y.tm:Nat)) (fun E=>((Ae rfl rfl (E.sz 11 (by decide)) (E.d 5 3)).trans (beq_f _))) (fun E hb0=>(by have hb:(!(x.ep == y.ep))=false:=(by simpa using hb0);exact Aj rfl Tryz.underlying30 rfl ((E.q 8 0 hv1_8.out).1 hb0) (Cs.lit1 HB3.out rfl))) ?_
 intro v1_9 hw
 have hv1_9:=hid hw
 clear hw
 refine QSeq.may (b:=(!(!(x.ep == y.ep)))) rfl (.bool (!(((x.tm:Nat):Int) == ((y.tm:Nat):Int)))) (fun E=>((Ae rfl rfl (E.sz 11 (by decide)) (E.d 5 4)).trans (beq_f _))) (fun E hb0=>(by have hb:(!(x.ep == y.ep))=false:=(by simpa using hb0);exact ex_bin rfl ((E.q 7 2 hv1_7.out).1 hb0) ((E.q 9 0 hv1_9.out).1 hb0) (Ag _ _ _ _ _ _) (run_neq_i _ _ _ Tryz.underlying30))) ?_
 intro v1_10 hw
 have hv1_10:=hid hw
 clear hw
 refine QSeq.pure rfl (.bool ((!(x.ep == y.ep)) || (!(((x.tm:Nat):Int) == ((y.tm:Nat):Int))))) (fun E=>A2 rfl (E.d 5 5) rfl rfl (or_val fun hb=>(E.q 10 0 hv1_10.out).1 (by rw [hb];rfl))) ?_
 refine QSeq.pure rfl _ (fun E=>Ai rfl (E.d 11 0)) ?_
 refine QSeq.may (b:=(!((!(x.ep == y.ep)) || (!(((x.tm:Nat):Int) == ((y.tm:Nat):Int)))))) rfl (.pointer (some ⟨w.heap.size,2,none⟩)) (fun E=>((Ae rfl rfl (E.sz 18 (by decide)) (E.d 12 0)).trans (beq_f _))) (fun E hb0=>(by have hb:((!(x.ep == y.ep)) || (!(((x.tm:Nat):Int) == ((y.tm:Nat):Int))))=false:=(by simpa using hb0);exact Ad rfl Tryz.underlying45 rfl (by kernel_rfl) (E.v oe2))) ?_
 intro v1_13 hw
 have hv1_13:=hid hw
 clear hw
 refine QSeq.may (b:=(!((!(x.ep == y.ep)) || (!(((x.tm:Nat):Int) == ((y.tm:Nat):Int)))))) rfl (.slice ax_ps x.ps.length kx_ps) (fun E=>((Ae rfl rfl (E.sz 18 (by decide)) (E.d 12 1)).trans (beq_f _))) (fun E hb0=>(by have hb:((!(x.ep == y.ep)) || (!(((x.tm:Nat):Int) == ((y.tm:Nat):Int))))=false:=(by simpa using hb0);exact Aj rfl Tryz.underlying41 rfl ((E.q 13 0 hv1_13.out).1 hb0) (Cs.lit1 HB2.out rfl))) ?_
 intro v1_14 hw
 have hv1_14:=hid hw
 clear hw
 refine QSeq.may (b:=(!((!(x.ep == y.ep)) || (!(((x.tm:Nat):Int) == ((y.tm:Nat):Int)))))) rfl (.int .i64 x.ps.length) (fun E=>((Ae rfl rfl (E.sz 18 (by decide)) (E.d 12 2)).trans (beq_f _))) (fun E hb0=>(by have hb:((!(x.ep == y.ep)) || (!(((x.tm:Nat):Int) == ((y.tm:Nat):Int))))=false:=(by simpa using hb0);exact A0 rfl ((E.q 14 0 hv1_14.out).1 hb0) Tryz.underlying41)) ?_
 intro v1_15 hw
 have hv1_15:=hid hw
 clear hw
 refine QSeq.may (b:=(!((!(x.ep == y.ep)) || (!(((x.tm:Nat):Int) == ((y.tm:Nat):Int)))))) rfl (.pointer (some ⟨w.heap.size+1,2,none⟩)) (fun E=>((Ae rfl rfl (E.sz 18 (by decide)) (E.d 12 3)).trans (beq_f _))) (fun E hb0=>(by have hb:((!(x.ep == y.ep)) || (!(((x.tm:Nat):Int) == ((y.tm:Nat):Int))))=false:=(by simpa using hb0);exact Ad rfl Tryz.underlying45 rfl (by kernel_rfl) (E.v oe3))) ?_
 intro v1_16 hw
 have hv1_16:=hid hw
 clear hw
 refine QSeq.may (b:=(!((!(x.ep == y.ep)) || (!(((x.tm:Nat):Int) == ((y.tm:Nat):Int)))))) rfl (.slice ay_ps y.ps.length ky_ps) (fun E=>((Ae rfl rfl (E.sz 18 (by decide)) (E.d 12 4)).trans (beq_f _))) (fun E hb0=>(by have hb:((!(x.ep == y.ep)) || (!(((x.tm:Nat):Int) == ((y.tm:Nat):Int))))=false:=(by simpa using hb0);exact Aj rfl Tryz.underlying41 rfl ((E.q 16 0 hv1_16.out).1 hb0) (Cs.lit1 HB3.out rfl))) ?_
 intro v1_17 hw
 have hv1_17:=hid hw
 clear hw
 refine QSeq.may (b:=(!((!(x.ep == y.ep)) || (!(((x.tm:Nat):Int) == ((y.tm:Nat):Int)))))) rfl (.int .i64 y.ps.length) (fun E=>((Ae rfl rfl (E.sz 18 (by decide)) (E.d 12 5)).trans (beq_f _))) (fun E hb0=>(by have hb:((!(x.ep == y.ep)) || (!(((x.tm:Nat):Int) == ((y.tm:Nat):Int))))=false:=(by simpa using hb0);exact A0 rfl ((E.q 17 0 hv1_17.out).1 hb0) Tryz.underlying41)) ?_
 intro v1_18 hw
 have hv1_18:=hid hw
 clear hw
 refine QSeq.may (b:=(!((!(x.ep == y.ep)) || (!(((x.tm:Nat):Int) == ((y.tm:Nat):Int)))))) rfl (.bool (!(((x.ps.length:Nat):Int) == ((y.ps.length:Nat):Int)))) (fun E=>((Ae rfl rfl (E.sz 18 (by decide)) (E.d 12 6)).trans (beq_f _))) (fun E hb0=>(by have hb:((!(x.ep == y.ep)) || (!(((x.tm:Nat):Int) == ((y.tm:Nat):Int))))=false:=(by simpa using hb0);exact ex_bin rfl ((E.q 15 3 hv1_15.out).1 hb0) ((E.q 18 0 hv1_18.out).1 hb0) (Ag _ _ _ _ _ _) (run_neq_i _ _ _ Tryz.underlying3))) ?_
 intro v1_19 hw
 have hv1_19:=hid hw
 clear hw
 refine QSeq.pure rfl (.bool (((!(x.ep == y.ep)) || (!(((x.tm:Nat):Int) == ((y.tm:Nat):Int)))) || (!(((x.ps.length:Nat):Int) == ((y.ps.length:Nat):Int))))) (fun E=>A2 rfl (E.d 12 7) rfl rfl (or_val fun hb=>(E.q 19 0 hv1_19.out).1 (by rw [hb];rfl))) ?_
 refine QSeq.pure rfl _ (fun E=>Ai rfl (E.d 20 0)) ?_
 refine QSeq.may (b:=(!(((!(x.ep == y.ep)) || (!(((x.tm:Nat):Int) == ((y.tm:Nat):Int)))) || (!(((x.ps.length:Nat):Int) == ((y.ps.length:Nat):Int)))))) rfl (.pointer (some ⟨w.heap.size,3,none⟩)) (fun E=>((Ae rfl rfl (E.sz 27 (by decide)) (E.d 21 0)).trans (beq_f _))) (fun E hb0=>(by have hb:(((!(x.ep == y.ep)) || (!(((x.tm:Nat):Int) == ((y.tm:Nat):Int)))) || (!(((x.ps.length:Nat):Int) == ((y.ps.length:Nat):Int))))=false:=(by simpa using hb0);exact Ad rfl Tryz.underlying45 rfl (by kernel_rfl) (E.v oe2))) ?_
 intro v1_22 hw
 have hv1_22:=hid hw
 clear hw
 refine QSeq.may (b:=(!(((!(x.ep == y.ep)) || (!(((x.tm:Nat):Int) == ((y.tm:Nat):Int)))) || (!(((x.ps.length:Nat):Int) == ((y.ps.length:Nat):Int)))))) rfl (.slice ax_os x.os.length kx_os) (fun E=>((Ae rfl rfl (E.sz 27 (by decide)) (E.d 21 1)).trans (beq_f _))) (fun E hb0=>(by have hb:(((!(x.ep == y.ep)) || (!(((x.tm:Nat):Int) == ((y.tm:Nat):Int)))) || (!(((x.ps.length:Nat):Int) == ((y.ps.length:Nat):Int))))=false:=(by simpa using hb0);exact Aj rfl Tryz.underlying42 rfl ((E.q 22 0 hv1_22.out).1 hb0) (Cs.lit1 HB2.out rfl))) ?_
 intro v1_23 hw
 have hv1_23:=hid hw
 clear hw
 refine QSeq.may (b:=(!(((!(x.ep == y.ep)) || (!(((x.tm:Nat):Int) == ((y.tm:Nat):Int)))) || (!(((x.ps.length:Nat):Int) == ((y.ps.length:Nat):Int)))))) rfl (.pointer (some ⟨w.heap.size+1,3,none⟩)) (fun E=>((Ae rfl rfl (E.sz 27 (by decide)) (E.d 21 2)).trans (beq_f _))) (fun E hb0=>(by have hb:(((!(x.ep == y.ep)) || (!(((x.tm:Nat):Int) == ((y.tm:Nat):Int)))) || (!(((x.ps.length:Nat):Int) == ((y.ps.length:Nat):Int))))=false:=(by simpa using hb0);exact Ad rfl Tryz.underlying45 rfl (by kernel_rfl) (E.v oe3))) ?_
 intro v1_24 hw
 have hv1_24:=hid hw
 clear hw
 refine QSeq.may (b:=(!(((!(x.ep == y.ep)) || (!(((x.tm:Nat):Int) == ((y.tm:Nat):Int)))) || (!(((x.ps.length:Nat):Int) == ((y.ps.length:Nat):Int)))))) rfl (.slice ay_os y.os.length ky_os) (fun E=>((Ae rfl rfl (E.sz 27 (by decide)) (E.d 21 3)).trans (beq_f _))) (fun E hb0=>(by have hb:(((!(x.ep == y.ep)) || (!(((x.tm:Nat):Int) == ((y.tm:Nat):Int)))) || (!(((x.ps.length:Nat):Int) == ((y.ps.length:Nat):Int))))=false:=(by simpa using hb0);exact Aj rfl Tryz.underlying42 rfl ((E.q 24 0 hv1_24.out).1 hb0) (Cs.lit1 HB3.out rfl))) ?_
 intro v1_25 hw
 have hv1_25:=hid hw
 clear hw
 refine QSeq.mayCall (b:=(!(((!(x.ep == y.ep)) || (!(((x.tm:Nat):Int) == ((y.tm:Nat):Int)))) || (!(((x.ps.length:Nat):Int) == ((y.ps.length:Nat):Int)))))) rfl (.bool (eqb x.os y.os)) (args:=#[.slice ax_os x.os.length kx_os,.slice ay_os y.os.length ky_os]) (fun E=>((Ae rfl rfl (E.sz 27 (by decide)) (E.d 21 4)).trans (beq_f _))) rfl Tryz.func94 (fun E hb0=>(by have hb:(((!(x.ep == y.ep)) || (!(((x.tm:Nat):Int) == ((y.tm:Nat):Int)))) || (!(((x.ps.length:Nat):Int) == ((y.ps.length:Nat):Int))))=false:=(by simpa using hb0);exact Az ((E.q 23 2 hv1_23.out).1 hb0) ((E.q 25 0 hv1_25.out).1 hb0))) (fun hb0=>(by have hb:(((!(x.ep == y.ep)) || (!(((x.tm:Nat):Int) == ((y.tm:Nat):Int)))) || (!(((x.ps.length:Nat):Int) == ((y.ps.length:Nat):Int))))=false:=(by simpa using hb0);exact EqL_Op _ _ _ _ _ _ _ Hx2.out Hx5.out (by intro k h1;have hb:=HBR.out k h1;(try have:=hm.size);omega) (by intro k h1;have hb:=HBT.out k h1;(try have:=hm.size);omega))) ?_
 intro v1_26 u1_26 hw hm
 have hv1_26:=hid hw
 clear hw
 have zu1_26:=hm.size
 have Cx7:=hid (show Mod (fun _=>False) w1 u1_26 from hm)
 clear hm
 refine QSeq.may (b:=(!(((!(x.ep == y.ep)) || (!(((x.tm:Nat):Int) == ((y.tm:Nat):Int)))) || (!(((x.ps.length:Nat):Int) == ((y.ps.length:Nat):Int)))))) rfl (.bool (!(eqb x.os y.os))) (fun E=>((Ae rfl rfl (E.sz 27 (by decide)) (E.d 21 5)).trans (beq_f _))) (fun E hb0=>(by have hb:(((!(x.ep == y.ep)) || (!(((x.tm:Nat):Int) == ((y.tm:Nat):Int)))) || (!(((x.ps.length:Nat):Int) == ((y.ps.length:Nat):Int))))=false:=(by simpa using hb0);exact ex_not rfl ((E.q 26 0 hv1_26.out).1 hb0))) ?_
 intro v1_27 hw
 have hv1_27:=hid hw
 clear hw
 refine QSeq.pure rfl (.bool ((((!(x.ep == y.ep)) || (!(((x.tm:Nat):Int) == ((y.tm:Nat):Int)))) || (!(((x.ps.length:Nat):Int) == ((y.ps.length:Nat):Int)))) || (!(eqb x.os y.os)))) (fun E=>A2 rfl (E.d 21 6) rfl rfl (or_val fun hb=>(E.q 27 0 hv1_27.out).1 (by rw [hb];rfl))) ?_
 refine QSeq.pure rfl _ (fun E=>Ai rfl (E.d 28 0)) ?_
 refine QSeq.may (b:=(!((((!(x.ep == y.ep)) || (!(((x.tm:Nat):Int) == ((y.tm:Nat):Int)))) || (!(((x.ps.length:Nat):Int) == ((y.ps.length:Nat):Int)))) || (!(eqb x.os y.os))))) rfl (.pointer (some ⟨w.heap.size,4,none⟩)) (fun E=>((Ae rfl rfl (E.sz 35 (by decide)) (E.d 29 0)).trans (beq_f _))) (fun E hb0=>(by have hb:((((!(x.ep == y.ep)) || (!(((x.tm:Nat):Int) == ((y.tm:Nat):Int)))) || (!(((x.ps.length:Nat):Int) == ((y.ps.length:Nat):Int)))) || (!(eqb x.os y.os)))=false:=(by simpa using hb0);exact Ad rfl Tryz.underlying45 rfl (by kernel_rfl) (E.v oe2))) ?_
 intro v1_30 hw
 have hv1_30:=hid hw
 clear hw
 refine QSeq.may (b:=(!((((!(x.ep == y.ep)) || (!(((x.tm:Nat):Int) == ((y.tm:Nat):Int)))) || (!(((x.ps.length:Nat):Int) == ((y.ps.length:Nat):Int)))) || (!(eqb x.os y.os))))) rfl (.slice ax_ts x.ts.length kx_ts) (fun E=>((Ae rfl rfl (E.sz 35 (by decide)) (E.d 29 1)).trans (beq_f _))) (fun E hb0=>(by have hb:((((!(x.ep == y.ep)) || (!(((x.tm:Nat):Int) == ((y.tm:Nat):Int)))) || (!(((x.ps.length:Nat):Int) == ((y.ps.length:Nat):Int)))) || (!(eqb x.os y.os)))=false:=(by simpa using hb0);exact Aj rfl Tryz.underlying43 rfl ((E.q 30 0 hv1_30.out).1 hb0) (Cs.lit1 (HB2.out.mod Cx7.out (fun h=>h)) rfl))) ?_
 intro v1_31 hw
 have hv1_31:=hid hw
 clear hw
 refine QSeq.may (b:=(!((((!(x.ep == y.ep)) || (!(((x.tm:Nat):Int) == ((y.tm:Nat):Int)))) || (!(((x.ps.length:Nat):Int) == ((y.ps.length:Nat):Int)))) || (!(eqb x.os y.os))))) rfl (.pointer (some ⟨w.heap.size+1,4,none⟩)) (fun E=>((Ae rfl rfl (E.sz 35 (by decide)) (E.d 29 2)).trans (beq_f _))) (fun E hb0=>(by have hb:((((!(x.ep == y.ep)) || (!(((x.tm:Nat):Int) == ((y.tm:Nat):Int)))) || (!(((x.ps.length:Nat):Int) == ((y.ps.length:Nat):Int)))) || (!(eqb x.os y.os)))=false:=(by simpa using hb0);exact Ad rfl Tryz.underlying45 rfl (by kernel_rfl) (E.v oe3))) ?_
 intro v1_32 hw
 have hv1_32:=hid hw
 clear hw
 refine QSeq.may (b:=(!((((!(x.ep == y.ep)) || (!(((x.tm:Nat):Int) == ((y.tm:Nat):Int)))) || (!(((x.ps.length:Nat):Int) == ((y.ps.length:Nat):Int)))) || (!(eqb x.os y.os))))) rfl (.slice ay_ts y.ts.length ky_ts) (fun E=>((Ae rfl rfl (E.sz 35 (by decide)) (E.d 29 3)).trans (beq_f _))) (fun E hb0=>(by have hb:((((!(x.ep == y.ep)) || (!(((x.tm:Nat):Int) == ((y.tm:Nat):Int)))) || (!(((x.ps.length:Nat):Int) == ((y.ps.length:Nat):Int)))) || (!(eqb x.os y.os)))=false:=(by simpa using hb0);exact Aj rfl Tryz.underlying43 rfl ((E.q 32 0 hv1_32.out).1 hb0) (Cs.lit1 (HB3.out.mod Cx7.out (fun h=>h)) rfl))) ?_
 intro v1_33 hw
 have hv1_33:=hid hw
 clear hw
 refine QSeq.mayCall (b:=(!((((!(x.ep == y.ep)) || (!(((x.tm:Nat):Int) == ((y.tm:Nat):Int)))) || (!(((x.ps.length:Nat):Int) == ((y.ps.length:Nat):Int)))) || (!(eqb x.os y.os))))) rfl (.bool (eqb x.ts y.ts)) (args:=#[.slice ax_ts x.ts.length kx_ts,.slice ay_ts y.ts.length ky_ts]) (fun E=>((Ae rfl rfl (E.sz 35 (by decide)) (E.d 29 4)).trans (beq_f _))) rfl Tryz.func95 (fun E hb0=>(by have hb:((((!(x.ep == y.ep)) || (!(((x.tm:Nat):Int) == ((y.tm:Nat):Int)))) || (!(((x.ps.length:Nat):Int) == ((y.ps.length:Nat):Int)))) || (!(eqb x.os y.os)))=false:=(by simpa using hb0);exact Az ((E.q 31 2 hv1_31.out).1 hb0) ((E.q 33 0 hv1_33.out).1 hb0))) (fun hb0=>(by have hb:((((!(x.ep == y.ep)) || (!(((x.tm:Nat):Int) == ((y.tm:Nat):Int)))) || (!(((x.ps.length:Nat):Int) == ((y.ps.length:Nat):Int)))) || (!(eqb x.os y.os)))=false:=(by simpa using hb0);exact EqL_Tb _ _ _ _ _ _ _ (Hx3.out.mod Cx7.out (fun _ _ h=>h)) (Hx6.out.mod Cx7.out (fun _ _ h=>h)) (by intro k h1;have hb:=HBR.out k h1;(try have:=hm.size);omega) (by intro k h1;have hb:=HBT.out k h1;(try have:=hm.size);omega))) ?_
 intro v1_34 u1_34 hw hm
 have hv1_34:=hid hw
 clear hw
 have zu1_34:=hm.size
 have HMu1_34:=hid hm
 have Cx8:=hid (Cx7.out.goE hm)
 clear hm Cx7
 refine QSeq.may (b:=(!((((!(x.ep == y.ep)) || (!(((x.tm:Nat):Int) == ((y.tm:Nat):Int)))) || (!(((x.ps.length:Nat):Int) == ((y.ps.length:Nat):Int)))) || (!(eqb x.os y.os))))) rfl (.bool (!(eqb x.ts y.ts))) (fun E=>((Ae rfl rfl (E.sz 35 (by decide)) (E.d 29 5)).trans (beq_f _))) (fun E hb0=>(by have hb:((((!(x.ep == y.ep)) || (!(((x.tm:Nat):Int) == ((y.tm:Nat):Int)))) || (!(((x.ps.length:Nat):Int) == ((y.ps.length:Nat):Int)))) || (!(eqb x.os y.os)))=false:=(by simpa using hb0);exact ex_not rfl ((E.q 34 0 hv1_34.out).1 hb0))) ?_
 intro v1_35 hw
 have hv1_35:=hid hw
 clear hw
 refine QSeq.pure rfl (.bool (((((!(x.ep == y.ep)) || (!(((x.tm:Nat):Int) == ((y.tm:Nat):Int)))) || (!(((x.ps.length:Nat):Int) == ((y.ps.length:Nat):Int)))) || (!(eqb x.os y.os))) || (!(eqb x.ts y.ts)))) (fun E=>A2 rfl (E.d 29 6) rfl rfl (or_val fun hb=>(E.q 35 0 hv1_35.out).1 (by rw [hb];rfl))) ?_
 clear HMu1_34 hv1_6 hv1_7 hv1_8 hv1_9 hv1_10 hv1_13 hv1_14 hv1_15 hv1_16 hv1_17 hv1_18 hv1_19 hv1_22 hv1_23 hv1_24 hv1_25 hv1_26 hv1_27 hv1_30 hv1_31 hv1_32 hv1_33 hv1_34 hv1_35
 refine QSeq.nil (t':=[_,_,_,_,_,_,_,_,_,_,_,_,_,_,_,_,_,_,_,_,_,_,_,_,_,_,_,_,_,_,_,_,_,_,_,_,_]) rfl ?_
 obtain rfl:=HA0.out
 clear HA0 oe2 oe3
 simp only [pz,Act.put,sIB,sCZ,sCS]
 obtain ⟨b0,hb0⟩:∃ b0,b0=(((((!(x.ep == y.ep)) || (!(((x.tm:Nat):Int) == ((y.tm:Nat):Int)))) || (!(((x.ps.length:Nat):Int) == ((y.ps.length:Nat):Int)))) || (!(eqb x.os y.os))) || (!(eqb x.ts y.ts))):=⟨_,rfl⟩
 rw [← hb0]
 cases b0 with
 | true=>
  go_upto_region 2 with (fail)
  refine Aa 62 [4] [0] (fun a0 HA0=>?_)
  refine QSeq.pure rfl (.bool false) (fun E=>Af rfl rfl) ?_
  refine QSeq.nil (t':=[_]) rfl ?_
  obtain rfl:=HA0.out
  clear HA0
  simp only [pz,Act.put,sIB,sCZ,sCS]
  go_wp2
  go_ret
  exact ⟨Bm (ba_neb x y hb0.symm).symm,(HM0.out.trans Cx8.out (fun _ _ h=>h.elim))⟩
 | false=>
  have HEQ:=hid (ba_eqb x y hb0.symm)
  have HLE:=hid (show x.ps.length=y.ps.length by have h:=hb0.symm;simp only [Bool.or_eq_false_iff,Bool.not_eq_false',beq_I,Int.ofNat_inj] at h;exact h.1.1.2)
  clear hb0
  go_upto_region 3 with (fail)
  refine Aa 62 [43,44,45,46] [0,1,2,3] (fun a0 HA0=>?_)
  have oe2:=ev HA0 2 rfl
  refine QSeq.pure rfl (.pointer (some ⟨w.heap.size,2,none⟩)) (fun E=>Ad rfl Tryz.underlying45 rfl (by kernel_rfl) (E.v oe2)) ?_
  refine QSeq.pure rfl _ (fun E=>Aj rfl Tryz.underlying41 rfl (E.d 0 0) (Cs.lit1 (HB2.out.mod Cx8.out (fun h=>h)) rfl)) ?_
  refine QSeq.pure rfl (.int .i64 x.ps.length) (fun E=>A0 rfl (E.d 1 0) Tryz.underlying41) ?_
  refine QSeq.pure rfl (.int .i64 0) (fun E=>Ai rfl rfl) ?_
  refine QSeq.nil (t':=[_,_,_,_]) rfl ?_
  obtain rfl:=HA0.out
  clear HA0 oe2
  simp only [pz,Act.put,sIB,sCZ,sCS]
  go_wp2
  go_loopw [46,5] (fun ti t5 wr=>∃ k:Nat,ti=.int .i64 (k:Int)∧k≤x.ps.length∧x.ps.take k=y.ps.take k∧u1_34.heap.size≤wr.heap.size∧RdS PmR R wr (.slice ax_ps x.ps.length kx_ps) x.ps∧RdS PmR R2 wr (.slice ay_ps y.ps.length ky_ps) y.ps∧Cs wr (w.heap.size) (x.cells (.slice ax_ps x.ps.length kx_ps) (.slice ax_os x.os.length kx_os) (.slice ax_ts x.ts.length kx_ts):List Value).toArray 45∧Cs wr (w.heap.size+1) (y.cells (.slice ay_ps y.ps.length ky_ps) (.slice ay_os y.os.length ky_os) (.slice ay_ts y.ts.length ky_ts):List Value).toArray 45∧Mod (fun _=>False) w wr) (fun ti t5 _=>x.ps.length - (intOf ti).toNat)
  case atStart=>exact ⟨0,rfl,Nat.zero_le _,rfl,Nat.le_refl _,(Hx1.out.mod Cx8.out (fun _ _ h=>h)),(Hx4.out.mod Cx8.out (fun _ _ h=>h)),(HB2.out.mod Cx8.out (fun h=>h)),(HB3.out.mod Cx8.out (fun h=>h)),(HM0.out.trans Cx8.out (fun _ _ h=>h.elim))⟩
  case round=>
   obtain ⟨k,rfl,hk,htk,hz,hs,ht,hb2,hb3,hm⟩:=hrel
   obtain ⟨wl,rfl⟩:∃ x,x=wr:=⟨_,rfl⟩
   have HS2:=Lib.hid hs
   have HT2:=Lib.hid ht
   have HML:=Lib.hid hm
   have HTK:=Lib.hid htk
   have HBX:=Lib.hid hb2
   have HBY:=Lib.hid hb3
   clear hs ht hm htk hb2 hb3 Hx1 Hx2 Hx3 Hx4 Hx5 Hx6 HB2 HB3 HM0
   by_cases hlt:k < x.ps.length
   ·have hlt2:k < y.ps.length:=by have:=HLE.out;omega
    go_upto_region 4 with (fail)
    refine Aa 62 [47] [0] (fun a0 HA0=>?_)
    have oe45:=ev HA0 45 rfl
    have oe46:=ev HA0 46 rfl
    refine QSeq.pure rfl (.bool true) (fun E=>An rfl (E.v oe46) (E.v oe45) (Ag _ _ _ _ _ _) (A6 _ _ _ Tryz.underlying3) (congrArg Value.bool (decide_eq_true (by omega)))) ?_
    refine QSeq.nil (t':=[_]) rfl ?_
    obtain rfl:=HA0.out
    clear HA0 oe45 oe46
    simp only [pz,Act.put,sIB,sCZ,sCS]
    go_upto_region 5 with (fail)
    refine Aa 62 [48,5] [0,1] (fun a0 HA0=>?_)
    have oe46:=ev HA0 46 rfl
    refine QSeq.pure rfl _ (fun E=>Ai rfl (E.v oe46)) ?_
    refine QSeq.pure rfl _ (fun E=>Af rfl (E.d 0 0)) ?_
    refine QSeq.nil (t':=[_,_]) rfl ?_
    obtain rfl:=HA0.out
    clear HA0 oe46
    simp only [pz,Act.put,sIB,sCZ,sCS]
    have hat:=HS2.out.at hlt
    obtain ⟨g1,o1,c1,eao,hrg,hrd,hcs⟩:=hat
    subst eao
    obtain ⟨p,hp⟩:∃ z,z=x.ps[k]:=⟨_,rfl⟩
    rw [← hp] at hrd
    have HX1:=Lib.hid hp
    have hcl:c1.length=6:=PmR.len hrd
    have HCL1:=Lib.hid hcl
    have HAT1:=hid (show CellsAt R wl g1 (o1+k * 6) c1 from ⟨hrg,hcs⟩)
    have HRD1:=Lib.hid hrd
    clear hcl hcs hrd hrg hp
    have hat:=HT2.out.at hlt2
    obtain ⟨g2,o2,c2,eao,hrg,hrd,hcs⟩:=hat
    subst eao
    obtain ⟨q,hq⟩:∃ z,z=y.ps[k]:=⟨_,rfl⟩
    rw [← hq] at hrd
    have HX2:=Lib.hid hq
    have hcl:c2.length=6:=PmR.len hrd
    have HCL2:=Lib.hid hcl
    have HAT2:=hid (show CellsAt R2 wl g2 (o2+k * 6) c2 from ⟨hrg,hcs⟩)
    have HRD2:=Lib.hid hrd
    clear hcl hcs hrd hrg hq
    obtain ⟨b,hb⟩:∃ b,b=eqb p q:=⟨_,rfl⟩
    have HB:=Lib.hid hb
    clear hb
    go_upto_region 6 with (fail)
    generalize ha0:Act.mk _ _=a0
    have oe2:a0.eval (.tmp 2)=.pointer (some ⟨w.heap.size,0,none⟩):=by rw [← ha0];rfl
    have oe3:a0.eval (.tmp 3)=.pointer (some ⟨w.heap.size+1,0,none⟩):=by rw [← ha0];rfl
    have oe5:a0.eval (.tmp 5)=.int .i64 ((k:Nat):Int):=by rw [← ha0];rfl
    have hsz0:a0.tmps.size=62:=by rw [← ha0];rfl
    have HA0:=hid ha0
    clear ha0
    refine A1 62 hsz0 [49,50,51,52,53,54,55,56,57,58,59,60] [qi (.pointer (some ⟨w.heap.size,2,none⟩)),qi (.slice (some ⟨g1,o1,none⟩) x.ps.length kx_ps),qi (.int .i64 ((k:Nat):Int)),qi (.pointer (some ⟨g1,o1+k * 6,none⟩)),qi (.agg c1.toArray),qi (.pointer (some ⟨w.heap.size+1,2,none⟩)),qi (.slice (some ⟨g2,o2,none⟩) y.ps.length ky_ps),qi (.int .i64 ((k:Nat):Int)),qi (.pointer (some ⟨g2,o2+k * 6,none⟩)),qi (.agg c2.toArray),qi (.bool b),qi (.bool (!b))] ⟨Ab,Ab,Ab,Ab,Ab,Ab,Ab,Ab,Ab,Ab,Ab,Ab,trivial⟩ [10] ⟨?_,?_,?_,?_,?_,?_,?_,?_,?_,?_,?_,?_,trivial⟩ ?_
    ·exact stq (fun E=>Ad rfl Tryz.underlying45 rfl (by kernel_rfl) (E.v oe2))
    ·exact stq (fun E=>Aj rfl Tryz.underlying41 rfl (E.d 0) (Cs.lit1 (HBX.out.mod E.m.old (by intro h2;omega)) rfl))
    ·exact stq (fun E=>Ai rfl (E.v oe5))
    ·exact stq (fun E=>Bk (i:=k) (s:=6) rfl Tryz.underlying41 (by kernel_rfl) (E.d 1) (E.d 2) (by first|exact hlt|exact hlt2))
    ·exact stq (fun E=>Am rfl Tryz.underlying40 rfl (off:=o1+k * 6) (cs:=c1) (by rw [HCL1.out];kernel_rfl) (E.d 3) (fun j u hu=>((HAT1.out.mod E.m.old (by intro k h1 h2;have hb:=HBR.out k h1;omega))).2 j u hu))
    ·exact stq (fun E=>Ad rfl Tryz.underlying45 rfl (by kernel_rfl) (E.v oe3))
    ·exact stq (fun E=>Aj rfl Tryz.underlying41 rfl (E.d 5) (Cs.lit1 (HBY.out.mod E.m.old (by intro h2;omega)) rfl))
    ·exact stq (fun E=>Ai rfl (E.v oe5))
    ·exact stq (fun E=>Bk (i:=k) (s:=6) rfl Tryz.underlying41 (by kernel_rfl) (E.d 6) (E.d 7) (by first|exact hlt|exact hlt2))
    ·exact stq (fun E=>Am rfl Tryz.underlying40 rfl (off:=o2+k * 6) (cs:=c2) (by rw [HCL2.out];kernel_rfl) (E.d 8) (fun j u hu=>((HAT2.out.mod E.m.old (by intro k h1 h2;have hb:=HBT.out k h1;omega))).2 j u hu))
    ·exact Ah rfl
    ·exact stq (fun E=>ex_not rfl (E.d 10))
    intro u6_0 hr
    have zu6_0:=hr.size
    have Cx9:=hid (hr.new (S:=(fun _=>False)))
    clear hr
    refine QChain.go fun Z act E=>?_
    refine Ap (args:=#[.agg c1.toArray,.agg c2.toArray]) rfl (Ac rfl) rfl Tryz.func61 (Az (E.d 4) (E.d 9)) (HB.out.symm▸Eq_Pm _ _ _ _ _ _ _ (HRD1.out.mod Cx9.out (fun _ _ h=>h)) (HRD2.out.mod Cx9.out (fun _ _ h=>h)) (by intro k h1;have hb:=HBR.out k h1;omega) (by intro k h1;have hb:=HBT.out k h1;omega)) ?_
    rintro e u6_1a ⟨rfl,hm⟩
    have zu6_1a:=hm.size
    refine ⟨_,rfl,hm.mono (fun _ _ h=>h.elim),(fun _=>rfl),?_⟩
    intro u6_1 hr
    have zu6_1:=hr.size
    have Cx10:=hid (Cx9.out.go hm hr)
    clear Cx9 hm hr Z act E
    refine QChain.nil fun vs hl hzz hrows hne=>?_
    obtain ⟨Z,hYZ,hZb,hV⟩:=hzz
    have f2:=fvi hV hl 2
    have f7:=fvi hV hl 7
    have f10:=fvi hV hl 10
    have f11:=fvi hV hl 11
    rw [show vs=[gw vs 0,gw vs 1,gw vs 2,gw vs 3,gw vs 4,gw vs 5,gw vs 6,gw vs 7,gw vs 8,gw vs 9,gw vs 10,gw vs 11] from (Be hl).trans rfl]
    have ha0:=HA0.out
    subst ha0
    clear HA0 hV hYZ hZb hsz0 hrows hne oe2 oe3 oe5
    simp only [Au,Act.put,sIB,sCZ,sCS,f2,f7,f10,f11]
    clear hl f2 f7 f10 f11
    cases b with
    | false=>
     go_upto_region 7 with (fail)
     refine Aa 62 [4] [0] (fun a0 HA0=>?_)
     refine QSeq.pure rfl (.bool false) (fun E=>Af rfl rfl) ?_
     refine QSeq.nil (t':=[_]) rfl ?_
     obtain rfl:=HA0.out
     clear HA0
     simp only [pz,Act.put,sIB,sCZ,sCS]
     go_wp2
     go_ret
     exact ⟨Bm (HEQ.out.symm.trans (take_ne hlt hlt2 (fun e=>by have h:=HB.out;rw [HX1.out,HX2.out,e,eqb_rfl] at h;cases h))).symm,(HML.out.trans Cx10.out (fun _ _ h=>h.elim))⟩
    | true=>
     go_upto_region 8 with (fail)
     refine Aa 62 [61,46] [0,1] (fun a0 HA0=>?_)
     have oe46:=ev HA0 46 rfl
     refine QSeq.pure rfl (.int .i64 (((k:Nat):Int)+1)) (fun E=>An rfl (E.y 1 oe46) rfl (Ag _ _ _ _ _ _) (run_add_i _ _ Tryz.underlying3) (congrArg (Value.int .i64) (IntWalk.i64_in _ (by omega)))) ?_
     refine QSeq.pure rfl _ (fun E=>Ai rfl (E.d 0 0)) ?_
     refine QSeq.nil (t':=[_,_]) rfl ?_
     obtain rfl:=HA0.out
     clear HA0 oe46
     simp only [pz,Act.put,sIB,sCZ,sCS]
     go_wp2
     go_roundw
     case rel=>exact ⟨k+1,by go_num,by omega,take_succ2 hlt hlt2 HTK.out (by have h:=eqb_iff.1 HB.out.symm;rw [HX1.out,HX2.out] at h;exact h),by omega,(HS2.out.mod Cx10.out (fun _ _ h=>h)),(HT2.out.mod Cx10.out (fun _ _ h=>h)),(HBX.out.mod Cx10.out (fun h=>h)),(HBY.out.mod Cx10.out (fun h=>h)),(HML.out.trans Cx10.out (fun _ _ h=>h.elim))⟩
     case measure=>simp [intOf]<;>omega
   ·skip
    go_upto_region 4 with (fail)
    refine Aa 62 [47] [0] (fun a0 HA0=>?_)
    have oe45:=ev HA0 45 rfl
    have oe46:=ev HA0 46 rfl
    refine QSeq.pure rfl (.bool false) (fun E=>An rfl (E.v oe46) (E.v oe45) (Ag _ _ _ _ _ _) (A6 _ _ _ Tryz.underlying3) (congrArg Value.bool (decide_eq_false (by omega)))) ?_
    refine QSeq.nil (t':=[_]) rfl ?_
    obtain rfl:=HA0.out
    clear HA0 oe45 oe46
    simp only [pz,Act.put,sIB,sCZ,sCS]
    go_upto_region 9 with (fail)
    refine Aa 62 [4] [0] (fun a0 HA0=>?_)
    refine QSeq.pure rfl (.bool true) (fun E=>Af rfl rfl) ?_
    refine QSeq.nil (t':=[_]) rfl ?_
    obtain rfl:=HA0.out
    clear HA0
    simp only [pz,Act.put,sIB,sCZ,sCS]
    go_wp2
    go_ret
    exact ⟨Bm (HEQ.out.symm.trans (take_all (by omega) (by have:=HLE.out;omega) HTK.out)).symm,HML.out⟩
end Go.Proofs.YtnaoeginonpicaaGreat

/- gavelkeep: comparisons of votes, proposals, messages. -/
namespace Go.Proofs.YtnaoeginonpicaaGreat
open Go Go.RowKit Go.Gv
theorem run_eql_strE {t:TypeId} {a b:ByteArray} (w:World):(binOp .eql t (.string a) (.string b)).run Tryz.prog w=.ok (.bool (eqb a b)) w:=by
 rw [binOp_string_eql,Sem.run_pure]
 congr 2
 by_cases h:a=b
 ·rw [h,eqb_rfl];exact beq_self_eq_true _
 ·rw [eqb_ne h,beq_eq_false_iff_ne]
  intro e
  exact h (ByteArray.ext (Array.toList_inj.1 (by simpa [ByteArray.toList_eq] using e)))
theorem guard_strE {op:BinOp} {t:TypeId} {x y:Operand} {s:ByteArray} {v:Value} (w:World):(eqGuard op t x y (.string s) v).run Tryz.prog w=.ok () w:=by cases op<;>simp [eqGuard]
theorem pr_eqb (x y:Pr):(((((x.ep == y.ep) && (x.rn == y.rn)) && (x.vl == y.vl)) && (x.rp == y.rp)) && eqb (x.sb,x.mr) (y.sb,y.mr) && eqb x.ba y.ba)=eqb x y:=by
 rw [Bool.eq_iff_iff]
 simp only [Bool.and_eq_true,eqb_iff,beq_I,Prod.mk.injEq]
 cases x;cases y
 simp only [Pr.mk.injEq]
 constructor
 ·rintro ⟨⟨⟨⟨⟨h1,h2⟩,h3⟩,h4⟩,h5,h6⟩,h7⟩;exact ⟨h1,h2,h3,h4,h7,h5,h6⟩
 ·rintro ⟨h1,h2,h3,h4,h7,h5,h6⟩;exact ⟨⟨⟨⟨⟨h1,h2⟩,h3⟩,h4⟩,h5,h6⟩,h7⟩
theorem mg_eqb (x y:Mg):((((((((((((((((((((((x.kd == y.kd) && (x.fr == y.fr)) && (x.to == y.to)) && eqb x.cm y.cm) && eqb x.st y.st) && eqb x.ce y.ce) && eqb x.ak y.ak) && (x.ep == y.ep)) && (x.rn == y.rn)) && (((x.tm:Nat):Int) == ((y.tm:Nat):Int))) && eqb x.pm y.pm) && eqb x.pr y.pr) && eqb x.vt y.vt) && (x.ix == y.ix)) && eqb x.en y.en) && eqb x.op y.op) && eqb x.dn y.dn) && eqb x.rp y.rp) && (x.dc.ep == y.dc.ep)) && (x.dc.rn == y.dc.rn)) && eqb x.dc.ba y.dc.ba) && eqb x.dc.l y.dc.l)=eqb x y:=by
 rw [Bool.eq_iff_iff]
 simp only [Bool.and_eq_true,eqb_iff,beq_I,Int.ofNat_inj]
 obtain ⟨a0,a1,a2,a3,a4,a5,a6,a7,a8,a9,a10,a11,a12,a13,a14,a15,a16,a17,⟨d0,d1,d2,d3⟩⟩:=x
 obtain ⟨b0,b1,b2,b3,b4,b5,b6,b7,b8,b9,b10,b11,b12,b13,b14,b15,b16,b17,⟨e0,e1,e2,e3⟩⟩:=y
 simp only [Mg.mk.injEq,Dc.mk.injEq]
 constructor
 ·rintro ⟨⟨⟨⟨⟨⟨⟨⟨⟨⟨⟨⟨⟨⟨⟨⟨⟨⟨⟨⟨⟨h0,h1⟩,h2⟩,h3⟩,h4⟩,h5⟩,h6⟩,h7⟩,h8⟩,h9⟩,h10⟩,h11⟩,h12⟩,h13⟩,h14⟩,h15⟩,h16⟩,h17⟩,h18⟩,h19⟩,h20⟩,h21⟩;exact ⟨h0,h1,h2,h3,h4,h5,h6,h7,h8,h9,h10,h11,h12,h13,h14,h15,h16,h17,h18,h19,h20,h21⟩
 ·rintro ⟨h0,h1,h2,h3,h4,h5,h6,h7,h8,h9,h10,h11,h12,h13,h14,h15,h16,h17,h18,h19,h20,h21⟩;exact ⟨⟨⟨⟨⟨⟨⟨⟨⟨⟨⟨⟨⟨⟨⟨⟨⟨⟨⟨⟨⟨h0,h1⟩,h2⟩,h3⟩,h4⟩,h5⟩,h6⟩,h7⟩,h8⟩,h9⟩,h10⟩,h11⟩,h12⟩,h13⟩,h14⟩,h15⟩,h16⟩,h17⟩,h18⟩,h19⟩,h20⟩,h21⟩
open Go.Proofs renaming Tryz.func65→va',Tryz.ntmps65→vb',Tryz.underlying57→vc',Tryz.underlying49→ve' in
open Go.Proofs.YtnaoeginonpicaaGreat renaming VtR→vd',eqW_vote→vf',ki_vt→vg',vt_iff→vh' in
set_option maxHeartbeats 4000000 in
theorem EqL_Vt:EqsL VtR 65:=
 fm3'
set_option maxHeartbeats 4000000 in
theorem Eq_Pr:Eqs PrR 62:=by
 intro R R2 cs ds x y w hx hy hB hB2
 obtain ⟨vx_ba.ps,vx_ba.os,vx_ba.ts,rfl,hokx,hx_ba.ps,hx_ba.os,hx_ba.ts⟩:=hx
 obtain ⟨ax_ba.ps,kx_ba.ps,rfl⟩:=hx_ba.ps.shape
 have Hx_ba.ps:=Lib.hid hx_ba.ps
 clear hx_ba.ps
 obtain ⟨ax_ba.os,kx_ba.os,rfl⟩:=hx_ba.os.shape
 have Hx_ba.os:=Lib.hid hx_ba.os
 clear hx_ba.os
 obtain ⟨ax_ba.ts,kx_ba.ts,rfl⟩:=hx_ba.ts.shape
 have Hx_ba.ts:=Lib.hid hx_ba.ts
 clear hx_ba.ts
 have HOKx:=Lib.hid hokx
 clear hokx
 obtain ⟨vy_ba.ps,vy_ba.os,vy_ba.ts,rfl,hoky,hy_ba.ps,hy_ba.os,hy_ba.ts⟩:=hy
 obtain ⟨ay_ba.ps,ky_ba.ps,rfl⟩:=hy_ba.ps.shape
 have Hy_ba.ps:=Lib.hid hy_ba.ps
 clear hy_ba.ps
 obtain ⟨ay_ba.os,ky_ba.os,rfl⟩:=hy_ba.os.shape
 have Hy_ba.os:=Lib.hid hy_ba.os
 clear hy_ba.os
 obtain ⟨ay_ba.ts,ky_ba.ts,rfl⟩:=hy_ba.ts.shape
 have Hy_ba.ts:=Lib.hid hy_ba.ts
 clear hy_ba.ts
 have HOKy:=Lib.hid hoky
 clear hoky
 have HBR:=Lib.hid hB
 have HBT:=Lib.hid hB2
 clear hB hB2
 go_enter Tryz.func62,Tryz.ntmps62
 go_upto_region 1 with (fail)
 obtain ⟨w1,hw1⟩:∃ zz,zz=((w.alloc (.cells (x.cells (.slice ax_ba.ps x.ba.ps.length kx_ba.ps) (.slice ax_ba.os x.ba.os.length kx_ba.os) (.slice ax_ba.ts x.ba.ts.length kx_ba.ts):List Value).toArray 47)).alloc (.cells (y.cells (.slice ay_ba.ps y.ba.ps.length ky_ba.ps) (.slice ay_ba.os y.ba.os.length ky_ba.os) (.slice ay_ba.ts y.ba.ts.length ky_ba.ts):List Value).toArray 47)):=⟨_,rfl⟩
 change Code.wp _ _ _ _ ((w.alloc (.cells (x.cells (.slice ax_ba.ps x.ba.ps.length kx_ba.ps) (.slice ax_ba.os x.ba.os.length kx_ba.os) (.slice ax_ba.ts x.ba.ts.length kx_ba.ts):List Value).toArray 47)).alloc (.cells (y.cells (.slice ay_ba.ps y.ba.ps.length ky_ba.ps) (.slice ay_ba.os y.ba.os.length ky_ba.os) (.slice ay_ba.ts y.ba.ts.length ky_ba.ts):List Value).toArray 47))
 rw [← hw1]
 have HB2:=hid (show Cs w1 (w.heap.size) (x.cells (.slice ax_ba.ps x.ba.ps.length kx_ba.ps) (.slice ax_ba.os x.ba.os.length kx_ba.os) (.slice ax_ba.ts x.ba.ts.length kx_ba.ts):List Value).toArray 47 by rw [hw1];exact (Cs.new _ _ _).alloc _)
 have HB3:=hid (show Cs w1 (w.heap.size+1) (y.cells (.slice ay_ba.ps y.ba.ps.length ky_ba.ps) (.slice ay_ba.os y.ba.os.length ky_ba.os) (.slice ay_ba.ts y.ba.ts.length ky_ba.ts):List Value).toArray 47 by rw [hw1];exact Cs_newN _ _ _ (by simp))
 have hm:Mod (fun _=>False) w w1:=by rw [hw1];exact ((Mod.refl _ _).alloc _).alloc _
 have HM0:=hid (show Mod (fun _=>False) w w1 from hm.mono (fun _ _ h=>h.elim))
 have hs1:w1.heap.size=w.heap.size+2:=by rw [hw1];simp
 have Hx1:=hid (Hx_ba.ps.out.mod hm (fun _ _ h=>h))
 clear Hx_ba.ps
 have Hx2:=hid (Hx_ba.os.out.mod hm (fun _ _ h=>h))
 clear Hx_ba.os
 have Hx3:=hid (Hx_ba.ts.out.mod hm (fun _ _ h=>h))
 clear Hx_ba.ts
 have Hx4:=hid (Hy_ba.ps.out.mod hm (fun _ _ h=>h))
 clear Hy_ba.ps
 have Hx5:=hid (Hy_ba.os.out.mod hm (fun _ _ h=>h))
 clear Hy_ba.os
 have Hx6:=hid (Hy_ba.ts.out.mod hm (fun _ _ h=>h))
 clear Hy_ba.ts
 clear hw1 hm
 go_upto_region 1 with (fail)
 refine Aa 45 [5,6,7,8,9,10,11,12,13,14,15,16,17,18,19,20,21,22,23,24,25,26,27,28,29,30,31,32,33,34,35,36,37,38,39,40,41,42,43,44,4] [0,1,2,3,4,5,6,7,8,9,10,11,12,13,14,15,16,17,18,19,20,21,22,23,24,25,26,27,28,29,30,31,32,33,34,35,36,37,38,39,40] (fun a0 HA0=>?_)
 have oe2:=ev HA0 2 rfl
 have oe3:=ev HA0 3 rfl
 refine QSeq.pure rfl (.pointer (some ⟨w.heap.size,0,none⟩)) (fun E=>Ad rfl Tryz.underlying47 rfl (by kernel_rfl) (E.v oe2)) ?_
 refine QSeq.pure rfl _ (fun E=>Aj rfl Tryz.underlying3 rfl (E.d 0 0) (Cs.lit1 HB2.out rfl)) ?_
 refine QSeq.pure rfl (.pointer (some ⟨w.heap.size+1,0,none⟩)) (fun E=>Ad rfl Tryz.underlying47 rfl (by kernel_rfl) (E.v oe3)) ?_
 refine QSeq.pure rfl _ (fun E=>Aj rfl Tryz.underlying3 rfl (E.d 2 0) (Cs.lit1 HB3.out rfl)) ?_
 refine QSeq.pure rfl (.bool (x.ep == y.ep)) (fun E=>ex_bin rfl (E.d 1 2) (E.d 3 0) (Ag _ _ _ _ _ _) (Al _ _ _ Tryz.underlying3)) ?_
 refine QSeq.pure rfl _ (fun E=>Ai rfl (E.d 4 0)) ?_
 refine QSeq.may (b:=(x.ep == y.ep)) rfl (.pointer (some ⟨w.heap.size,1,none⟩)) (fun E=>((Ae rfl rfl (E.sz 10 (by decide)) (E.d 5 0)).trans (Ar _))) (fun E hb=>Ad rfl Tryz.underlying47 rfl (by kernel_rfl) (E.v oe2)) ?_
 intro v1_6 hw
 have hv1_6:=hid hw
 clear hw
 refine QSeq.may (b:=(x.ep == y.ep)) rfl (.int .i64 x.rn) (fun E=>((Ae rfl rfl (E.sz 10 (by decide)) (E.d 5 1)).trans (Ar _))) (fun E hb=>Aj rfl Tryz.underlying3 rfl ((E.q 6 0 hv1_6.out).1 hb) (Cs.lit1 HB2.out rfl)) ?_
 intro v1_7 hw
 have hv1_7:=hid hw
 clear hw
 refine QSeq.may (b:=(x.ep == y.ep)) rfl (.pointer (some ⟨w.heap.size+1,1,none⟩)) (fun E=>((Ae rfl rfl (E.sz 10 (by decide)) (E.d 5 2)).trans (Ar _))) (fun E hb=>Ad rfl Tryz.underlying47 rfl (by kernel_rfl) (E.v oe3)) ?_
 intro v1_8 hw
 have hv1_8:=hid hw
 clear hw
 refine QSeq.may (b:=(x.ep == y.ep)) rfl (.int .i64 y.rn) (fun E=>((Ae rfl rfl (E.sz 10 (by decide)) (E.d 5 3)).trans (Ar _))) (fun E hb=>Aj rfl Tryz.underlying3 rfl ((E.q 8 0 hv1_8.out).1 hb) (Cs.lit1 HB3.out rfl)) ?_
 intro v1_9 hw
 have hv1_9:=hid hw
 clear hw
 refine QSeq.may (b:=(x.ep == y.ep)) rfl (.bool (x.rn == y.rn)) (fun E=>((Ae rfl rfl (E.sz 10 (by decide)) (E.d 5 4)).trans (Ar _))) (fun E hb=>ex_bin rfl ((E.q 7 2 hv1_7.out).1 hb) ((E.q 9 0 hv1_9.out).1 hb) (Ag _ _ _ _ _ _) (Al _ _ _ Tryz.underlying3)) ?_
 intro v1_10 hw
 have hv1_10:=hid hw
 clear hw
 refine QSeq.pure rfl (.bool ((x.ep == y.ep) && (x.rn == y.rn))) (fun E=>A2 rfl (E.d 5 5) rfl rfl (Bh fun hb=>(E.q 10 0 hv1_10.out).1 hb)) ?_
 refine QSeq.pure rfl _ (fun E=>Ai rfl (E.d 11 0)) ?_
 refine QSeq.may (b:=((x.ep == y.ep) && (x.rn == y.rn))) rfl (.pointer (some ⟨w.heap.size,2,none⟩)) (fun E=>((Ae rfl rfl (E.sz 17 (by decide)) (E.d 12 0)).trans (Ar _))) (fun E hb=>Ad rfl Tryz.underlying47 rfl (by kernel_rfl) (E.v oe2)) ?_
 intro v1_13 hw
 have hv1_13:=hid hw
 clear hw
 refine QSeq.may (b:=((x.ep == y.ep) && (x.rn == y.rn))) rfl (.int .i64 x.vl) (fun E=>((Ae rfl rfl (E.sz 17 (by decide)) (E.d 12 1)).trans (Ar _))) (fun E hb=>Aj rfl Tryz.underlying3 rfl ((E.q 13 0 hv1_13.out).1 hb) (Cs.lit1 HB2.out rfl)) ?_
 intro v1_14 hw
 have hv1_14:=hid hw
 clear hw
 refine QSeq.may (b:=((x.ep == y.ep) && (x.rn == y.rn))) rfl (.pointer (some ⟨w.heap.size+1,2,none⟩)) (fun E=>((Ae rfl rfl (E.sz 17 (by decide)) (E.d 12 2)).trans (Ar _))) (fun E hb=>Ad rfl Tryz.underlying47 rfl (by kernel_rfl) (E.v oe3)) ?_
 intro v1_15 hw
 have hv1_15:=hid hw
 clear hw
 refine QSeq.may (b:=((x.ep == y.ep) && (x.rn == y.rn))) rfl (.int .i64 y.vl) (fun E=>((Ae rfl rfl (E.sz 17 (by decide)) (E.d 12 3)).trans (Ar _))) (fun E hb=>Aj rfl Tryz.underlying3 rfl ((E.q 15 0 hv1_15.out).1 hb) (Cs.lit1 HB3.out rfl)) ?_
 intro v1_16 hw
 have hv1_16:=hid hw
 clear hw
 refine QSeq.may (b:=((x.ep == y.ep) && (x.rn == y.rn))) rfl (.bool (x.vl == y.vl)) (fun E=>((Ae rfl rfl (E.sz 17 (by decide)) (E.d 12 4)).trans (Ar _))) (fun E hb=>ex_bin rfl ((E.q 14 2 hv1_14.out).1 hb) ((E.q 16 0 hv1_16.out).1 hb) (Ag _ _ _ _ _ _) (Al _ _ _ Tryz.underlying3)) ?_
 intro v1_17 hw
 have hv1_17:=hid hw
 clear hw
 refine QSeq.pure rfl (.bool (((x.ep == y.ep) && (x.rn == y.rn)) && (x.vl == y.vl))) (fun E=>A2 rfl (E.d 12 5) rfl rfl (Bh fun hb=>(E.q 17 0 hv1_17.out).1 hb)) ?_
 refine QSeq.pure rfl _ (fun E=>Ai rfl (E.d 18 0)) ?_
 refine QSeq.may (b:=(((x.ep == y.ep) && (x.rn == y.rn)) && (x.vl == y.vl))) rfl (.pointer (some ⟨w.heap.size,3,none⟩)) (fun E=>((Ae rfl rfl (E.sz 24 (by decide)) (E.d 19 0)).trans (Ar _))) (fun E hb=>Ad rfl Tryz.underlying47 rfl (by kernel_rfl) (E.v oe2)) ?_
 intro v1_20 hw
 have hv1_20:=hid hw
 clear hw
 refine QSeq.may (b:=(((x.ep == y.ep) && (x.rn == y.rn)) && (x.vl == y.vl))) rfl (.int .i64 x.rp) (fun E=>((Ae rfl rfl (E.sz 24 (by decide)) (E.d 19 1)).trans (Ar _))) (fun E hb=>Aj rfl Tryz.underlying3 rfl ((E.q 20 0 hv1_20.out).1 hb) (Cs.lit1 HB2.out rfl)) ?_
 intro v1_21 hw
 have hv1_21:=hid hw
 clear hw
 refine QSeq.may (b:=(((x.ep == y.ep) && (x.rn == y.rn)) && (x.vl == y.vl))) rfl (.pointer (some ⟨w.heap.size+1,3,none⟩)) (fun E=>((Ae rfl rfl (E.sz 24 (by decide)) (E.d 19 2)).trans (Ar _))) (fun E hb=>Ad rfl Tryz.underlying47 rfl (by kernel_rfl) (E.v oe3)) ?_
 intro v1_22 hw
 have hv1_22:=hid hw
 clear hw
 refine QSeq.may (b:=(((x.ep == y.ep) && (x.rn == y.rn)) && (x.vl == y.vl))) rfl (.int .i64 y.rp) (fun E=>((Ae rfl rfl (E.sz 24 (by decide)) (E.d 19 3)).trans (Ar _))) (fun E hb=>Aj rfl Tryz.underlying3 rfl ((E.q 22 0 hv1_22.out).1 hb) (Cs.lit1 HB3.out rfl)) ?_
 intro v1_23 hw
 have hv1_23:=hid hw
 clear hw
 refine QSeq.may (b:=(((x.ep == y.ep) && (x.rn == y.rn)) && (x.vl == y.vl))) rfl (.bool (x.rp == y.rp)) (fun E=>((Ae rfl rfl (E.sz 24 (by decide)) (E.d 19 4)).trans (Ar _))) (fun E hb=>ex_bin rfl ((E.q 21 2 hv1_21.out).1 hb) ((E.q 23 0 hv1_23.out).1 hb) (Ag _ _ _ _ _ _) (Al _ _ _ Tryz.underlying3)) ?_
 intro v1_24 hw
 have hv1_24:=hid hw
 clear hw
 refine QSeq.pure rfl (.bool ((((x.ep == y.ep) && (x.rn == y.rn)) && (x.vl == y.vl)) && (x.rp == y.rp))) (fun E=>A2 rfl (E.d 19 5) rfl rfl (Bh fun hb=>(E.q 24 0 hv1_24.out).1 hb)) ?_
 refine QSeq.pure rfl _ (fun E=>Ai rfl (E.d 25 0)) ?_
 refine QSeq.may (b:=((((x.ep == y.ep) && (x.rn == y.rn)) && (x.vl == y.vl)) && (x.rp == y.rp))) rfl (.pointer (some ⟨w.heap.size,9,none⟩)) (fun E=>((Ae rfl rfl (E.sz 31 (by decide)) (E.d 26 0)).trans (Ar _))) (fun E hb=>Ad rfl Tryz.underlying47 rfl (by kernel_rfl) (E.v oe2)) ?_
 intro v1_27 hw
 have hv1_27:=hid hw
 clear hw
 refine QSeq.may (b:=((((x.ep == y.ep) && (x.rn == y.rn)) && (x.vl == y.vl)) && (x.rp == y.rp))) rfl (.agg #[.int .i64 x.sb,.int .i64 x.mr]) (fun E=>((Ae rfl rfl (E.sz 31 (by decide)) (E.d 26 1)).trans (Ar _))) (fun E hb=>Am rfl Tryz.underlying27 rfl (off:=9) (cs:=[.int .i64 x.sb,.int .i64 x.mr]) (by kernel_rfl) ((E.q 27 0 hv1_27.out).1 hb) (Cs.litA HB2.out rfl)) ?_
 intro v1_28 hw
 have hv1_28:=hid hw
 clear hw
 refine QSeq.may (b:=((((x.ep == y.ep) && (x.rn == y.rn)) && (x.vl == y.vl)) && (x.rp == y.rp))) rfl (.pointer (some ⟨w.heap.size+1,9,none⟩)) (fun E=>((Ae rfl rfl (E.sz 31 (by decide)) (E.d 26 2)).trans (Ar _))) (fun E hb=>Ad rfl Tryz.underlying47 rfl (by kernel_rfl) (E.v oe3)) ?_
 intro v1_29 hw
 have hv1_29:=hid hw
 clear hw
 refine QSeq.may (b:=((((x.ep == y.ep) && (x.rn == y.rn)) && (x.vl == y.vl)) && (x.rp == y.rp))) rfl (.agg #[.int .i64 y.sb,.int .i64 y.mr]) (fun E=>((Ae rfl rfl (E.sz 31 (by decide)) (E.d 26 3)).trans (Ar _))) (fun E hb=>Am rfl Tryz.underlying27 rfl (off:=9) (cs:=[.int .i64 y.sb,.int .i64 y.mr]) (by kernel_rfl) ((E.q 29 0 hv1_29.out).1 hb) (Cs.litA HB3.out rfl)) ?_
 intro v1_30 hw
 have hv1_30:=hid hw
 clear hw
 refine QSeq.may (b:=((((x.ep == y.ep) && (x.rn == y.rn)) && (x.vl == y.vl)) && (x.rp == y.rp))) rfl (.bool (eqb (x.sb,x.mr) (y.sb,y.mr))) (fun E=>((Ae rfl rfl (E.sz 31 (by decide)) (E.d 26 4)).trans (Ar _))) (fun E hb=>An rfl ((E.q 28 2 hv1_28.out).1 hb) ((E.q 30 0 hv1_30.out).1 hb) (agg_guardE _ _ _ _ _ _ (by kernel_rfl) _) (EqW.run eqW_sig (ki_2 x.sb x.mr) (ki_2 y.sb y.mr) (two_iff x.sb x.mr y.sb y.mr) _) rfl) ?_
 intro v1_31 hw
 have hv1_31:=hid hw
 clear hw
 refine QSeq.pure rfl (.bool (((((x.ep == y.ep) && (x.rn == y.rn)) && (x.vl == y.vl)) && (x.rp == y.rp)) && (eqb (x.sb,x.mr) (y.sb,y.mr)))) (fun E=>A2 rfl (E.d 26 5) rfl rfl (Bh fun hb=>(E.q 31 0 hv1_31.out).1 hb)) ?_
 refine QSeq.pure rfl _ (fun E=>Ai rfl (E.d 32 0)) ?_
 refine QSeq.may (b:=(((((x.ep == y.ep) && (x.rn == y.rn)) && (x.vl == y.vl)) && (x.rp == y.rp)) && (eqb (x.sb,x.mr) (y.sb,y.mr)))) rfl (.pointer (some ⟨w.heap.size,4,none⟩)) (fun E=>((Ae rfl rfl (E.sz 38 (by decide)) (E.d 33 0)).trans (Ar _))) (fun E hb=>Ad rfl Tryz.underlying47 rfl (by kernel_rfl) (E.v oe2)) ?_
 intro v1_34 hw
 have hv1_34:=hid hw
 clear hw
 refine QSeq.may (b:=(((((x.ep == y.ep) && (x.rn == y.rn)) && (x.vl == y.vl)) && (x.rp == y.rp)) && (eqb (x.sb,x.mr) (y.sb,y.mr)))) rfl (.agg #[.int .i64 x.ba.ep,.int .u64 (x.ba.tm:Nat),.slice ax_ba.ps x.ba.ps.length kx_ba.ps,.slice ax_ba.os x.ba.os.length kx_ba.os,.slice ax_ba.ts x.ba.ts.length kx_ba.ts]) (fun E=>((Ae rfl rfl (E.sz 38 (by decide)) (E.d 33 1)).trans (Ar _))) (fun E hb=>Am rfl Tryz.underlying45 rfl (off:=4) (cs:=[.int .i64 x.ba.ep,.int .u64 (x.ba.tm:Nat),.slice ax_ba.ps x.ba.ps.length kx_ba.ps,.slice ax_ba.os x.ba.os.length kx_ba.os,.slice ax_ba.ts x.ba.ts.length kx_ba.ts]) (by kernel_rfl) ((E.q 34 0 hv1_34.out).1 hb) (Cs.litA HB2.out rfl)) ?_
 intro v1_35 hw
 have hv1_35:=hid hw
 clear hw
 refine QSeq.may (b:=(((((x.ep == y.ep) && (x.rn == y.rn)) && (x.vl == y.vl)) && (x.rp == y.rp)) && (eqb (x.sb,x.mr) (y.sb,y.mr)))) rfl (.pointer (some ⟨w.heap.size+1,4,none⟩)) (fun E=>((Ae rfl rfl (E.sz 38 (by decide)) (E.d 33 2)).trans (Ar _))) (fun E hb=>Ad rfl Tryz.underlying47 rfl (by kernel_rfl) (E.v oe3)) ?_
 intro v1_36 hw
 have hv1_36:=hid hw
 clear hw
 refine QSeq.may (b:=(((((x.ep == y.ep) && (x.rn == y.rn)) && (x.vl == y.vl)) && (x.rp == y.rp)) && (eqb (x.sb,x.mr) (y.sb,y.mr)))) rfl (.agg #[.int .i64 y.ba.ep,.int .u64 (y.ba.tm:Nat),.slice ay_ba.ps y.ba.ps.length ky_ba.ps,.slice ay_ba.os y.ba.os.length ky_ba.os,.slice ay_ba.ts y.ba.ts.length ky_ba.ts]) (fun E=>((Ae rfl rfl (E.sz 38 (by decide)) (E.d 33 3)).trans (Ar _))) (fun E hb=>Am rfl Tryz.underlying45 rfl (off:=4) (cs:=[.int .i64 y.ba.ep,.int .u64 (y.ba.tm:Nat),.slice ay_ba.ps y.ba.ps.length ky_ba.ps,.slice ay_ba.os y.ba.os.length ky_ba.os,.slice ay_ba.ts y.ba.ts.length ky_ba.ts]) (by kernel_rfl) ((E.q 36 0 hv1_36.out).1 hb) (Cs.litA HB3.out rfl)) ?_
 intro v1_37 hw
 have hv1_37:=hid hw
 clear hw
 refine QSeq.mayCall (b:=(((((x.ep == y.ep) && (x.rn == y.rn)) && (x.vl == y.vl)) && (x.rp == y.rp)) && (eqb (x.sb,x.mr) (y.sb,y.mr)))) rfl (.bool (eqb x.ba y.ba)) (args:=#[.agg #[.int .i64 x.ba.ep,.int .u64 (x.ba.tm:Nat),Value.slice ax_ba.ps x.ba.ps.length kx_ba.ps,Value.slice ax_ba.os x.ba.os.length kx_ba.os,Value.slice ax_ba.ts x.ba.ts.length kx_ba.ts],.agg #[.int .i64 y.ba.ep,.int .u64 (y.ba.tm:Nat),Value.slice ay_ba.ps y.ba.ps.length ky_ba.ps,Value.slice ay_ba.os y.ba.os.length ky_ba.os,Value.slice ay_ba.ts y.ba.ts.length ky_ba.ts]]) (fun E=>((Ae rfl rfl (E.sz 38 (by decide)) (E.d 33 4)).trans (Ar _))) rfl Tryz.func64 (fun E hb=>Az ((E.q 35 2 hv1_35.out).1 hb) ((E.q 37 0 hv1_37.out).1 hb)) (fun hb=>Eq_Ba R R2 _ _ x.ba y.ba _ ⟨_,_,_,rfl,HOKx.out.2.2.2.2.1,Hx1.out,Hx2.out,Hx3.out⟩ ⟨_,_,_,rfl,HOKy.out.2.2.2.2.1,Hx4.out,Hx5.out,Hx6.out⟩ (by intro k h1;have hb:=HBR.out k h1;(try have:=hm.size);omega) (by intro k h1;have hb:=HBT.out k h1;(try have:=hm.size);omega)) ?_
 intro v1_38 u1_38 hw hm
 have hv1_38:=hid hw
 clear hw
 have zu1_38:=hm.size
 have Cx7:=hid (show Mod (fun _=>False) w1 u1_38 from hm)
 clear hm
 refine QSeq.pure rfl (.bool ((((((x.ep == y.ep) && (x.rn == y.rn)) && (x.vl == y.vl)) && (x.rp == y.rp)) && (eqb (x.sb,x.mr) (y.sb,y.mr))) && (eqb x.ba y.ba))) (fun E=>A2 rfl (E.d 33 5) rfl rfl (Bh fun hb=>(E.q 38 0 hv1_38.out).1 hb)) ?_
 refine QSeq.pure rfl _ (fun E=>Af rfl (E.d 39 0)) ?_
 clear hv1_6 hv1_7 hv1_8 hv1_9 hv1_10 hv1_13 hv1_14 hv1_15 hv1_16 hv1_17 hv1_20 hv1_21 hv1_22 hv1_23 hv1_24 hv1_27 hv1_28 hv1_29 hv1_30 hv1_31 hv1_34 hv1_35 hv1_36 hv1_37 hv1_38
 refine QSeq.nil (t':=[_,_,_,_,_,_,_,_,_,_,_,_,_,_,_,_,_,_,_,_,_,_,_,_,_,_,_,_,_,_,_,_,_,_,_,_,_,_,_,_,_]) rfl ?_
 obtain rfl:=HA0.out
 clear HA0 oe2 oe3
 simp only [pz,Act.put,sIB,sCZ,sCS]
 go_wp2
 go_ret
 exact ⟨Bm (pr_eqb x y),(HM0.out.trans Cx7.out (fun _ _ h=>h.elim))⟩
set_option maxHeartbeats 8000000 in
theorem Eq_Mg:Eqs MgR 13:=by
 intro R R2 cs ds x y w hx hy hB hB2
 obtain ⟨xc5,xc10,xc11,xc15,xc18,rfl,hokx,h5,h10,h11,h15,h18⟩:=hx
 have HLNx:=hid (Mg.lns hokx h5 h10 h11 h15 h18)
 obtain ⟨xdp,xdo,xdt,xdl,rfl,hokdx,hd0,hd1,hd2,hd3⟩:=h18
 have HCx5:=hid (CeR.len h5)
 have Hx5:=Lib.hid h5
 have HCx10:=hid (PmR.len h10)
 have Hx10:=Lib.hid h10
 have HCx11:=hid (PrR.len h11)
 have Hx11:=Lib.hid h11
 have HCx15:=hid (OpR.len h15)
 have Hx15:=Lib.hid h15
 obtain ⟨axdp,kxdp,rfl⟩:=hd0.shape
 have HDx0:=Lib.hid hd0
 obtain ⟨axdo,kxdo,rfl⟩:=hd1.shape
 have HDx1:=Lib.hid hd1
 obtain ⟨axdt,kxdt,rfl⟩:=hd2.shape
 have HDx2:=Lib.hid hd2
 obtain ⟨axdl,kxdl,rfl⟩:=hd3.shape
 have HDx3:=Lib.hid hd3
 have HOKx:=Lib.hid hokx
 have HODx:=Lib.hid hokdx
 clear hokx hokdx h5 h10 h11 h15 hd0 hd1 hd2 hd3
 obtain ⟨yc5,yc10,yc11,yc15,yc18,rfl,hoky,h5,h10,h11,h15,h18⟩:=hy
 have HLNy:=hid (Mg.lns hoky h5 h10 h11 h15 h18)
 obtain ⟨ydp,ydo,ydt,ydl,rfl,hokdy,hd0,hd1,hd2,hd3⟩:=h18
 have HCy5:=hid (CeR.len h5)
 have Hy5:=Lib.hid h5
 have HCy10:=hid (PmR.len h10)
 have Hy10:=Lib.hid h10
 have HCy11:=hid (PrR.len h11)
 have Hy11:=Lib.hid h11
 have HCy15:=hid (OpR.len h15)
 have Hy15:=Lib.hid h15
 obtain ⟨aydp,kydp,rfl⟩:=hd0.shape
 have HDy0:=Lib.hid hd0
 obtain ⟨aydo,kydo,rfl⟩:=hd1.shape
 have HDy1:=Lib.hid hd1
 obtain ⟨aydt,kydt,rfl⟩:=hd2.shape
 have HDy2:=Lib.hid hd2
 obtain ⟨aydl,kydl,rfl⟩:=hd3.shape
 have HDy3:=Lib.hid hd3
 have HOKy:=Lib.hid hoky
 have HODy:=Lib.hid hokdy
 clear hoky hokdy h5 h10 h11 h15 hd0 hd1 hd2 hd3
 have HBR:=Lib.hid hB
 have HBT:=Lib.hid hB2
 clear hB hB2
 go_enter Tryz.func13,Tryz.ntmps13
 go_upto_region 1 with (fail)
 obtain ⟨w1,hw1⟩:∃ zz,zz=((w.alloc (.cells ((x.segs xc5 xc10 xc11 xc15 (x.dc.cells (.slice axdp x.dc.ba.ps.length kxdp) (.slice axdo x.dc.ba.os.length kxdo) (.slice axdt x.dc.ba.ts.length kxdt) (.slice axdl x.dc.l.length kxdl))).flatten:List Value).toArray 61)).alloc (.cells ((y.segs yc5 yc10 yc11 yc15 (y.dc.cells (.slice aydp y.dc.ba.ps.length kydp) (.slice aydo y.dc.ba.os.length kydo) (.slice aydt y.dc.ba.ts.length kydt) (.slice aydl y.dc.l.length kydl))).flatten:List Value).toArray 61)):=⟨_,rfl⟩
 change Code.wp _ _ _ _ ((w.alloc (.cells ((x.segs xc5 xc10 xc11 xc15 (x.dc.cells (.slice axdp x.dc.ba.ps.length kxdp) (.slice axdo x.dc.ba.os.length kxdo) (.slice axdt x.dc.ba.ts.length kxdt) (.slice axdl x.dc.l.length kxdl))).flatten:List Value).toArray 61)).alloc (.cells ((y.segs yc5 yc10 yc11 yc15 (y.dc.cells (.slice aydp y.dc.ba.ps.length kydp) (.slice aydo y.dc.ba.os.length kydo) (.slice aydt y.dc.ba.ts.length kydt) (.slice aydl y.dc.l.length kydl))).flatten:List Value).toArray 61))
 rw [← hw1]
 have HB2:=hid (show Cs w1 (w.heap.size) ((x.segs xc5 xc10 xc11 xc15 (x.dc.cells (.slice axdp x.dc.ba.ps.length kxdp) (.slice axdo x.dc.ba.os.length kxdo) (.slice axdt x.dc.ba.ts.length kxdt) (.slice axdl x.dc.l.length kxdl))).flatten:List Value).toArray 61 by rw [hw1];exact (Cs.new _ _ _).alloc _)
 have HB3:=hid (show Cs w1 (w.heap.size+1) ((y.segs yc5 yc10 yc11 yc15 (y.dc.cells (.slice aydp y.dc.ba.ps.length kydp) (.slice aydo y.dc.ba.os.length kydo) (.slice aydt y.dc.ba.ts.length kydt) (.slice aydl y.dc.l.length kydl))).flatten:List Value).toArray 61 by rw [hw1];exact Cs_newN _ _ _ (by simp))
 have hm:Mod (fun _=>False) w w1:=by rw [hw1];exact ((Mod.refl _ _).alloc _).alloc _
 have HM0:=hid (show Mod (fun _=>False) w w1 from hm.mono (fun _ _ h=>h.elim))
 have hs1:w1.heap.size=w.heap.size+2:=by rw [hw1];simp
 have Hx1:=hid (Hx5.out.mod hm (fun _ _ h=>h))
 clear Hx5
 have Hx2:=hid (Hx10.out.mod hm (fun _ _ h=>h))
 clear Hx10
 have Hx3:=hid (Hx11.out.mod hm (fun _ _ h=>h))
 clear Hx11
 have Hx4:=hid (Hx15.out.mod hm (fun _ _ h=>h))
 clear Hx15
 have Hx5:=hid (HDx0.out.mod hm (fun _ _ h=>h))
 clear HDx0
 have Hx6:=hid (HDx1.out.mod hm (fun _ _ h=>h))
 clear HDx1
 have Hx7:=hid (HDx2.out.mod hm (fun _ _ h=>h))
 clear HDx2
 have Hx8:=hid (HDx3.out.mod hm (fun _ _ h=>h))
 clear HDx3
 have Hx9:=hid (Hy5.out.mod hm (fun _ _ h=>h))
 clear Hy5
 have Hx10:=hid (Hy10.out.mod hm (fun _ _ h=>h))
 clear Hy10
 have Hx11:=hid (Hy11.out.mod hm (fun _ _ h=>h))
 clear Hy11
 have Hx12:=hid (Hy15.out.mod hm (fun _ _ h=>h))
 clear Hy15
 have Hx13:=hid (HDy0.out.mod hm (fun _ _ h=>h))
 clear HDy0
 have Hx14:=hid (HDy1.out.mod hm (fun _ _ h=>h))
 clear HDy1
 have Hx15:=hid (HDy2.out.mod hm (fun _ _ h=>h))
 clear HDy2
 have Hx16:=hid (HDy3.out.mod hm (fun _ _ h=>h))
 clear HDy3
 clear hw1 hm
 go_upto_region 1 with (fail)
 refine Aa 165 [5,6,7,8,9,10,11,12,13,14,15,16,17,18,19,20,21,22,23,24,25,26,27,28,29,30,31,32,33,34,35,36,37,38,39,40,41,42,43,44,45,46,47,48,49,50,51,52,53,54,55,56,57,58,59,60,61,62,63,64,65,66,67,68,69,70,71,72,73,74,75,76,77,78,79,80,81,82,83,84,85,86,87,88,89,90,91,92,93,94,95,96,97,98,99,100,101,102,103,104,105,106,107,108,109,110,111,112,113,114,115,116,117,118,119,120,121,122,123,124,125,126,127,128,129,130,131,132,133,134,135,136,137,138,139,140,141,142,143,144,145,146,147,148,149,150,151,152,153,154,155,156,157,158,159,160,161,162,163,164,4] [0,1,2,3,4,5,6,7,8,9,10,11,12,13,14,15,16,17,18,19,20,21,22,23,24,25,26,27,28,29,30,31,32,33,34,35,36,37,38,39,40,41,42,43,44,45,46,47,48,49,50,51,52,53,54,55,56,57,58,59,60,61,62,63,64,65,66,67,68,69,70,71,72,73,74,75,76,77,78,79,80,81,82,83,84,85,86,87,88,89,90,91,92,93,94,95,96,97,98,99,100,101,102,103,104,105,106,107,108,109,110,111,112,113,114,115,116,117,118,119,120,121,122,123,124,125,126,127,128,129,130,131,132,133,134,135,136,137,138,139,140,141,142,143,144,145,146,147,148,149,150,151,152,153,154,155,156,157,158,159,160] (fun a0 HA0=>?_)
 have oe2:=ev HA0 2 rfl
 have oe3:=ev HA0 3 rfl
 refine QSeq.pure rfl (.pointer (some ⟨w.heap.size,0,none⟩)) (fun E=>Ad rfl Tryz.underlying61 rfl (by kernel_rfl) (E.v oe2)) ?_
 refine QSeq.pure rfl (.int .i64 x.kd) (fun E=>Aj rfl Tryz.underlying3 rfl (E.d 0 0) (Cs.seg1 HB2.out HLNx.out 0 rfl (o:=0) (k:=0) rfl rfl rfl)) ?_
 refine QSeq.pure rfl (.pointer (some ⟨w.heap.size+1,0,none⟩)) (fun E=>Ad rfl Tryz.underlying61 rfl (by kernel_rfl) (E.v oe3)) ?_
 refine QSeq.pure rfl (.int .i64 y.kd) (fun E=>Aj rfl Tryz.underlying3 rfl (E.d 2 0) (Cs.seg1 HB3.out HLNy.out 0 rfl (o:=0) (k:=0) rfl rfl rfl)) ?_
 refine QSeq.pure rfl (.bool (x.kd == y.kd)) (fun E=>ex_bin rfl (E.d 1 2) (E.d 3 0) (Ag _ _ _ _ _ _) (Al _ _ _ Tryz.underlying3)) ?_
 refine QSeq.pure rfl _ (fun E=>Ai rfl (E.d 4 0)) ?_
 refine QSeq.may (b:=(x.kd == y.kd)) rfl (.pointer (some ⟨w.heap.size,1,none⟩)) (fun E=>((Ae rfl rfl (E.sz 10 (by decide)) (E.d 5 0)).trans (Ar _))) (fun E hb=>Ad rfl Tryz.underlying61 rfl (by kernel_rfl) (E.v oe2)) ?_
 intro v1_6 hw
 have hv1_6:=hid hw
 clear hw
 refine QSeq.may (b:=(x.kd == y.kd)) rfl (.int .i64 x.fr) (fun E=>((Ae rfl rfl (E.sz 10 (by decide)) (E.d 5 1)).trans (Ar _))) (fun E hb=>Aj rfl Tryz.underlying3 rfl ((E.q 6 0 hv1_6.out).1 hb) (Cs.seg1 HB2.out HLNx.out 1 rfl (o:=1) (k:=0) rfl rfl rfl)) ?_
 intro v1_7 hw
 have hv1_7:=hid hw
 clear hw
 refine QSeq.may (b:=(x.kd == y.kd)) rfl (.pointer (some ⟨w.heap.size+1,1,none⟩)) (fun E=>((Ae rfl rfl (E.sz 10 (by decide)) (E.d 5 2)).trans (Ar _))) (fun E hb=>Ad rfl Tryz.underlying61 rfl (by kernel_rfl) (E.v oe3)) ?_
 intro v1_8 hw
 have hv1_8:=hid hw
 clear hw
 refine QSeq.may (b:=(x.kd == y.kd)) rfl (.int .i64 y.fr) (fun E=>((Ae rfl rfl (E.sz 10 (by decide)) (E.d 5 3)).trans (Ar _))) (fun E hb=>Aj rfl Tryz.underlying3 rfl ((E.q 8 0 hv1_8.out).1 hb) (Cs.seg1 HB3.out HLNy.out 1 rfl (o:=1) (k:=0) rfl rfl rfl)) ?_
 intro v1_9 hw
 have hv1_9:=hid hw
 clear hw
 refine QSeq.may (b:=(x.kd == y.kd)) rfl (.bool (x.fr == y.fr)) (fun E=>((Ae rfl rfl (E.sz 10 (by decide)) (E.d 5 4)).trans (Ar _))) (fun E hb=>ex_bin rfl ((E.q 7 2 hv1_7.out).1 hb) ((E.q 9 0 hv1_9.out).1 hb) (Ag _ _ _ _ _ _) (Al _ _ _ Tryz.underlying3)) ?_
 intro v1_10 hw
 have hv1_10:=hid hw
 clear hw
 obtain ⟨pb11,hb11⟩:∃ b:Bool,b=((x.kd == y.kd) && (x.fr == y.fr)):=⟨_,rfl⟩
 have HB11:=hid hb11
 clear hb11
 refine QSeq.pure rfl (.bool pb11) (fun E=>A2 rfl (E.d 5 5) rfl rfl ((Bh fun hb=>(E.q 10 0 hv1_10.out).1 hb).trans (congrArg Value.bool HB11.out.symm))) ?_
 refine QSeq.pure rfl _ (fun E=>Ai rfl (E.d 11 0)) ?_
 refine QSeq.may (b:=pb11) rfl (.pointer (some ⟨w.heap.size,2,none⟩)) (fun E=>((Ae rfl rfl (E.sz 17 (by decide)) (E.d 12 0)).trans (Ar _))) (fun E hb=>Ad rfl Tryz.underlying61 rfl (by kernel_rfl) (E.v oe2)) ?_
 intro v1_13 hw
 have hv1_13:=hid hw
 clear hw
 refine QSeq.may (b:=pb11) rfl (.int .i64 x.to) (fun E=>((Ae rfl rfl (E.sz 17 (by decide)) (E.d 12 1)).trans (Ar _))) (fun E hb=>Aj rfl Tryz.underlying3 rfl ((E.q 13 0 hv1_13.out).1 hb) (Cs.seg1 HB2.out HLNx.out 2 rfl (o:=2) (k:=0) rfl rfl rfl)) ?_
 intro v1_14 hw
 have hv1_14:=hid hw
 clear hw
 refine QSeq.may (b:=pb11) rfl (.pointer (some ⟨w.heap.size+1,2,none⟩)) (fun E=>((Ae rfl rfl (E.sz 17 (by decide)) (E.d 12 2)).trans (Ar _))) (fun E hb=>Ad rfl Tryz.underlying61 rfl (by kernel_rfl) (E.v oe3)) ?_
 intro v1_15 hw
 have hv1_15:=hid hw
 clear hw
 refine QSeq.may (b:=pb11) rfl (.int .i64 y.to) (fun E=>((Ae rfl rfl (E.sz 17 (by decide)) (E.d 12 3)).trans (Ar _))) (fun E hb=>Aj rfl Tryz.underlying3 rfl ((E.q 15 0 hv1_15.out).1 hb) (Cs.seg1 HB3.out HLNy.out 2 rfl (o:=2) (k:=0) rfl rfl rfl)) ?_
 intro v1_16 hw
 have hv1_16:=hid hw
 clear hw
 refine QSeq.may (b:=pb11) rfl (.bool (x.to == y.to)) (fun E=>((Ae rfl rfl (E.sz 17 (by decide)) (E.d 12 4)).trans (Ar _))) (fun E hb=>ex_bin rfl ((E.q 14 2 hv1_14.out).1 hb) ((E.q 16 0 hv1_16.out).1 hb) (Ag _ _ _ _ _ _) (Al _ _ _ Tryz.underlying3)) ?_
 intro v1_17 hw
 have hv1_17:=hid hw
 clear hw
 obtain ⟨pb18,hb18⟩:∃ b:Bool,b=(pb11 && (x.to == y.to)):=⟨_,rfl⟩
 have HB18:=hid hb18
 clear hb18
 refine QSeq.pure rfl (.bool pb18) (fun E=>A2 rfl (E.d 12 5) rfl rfl ((Bh fun hb=>(E.q 17 0 hv1_17.out).1 hb).trans (congrArg Value.bool HB18.out.symm))) ?_
 refine QSeq.pure rfl _ (fun E=>Ai rfl (E.d 18 0)) ?_
 refine QSeq.may (b:=pb18) rfl (.pointer (some ⟨w.heap.size,3,none⟩)) (fun E=>((Ae rfl rfl (E.sz 24 (by decide)) (E.d 19 0)).trans (Ar _))) (fun E hb=>Ad rfl Tryz.underlying61 rfl (by kernel_rfl) (E.v oe2)) ?_
 intro v1_20 hw
 have hv1_20:=hid hw
 clear hw
 refine QSeq.may (b:=pb18) rfl (.agg (x.cm.cells).toArray) (fun E=>((Ae rfl rfl (E.sz 24 (by decide)) (E.d 19 1)).trans (Ar _))) (fun E hb=>Am rfl Tryz.underlying29 rfl (off:=3) (cs:=(x.cm.cells)) (by rw [Cm.len HOKx.out.cm.2.1];exact size_commit) ((E.q 20 0 hv1_20.out).1 hb) (Cs.seg HB2.out HLNx.out 3 rfl rfl)) ?_
 intro v1_21 hw
 have hv1_21:=hid hw
 clear hw
 refine QSeq.may (b:=pb18) rfl (.pointer (some ⟨w.heap.size+1,3,none⟩)) (fun E=>((Ae rfl rfl (E.sz 24 (by decide)) (E.d 19 2)).trans (Ar _))) (fun E hb=>Ad rfl Tryz.underlying61 rfl (by kernel_rfl) (E.v oe3)) ?_
 intro v1_22 hw
 have hv1_22:=hid hw
 clear hw
 refine QSeq.may (b:=pb18) rfl (.agg (y.cm.cells).toArray) (fun E=>((Ae rfl rfl (E.sz 24 (by decide)) (E.d 19 3)).trans (Ar _))) (fun E hb=>Am rfl Tryz.underlying29 rfl (off:=3) (cs:=(y.cm.cells)) (by rw [Cm.len HOKy.out.cm.2.1];exact size_commit) ((E.q 22 0 hv1_22.out).1 hb) (Cs.seg HB3.out HLNy.out 3 rfl rfl)) ?_
 intro v1_23 hw
 have hv1_23:=hid hw
 clear hw
 refine QSeq.may (b:=pb18) rfl (.bool (eqb x.cm y.cm)) (fun E=>((Ae rfl rfl (E.sz 24 (by decide)) (E.d 19 4)).trans (Ar _))) (fun E hb=>An rfl ((E.q 21 2 hv1_21.out).1 hb) ((E.q 23 0 hv1_23.out).1 hb) (agg_guardE _ _ _ _ _ _ (by kernel_rfl) _) (EqW.run eqW_commit (ki_cm HOKx.out.cm.2.1) (ki_cm HOKy.out.cm.2.1) (cm_iff HOKx.out.cm HOKy.out.cm) _) rfl) ?_
 intro v1_24 hw
 have hv1_24:=hid hw
 clear hw
 obtain ⟨pb25,hb25⟩:∃ b:Bool,b=(pb18 && (eqb x.cm y.cm)):=⟨_,rfl⟩
 have HB25:=hid hb25
 clear hb25
 refine QSeq.pure rfl (.bool pb25) (fun E=>A2 rfl (E.d 19 5) rfl rfl ((Bh fun hb=>(E.q 24 0 hv1_24.out).1 hb).trans (congrArg Value.bool HB25.out.symm))) ?_
 refine QSeq.pure rfl _ (fun E=>Ai rfl (E.d 25 0)) ?_
 refine QSeq.may (b:=pb25) rfl (.pointer (some ⟨w.heap.size,40,none⟩)) (fun E=>((Ae rfl rfl (E.sz 31 (by decide)) (E.d 26 0)).trans (Ar _))) (fun E hb=>Ad rfl Tryz.underlying61 rfl (by kernel_rfl) (E.v oe2)) ?_
 intro v1_27 hw
 have hv1_27:=hid hw
 clear hw
 refine QSeq.may (b:=pb25) rfl (.agg (x.st.cells).toArray) (fun E=>((Ae rfl rfl (E.sz 31 (by decide)) (E.d 26 1)).trans (Ar _))) (fun E hb=>Am rfl Tryz.underlying32 rfl (off:=40) (cs:=(x.st.cells)) (by rw [St.len HOKx.out.st];kernel_rfl) ((E.q 27 0 hv1_27.out).1 hb) (Cs.seg HB2.out HLNx.out 4 rfl rfl)) ?_
 intro v1_28 hw
 have hv1_28:=hid hw
 clear hw
 refine QSeq.may (b:=pb25) rfl (.pointer (some ⟨w.heap.size+1,40,none⟩)) (fun E=>((Ae rfl rfl (E.sz 31 (by decide)) (E.d 26 2)).trans (Ar _))) (fun E hb=>Ad rfl Tryz.underlying61 rfl (by kernel_rfl) (E.v oe3)) ?_
 intro v1_29 hw
 have hv1_29:=hid hw
 clear hw
 refine QSeq.may (b:=pb25) rfl (.agg (y.st.cells).toArray) (fun E=>((Ae rfl rfl (E.sz 31 (by decide)) (E.d 26 3)).trans (Ar _))) (fun E hb=>Am rfl Tryz.underlying32 rfl (off:=40) (cs:=(y.st.cells)) (by rw [St.len HOKy.out.st];kernel_rfl) ((E.q 29 0 hv1_29.out).1 hb) (Cs.seg HB3.out HLNy.out 4 rfl rfl)) ?_
 intro v1_30 hw
 have hv1_30:=hid hw
 clear hw
 refine QSeq.may (b:=pb25) rfl (.bool (eqb x.st y.st)) (fun E=>((Ae rfl rfl (E.sz 31 (by decide)) (E.d 26 4)).trans (Ar _))) (fun E hb=>An rfl ((E.q 28 2 hv1_28.out).1 hb) ((E.q 30 0 hv1_30.out).1 hb) (agg_guardE _ _ _ _ _ _ (by kernel_rfl) _) (EqW.run eqW_stamp (ki_st HOKx.out.st) (ki_st HOKy.out.st) (st_iff HOKx.out.st HOKy.out.st) _) rfl) ?_
 intro v1_31 hw
 have hv1_31:=hid hw
 clear hw
 obtain ⟨pb32,hb32⟩:∃ b:Bool,b=(pb25 && (eqb x.st y.st)):=⟨_,rfl⟩
 have HB32:=hid hb32
 clear hb32
 refine QSeq.pure rfl (.bool pb32) (fun E=>A2 rfl (E.d 26 5) rfl rfl ((Bh fun hb=>(E.q 31 0 hv1_31.out).1 hb).trans (congrArg Value.bool HB32.out.symm))) ?_
 refine QSeq.pure rfl _ (fun E=>Ai rfl (E.d 32 0)) ?_
 refine QSeq.may (b:=pb32) rfl (.pointer (some ⟨w.heap.size,78,none⟩)) (fun E=>((Ae rfl rfl (E.sz 38 (by decide)) (E.d 33 0)).trans (Ar _))) (fun E hb=>Ad rfl Tryz.underlying61 rfl (by kernel_rfl) (E.v oe2)) ?_
 intro v1_34 hw
 have hv1_34:=hid hw
 clear hw
 refine QSeq.may (b:=pb32) rfl (.agg (xc5).toArray) (fun E=>((Ae rfl rfl (E.sz 38 (by decide)) (E.d 33 1)).trans (Ar _))) (fun E hb=>Am rfl Tryz.underlying35 rfl (off:=78) (cs:=(xc5)) (by rw [HCx5.out];kernel_rfl) ((E.q 34 0 hv1_34.out).1 hb) (Cs.seg HB2.out HLNx.out 5 rfl rfl)) ?_
 intro v1_35 hw
 have hv1_35:=hid hw
 clear hw
 refine QSeq.may (b:=pb32) rfl (.pointer (some ⟨w.heap.size+1,78,none⟩)) (fun E=>((Ae rfl rfl (E.sz 38 (by decide)) (E.d 33 2)).trans (Ar _))) (fun E hb=>Ad rfl Tryz.underlying61 rfl (by kernel_rfl) (E.v oe3)) ?_
 intro v1_36 hw
 have hv1_36:=hid hw
 clear hw
 refine QSeq.may (b:=pb32) rfl (.agg (yc5).toArray) (fun E=>((Ae rfl rfl (E.sz 38 (by decide)) (E.d 33 3)).trans (Ar _))) (fun E hb=>Am rfl Tryz.underlying35 rfl (off:=78) (cs:=(yc5)) (by rw [HCy5.out];kernel_rfl) ((E.q 36 0 hv1_36.out).1 hb) (Cs.seg HB3.out HLNy.out 5 rfl rfl)) ?_
 intro v1_37 hw
 have hv1_37:=hid hw
 clear hw
 refine QSeq.mayCall (b:=pb32) rfl (.bool (eqb x.ce y.ce)) (args:=#[.agg (xc5).toArray,.agg (yc5).toArray]) (fun E=>((Ae rfl rfl (E.sz 38 (by decide)) (E.d 33 4)).trans (Ar _))) rfl Tryz.func60 (fun E hb=>Az ((E.q 35 2 hv1_35.out).1 hb) ((E.q 37 0 hv1_37.out).1 hb)) (fun hb=>Eq_Ce _ _ _ _ x.ce y.ce _ Hx1.out Hx9.out (by intro k h1;have hb:=HBR.out k h1;(try have:=hm.size);omega) (by intro k h1;have hb:=HBT.out k h1;(try have:=hm.size);omega)) ?_
 intro v1_38 u1_38 hw hm
 have hv1_38:=hid hw
 clear hw
 have zu1_38:=hm.size
 have Cx17:=hid (show Mod (fun _=>False) w1 u1_38 from hm)
 clear hm
 obtain ⟨pb39,hb39⟩:∃ b:Bool,b=(pb32 && (eqb x.ce y.ce)):=⟨_,rfl⟩
 have HB39:=hid hb39
 clear hb39
 refine QSeq.pure rfl (.bool pb39) (fun E=>A2 rfl (E.d 33 5) rfl rfl ((Bh fun hb=>(E.q 38 0 hv1_38.out).1 hb).trans (congrArg Value.bool HB39.out.symm))) ?_
 refine QSeq.pure rfl _ (fun E=>Ai rfl (E.d 39 0)) ?_
 refine QSeq.may (b:=pb39) rfl (.pointer (some ⟨w.heap.size,116,none⟩)) (fun E=>((Ae rfl rfl (E.sz 45 (by decide)) (E.d 40 0)).trans (Ar _))) (fun E hb=>Ad rfl Tryz.underlying61 rfl (by kernel_rfl) (E.v oe2)) ?_
 intro v1_41 hw
 have hv1_41:=hid hw
 clear hw
 refine QSeq.may (b:=pb39) rfl (.agg (x.ak.cells).toArray) (fun E=>((Ae rfl rfl (E.sz 45 (by decide)) (E.d 40 1)).trans (Ar _))) (fun E hb=>Am rfl Tryz.underlying37 rfl (off:=116) (cs:=(x.ak.cells)) (by rw [St.len HOKx.out.ak];kernel_rfl) ((E.q 41 0 hv1_41.out).1 hb) (Cs.seg (HB2.out.mod Cx17.out (fun h=>h)) HLNx.out 6 rfl rfl)) ?_
 intro v1_42 hw
 have hv1_42:=hid hw
 clear hw
 refine QSeq.may (b:=pb39) rfl (.pointer (some ⟨w.heap.size+1,116,none⟩)) (fun E=>((Ae rfl rfl (E.sz 45 (by decide)) (E.d 40 2)).trans (Ar _))) (fun E hb=>Ad rfl Tryz.underlying61 rfl (by kernel_rfl) (E.v oe3)) ?_
 intro v1_43 hw
 have hv1_43:=hid hw
 clear hw
 refine QSeq.may (b:=pb39) rfl (.agg (y.ak.cells).toArray) (fun E=>((Ae rfl rfl (E.sz 45 (by decide)) (E.d 40 3)).trans (Ar _))) (fun E hb=>Am rfl Tryz.underlying37 rfl (off:=116) (cs:=(y.ak.cells)) (by rw [St.len HOKy.out.ak];kernel_rfl) ((E.q 43 0 hv1_43.out).1 hb) (Cs.seg (HB3.out.mod Cx17.out (fun h=>h)) HLNy.out 6 rfl rfl)) ?_
 intro v1_44 hw
 have hv1_44:=hid hw
 clear hw
 refine QSeq.may (b:=pb39) rfl (.bool (eqb x.ak y.ak)) (fun E=>((Ae rfl rfl (E.sz 45 (by decide)) (E.d 40 4)).trans (Ar _))) (fun E hb=>An rfl ((E.q 42 2 hv1_42.out).1 hb) ((E.q 44 0 hv1_44.out).1 hb) (agg_guardE _ _ _ _ _ _ (by kernel_rfl) _) (EqW.run eqW_ack (ki_st HOKx.out.ak) (ki_st HOKy.out.ak) (st_iff HOKx.out.ak HOKy.out.ak) _) rfl) ?_
 intro v1_45 hw
 have hv1_45:=hid hw
 clear hw
 obtain ⟨pb46,hb46⟩:∃ b:Bool,b=(pb39 && (eqb x.ak y.ak)):=⟨_,rfl⟩
 have HB46:=hid hb46
 clear hb46
 refine QSeq.pure rfl (.bool pb46) (fun E=>A2 rfl (E.d 40 5) rfl rfl ((Bh fun hb=>(E.q 45 0 hv1_45.out).1 hb).trans (congrArg Value.bool HB46.out.symm))) ?_
 refine QSeq.pure rfl _ (fun E=>Ai rfl (E.d 46 0)) ?_
 refine QSeq.may (b:=pb46) rfl (.pointer (some ⟨w.heap.size,154,none⟩)) (fun E=>((Ae rfl rfl (E.sz 52 (by decide)) (E.d 47 0)).trans (Ar _))) (fun E hb=>Ad rfl Tryz.underlying61 rfl (by kernel_rfl) (E.v oe2)) ?_
 intro v1_48 hw
 have hv1_48:=hid hw
 clear hw
 refine QSeq.may (b:=pb46) rfl (.int .i64 x.ep) (fun E=>((Ae rfl rfl (E.sz 52 (by decide)) (E.d 47 1)).trans (Ar _))) (fun E hb=>Aj rfl Tryz.underlying3 rfl ((E.q 48 0 hv1_48.out).1 hb) (Cs.seg1 (HB2.out.mod Cx17.out (fun h=>h)) HLNx.out 7 rfl (o:=154) (k:=0) rfl rfl rfl)) ?_
 intro v1_49 hw
 have hv1_49:=hid hw
 clear hw
 refine QSeq.may (b:=pb46) rfl (.pointer (some ⟨w.heap.size+1,154,none⟩)) (fun E=>((Ae rfl rfl (E.sz 52 (by decide)) (E.d 47 2)).trans (Ar _))) (fun E hb=>Ad rfl Tryz.underlying61 rfl (by kernel_rfl) (E.v oe3)) ?_
 intro v1_50 hw
 have hv1_50:=hid hw
 clear hw
 refine QSeq.may (b:=pb46) rfl (.int .i64 y.ep) (fun E=>((Ae rfl rfl (E.sz 52 (by decide)) (E.d 47 3)).trans (Ar _))) (fun E hb=>Aj rfl Tryz.underlying3 rfl ((E.q 50 0 hv1_50.out).1 hb) (Cs.seg1 (HB3.out.mod Cx17.out (fun h=>h)) HLNy.out 7 rfl (o:=154) (k:=0) rfl rfl rfl)) ?_
 intro v1_51 hw
 have hv1_51:=hid hw
 clear hw
 refine QSeq.may (b:=pb46) rfl (.bool (x.ep == y.ep)) (fun E=>((Ae rfl rfl (E.sz 52 (by decide)) (E.d 47 4)).trans (Ar _))) (fun E hb=>ex_bin rfl ((E.q 49 2 hv1_49.out).1 hb) ((E.q 51 0 hv1_51.out).1 hb) (Ag _ _ _ _ _ _) (Al _ _ _ Tryz.underlying3)) ?_
 intro v1_52 hw
 have hv1_52:=hid hw
 clear hw
 obtain ⟨pb53,hb53⟩:∃ b:Bool,b=(pb46 && (x.ep == y.ep)):=⟨_,rfl⟩
 have HB53:=hid hb53
 clear hb53
 refine QSeq.pure rfl (.bool pb53) (fun E=>A2 rfl (E.d 47 5) rfl rfl ((Bh fun hb=>(E.q 52 0 hv1_52.out).1 hb).trans (congrArg Value.bool HB53.out.symm))) ?_
 refine QSeq.pure rfl _ (fun E=>Ai rfl (E.d 53 0)) ?_
 refine QSeq.may (b:=pb53) rfl (.pointer (some ⟨w.heap.size,155,none⟩)) (fun E=>((Ae rfl rfl (E.sz 59 (by decide)) (E.d 54 0)).trans (Ar _))) (fun E hb=>Ad rfl Tryz.underlying61 rfl (by kernel_rfl) (E.v oe2)) ?_
 intro v1_55 hw
 have hv1_55:=hid hw
 clear hw
 refine QSeq.may (b:=pb53) rfl (.int .i64 x.rn) (fun E=>((Ae rfl rfl (E.sz 59 (by decide)) (E.d 54 1)).trans (Ar _))) (fun E hb=>Aj rfl Tryz.underlying3 rfl ((E.q 55 0 hv1_55.out).1 hb) (Cs.seg1 (HB2.out.mod Cx17.out (fun h=>h)) HLNx.out 8 rfl (o:=155) (k:=0) rfl rfl rfl)) ?_
 intro v1_56 hw
 have hv1_56:=hid hw
 clear hw
 refine QSeq.may (b:=pb53) rfl (.pointer (some ⟨w.heap.size+1,155,none⟩)) (fun E=>((Ae rfl rfl (E.sz 59 (by decide)) (E.d 54 2)).trans (Ar _))) (fun E hb=>Ad rfl Tryz.underlying61 rfl (by kernel_rfl) (E.v oe3)) ?_
 intro v1_57 hw
 have hv1_57:=hid hw
 clear hw
 refine QSeq.may (b:=pb53) rfl (.int .i64 y.rn) (fun E=>((Ae rfl rfl (E.sz 59 (by decide)) (E.d 54 3)).trans (Ar _))) (fun E hb=>Aj rfl Tryz.underlying3 rfl ((E.q 57 0 hv1_57.out).1 hb) (Cs.seg1 (HB3.out.mod Cx17.out (fun h=>h)) HLNy.out 8 rfl (o:=155) (k:=0) rfl rfl rfl)) ?_
 intro v1_58 hw
 have hv1_58:=hid hw
 clear hw
 refine QSeq.may (b:=pb53) rfl (.bool (x.rn == y.rn)) (fun E=>((Ae rfl rfl (E.sz 59 (by decide)) (E.d 54 4)).trans (Ar _))) (fun E hb=>ex_bin rfl ((E.q 56 2 hv1_56.out).1 hb) ((E.q 58 0 hv1_58.out).1 hb) (Ag _ _ _ _ _ _) (Al _ _ _ Tryz.underlying3)) ?_
 intro v1_59 hw
 have hv1_59:=hid hw
 clear hw
 obtain ⟨pb60,hb60⟩:∃ b:Bool,b=(pb53 && (x.rn == y.rn)):=⟨_,rfl⟩
 have HB60:=hid hb60
 clear hb60
 refine QSeq.pure rfl (.bool pb60) (fun E=>A2 rfl (E.d 54 5) rfl rfl ((Bh fun hb=>(E.q 59 0 hv1_59.out).1 hb).trans (congrArg Value.bool HB60.out.symm))) ?_
 refine QSeq.pure rfl _ (fun E=>Ai rfl (E.d 60 0)) ?_
 refine QSeq.may (b:=pb60) rfl (.pointer (some ⟨w.heap.size,156,none⟩)) (fun E=>((Ae rfl rfl (E.sz 66 (by decide)) (E.d 61 0)).trans (Ar _))) (fun E hb=>Ad rfl Tryz.underlying61 rfl (by kernel_rfl) (E.v oe2)) ?_
 intro v1_62 hw
 have hv1_62:=hid hw
 clear hw
 refine QSeq.may (b:=pb60) rfl (.int .u64 (x.tm:Nat)) (fun E=>((Ae rfl rfl (E.sz 66 (by decide)) (E.d 61 1)).trans (Ar _))) (fun E hb=>Aj rfl Tryz.underlying30 rfl ((E.q 62 0 hv1_62.out).1 hb) (Cs.seg1 (HB2.out.mod Cx17.out (fun h=>h)) HLNx.out 9 rfl (o:=156) (k:=0) rfl rfl rfl)) ?_
 intro v1_63 hw
 have hv1_63:=hid hw
 clear hw
 refine QSeq.may (b:=pb60) rfl (.pointer (some ⟨w.heap.size+1,156,none⟩)) (fun E=>((Ae rfl rfl (E.sz 66 (by decide)) (E.d 61 2)).trans (Ar _))) (fun E hb=>Ad rfl Tryz.underlying61 rfl (by kernel_rfl) (E.v oe3)) ?_
 intro v1_64 hw
 have hv1_64:=hid hw
 clear hw
 refine QSeq.may (b:=pb60) rfl (.int .u64 (y.tm:Nat)) (fun E=>((Ae rfl rfl (E.sz 66 (by decide)) (E.d 61 3)).trans (Ar _))) (fun E hb=>Aj rfl Tryz.underlying30 rfl ((E.q 64 0 hv1_64.out).1 hb) (Cs.seg1 (HB3.out.mod Cx17.out (fun h=>h)) HLNy.out 9 rfl (o:=156) (k:=0) rfl rfl rfl)) ?_
 intro v1_65 hw
 have hv1_65:=hid hw
 clear hw
 refine QSeq.may (b:=pb60) rfl (.bool (((x.tm:Nat):Int) == ((y.tm:Nat):Int))) (fun E=>((Ae rfl rfl (E.sz 66 (by decide)) (E.d 61 4)).trans (Ar _))) (fun E hb=>ex_bin rfl ((E.q 63 2 hv1_63.out).1 hb) ((E.q 65 0 hv1_65.out).1 hb) (Ag _ _ _ _ _ _) (Al _ _ _ Tryz.underlying30)) ?_
 intro v1_66 hw
 have hv1_66:=hid hw
 clear hw
 obtain ⟨pb67,hb67⟩:∃ b:Bool,b=(pb60 && (((x.tm:Nat):Int) == ((y.tm:Nat):Int))):=⟨_,rfl⟩
 have HB67:=hid hb67
 clear hb67
 refine QSeq.pure rfl (.bool pb67) (fun E=>A2 rfl (E.d 61 5) rfl rfl ((Bh fun hb=>(E.q 66 0 hv1_66.out).1 hb).trans (congrArg Value.bool HB67.out.symm))) ?_
 refine QSeq.pure rfl _ (fun E=>Ai rfl (E.d 67 0)) ?_
 refine QSeq.may (b:=pb67) rfl (.pointer (some ⟨w.heap.size,157,none⟩)) (fun E=>((Ae rfl rfl (E.sz 73 (by decide)) (E.d 68 0)).trans (Ar _))) (fun E hb=>Ad rfl Tryz.underlying61 rfl (by kernel_rfl) (E.v oe2)) ?_
 intro v1_69 hw
 have hv1_69:=hid hw
 clear hw
 refine QSeq.may (b:=pb67) rfl (.agg (xc10).toArray) (fun E=>((Ae rfl rfl (E.sz 73 (by decide)) (E.d 68 1)).trans (Ar _))) (fun E hb=>Am rfl Tryz.underlying40 rfl (off:=157) (cs:=(xc10)) (by rw [HCx10.out];kernel_rfl) ((E.q 69 0 hv1_69.out).1 hb) (Cs.seg (HB2.out.mod Cx17.out (fun h=>h)) HLNx.out 10 rfl rfl)) ?_
 intro v1_70 hw
 have hv1_70:=hid hw
 clear hw
 refine QSeq.may (b:=pb67) rfl (.pointer (some ⟨w.heap.size+1,157,none⟩)) (fun E=>((Ae rfl rfl (E.sz 73 (by decide)) (E.d 68 2)).trans (Ar _))) (fun E hb=>Ad rfl Tryz.underlying61 rfl (by kernel_rfl) (E.v oe3)) ?_
 intro v1_71 hw
 have hv1_71:=hid hw
 clear hw
 refine QSeq.may (b:=pb67) rfl (.agg (yc10).toArray) (fun E=>((Ae rfl rfl (E.sz 73 (by decide)) (E.d 68 3)).trans (Ar _))) (fun E hb=>Am rfl Tryz.underlying40 rfl (off:=157) (cs:=(yc10)) (by rw [HCy10.out];kernel_rfl) ((E.q 71 0 hv1_71.out).1 hb) (Cs.seg (HB3.out.mod Cx17.out (fun h=>h)) HLNy.out 10 rfl rfl)) ?_
 intro v1_72 hw
 have hv1_72:=hid hw
 clear hw
 refine QSeq.mayCall (b:=pb67) rfl (.bool (eqb x.pm y.pm)) (args:=#[.agg (xc10).toArray,.agg (yc10).toArray]) (fun E=>((Ae rfl rfl (E.sz 73 (by decide)) (E.d 68 4)).trans (Ar _))) rfl Tryz.func61 (fun E hb=>Az ((E.q 70 2 hv1_70.out).1 hb) ((E.q 72 0 hv1_72.out).1 hb)) (fun hb=>Eq_Pm _ _ _ _ x.pm y.pm _ (Hx2.out.mod Cx17.out (fun _ _ h=>h)) (Hx10.out.mod Cx17.out (fun _ _ h=>h)) (by intro k h1;have hb:=HBR.out k h1;(try have:=hm.size);omega) (by intro k h1;have hb:=HBT.out k h1;(try have:=hm.size);omega)) ?_
 intro v1_73 u1_73 hw hm
 have hv1_73:=hid hw
 clear hw
 have zu1_73:=hm.size
 have HMu1_73:=hid hm
 have Cx18:=hid (Cx17.out.goE hm)
 clear hm Cx17
 obtain ⟨pb74,hb74⟩:∃ b:Bool,b=(pb67 && (eqb x.pm y.pm)):=⟨_,rfl⟩
 have HB74:=hid hb74
 clear hb74
 refine QSeq.pure rfl (.bool pb74) (fun E=>A2 rfl (E.d 68 5) rfl rfl ((Bh fun hb=>(E.q 73 0 hv1_73.out).1 hb).trans (congrArg Value.bool HB74.out.symm))) ?_
 refine QSeq.pure rfl _ (fun E=>Ai rfl (E.d 74 0)) ?_
 refine QSeq.may (b:=pb74) rfl (.pointer (some ⟨w.heap.size,163,none⟩)) (fun E=>((Ae rfl rfl (E.sz 80 (by decide)) (E.d 75 0)).trans (Ar _))) (fun E hb=>Ad rfl Tryz.underlying61 rfl (by kernel_rfl) (E.v oe2)) ?_
 intro v1_76 hw
 have hv1_76:=hid hw
 clear hw
 refine QSeq.may (b:=pb74) rfl (.agg (xc11).toArray) (fun E=>((Ae rfl rfl (E.sz 80 (by decide)) (E.d 75 1)).trans (Ar _))) (fun E hb=>Am rfl Tryz.underlying47 rfl (off:=163) (cs:=(xc11)) (by rw [HCx11.out];kernel_rfl) ((E.q 76 0 hv1_76.out).1 hb) (Cs.seg (HB2.out.mod Cx18.out (fun h=>h)) HLNx.out 11 rfl rfl)) ?_
 intro v1_77 hw
 have hv1_77:=hid hw
 clear hw
 refine QSeq.may (b:=pb74) rfl (.pointer (some ⟨w.heap.size+1,163,none⟩)) (fun E=>((Ae rfl rfl (E.sz 80 (by decide)) (E.d 75 2)).trans (Ar _))) (fun E hb=>Ad rfl Tryz.underlying61 rfl (by kernel_rfl) (E.v oe3)) ?_
 intro v1_78 hw
 have hv1_78:=hid hw
 clear hw
 refine QSeq.may (b:=pb74) rfl (.agg (yc11).toArray) (fun E=>((Ae rfl rfl (E.sz 80 (by decide)) (E.d 75 3)).trans (Ar _))) (fun E hb=>Am rfl Tryz.underlying47 rfl (off:=163) (cs:=(yc11)) (by rw [HCy11.out];kernel_rfl) ((E.q 78 0 hv1_78.out).1 hb) (Cs.seg (HB3.out.mod Cx18.out (fun h=>h)) HLNy.out 11 rfl rfl)) ?_
 intro v1_79 hw
 have hv1_79:=hid hw
 clear hw
 refine QSeq.mayCall (b:=pb74) rfl (.bool (eqb x.pr y.pr)) (args:=#[.agg (xc11).toArray,.agg (yc11).toArray]) (fun E=>((Ae rfl rfl (E.sz 80 (by decide)) (E.d 75 4)).trans (Ar _))) rfl Tryz.func62 (fun E hb=>Az ((E.q 77 2 hv1_77.out).1 hb) ((E.q 79 0 hv1_79.out).1 hb)) (fun hb=>Eq_Pr _ _ _ _ x.pr y.pr _ (Hx3.out.mod Cx18.out (fun _ _ h=>h)) (Hx11.out.mod Cx18.out (fun _ _ h=>h)) (by intro k h1;have hb:=HBR.out k h1;(try have:=hm.size);omega) (by intro k h1;have hb:=HBT.out k h1;(try have:=hm.size);omega)) ?_
 intro v1_80 u1_80 hw hm
 have hv1_80:=hid hw
 clear hw
 have zu1_80:=hm.size
 have HMu1_80:=hid hm
 have Cx19:=hid (Cx18.out.goE hm)
 clear hm Cx18
 obtain ⟨pb81,hb81⟩:∃ b:Bool,b=(pb74 && (eqb x.pr y.pr)):=⟨_,rfl⟩
 have HB81:=hid hb81
 clear hb81
 refine QSeq.pure rfl (.bool pb81) (fun E=>A2 rfl (E.d 75 5) rfl rfl ((Bh fun hb=>(E.q 80 0 hv1_80.out).1 hb).trans (congrArg Value.bool HB81.out.symm))) ?_
 refine QSeq.pure rfl _ (fun E=>Ai rfl (E.d 81 0)) ?_
 refine QSeq.may (b:=pb81) rfl (.pointer (some ⟨w.heap.size,174,none⟩)) (fun E=>((Ae rfl rfl (E.sz 87 (by decide)) (E.d 82 0)).trans (Ar _))) (fun E hb=>Ad rfl Tryz.underlying61 rfl (by kernel_rfl) (E.v oe2)) ?_
 intro v1_83 hw
 have hv1_83:=hid hw
 clear hw
 refine QSeq.may (b:=pb81) rfl (.agg (x.vt.cells).toArray) (fun E=>((Ae rfl rfl (E.sz 87 (by decide)) (E.d 82 1)).trans (Ar _))) (fun E hb=>Am rfl Tryz.underlying49 rfl (off:=174) (cs:=(x.vt.cells)) (by rw [Vt.len HOKx.out.vt];kernel_rfl) ((E.q 83 0 hv1_83.out).1 hb) (Cs.seg (HB2.out.mod Cx19.out (fun h=>h)) HLNx.out 12 rfl rfl)) ?_
 intro v1_84 hw
 have hv1_84:=hid hw
 clear hw
 refine QSeq.may (b:=pb81) rfl (.pointer (some ⟨w.heap.size+1,174,none⟩)) (fun E=>((Ae rfl rfl (E.sz 87 (by decide)) (E.d 82 2)).trans (Ar _))) (fun E hb=>Ad rfl Tryz.underlying61 rfl (by kernel_rfl) (E.v oe3)) ?_
 intro v1_85 hw
 have hv1_85:=hid hw
 clear hw
 refine QSeq.may (b:=pb81) rfl (.agg (y.vt.cells).toArray) (fun E=>((Ae rfl rfl (E.sz 87 (by decide)) (E.d 82 3)).trans (Ar _))) (fun E hb=>Am rfl Tryz.underlying49 rfl (off:=174) (cs:=(y.vt.cells)) (by rw [Vt.len HOKy.out.vt];kernel_rfl) ((E.q 85 0 hv1_85.out).1 hb) (Cs.seg (HB3.out.mod Cx19.out (fun h=>h)) HLNy.out 12 rfl rfl)) ?_
 intro v1_86 hw
 have hv1_86:=hid hw
 clear hw
 refine QSeq.may (b:=pb81) rfl (.bool (eqb x.vt y.vt)) (fun E=>((Ae rfl rfl (E.sz 87 (by decide)) (E.d 82 4)).trans (Ar _))) (fun E hb=>An rfl ((E.q 84 2 hv1_84.out).1 hb) ((E.q 86 0 hv1_86.out).1 hb) (agg_guardE _ _ _ _ _ _ (by kernel_rfl) _) (EqW.run eqW_vote (ki_vt HOKx.out.vt) (ki_vt HOKy.out.vt) (vt_iff HOKx.out.vt HOKy.out.vt) _) rfl) ?_
 intro v1_87 hw
 have hv1_87:=hid hw
 clear hw
 obtain ⟨pb88,hb88⟩:∃ b:Bool,b=(pb81 && (eqb x.vt y.vt)):=⟨_,rfl⟩
 have HB88:=hid hb88
 clear hb88
 refine QSeq.pure rfl (.bool pb88) (fun E=>A2 rfl (E.d 82 5) rfl rfl ((Bh fun hb=>(E.q 87 0 hv1_87.out).1 hb).trans (congrArg Value.bool HB88.out.symm))) ?_
 refine QSeq.pure rfl _ (fun E=>Ai rfl (E.d 88 0)) ?_
 refine QSeq.may (b:=pb88) rfl (.pointer (some ⟨w.heap.size,212,none⟩)) (fun E=>((Ae rfl rfl (E.sz 94 (by decide)) (E.d 89 0)).trans (Ar _))) (fun E hb=>Ad rfl Tryz.underlying61 rfl (by kernel_rfl) (E.v oe2)) ?_
 intro v1_90 hw
 have hv1_90:=hid hw
 clear hw
 refine QSeq.may (b:=pb88) rfl (.int .i64 x.ix) (fun E=>((Ae rfl rfl (E.sz 94 (by decide)) (E.d 89 1)).trans (Ar _))) (fun E hb=>Aj rfl Tryz.underlying3 rfl ((E.q 90 0 hv1_90.out).1 hb) (Cs.seg1 (HB2.out.mod Cx19.out (fun h=>h)) HLNx.out 13 rfl (o:=212) (k:=0) rfl rfl rfl)) ?_
 intro v1_91 hw
 have hv1_91:=hid hw
 clear hw
 refine QSeq.may (b:=pb88) rfl (.pointer (some ⟨w.heap.size+1,212,none⟩)) (fun E=>((Ae rfl rfl (E.sz 94 (by decide)) (E.d 89 2)).trans (Ar _))) (fun E hb=>Ad rfl Tryz.underlying61 rfl (by kernel_rfl) (E.v oe3)) ?_
 intro v1_92 hw
 have hv1_92:=hid hw
 clear hw
 refine QSeq.may (b:=pb88) rfl (.int .i64 y.ix) (fun E=>((Ae rfl rfl (E.sz 94 (by decide)) (E.d 89 3)).trans (Ar _))) (fun E hb=>Aj rfl Tryz.underlying3 rfl ((E.q 92 0 hv1_92.out).1 hb) (Cs.seg1 (HB3.out.mod Cx19.out (fun h=>h)) HLNy.out 13 rfl (o:=212) (k:=0) rfl rfl rfl)) ?_
 intro v1_93 hw
 have hv1_93:=hid hw
 clear hw
 refine QSeq.may (b:=pb88) rfl (.bool (x.ix == y.ix)) (fun E=>((Ae rfl rfl (E.sz 94 (by decide)) (E.d 89 4)).trans (Ar _))) (fun E hb=>ex_bin rfl ((E.q 91 2 hv1_91.out).1 hb) ((E.q 93 0 hv1_93.out).1 hb) (Ag _ _ _ _ _ _) (Al _ _ _ Tryz.underlying3)) ?_
 intro v1_94 hw
 have hv1_94:=hid hw
 clear hw
 obtain ⟨pb95,hb95⟩:∃ b:Bool,b=(pb88 && (x.ix == y.ix)):=⟨_,rfl⟩
 have HB95:=hid hb95
 clear hb95
 refine QSeq.pure rfl (.bool pb95) (fun E=>A2 rfl (E.d 89 5) rfl rfl ((Bh fun hb=>(E.q 94 0 hv1_94.out).1 hb).trans (congrArg Value.bool HB95.out.symm))) ?_
 refine QSeq.pure rfl _ (fun E=>Ai rfl (E.d 95 0)) ?_
 refine QSeq.may (b:=pb95) rfl (.pointer (some ⟨w.heap.size,213,none⟩)) (fun E=>((Ae rfl rfl (E.sz 101 (by decide)) (E.d 96 0)).trans (Ar _))) (fun E hb=>Ad rfl Tryz.underlying61 rfl (by kernel_rfl) (E.v oe2)) ?_
 intro v1_97 hw
 have hv1_97:=hid hw
 clear hw
 refine QSeq.may (b:=pb95) rfl (.agg (x.en.cells).toArray) (fun E=>((Ae rfl rfl (E.sz 101 (by decide)) (E.d 96 1)).trans (Ar _))) (fun E hb=>Am rfl Tryz.underlying51 rfl (off:=213) (cs:=(x.en.cells)) (by rw [En.len HOKx.out.en];kernel_rfl) ((E.q 97 0 hv1_97.out).1 hb) (Cs.seg (HB2.out.mod Cx19.out (fun h=>h)) HLNx.out 14 rfl rfl)) ?_
 intro v1_98 hw
 have hv1_98:=hid hw
 clear hw
 refine QSeq.may (b:=pb95) rfl (.pointer (some ⟨w.heap.size+1,213,none⟩)) (fun E=>((Ae rfl rfl (E.sz 101 (by decide)) (E.d 96 2)).trans (Ar _))) (fun E hb=>Ad rfl Tryz.underlying61 rfl (by kernel_rfl) (E.v oe3)) ?_
 intro v1_99 hw
 have hv1_99:=hid hw
 clear hw
 refine QSeq.may (b:=pb95) rfl (.agg (y.en.cells).toArray) (fun E=>((Ae rfl rfl (E.sz 101 (by decide)) (E.d 96 3)).trans (Ar _))) (fun E hb=>Am rfl Tryz.underlying51 rfl (off:=213) (cs:=(y.en.cells)) (by rw [En.len HOKy.out.en];kernel_rfl) ((E.q 99 0 hv1_99.out).1 hb) (Cs.seg (HB3.out.mod Cx19.out (fun h=>h)) HLNy.out 14 rfl rfl)) ?_
 intro v1_100 hw
 have hv1_100:=hid hw
 clear hw
 refine QSeq.may (b:=pb95) rfl (.bool (eqb x.en y.en)) (fun E=>((Ae rfl rfl (E.sz 101 (by decide)) (E.d 96 4)).trans (Ar _))) (fun E hb=>An rfl ((E.q 98 2 hv1_98.out).1 hb) ((E.q 100 0 hv1_100.out).1 hb) (agg_guardE _ _ _ _ _ _ (by kernel_rfl) _) (EqW.run eqW_entry (ki_en HOKx.out.en) (ki_en HOKy.out.en) (en_iff HOKx.out.en HOKy.out.en) _) rfl) ?_
 intro v1_101 hw
 have hv1_101:=hid hw
 clear hw
 obtain ⟨pb102,hb102⟩:∃ b:Bool,b=(pb95 && (eqb x.en y.en)):=⟨_,rfl⟩
 have HB102:=hid hb102
 clear hb102
 refine QSeq.pure rfl (.bool pb102) (fun E=>A2 rfl (E.d 96 5) rfl rfl ((Bh fun hb=>(E.q 101 0 hv1_101.out).1 hb).trans (congrArg Value.bool HB102.out.symm))) ?_
 refine QSeq.pure rfl _ (fun E=>Ai rfl (E.d 102 0)) ?_
 refine QSeq.may (b:=pb102) rfl (.pointer (some ⟨w.heap.size,248,none⟩)) (fun E=>((Ae rfl rfl (E.sz 108 (by decide)) (E.d 103 0)).trans (Ar _))) (fun E hb=>Ad rfl Tryz.underlying61 rfl (by kernel_rfl) (E.v oe2)) ?_
 intro v1_104 hw
 have hv1_104:=hid hw
 clear hw
 refine QSeq.may (b:=pb102) rfl (.agg (xc15).toArray) (fun E=>((Ae rfl rfl (E.sz 108 (by decide)) (E.d 103 1)).trans (Ar _))) (fun E hb=>Am rfl Tryz.underlying54 rfl (off:=248) (cs:=(xc15)) (by rw [HCx15.out];kernel_rfl) ((E.q 104 0 hv1_104.out).1 hb) (Cs.seg (HB2.out.mod Cx19.out (fun h=>h)) HLNx.out 15 rfl rfl)) ?_
 intro v1_105 hw
 have hv1_105:=hid hw
 clear hw
 refine QSeq.may (b:=pb102) rfl (.pointer (some ⟨w.heap.size+1,248,none⟩)) (fun E=>((Ae rfl rfl (E.sz 108 (by decide)) (E.d 103 2)).trans (Ar _))) (fun E hb=>Ad rfl Tryz.underlying61 rfl (by kernel_rfl) (E.v oe3)) ?_
 intro v1_106 hw
 have hv1_106:=hid hw
 clear hw
 refine QSeq.may (b:=pb102) rfl (.agg (yc15).toArray) (fun E=>((Ae rfl rfl (E.sz 108 (by decide)) (E.d 103 3)).trans (Ar _))) (fun E hb=>Am rfl Tryz.underlying54 rfl (off:=248) (cs:=(yc15)) (by rw [HCy15.out];kernel_rfl) ((E.q 106 0 hv1_106.out).1 hb) (Cs.seg (HB3.out.mod Cx19.out (fun h=>h)) HLNy.out 15 rfl rfl)) ?_
 intro v1_107 hw
 have hv1_107:=hid hw
 clear hw
 refine QSeq.mayCall (b:=pb102) rfl (.bool (eqb x.op y.op)) (args:=#[.agg (xc15).toArray,.agg (yc15).toArray]) (fun E=>((Ae rfl rfl (E.sz 108 (by decide)) (E.d 103 4)).trans (Ar _))) rfl Tryz.func63 (fun E hb=>Az ((E.q 105 2 hv1_105.out).1 hb) ((E.q 107 0 hv1_107.out).1 hb)) (fun hb=>Eq_Op _ _ _ _ x.op y.op _ (Hx4.out.mod Cx19.out (fun _ _ h=>h)) (Hx12.out.mod Cx19.out (fun _ _ h=>h)) (by intro k h1;have hb:=HBR.out k h1;(try have:=hm.size);omega) (by intro k h1;have hb:=HBT.out k h1;(try have:=hm.size);omega)) ?_
 intro v1_108 u1_108 hw hm
 have hv1_108:=hid hw
 clear hw
 have zu1_108:=hm.size
 have HMu1_108:=hid hm
 have Cx20:=hid (Cx19.out.goE hm)
 clear hm Cx19
 obtain ⟨pb109,hb109⟩:∃ b:Bool,b=(pb102 && (eqb x.op y.op)):=⟨_,rfl⟩
 have HB109:=hid hb109
 clear hb109
 refine QSeq.pure rfl (.bool pb109) (fun E=>A2 rfl (E.d 103 5) rfl rfl ((Bh fun hb=>(E.q 108 0 hv1_108.out).1 hb).trans (congrArg Value.bool HB109.out.symm))) ?_
 refine QSeq.pure rfl _ (fun E=>Ai rfl (E.d 109 0)) ?_
 refine QSeq.may (b:=pb109) rfl (.pointer (some ⟨w.heap.size,282,none⟩)) (fun E=>((Ae rfl rfl (E.sz 115 (by decide)) (E.d 110 0)).trans (Ar _))) (fun E hb=>Ad rfl Tryz.underlying61 rfl (by kernel_rfl) (E.v oe2)) ?_
 intro v1_111 hw
 have hv1_111:=hid hw
 clear hw
 refine QSeq.may (b:=pb109) rfl (.agg (x.dn.cells).toArray) (fun E=>((Ae rfl rfl (E.sz 115 (by decide)) (E.d 110 1)).trans (Ar _))) (fun E hb=>Am rfl Tryz.underlying56 rfl (off:=282) (cs:=(x.dn.cells)) (by kernel_rfl) ((E.q 111 0 hv1_111.out).1 hb) (Cs.seg (HB2.out.mod Cx20.out (fun h=>h)) HLNx.out 16 rfl rfl)) ?_
 intro v1_112 hw
 have hv1_112:=hid hw
 clear hw
 refine QSeq.may (b:=pb109) rfl (.pointer (some ⟨w.heap.size+1,282,none⟩)) (fun E=>((Ae rfl rfl (E.sz 115 (by decide)) (E.d 110 2)).trans (Ar _))) (fun E hb=>Ad rfl Tryz.underlying61 rfl (by kernel_rfl) (E.v oe3)) ?_
 intro v1_113 hw
 have hv1_113:=hid hw
 clear hw
 refine QSeq.may (b:=pb109) rfl (.agg (y.dn.cells).toArray) (fun E=>((Ae rfl rfl (E.sz 115 (by decide)) (E.d 110 3)).trans (Ar _))) (fun E hb=>Am rfl Tryz.underlying56 rfl (off:=282) (cs:=(y.dn.cells)) (by kernel_rfl) ((E.q 113 0 hv1_113.out).1 hb) (Cs.seg (HB3.out.mod Cx20.out (fun h=>h)) HLNy.out 16 rfl rfl)) ?_
 intro v1_114 hw
 have hv1_114:=hid hw
 clear hw
 refine QSeq.may (b:=pb109) rfl (.bool (eqb x.dn y.dn)) (fun E=>((Ae rfl rfl (E.sz 115 (by decide)) (E.d 110 4)).trans (Ar _))) (fun E hb=>An rfl ((E.q 112 2 hv1_112.out).1 hb) ((E.q 114 0 hv1_114.out).1 hb) (agg_guardE _ _ _ _ _ _ (by kernel_rfl) _) (EqW.run eqW_deny (ki_dn _) (ki_dn _) (dn_iff HOKx.out.dn HOKy.out.dn) _) rfl) ?_
 intro v1_115 hw
 have hv1_115:=hid hw
 clear hw
 obtain ⟨pb116,hb116⟩:∃ b:Bool,b=(pb109 && (eqb x.dn y.dn)):=⟨_,rfl⟩
 have HB116:=hid hb116
 clear hb116
 refine QSeq.pure rfl (.bool pb116) (fun E=>A2 rfl (E.d 110 5) rfl rfl ((Bh fun hb=>(E.q 115 0 hv1_115.out).1 hb).trans (congrArg Value.bool HB116.out.symm))) ?_
 refine QSeq.pure rfl _ (fun E=>Ai rfl (E.d 116 0)) ?_
 refine QSeq.may (b:=pb116) rfl (.pointer (some ⟨w.heap.size,286,none⟩)) (fun E=>((Ae rfl rfl (E.sz 122 (by decide)) (E.d 117 0)).trans (Ar _))) (fun E hb=>Ad rfl Tryz.underlying61 rfl (by kernel_rfl) (E.v oe2)) ?_
 intro v1_118 hw
 have hv1_118:=hid hw
 clear hw
 refine QSeq.may (b:=pb116) rfl (.string x.rp) (fun E=>((Ae rfl rfl (E.sz 122 (by decide)) (E.d 117 1)).trans (Ar _))) (fun E hb=>Aj rfl Tryz.underlying9 rfl ((E.q 118 0 hv1_118.out).1 hb) (Cs.seg1 (HB2.out.mod Cx20.out (fun h=>h)) HLNx.out 17 rfl (o:=286) (k:=0) rfl rfl rfl)) ?_
 intro v1_119 hw
 have hv1_119:=hid hw
 clear hw
 refine QSeq.may (b:=pb116) rfl (.pointer (some ⟨w.heap.size+1,286,none⟩)) (fun E=>((Ae rfl rfl (E.sz 122 (by decide)) (E.d 117 2)).trans (Ar _))) (fun E hb=>Ad rfl Tryz.underlying61 rfl (by kernel_rfl) (E.v oe3)) ?_
 intro v1_120 hw
 have hv1_120:=hid hw
 clear hw
 refine QSeq.may (b:=pb116) rfl (.string y.rp) (fun E=>((Ae rfl rfl (E.sz 122 (by decide)) (E.d 117 3)).trans (Ar _))) (fun E hb=>Aj rfl Tryz.underlying9 rfl ((E.q 120 0 hv1_120.out).1 hb) (Cs.seg1 (HB3.out.mod Cx20.out (fun h=>h)) HLNy.out 17 rfl (o:=286) (k:=0) rfl rfl rfl)) ?_
 intro v1_121 hw
 have hv1_121:=hid hw
 clear hw
 refine QSeq.may (b:=pb116) rfl (.bool (eqb x.rp y.rp)) (fun E=>((Ae rfl rfl (E.sz 122 (by decide)) (E.d 117 4)).trans (Ar _))) (fun E hb=>An rfl ((E.q 119 2 hv1_119.out).1 hb) ((E.q 121 0 hv1_121.out).1 hb) (guard_strE _) (run_eql_strE _) rfl) ?_
 intro v1_122 hw
 have hv1_122:=hid hw
 clear hw
 obtain ⟨pb123,hb123⟩:∃ b:Bool,b=(pb116 && (eqb x.rp y.rp)):=⟨_,rfl⟩
 have HB123:=hid hb123
 clear hb123
 refine QSeq.pure rfl (.bool pb123) (fun E=>A2 rfl (E.d 117 5) rfl rfl ((Bh fun hb=>(E.q 122 0 hv1_122.out).1 hb).trans (congrArg Value.bool HB123.out.symm))) ?_
 refine QSeq.pure rfl _ (fun E=>Ai rfl (E.d 123 0)) ?_
 refine QSeq.may (b:=pb123) rfl (.pointer (some ⟨w.heap.size,287,none⟩)) (fun E=>((Ae rfl rfl (E.sz 129 (by decide)) (E.d 124 0)).trans (Ar _))) (fun E hb=>Ad rfl Tryz.underlying61 rfl (by kernel_rfl) (E.v oe2)) ?_
 intro v1_125 hw
 have hv1_125:=hid hw
 clear hw
 refine QSeq.may (b:=pb123) rfl (.pointer (some ⟨w.heap.size,287,none⟩)) (fun E=>((Ae rfl rfl (E.sz 129 (by decide)) (E.d 124 1)).trans (Ar _))) (fun E hb=>Ad rfl Tryz.underlying59 rfl (by kernel_rfl) ((E.q 125 0 hv1_125.out).1 hb)) ?_
 intro v1_126 hw
 have hv1_126:=hid hw
 clear hw
 refine QSeq.may (b:=pb123) rfl (.int .i64 x.dc.ep) (fun E=>((Ae rfl rfl (E.sz 129 (by decide)) (E.d 124 2)).trans (Ar _))) (fun E hb=>Aj rfl Tryz.underlying3 rfl ((E.q 126 0 hv1_126.out).1 hb) (Cs.seg1 (HB2.out.mod Cx20.out (fun h=>h)) HLNx.out 18 rfl (o:=287) (k:=0) rfl rfl rfl)) ?_
 intro v1_127 hw
 have hv1_127:=hid hw
 clear hw
 refine QSeq.may (b:=pb123) rfl (.pointer (some ⟨w.heap.size+1,287,none⟩)) (fun E=>((Ae rfl rfl (E.sz 129 (by decide)) (E.d 124 3)).trans (Ar _))) (fun E hb=>Ad rfl Tryz.underlying61 rfl (by kernel_rfl) (E.v oe3)) ?_
 intro v1_128 hw
 have hv1_128:=hid hw
 clear hw
 refine QSeq.may (b:=pb123) rfl (.pointer (some ⟨w.heap.size+1,287,none⟩)) (fun E=>((Ae rfl rfl (E.sz 129 (by decide)) (E.d 124 4)).trans (Ar _))) (fun E hb=>Ad rfl Tryz.underlying59 rfl (by kernel_rfl) ((E.q 128 0 hv1_128.out).1 hb)) ?_
 intro v1_129 hw
 have hv1_129:=hid hw
 clear hw
 refine QSeq.may (b:=pb123) rfl (.int .i64 y.dc.ep) (fun E=>((Ae rfl rfl (E.sz 129 (by decide)) (E.d 124 5)).trans (Ar _))) (fun E hb=>Aj rfl Tryz.underlying3 rfl ((E.q 129 0 hv1_129.out).1 hb) (Cs.seg1 (HB3.out.mod Cx20.out (fun h=>h)) HLNy.out 18 rfl (o:=287) (k:=0) rfl rfl rfl)) ?_
 intro v1_130 hw
 have hv1_130:=hid hw
 clear hw
 refine QSeq.may (b:=pb123) rfl (.bool (x.dc.ep == y.dc.ep)) (fun E=>((Ae rfl rfl (E.sz 129 (by decide)) (E.d 124 6)).trans (Ar _))) (fun E hb=>ex_bin rfl ((E.q 127 3 hv1_127.out).1 hb) ((E.q 130 0 hv1_130.out).1 hb) (Ag _ _ _ _ _ _) (Al _ _ _ Tryz.underlying3)) ?_
 intro v1_131 hw
 have hv1_131:=hid hw
 clear hw
 obtain ⟨pb132,hb132⟩:∃ b:Bool,b=(pb123 && (x.dc.ep == y.dc.ep)):=⟨_,rfl⟩
 have HB132:=hid hb132
 clear hb132
 refine QSeq.pure rfl (.bool pb132) (fun E=>A2 rfl (E.d 124 7) rfl rfl ((Bh fun hb=>(E.q 131 0 hv1_131.out).1 hb).trans (congrArg Value.bool HB132.out.symm))) ?_
 refine QSeq.pure rfl _ (fun E=>Ai rfl (E.d 132 0)) ?_
 refine QSeq.may (b:=pb132) rfl (.pointer (some ⟨w.heap.size,287,none⟩)) (fun E=>((Ae rfl rfl (E.sz 138 (by decide)) (E.d 133 0)).trans (Ar _))) (fun E hb=>Ad rfl Tryz.underlying61 rfl (by kernel_rfl) (E.v oe2)) ?_
 intro v1_134 hw
 have hv1_134:=hid hw
 clear hw
 refine QSeq.may (b:=pb132) rfl (.pointer (some ⟨w.heap.size,288,none⟩)) (fun E=>((Ae rfl rfl (E.sz 138 (by decide)) (E.d 133 1)).trans (Ar _))) (fun E hb=>Ad rfl Tryz.underlying59 rfl (by kernel_rfl) ((E.q 134 0 hv1_134.out).1 hb)) ?_
 intro v1_135 hw
 have hv1_135:=hid hw
 clear hw
 refine QSeq.may (b:=pb132) rfl (.int .i64 x.dc.rn) (fun E=>((Ae rfl rfl (E.sz 138 (by decide)) (E.d 133 2)).trans (Ar _))) (fun E hb=>Aj rfl Tryz.underlying3 rfl ((E.q 135 0 hv1_135.out).1 hb) (Cs.seg1 (HB2.out.mod Cx20.out (fun h=>h)) HLNx.out 18 rfl (o:=287) (k:=1) rfl rfl rfl)) ?_
 intro v1_136 hw
 have hv1_136:=hid hw
 clear hw
 refine QSeq.may (b:=pb132) rfl (.pointer (some ⟨w.heap.size+1,287,none⟩)) (fun E=>((Ae rfl rfl (E.sz 138 (by decide)) (E.d 133 3)).trans (Ar _))) (fun E hb=>Ad rfl Tryz.underlying61 rfl (by kernel_rfl) (E.v oe3)) ?_
 intro v1_137 hw
 have hv1_137:=hid hw
 clear hw
 refine QSeq.may (b:=pb132) rfl (.pointer (some ⟨w.heap.size+1,288,none⟩)) (fun E=>((Ae rfl rfl (E.sz 138 (by decide)) (E.d 133 4)).trans (Ar _))) (fun E hb=>Ad rfl Tryz.underlying59 rfl (by kernel_rfl) ((E.q 137 0 hv1_137.out).1 hb)) ?_
 intro v1_138 hw
 have hv1_138:=hid hw
 clear hw
 refine QSeq.may (b:=pb132) rfl (.int .i64 y.dc.rn) (fun E=>((Ae rfl rfl (E.sz 138 (by decide)) (E.d 133 5)).trans (Ar _))) (fun E hb=>Aj rfl Tryz.underlying3 rfl ((E.q 138 0 hv1_138.out).1 hb) (Cs.seg1 (HB3.out.mod Cx20.out (fun h=>h)) HLNy.out 18 rfl (o:=287) (k:=1) rfl rfl rfl)) ?_
 intro v1_139 hw
 have hv1_139:=hid hw
 clear hw
 refine QSeq.may (b:=pb132) rfl (.bool (x.dc.rn == y.dc.rn)) (fun E=>((Ae rfl rfl (E.sz 138 (by decide)) (E.d 133 6)).trans (Ar _))) (fun E hb=>ex_bin rfl ((E.q 136 3 hv1_136.out).1 hb) ((E.q 139 0 hv1_139.out).1 hb) (Ag _ _ _ _ _ _) (Al _ _ _ Tryz.underlying3)) ?_
 intro v1_140 hw
 have hv1_140:=hid hw
 clear hw
 obtain ⟨pb141,hb141⟩:∃ b:Bool,b=(pb132 && (x.dc.rn == y.dc.rn)):=⟨_,rfl⟩
 have HB141:=hid hb141
 clear hb141
 refine QSeq.pure rfl (.bool pb141) (fun E=>A2 rfl (E.d 133 7) rfl rfl ((Bh fun hb=>(E.q 140 0 hv1_140.out).1 hb).trans (congrArg Value.bool HB141.out.symm))) ?_
 refine QSeq.pure rfl _ (fun E=>Ai rfl (E.d 141 0)) ?_
 refine QSeq.may (b:=pb141) rfl (.pointer (some ⟨w.heap.size,287,none⟩)) (fun E=>((Ae rfl rfl (E.sz 147 (by decide)) (E.d 142 0)).trans (Ar _))) (fun E hb=>Ad rfl Tryz.underlying61 rfl (by kernel_rfl) (E.v oe2)) ?_
 intro v1_143 hw
 have hv1_143:=hid hw
 clear hw
 refine QSeq.may (b:=pb141) rfl (.pointer (some ⟨w.heap.size,289,none⟩)) (fun E=>((Ae rfl rfl (E.sz 147 (by decide)) (E.d 142 1)).trans (Ar _))) (fun E hb=>Ad rfl Tryz.underlying59 rfl (by kernel_rfl) ((E.q 143 0 hv1_143.out).1 hb)) ?_
 intro v1_144 hw
 have hv1_144:=hid hw
 clear hw
 refine QSeq.may (b:=pb141) rfl (.agg #[.int .i64 x.dc.ba.ep,.int .u64 (x.dc.ba.tm:Nat),Value.slice axdp x.dc.ba.ps.length kxdp,Value.slice axdo x.dc.ba.os.length kxdo,Value.slice axdt x.dc.ba.ts.length kxdt]) (fun E=>((Ae rfl rfl (E.sz 147 (by decide)) (E.d 142 2)).trans (Ar _))) (fun E hb=>Am rfl Tryz.underlying45 rfl (off:=289) (cs:=[.int .i64 x.dc.ba.ep,.int .u64 (x.dc.ba.tm:Nat),Value.slice axdp x.dc.ba.ps.length kxdp,Value.slice axdo x.dc.ba.os.length kxdo,Value.slice axdt x.dc.ba.ts.length kxdt]) (by kernel_rfl) ((E.q 144 0 hv1_144.out).1 hb) (Cs.segA (HB2.out.mod Cx20.out (fun h=>h)) HLNx.out 18 rfl (o:=287) (k:=2) rfl rfl rfl)) ?_
 intro v1_145 hw
 have hv1_145:=hid hw
 clear hw
 refine QSeq.may (b:=pb141) rfl (.pointer (some ⟨w.heap.size+1,287,none⟩)) (fun E=>((Ae rfl rfl (E.sz 147 (by decide)) (E.d 142 3)).trans (Ar _))) (fun E hb=>Ad rfl Tryz.underlying61 rfl (by kernel_rfl) (E.v oe3)) ?_
 intro v1_146 hw
 have hv1_146:=hid hw
 clear hw
 refine QSeq.may (b:=pb141) rfl (.pointer (some ⟨w.heap.size+1,289,none⟩)) (fun E=>((Ae rfl rfl (E.sz 147 (by decide)) (E.d 142 4)).trans (Ar _))) (fun E hb=>Ad rfl Tryz.underlying59 rfl (by kernel_rfl) ((E.q 146 0 hv1_146.out).1 hb)) ?_
 intro v1_147 hw
 have hv1_147:=hid hw
 clear hw
 refine QSeq.may (b:=pb141) rfl (.agg #[.int .i64 y.dc.ba.ep,.int .u64 (y.dc.ba.tm:Nat),Value.slice aydp y.dc.ba.ps.length kydp,Value.slice aydo y.dc.ba.os.length kydo,Value.slice aydt y.dc.ba.ts.length kydt]) (fun E=>((Ae rfl rfl (E.sz 147 (by decide)) (E.d 142 5)).trans (Ar _))) (fun E hb=>Am rfl Tryz.underlying45 rfl (off:=289) (cs:=[.int .i64 y.dc.ba.ep,.int .u64 (y.dc.ba.tm:Nat),Value.slice aydp y.dc.ba.ps.length kydp,Value.slice aydo y.dc.ba.os.length kydo,Value.slice aydt y.dc.ba.ts.length kydt]) (by kernel_rfl) ((E.q 147 0 hv1_147.out).1 hb) (Cs.segA (HB3.out.mod Cx20.out (fun h=>h)) HLNy.out 18 rfl (o:=287) (k:=2) rfl rfl rfl)) ?_
 intro v1_148 hw
 have hv1_148:=hid hw
 clear hw
 refine QSeq.mayCall (b:=pb141) rfl (.bool (eqb x.dc.ba y.dc.ba)) (args:=#[.agg #[.int .i64 x.dc.ba.ep,.int .u64 (x.dc.ba.tm:Nat),Value.slice axdp x.dc.ba.ps.length kxdp,Value.slice axdo x.dc.ba.os.length kxdo,Value.slice axdt x.dc.ba.ts.length kxdt],.agg #[.int .i64 y.dc.ba.ep,.int .u64 (y.dc.ba.tm:Nat),Value.slice aydp y.dc.ba.ps.length kydp,Value.slice aydo y.dc.ba.os.length kydo,Value.slice aydt y.dc.ba.ts.length kydt]]) (fun E=>((Ae rfl rfl (E.sz 147 (by decide)) (E.d 142 6)).trans (Ar _))) rfl Tryz.func64 (fun E hb=>Az ((E.q 145 3 hv1_145.out).1 hb) ((E.q 148 0 hv1_148.out).1 hb)) (fun hb=>Eq_Ba R R2 _ _ x.dc.ba y.dc.ba _ ⟨_,_,_,rfl,HODx.out.2.2,(Hx5.out.mod Cx20.out (fun _ _ h=>h)),(Hx6.out.mod Cx20.out (fun _ _ h=>h)),(Hx7.out.mod Cx20.out (fun _ _ h=>h))⟩ ⟨_,_,_,rfl,HODy.out.2.2,(Hx13.out.mod Cx20.out (fun _ _ h=>h)),(Hx14.out.mod Cx20.out (fun _ _ h=>h)),(Hx15.out.mod Cx20.out (fun _ _ h=>h))⟩ (by intro k h1;have hb:=HBR.out k h1;(try have:=hm.size);omega) (by intro k h1;have hb:=HBT.out k h1;(try have:=hm.size);omega)) ?_
 intro v1_149 u1_149 hw hm
 have hv1_149:=hid hw
 clear hw
 have zu1_149:=hm.size
 have HMu1_149:=hid hm
 have Cx21:=hid (Cx20.out.goE hm)
 clear hm Cx20
 obtain ⟨pb150,hb150⟩:∃ b:Bool,b=(pb141 && (eqb x.dc.ba y.dc.ba)):=⟨_,rfl⟩
 have HB150:=hid hb150
 clear hb150
 refine QSeq.pure rfl (.bool pb150) (fun E=>A2 rfl (E.d 142 7) rfl rfl ((Bh fun hb=>(E.q 149 0 hv1_149.out).1 hb).trans (congrArg Value.bool HB150.out.symm))) ?_
 refine QSeq.pure rfl _ (fun E=>Ai rfl (E.d 150 0)) ?_
 refine QSeq.may (b:=pb150) rfl (.pointer (some ⟨w.heap.size,287,none⟩)) (fun E=>((Ae rfl rfl (E.sz 156 (by decide)) (E.d 151 0)).trans (Ar _))) (fun E hb=>Ad rfl Tryz.underlying61 rfl (by kernel_rfl) (E.v oe2)) ?_
 intro v1_152 hw
 have hv1_152:=hid hw
 clear hw
 refine QSeq.may (b:=pb150) rfl (.pointer (some ⟨w.heap.size,294,none⟩)) (fun E=>((Ae rfl rfl (E.sz 156 (by decide)) (E.d 151 1)).trans (Ar _))) (fun E hb=>Ad rfl Tryz.underlying59 rfl (by kernel_rfl) ((E.q 152 0 hv1_152.out).1 hb)) ?_
 intro v1_153 hw
 have hv1_153:=hid hw
 clear hw
 refine QSeq.may (b:=pb150) rfl (.slice axdl x.dc.l.length kxdl) (fun E=>((Ae rfl rfl (E.sz 156 (by decide)) (E.d 151 2)).trans (Ar _))) (fun E hb=>Aj rfl Tryz.underlying57 rfl ((E.q 153 0 hv1_153.out).1 hb) (Cs.seg1 (HB2.out.mod Cx21.out (fun h=>h)) HLNx.out 18 rfl (o:=287) (k:=7) rfl rfl rfl)) ?_
 intro v1_154 hw
 have hv1_154:=hid hw
 clear hw
 refine QSeq.may (b:=pb150) rfl (.pointer (some ⟨w.heap.size+1,287,none⟩)) (fun E=>((Ae rfl rfl (E.sz 156 (by decide)) (E.d 151 3)).trans (Ar _))) (fun E hb=>Ad rfl Tryz.underlying61 rfl (by kernel_rfl) (E.v oe3)) ?_
 intro v1_155 hw
 have hv1_155:=hid hw
 clear hw
 refine QSeq.may (b:=pb150) rfl (.pointer (some ⟨w.heap.size+1,294,none⟩)) (fun E=>((Ae rfl rfl (E.sz 156 (by decide)) (E.d 151 4)).trans (Ar _))) (fun E hb=>Ad rfl Tryz.underlying59 rfl (by kernel_rfl) ((E.q 155 0 hv1_155.out).1 hb)) ?_
 intro v1_156 hw
 have hv1_156:=hid hw
 clear hw
 refine QSeq.may (b:=pb150) rfl (.slice aydl y.dc.l.length kydl) (fun E=>((Ae rfl rfl (E.sz 156 (by decide)) (E.d 151 5)).trans (Ar _))) (fun E hb=>Aj rfl Tryz.underlying57 rfl ((E.q 156 0 hv1_156.out).1 hb) (Cs.seg1 (HB3.out.mod Cx21.out (fun h=>h)) HLNy.out 18 rfl (o:=287) (k:=7) rfl rfl rfl)) ?_
 intro v1_157 hw
 have hv1_157:=hid hw
 clear hw
 refine QSeq.mayCall (b:=pb150) rfl (.bool (eqb x.dc.l y.dc.l)) (args:=#[.slice axdl x.dc.l.length kxdl,.slice aydl y.dc.l.length kydl]) (fun E=>((Ae rfl rfl (E.sz 156 (by decide)) (E.d 151 6)).trans (Ar _))) rfl Tryz.func65 (fun E hb=>Az ((E.q 154 3 hv1_154.out).1 hb) ((E.q 157 0 hv1_157.out).1 hb)) (fun hb=>EqL_Vt _ _ _ _ _ _ _ (Hx8.out.mod Cx21.out (fun _ _ h=>h)) (Hx16.out.mod Cx21.out (fun _ _ h=>h)) (by intro k h1;have hb:=HBR.out k h1;(try have:=hm.size);omega) (by intro k h1;have hb:=HBT.out k h1;(try have:=hm.size);omega)) ?_
 intro v1_158 u1_158 hw hm
 have hv1_158:=hid hw
 clear hw
 have zu1_158:=hm.size
 have HMu1_158:=hid hm
 have Cx22:=hid (Cx21.out.goE hm)
 clear hm Cx21
 obtain ⟨pb159,hb159⟩:∃ b:Bool,b=(pb150 && (eqb x.dc.l y.dc.l)):=⟨_,rfl⟩
 have HB159:=hid hb159
 clear hb159
 refine QSeq.pure rfl (.bool pb159) (fun E=>A2 rfl (E.d 151 7) rfl rfl ((Bh fun hb=>(E.q 158 0 hv1_158.out).1 hb).trans (congrArg Value.bool HB159.out.symm))) ?_
 refine QSeq.pure rfl _ (fun E=>Af rfl (E.d 159 0)) ?_
 clear HMu1_73 HMu1_80 HMu1_108 HMu1_149 HMu1_158 hv1_6 hv1_7 hv1_8 hv1_9 hv1_10 hv1_13 hv1_14 hv1_15 hv1_16 hv1_17 hv1_20 hv1_21 hv1_22 hv1_23 hv1_24 hv1_27 hv1_28 hv1_29 hv1_30 hv1_31 hv1_34 hv1_35 hv1_36 hv1_37 hv1_38 hv1_41 hv1_42 hv1_43 hv1_44 hv1_45 hv1_48 hv1_49 hv1_50 hv1_51 hv1_52 hv1_55 hv1_56 hv1_57 hv1_58 hv1_59 hv1_62 hv1_63 hv1_64 hv1_65 hv1_66 hv1_69 hv1_70 hv1_71 hv1_72 hv1_73 hv1_76 hv1_77 hv1_78 hv1_79 hv1_80 hv1_83 hv1_84 hv1_85 hv1_86 hv1_87 hv1_90 hv1_91 hv1_92 hv1_93 hv1_94 hv1_97 hv1_98 hv1_99 hv1_100 hv1_101 hv1_104 hv1_105 hv1_106 hv1_107 hv1_108 hv1_111 hv1_112 hv1_113 hv1_114 hv1_115 hv1_118 hv1_119 hv1_120 hv1_121 hv1_122 hv1_125 hv1_126 hv1_127 hv1_128 hv1_129 hv1_130 hv1_131 hv1_134 hv1_135 hv1_136 hv1_137 hv1_138 hv1_139 hv1_140 hv1_143 hv1_144 hv1_145 hv1_146 hv1_147 hv1_148 hv1_149 hv1_152 hv1_153 hv1_154 hv1_155 hv1_156 hv1_157 hv1_158
 refine QSeq.nil (t':=[_,_,_,_,_,_,_,_,_,_,_,_,_,_,_,_,_,_,_,_,_,_,_,_,_,_,_,_,_,_,_,_,_,_,_,_,_,_,_,_,_,_,_,_,_,_,_,_,_,_,_,_,_,_,_,_,_,_,_,_,_,_,_,_,_,_,_,_,_,_,_,_,_,_,_,_,_,_,_,_,_,_,_,_,_,_,_,_,_,_,_,_,_,_,_,_,_,_,_,_,_,_,_,_,_,_,_,_,_,_,_,_,_,_,_,_,_,_,_,_,_,_,_,_,_,_,_,_,_,_,_,_,_,_,_,_,_,_,_,_,_,_,_,_,_,_,_,_,_,_,_,_,_,_,_,_,_,_,_,_,_]) rfl ?_
 obtain rfl:=HA0.out
 clear HA0 oe2 oe3
 simp only [pz,Act.put,sIB,sCZ,sCS]
 go_wp2
 go_ret
 exact ⟨Bm (by rw [HB159.out,HB150.out,HB141.out,HB132.out,HB123.out,HB116.out,HB109.out,HB102.out,HB95.out,HB88.out,HB81.out,HB74.out,HB67.out,HB60.out,HB53.out,HB46.out,HB39.out,HB32.out,HB25.out,HB18.out,HB11.out];exact mg_eqb x y),(HM0.out.trans Cx22.out (fun _ _ h=>h.elim))⟩
end Go.Proofs.YtnaoeginonpicaaGreat

/- gavelref01.Only. -/
namespace Go.Proofs.YtnaoeginonpicaaGreat
open Go Go.RowKit Go.Gv
set_option maxHeartbeats 8000000 in
theorem RefOnly_Q:∀ (R2:Nat→Prop) (x:Mg) (cs:List Value) (w:World),MgR.rd R2 w cs x→(∀ k,R2 k→k < w.heap.size)→
 Calls Tryz.prog 19 #[.agg cs.toArray] w fun e w'=>∃ cs',e=.returned (.agg cs'.toArray)∧MgR.rd R2 w' cs' (Bf x)∧Mod (fun _=>False) w w':=by
 intro R2 x cs w hx hB2
 obtain ⟨c5,c10,c11,c15,c18,rfl,hok,h5,h10,h11,h15,h18⟩:=hx
 have HLN:=hid (Mg.lns hok h5 h10 h11 h15 h18)
 have HC5:=hid (CeR.len h5)
 have HO5:=hid (CeR.one h5)
 have H5:=Lib.hid h5
 have HC10:=hid (PmR.len h10)
 have HO10:=hid (PmR.one h10)
 have H10:=Lib.hid h10
 have HC11:=hid (PrR.len h11)
 have HO11:=hid (PrR.one h11)
 have H11:=Lib.hid h11
 have HC15:=hid (OpR.len h15)
 have HO15:=hid (OpR.one h15)
 have H15:=Lib.hid h15
 have HC18:=hid (DcR.len h18)
 have HO18:=hid (DcR.one h18)
 have H18:=Lib.hid h18
 have HBT:=Lib.hid hB2
 have HOK:=Lib.hid hok
 clear hB2 hok h5 h10 h11 h15 h18
 have HZL:=hid (show (Mg.segs (mg0 x.kd x.fr x.to) (zCe.cells zS) (zPm.cells zS) (zPr.cells zS zS zS) (zOp.cells zS) (zDc.cells zS zS zS zS)).map List.length=mgN from rfl)
 have HZK:=hid (show Mg.OK (mg0 x.kd x.fr x.to) from { zMg_OK with kd:=HOK.out.kd,fr:=HOK.out.fr,«to»:=HOK.out.to })
 have HO0:=hid (MgR.one (mg0_rd HOK.out.kd HOK.out.fr HOK.out.to (fun _=>False) w))
 have HZO:=hid (MgR.one (mg0_rd (k:=0) (f:=0) (t:=0) A4 A4 A4 (fun _=>False) w))
 go_enter Tryz.func19,Tryz.ntmps19
 go_upto_region 1 with (fail)
 obtain ⟨w1,hw1⟩:∃ zz,zz=((w.alloc (.cells ((x.segs c5 c10 c11 c15 c18).flatten:List Value).toArray 61)).alloc (.cells ((mg0C 0 0 0):List Value).toArray 61)):=⟨_,rfl⟩
 change Code.wp _ _ _ _ ((w.alloc (.cells ((x.segs c5 c10 c11 c15 c18).flatten:List Value).toArray 61)).alloc (.cells ((mg0C 0 0 0):List Value).toArray 61))
 rw [← hw1]
 have HB1:=hid (show Cs w1 (w.heap.size) ((x.segs c5 c10 c11 c15 c18).flatten:List Value).toArray 61 by rw [hw1];exact (Cs.new _ _ _).alloc _)
 have HB2:=hid (show Cs w1 (w.heap.size+1) ((mg0C 0 0 0):List Value).toArray 61 by rw [hw1];exact Cs_newN _ _ _ (by simp))
 have hm:Mod (fun _=>False) w w1:=by rw [hw1];exact ((Mod.refl _ _).alloc _).alloc _
 have HM0:=hid (show Mod (fun _=>False) w w1 from hm.mono (fun _ _ h=>h.elim))
 have hs1:w1.heap.size=w.heap.size+2:=by rw [hw1];simp
 have Hx1:=hid (H5.out.mod hm (fun _ _ h=>h))
 clear H5
 have Hx2:=hid (H10.out.mod hm (fun _ _ h=>h))
 clear H10
 have Hx3:=hid (H11.out.mod hm (fun _ _ h=>h))
 clear H11
 have Hx4:=hid (H15.out.mod hm (fun _ _ h=>h))
 clear H15
 have Hx5:=hid (H18.out.mod hm (fun _ _ h=>h))
 clear H18
 clear hw1 hm
 go_upto_region 1 with (fail)
 refine Aa 97 [4,5,6,7,8,9,10,3,105] [0,1,2,3,4,5,6,7,8] (fun a0 HA0=>?_)
 have oe1:=ev HA0 1 rfl
 refine QSeq.pure rfl (.pointer (some ⟨w.heap.size,0,none⟩)) (fun E=>Ad rfl Tryz.underlying61 rfl (by kernel_rfl) (E.v oe1)) ?_
 refine QSeq.pure rfl (.int .i64 x.kd) (fun E=>Aj rfl Tryz.underlying3 rfl (E.d 0 0) (Cs.seg1 HB1.out HLN.out 0 rfl (o:=0) (k:=0) rfl rfl rfl)) ?_
 refine QSeq.pure rfl (.pointer (some ⟨w.heap.size,1,none⟩)) (fun E=>Ad rfl Tryz.underlying61 rfl (by kernel_rfl) (E.v oe1)) ?_
 refine QSeq.pure rfl (.int .i64 x.fr) (fun E=>Aj rfl Tryz.underlying3 rfl (E.d 2 0) (Cs.seg1 HB1.out HLN.out 1 rfl (o:=1) (k:=0) rfl rfl rfl)) ?_
 refine QSeq.pure rfl (.pointer (some ⟨w.heap.size,2,none⟩)) (fun E=>Ad rfl Tryz.underlying61 rfl (by kernel_rfl) (E.v oe1)) ?_
 refine QSeq.pure rfl (.int .i64 x.to) (fun E=>Aj rfl Tryz.underlying3 rfl (E.d 4 0) (Cs.seg1 HB1.out HLN.out 2 rfl (o:=2) (k:=0) rfl rfl rfl)) ?_
 refine QSeq.go fun act E=>?_
 refine qc_run rfl (Ac rfl) (v:=.agg ((mg0C x.kd x.fr x.to):List Value).toArray) (ex_build rfl (z:=(mg0C 0 0 0)) (places:=[(0,1),(1,1),(2,1),(3,37),(40,38),(78,38),(116,38),(154,1),(155,1),(156,1),(157,6),(163,11),(174,38),(212,1),(213,35),(248,34),(282,4),(286,1),(287,8)]) (by kernel_rfl) (parts:=[(0,.int .i64 x.kd),(1,.int .i64 x.fr),(2,.int .i64 x.to)]) (by simp only [List.map_toArray,List.map_cons,List.map_nil,show act.eval (.tmp 5)=.int .i64 x.kd from (E.d 1 4),show act.eval (.tmp 7)=.int .i64 x.fr from (E.d 3 2),show act.eval (.tmp 9)=.int .i64 x.to from (E.d 5 0)];try rfl) (r:=(mg0C x.kd x.fr x.to)) (by exact (laid_segs (ns:=mgN) rfl [(0,.int .i64 x.kd),(1,.int .i64 x.fr),(2,.int .i64 x.to)] (zMg.segs (zCe.cells zS) (zPm.cells zS) (zPr.cells zS zS zS) (zOp.cells zS) (zDc.cells zS zS zS zS)) rfl ⟨rfl,rfl,rfl,trivial⟩).trans rfl)) ?_
 clear act E
 refine QSeq.go fun act E=>?_
 refine qc_alloc rfl (Ac rfl) rfl (z:=(mg0C 0 0 0)) (by kernel_rfl) ?_
 intro u1_7 qb5 hm
 have zl1_7:=qb5.lt
 have Hx6:=hid qb5
 have zu1_7:=hm.size
 have Cx7:=hid (show Mod (fun _=>False) w1 u1_7 from hm)
 clear hm
 clear act E qb5
 refine QSeq.go fun act E=>?_
 have hlz:((mg0C x.kd x.fr x.to)).length=List.length ((mg0C 0 0 0):List Value):=rfl
 refine Aq rfl (Ac rfl) rfl Hx6.out (off:=0) (vs:=(mg0C x.kd x.fr x.to)) (by rw [hlz];kernel_rfl) HO0.out (by rw [hlz];exact Nat.le_of_eq (Nat.zero_add _)) (E.d 7 0) (ec (E.d 6 1)) ?_
 intro u1_8 qc0 hm
 have qb5:=qc0.eqv (b:=((mg0C x.kd x.fr x.to):List Value).toArray) (A5 (((mg0C 0 0 0):List Value).toArray) _ (by rw [hlz];rfl))
 clear qc0 hlz
 have Hx8:=hid qb5
 have zu1_8:=hm.size
 have HMu1_8:=hid hm
 have Cx9:=hid (Mod.goS (S':=(fun _=>False)) Cx7.out hm (fun _ h=>h) (by intro k h0 h2;omega))
 clear hm Cx7
 clear act E qb5 Hx6
 clear HMu1_8
 refine QSeq.nil (t':=[_,_,_,_,_,_,_,_,_]) rfl ?_
 obtain rfl:=HA0.out
 clear HA0 oe1
 simp only [pz,Act.put,sIB,sCZ,sCS,List.set_nil]
 go_upto_region 2 with (fail)
 refine Aa 97 [11,12] [0,1] (fun a0 HA0=>?_)
 have oe1:=ev HA0 1 rfl
 refine QSeq.pure rfl (.pointer (some ⟨w.heap.size,0,none⟩)) (fun E=>Ad rfl Tryz.underlying61 rfl (by kernel_rfl) (E.v oe1)) ?_
 refine QSeq.pure rfl (.int .i64 x.kd) (fun E=>Aj rfl Tryz.underlying3 rfl (E.d 0 0) (Cs.seg1 (HB1.out.mod Cx9.out (fun h=>h)) HLN.out 0 rfl (o:=0) (k:=0) rfl rfl rfl)) ?_
 refine QSeq.nil (t':=[_,_]) rfl ?_
 obtain rfl:=HA0.out
 clear HA0 oe1
 simp only [pz,Act.put,sIB,sCZ,sCS]
 go_upto_block 0 with (fail)
 go_cut [3] from 14 (fun t3 w'=>t3=.pointer (some ⟨w1.heap.size,0,none⟩)∧∃ (y:Mg) (cy:List Value),y=Bf x∧Cs w' (w1.heap.size) cy.toArray 61∧MgR.rd R2 w' cy y∧Mod (fun k=>k=w1.heap.size) u1_8 w')
 case first=>
  have hmz:=hid (Mod.refl (fun k=>k=w1.heap.size) u1_8)
  by_cases h1:x.kd=1
  ·have KK:=Lib.hid h1
   clear h1
   go_upto_region 4 with (fail)
   refine Aa 97 [15,14] [0,1] (fun a0 HA0=>?_)
   have oe12:=ev HA0 12 rfl
   refine QSeq.pure rfl (.bool true) (fun E=>An rfl (E.v oe12) rfl (Ag _ _ _ _ _ _) (Al _ _ _ Tryz.underlying3) (congrArg Value.bool (Bi KK.out))) ?_
   refine QSeq.pure rfl _ (fun E=>Af rfl (E.d 0 0)) ?_
   refine QSeq.nil (t':=[_,_]) rfl ?_
   obtain rfl:=HA0.out
   clear HA0 oe12
   simp only [pz,Act.put,sIB,sCZ,sCS]
   have HE:=hid (show Bf x=({ mg0 x.kd x.fr x.to with cm:=x.cm }:Mg) by unfold Bf;rw [if_pos KK.out]<;>rfl)
   go_upto_region 5 with (fail)
   refine Aa 97 [16,17,18,100] [0,1,2,3] (fun a0 HA0=>?_)
   have oe1:=ev HA0 1 rfl
   have oe3:=ev HA0 3 rfl
   refine QSeq.pure rfl (.pointer (some ⟨w.heap.size,3,none⟩)) (fun E=>Ad rfl Tryz.underlying61 rfl (by kernel_rfl) (E.v oe1)) ?_
   refine QSeq.pure rfl _ (fun E=>Am rfl Tryz.underlying29 rfl (off:=3) (cs:=(x.cm.cells)) (by rw [Cm.len HOK.out.cm.2.1];exact size_commit) (E.d 0 0) (Cs.seg (HB1.out.mod Cx9.out (fun h=>h)) HLN.out 3 rfl rfl)) ?_
   refine QSeq.pure rfl (.pointer (some ⟨w1.heap.size,3,none⟩)) (fun E=>Ad rfl Tryz.underlying61 rfl (by kernel_rfl) (E.v oe3)) ?_
   refine QSeq.go fun act E=>?_
   refine Aq rfl (Ac rfl) rfl Hx8.out (off:=3) (vs:=(x.cm.cells)) (by rw [Cm.len HOK.out.cm.2.1];kernel_rfl) (Cm_one _) (by show 3+_≤295;rw [Cm.len HOK.out.cm.2.1];decide) (E.d 2 0) (ec (E.d 1 1)) ?_
   intro u5_3 qc0 hm
   have qb5:=qc0.eqv (b:=((Mg.segs ({ mg0 x.kd x.fr x.to with cm:=x.cm }:Mg) (zCe.cells zS) (zPm.cells zS) (zPr.cells zS zS zS) (zOp.cells zS) (zDc.cells zS zS zS zS)).flatten:List Value).toArray) ((Bc HZL.out 3 (by rw [Cm.len HOK.out.cm.2.1];rfl) rfl).trans rfl)
   clear qc0
   have Hx10:=hid qb5
   have zu5_3:=hm.size
   have Cx11:=hid (show Mod (fun k=>(k=w1.heap.size)) u1_8 u5_3 from hm)
   clear hm
   clear act E qb5 Hx8
   refine QSeq.nil (t':=[_,_,_,_]) rfl ?_
   obtain rfl:=HA0.out
   clear HA0 oe1 oe3
   simp only [pz,Act.put,sIB,sCZ,sCS,List.set_nil]
   have hrz:MgR.rd R2 u5_3 ((Mg.segs ({ mg0 x.kd x.fr x.to with cm:=x.cm }:Mg) (zCe.cells zS) (zPm.cells zS) (zPr.cells zS zS zS) (zOp.cells zS) (zDc.cells zS zS zS zS)).flatten) ({ mg0 x.kd x.fr x.to with cm:=x.cm }:Mg):=⟨_,_,_,_,_,rfl,{ HZK.out with cm:=HOK.out.cm },zCe_rd _ _,zPm_rd _ _,z_pr _ _,z_op _ _,z_dc _ _⟩
   have HRZ:=Lib.hid hrz
   clear hrz
   go_wp2_with fail
   go_meet
   case rel=>exact ⟨congrArg (fun z=>Value.pointer (some ⟨z,0,none⟩)) (by omega),_,_,HE.out.symm,Hx10.out,HRZ.out,(hmz.out.trans Cx11.out (fun _ _ h=>h))⟩
  have K1:=Lib.hid h1
  clear h1
  go_upto_region 4 with (fail)
  refine Aa 97 [15,14] [0,1] (fun a0 HA0=>?_)
  have oe12:=ev HA0 12 rfl
  refine QSeq.pure rfl (.bool false) (fun E=>An rfl (E.v oe12) rfl (Ag _ _ _ _ _ _) (Al _ _ _ Tryz.underlying3) (congrArg Value.bool (Bb K1.out))) ?_
  refine QSeq.pure rfl _ (fun E=>Af rfl (E.d 0 0)) ?_
  refine QSeq.nil (t':=[_,_]) rfl ?_
  obtain rfl:=HA0.out
  clear HA0 oe12
  simp only [pz,Act.put,sIB,sCZ,sCS]
  by_cases h2:x.kd=2
  ·have KK:=Lib.hid h2
   clear h2
   go_upto_region 6 with (fail)
   refine Aa 97 [20,19] [0,1] (fun a0 HA0=>?_)
   have oe12:=ev HA0 12 rfl
   refine QSeq.pure rfl (.bool true) (fun E=>An rfl (E.v oe12) rfl (Ag _ _ _ _ _ _) (Al _ _ _ Tryz.underlying3) (congrArg Value.bool (Bi KK.out))) ?_
   refine QSeq.pure rfl _ (fun E=>Af rfl (E.d 0 0)) ?_
   refine QSeq.nil (t':=[_,_]) rfl ?_
   obtain rfl:=HA0.out
   clear HA0 oe12
   simp only [pz,Act.put,sIB,sCZ,sCS]
   have HE:=hid (show Bf x=({ mg0 x.kd x.fr x.to with st:=x.st }:Mg) by unfold Bf;rw [if_neg K1.out,if_pos KK.out]<;>rfl)
   go_upto_region 7 with (fail)
   refine Aa 97 [21,22,23,100] [0,1,2,3] (fun a0 HA0=>?_)
   have oe1:=ev HA0 1 rfl
   have oe3:=ev HA0 3 rfl
   refine QSeq.pure rfl (.pointer (some ⟨w.heap.size,40,none⟩)) (fun E=>Ad rfl Tryz.underlying61 rfl (by kernel_rfl) (E.v oe1)) ?_
   refine QSeq.pure rfl _ (fun E=>Am rfl Tryz.underlying32 rfl (off:=40) (cs:=(x.st.cells)) (by rw [St.len HOK.out.st];kernel_rfl) (E.d 0 0) (Cs.seg (HB1.out.mod Cx9.out (fun h=>h)) HLN.out 4 rfl rfl)) ?_
   refine QSeq.pure rfl (.pointer (some ⟨w1.heap.size,40,none⟩)) (fun E=>Ad rfl Tryz.underlying61 rfl (by kernel_rfl) (E.v oe3)) ?_
   refine QSeq.go fun act E=>?_
   refine Aq rfl (Ac rfl) rfl Hx8.out (off:=40) (vs:=(x.st.cells)) (by rw [St.len HOK.out.st];kernel_rfl) (St.one _) (by show 40+_≤295;rw [St.len HOK.out.st];decide) (E.d 2 0) (ec (E.d 1 1)) ?_
   intro u7_3 qc0 hm
   have qb5:=qc0.eqv (b:=((Mg.segs ({ mg0 x.kd x.fr x.to with st:=x.st }:Mg) (zCe.cells zS) (zPm.cells zS) (zPr.cells zS zS zS) (zOp.cells zS) (zDc.cells zS zS zS zS)).flatten:List Value).toArray) ((Bc HZL.out 4 (by rw [St.len HOK.out.st];rfl) rfl).trans rfl)
   clear qc0
   have Hx12:=hid qb5
   have zu7_3:=hm.size
   have Cx13:=hid (show Mod (fun k=>(k=w1.heap.size)) u1_8 u7_3 from hm)
   clear hm
   clear act E qb5 Hx8
   refine QSeq.nil (t':=[_,_,_,_]) rfl ?_
   obtain rfl:=HA0.out
   clear HA0 oe1 oe3
   simp only [pz,Act.put,sIB,sCZ,sCS,List.set_nil]
   have hrz:MgR.rd R2 u7_3 ((Mg.segs ({ mg0 x.kd x.fr x.to with st:=x.st }:Mg) (zCe.cells zS) (zPm.cells zS) (zPr.cells zS zS zS) (zOp.cells zS) (zDc.cells zS zS zS zS)).flatten) ({ mg0 x.kd x.fr x.to with st:=x.st }:Mg):=⟨_,_,_,_,_,rfl,{ HZK.out with st:=HOK.out.st },zCe_rd _ _,zPm_rd _ _,z_pr _ _,z_op _ _,z_dc _ _⟩
   have HRZ:=Lib.hid hrz
   clear hrz
   go_wp2_with fail
   go_meet
   case rel=>exact ⟨congrArg (fun z=>Value.pointer (some ⟨z,0,none⟩)) (by omega),_,_,HE.out.symm,Hx12.out,HRZ.out,(hmz.out.trans Cx13.out (fun _ _ h=>h))⟩
  have K2:=Lib.hid h2
  clear h2
  go_upto_region 6 with (fail)
  refine Aa 97 [20,19] [0,1] (fun a0 HA0=>?_)
  have oe12:=ev HA0 12 rfl
  refine QSeq.pure rfl (.bool false) (fun E=>An rfl (E.v oe12) rfl (Ag _ _ _ _ _ _) (Al _ _ _ Tryz.underlying3) (congrArg Value.bool (Bb K2.out))) ?_
  refine QSeq.pure rfl _ (fun E=>Af rfl (E.d 0 0)) ?_
  refine QSeq.nil (t':=[_,_]) rfl ?_
  obtain rfl:=HA0.out
  clear HA0 oe12
  simp only [pz,Act.put,sIB,sCZ,sCS]
  by_cases h3:x.kd=3
  ·have KK:=Lib.hid h3
   clear h3
   go_upto_region 8 with (fail)
   refine Aa 97 [25,24] [0,1] (fun a0 HA0=>?_)
   have oe12:=ev HA0 12 rfl
   refine QSeq.pure rfl (.bool true) (fun E=>An rfl (E.v oe12) rfl (Ag _ _ _ _ _ _) (Al _ _ _ Tryz.underlying3) (congrArg Value.bool (Bi KK.out))) ?_
   refine QSeq.pure rfl _ (fun E=>Af rfl (E.d 0 0)) ?_
   refine QSeq.nil (t':=[_,_]) rfl ?_
   obtain rfl:=HA0.out
   clear HA0 oe12
   simp only [pz,Act.put,sIB,sCZ,sCS]
   have HE:=hid (show Bf x=({ mg0 x.kd x.fr x.to with ce:=x.ce }:Mg) by unfold Bf;rw [if_neg K1.out,if_neg K2.out,if_pos KK.out]<;>rfl)
   go_upto_region 9 with (fail)
   refine Aa 97 [26,27,28,100] [0,1,2,3] (fun a0 HA0=>?_)
   have oe1:=ev HA0 1 rfl
   have oe3:=ev HA0 3 rfl
   refine QSeq.pure rfl (.pointer (some ⟨w.heap.size,78,none⟩)) (fun E=>Ad rfl Tryz.underlying61 rfl (by kernel_rfl) (E.v oe1)) ?_
   refine QSeq.pure rfl _ (fun E=>Am rfl Tryz.underlying35 rfl (off:=78) (cs:=(c5)) (by rw [HC5.out];kernel_rfl) (E.d 0 0) (Cs.seg (HB1.out.mod Cx9.out (fun h=>h)) HLN.out 5 rfl rfl)) ?_
   refine QSeq.pure rfl (.pointer (some ⟨w1.heap.size,78,none⟩)) (fun E=>Ad rfl Tryz.underlying61 rfl (by kernel_rfl) (E.v oe3)) ?_
   refine QSeq.go fun act E=>?_
   refine Aq rfl (Ac rfl) rfl Hx8.out (off:=78) (vs:=c5) (by rw [HC5.out];kernel_rfl) HO5.out (by show 78+_≤295;rw [HC5.out];decide) (E.d 2 0) (ec (E.d 1 1)) ?_
   intro u9_3 qc0 hm
   have qb5:=qc0.eqv (b:=((Mg.segs ({ mg0 x.kd x.fr x.to with ce:=x.ce }:Mg) c5 (zPm.cells zS) (zPr.cells zS zS zS) (zOp.cells zS) (zDc.cells zS zS zS zS)).flatten:List Value).toArray) ((Bc HZL.out 5 (by rw [HC5.out];rfl) rfl).trans rfl)
   clear qc0
   have Hx14:=hid qb5
   have zu9_3:=hm.size
   have Cx15:=hid (show Mod (fun k=>(k=w1.heap.size)) u1_8 u9_3 from hm)
   clear hm
   clear act E qb5 Hx8
   refine QSeq.nil (t':=[_,_,_,_]) rfl ?_
   obtain rfl:=HA0.out
   clear HA0 oe1 oe3
   simp only [pz,Act.put,sIB,sCZ,sCS,List.set_nil]
   have hrz:MgR.rd R2 u9_3 ((Mg.segs ({ mg0 x.kd x.fr x.to with ce:=x.ce }:Mg) c5 (zPm.cells zS) (zPr.cells zS zS zS) (zOp.cells zS) (zDc.cells zS zS zS zS)).flatten) ({ mg0 x.kd x.fr x.to with ce:=x.ce }:Mg):=⟨_,_,_,_,_,rfl,{ HZK.out with },((Hx1.out.mod Cx9.out (fun _ _ h=>h)).mod Cx15.out (sB HBT)),zPm_rd _ _,z_pr _ _,z_op _ _,z_dc _ _⟩
   have HRZ:=Lib.hid hrz
   clear hrz
   go_wp2_with fail
   go_meet
   case rel=>exact ⟨congrArg (fun z=>Value.pointer (some ⟨z,0,none⟩)) (by omega),_,_,HE.out.symm,Hx14.out,HRZ.out,(hmz.out.trans Cx15.out (fun _ _ h=>h))⟩
  have K3:=Lib.hid h3
  clear h3
  go_upto_region 8 with (fail)
  refine Aa 97 [25,24] [0,1] (fun a0 HA0=>?_)
  have oe12:=ev HA0 12 rfl
  refine QSeq.pure rfl (.bool false) (fun E=>An rfl (E.v oe12) rfl (Ag _ _ _ _ _ _) (Al _ _ _ Tryz.underlying3) (congrArg Value.bool (Bb K3.out))) ?_
  refine QSeq.pure rfl _ (fun E=>Af rfl (E.d 0 0)) ?_
  refine QSeq.nil (t':=[_,_]) rfl ?_
  obtain rfl:=HA0.out
  clear HA0 oe12
  simp only [pz,Act.put,sIB,sCZ,sCS]
  by_cases h4:x.kd=4
  ·have KK:=Lib.hid h4
   clear h4
   go_upto_region 10 with (fail)
   refine Aa 97 [30,29] [0,1] (fun a0 HA0=>?_)
   have oe12:=ev HA0 12 rfl
   refine QSeq.pure rfl (.bool true) (fun E=>An rfl (E.v oe12) rfl (Ag _ _ _ _ _ _) (Al _ _ _ Tryz.underlying3) (congrArg Value.bool (Bi KK.out))) ?_
   refine QSeq.pure rfl _ (fun E=>Af rfl (E.d 0 0)) ?_
   refine QSeq.nil (t':=[_,_]) rfl ?_
   obtain rfl:=HA0.out
   clear HA0 oe12
   simp only [pz,Act.put,sIB,sCZ,sCS]
   have HE:=hid (show Bf x=({ mg0 x.kd x.fr x.to with ak:=x.ak }:Mg) by unfold Bf;rw [if_neg K1.out,if_neg K2.out,if_neg K3.out,if_pos KK.out]<;>rfl)
   go_upto_region 11 with (fail)
   refine Aa 97 [31,32,33,100] [0,1,2,3] (fun a0 HA0=>?_)
   have oe1:=ev HA0 1 rfl
   have oe3:=ev HA0 3 rfl
   refine QSeq.pure rfl (.pointer (some ⟨w.heap.size,116,none⟩)) (fun E=>Ad rfl Tryz.underlying61 rfl (by kernel_rfl) (E.v oe1)) ?_
   refine QSeq.pure rfl _ (fun E=>Am rfl Tryz.underlying37 rfl (off:=116) (cs:=(x.ak.cells)) (by rw [St.len HOK.out.ak];kernel_rfl) (E.d 0 0) (Cs.seg (HB1.out.mod Cx9.out (fun h=>h)) HLN.out 6 rfl rfl)) ?_
   refine QSeq.pure rfl (.pointer (some ⟨w1.heap.size,116,none⟩)) (fun E=>Ad rfl Tryz.underlying61 rfl (by kernel_rfl) (E.v oe3)) ?_
   refine QSeq.go fun act E=>?_
   refine Aq rfl (Ac rfl) rfl Hx8.out (off:=116) (vs:=(x.ak.cells)) (by rw [St.len HOK.out.ak];kernel_rfl) (St.one _) (by show 116+_≤295;rw [St.len HOK.out.ak];decide) (E.d 2 0) (ec (E.d 1 1)) ?_
   intro u11_3 qc0 hm
   have qb5:=qc0.eqv (b:=((Mg.segs ({ mg0 x.kd x.fr x.to with ak:=x.ak }:Mg) (zCe.cells zS) (zPm.cells zS) (zPr.cells zS zS zS) (zOp.cells zS) (zDc.cells zS zS zS zS)).flatten:List Value).toArray) ((Bc HZL.out 6 (by rw [St.len HOK.out.ak];rfl) rfl).trans rfl)
   clear qc0
   have Hx16:=hid qb5
   have zu11_3:=hm.size
   have Cx17:=hid (show Mod (fun k=>(k=w1.heap.size)) u1_8 u11_3 from hm)
   clear hm
   clear act E qb5 Hx8
   refine QSeq.nil (t':=[_,_,_,_]) rfl ?_
   obtain rfl:=HA0.out
   clear HA0 oe1 oe3
   simp only [pz,Act.put,sIB,sCZ,sCS,List.set_nil]
   have hrz:MgR.rd R2 u11_3 ((Mg.segs ({ mg0 x.kd x.fr x.to with ak:=x.ak }:Mg) (zCe.cells zS) (zPm.cells zS) (zPr.cells zS zS zS) (zOp.cells zS) (zDc.cells zS zS zS zS)).flatten) ({ mg0 x.kd x.fr x.to with ak:=x.ak }:Mg):=⟨_,_,_,_,_,rfl,{ HZK.out with ak:=HOK.out.ak },zCe_rd _ _,zPm_rd _ _,z_pr _ _,z_op _ _,z_dc _ _⟩
   have HRZ:=Lib.hid hrz
   clear hrz
   go_wp2_with fail
   go_meet
   case rel=>exact ⟨congrArg (fun z=>Value.pointer (some ⟨z,0,none⟩)) (by omega),_,_,HE.out.symm,Hx16.out,HRZ.out,(hmz.out.trans Cx17.out (fun _ _ h=>h))⟩
  have K4:=Lib.hid h4
  clear h4
  go_upto_region 10 with (fail)
  refine Aa 97 [30,29] [0,1] (fun a0 HA0=>?_)
  have oe12:=ev HA0 12 rfl
  refine QSeq.pure rfl (.bool false) (fun E=>An rfl (E.v oe12) rfl (Ag _ _ _ _ _ _) (Al _ _ _ Tryz.underlying3) (congrArg Value.bool (Bb K4.out))) ?_
  refine QSeq.pure rfl _ (fun E=>Af rfl (E.d 0 0)) ?_
  refine QSeq.nil (t':=[_,_]) rfl ?_
  obtain rfl:=HA0.out
  clear HA0 oe12
  simp only [pz,Act.put,sIB,sCZ,sCS]
  by_cases h5:x.kd=5
  ·have KK:=Lib.hid h5
   clear h5
   go_upto_region 12 with (fail)
   refine Aa 97 [35,34] [0,1] (fun a0 HA0=>?_)
   have oe12:=ev HA0 12 rfl
   refine QSeq.pure rfl (.bool true) (fun E=>An rfl (E.v oe12) rfl (Ag _ _ _ _ _ _) (Al _ _ _ Tryz.underlying3) (congrArg Value.bool (Bi KK.out))) ?_
   refine QSeq.pure rfl _ (fun E=>Af rfl (E.d 0 0)) ?_
   refine QSeq.nil (t':=[_,_]) rfl ?_
   obtain rfl:=HA0.out
   clear HA0 oe12
   simp only [pz,Act.put,sIB,sCZ,sCS]
   have HE:=hid (show Bf x=({ mg0 x.kd x.fr x.to with ep:=x.ep,rn:=x.rn,tm:=x.tm }:Mg) by unfold Bf;rw [if_neg K1.out,if_neg K2.out,if_neg K3.out,if_neg K4.out,if_pos KK.out]<;>rfl)
   go_upto_region 13 with (fail)
   generalize ha0:Act.mk _ _=a0
   have oe1:a0.eval (.tmp 1)=.pointer (some ⟨w.heap.size,0,none⟩):=by rw [← ha0];rfl
   have oe3:a0.eval (.tmp 3)=.pointer (some ⟨w1.heap.size,0,none⟩):=by rw [← ha0];rfl
   have hsz0:a0.tmps.size=97:=by rw [← ha0];rfl
   have HA0:=hid ha0
   clear ha0
   refine A3 97 hsz0 [36,37,38,39,40,41,42,104,43,106,44,108] (fun k=>(k=w1.heap.size)) (fun k j=>(k=0∧((j=w1.heap.size)))∨(k=1∧((j=w1.heap.size)))∨(k=2∧((j=w1.heap.size)))) (by intro k j h;(try dsimp only at h ⊢);omega) [qi (.pointer (some ⟨w.heap.size,154,none⟩)),qi (.int .i64 x.ep),qi (.pointer (some ⟨w.heap.size,155,none⟩)),qi (.int .i64 x.rn),qi (.pointer (some ⟨w.heap.size,156,none⟩)),qi (.int .u64 (x.tm:Nat)),qi (.pointer (some ⟨w1.heap.size,154,none⟩)),qv 0,qi (.pointer (some ⟨w1.heap.size,155,none⟩)),qv 1,qi (.pointer (some ⟨w1.heap.size,156,none⟩)),qv 2] ⟨Ab,Ab,Ab,Ab,Ab,Ab,Ab,Ak,Ab,Ak,Ab,Ak,trivial⟩ [7,9,11] ⟨?_,?_,?_,?_,?_,?_,?_,?_,?_,?_,?_,?_,trivial⟩ ?_
   ·exact stq (fun E=>Ad rfl Tryz.underlying61 rfl (by kernel_rfl) (E.v oe1))
   ·exact stq (fun E=>Aj rfl Tryz.underlying3 rfl (E.d 0) (Cs.seg1 ((HB1.out.mod Cx9.out (fun h=>h)).mod E.m (by intro h2;omega)) HLN.out 7 rfl (o:=154) (k:=0) rfl rfl rfl))
   ·exact stq (fun E=>Ad rfl Tryz.underlying61 rfl (by kernel_rfl) (E.v oe1))
   ·exact stq (fun E=>Aj rfl Tryz.underlying3 rfl (E.d 2) (Cs.seg1 ((HB1.out.mod Cx9.out (fun h=>h)).mod E.m (by intro h2;omega)) HLN.out 8 rfl (o:=155) (k:=0) rfl rfl rfl))
   ·exact stq (fun E=>Ad rfl Tryz.underlying61 rfl (by kernel_rfl) (E.v oe1))
   ·exact stq (fun E=>Aj rfl Tryz.underlying30 rfl (E.d 4) (Cs.seg1 ((HB1.out.mod Cx9.out (fun h=>h)).mod E.m (by intro h2;omega)) HLN.out 9 rfl (o:=156) (k:=0) rfl rfl rfl))
   ·exact stq (fun E=>Ad rfl Tryz.underlying61 rfl (by kernel_rfl) (E.v oe3))
   ·exact Ah rfl
   ·exact stq (fun E=>Ad rfl Tryz.underlying61 rfl (by kernel_rfl) (E.v oe3))
   ·exact Ah rfl
   ·exact stq (fun E=>Ad rfl Tryz.underlying61 rfl (by kernel_rfl) (E.v oe3))
   ·exact Ah rfl
   intro u13_0 hr
   have zu13_0:=hr.size
   have Cx18:=hid (hr.new (S:=(fun k=>(k=w1.heap.size))))
   have Hx19:=hid (Hx8.out.mod hr (by intro h2;omega))
   clear Hx8
   clear hr
   refine QChain.go fun Z act E=>?_
   refine Aq rfl (Ac rfl) rfl Hx19.out (off:=154) (vs:=[.int .i64 x.ep]) (by kernel_rfl) one1 (by show 154+1≤295;decide) (E.d 6) (ec (E.d 1)) ?_
   intro u13_1a qc0 hm
   have qb5:=qc0.eqv (b:=((Mg.segs ({ mg0 x.kd x.fr x.to with ep:=x.ep }:Mg) (zCe.cells zS) (zPm.cells zS) (zPr.cells zS zS zS) (zOp.cells zS) (zDc.cells zS zS zS zS)).flatten:List Value).toArray) ((Bc HZL.out 7 (rfl) rfl).trans rfl)
   clear qc0
   have zu13_1a:=hm.size
   refine ⟨hm.mono (by intro k hk h;omega),(fun _=>rfl),?_⟩
   intro u13_1 hr
   have zu13_1:=hr.size
   have Hx20:=hid (qb5.mod hr (by intro h2;omega))
   have Cx21:=hid (Cx18.out.goM hm hr (fun _ _ h=>h))
   clear Cx18 hm hr Z act E qb5 Hx19
   refine QChain.go fun Z act E=>?_
   refine Aq rfl (Ac rfl) rfl Hx20.out (off:=155) (vs:=[.int .i64 x.rn]) (by kernel_rfl) one1 (by show 155+1≤295;decide) (E.d 8) (ec (E.d 3)) ?_
   intro u13_2a qc0 hm
   have qb5:=qc0.eqv (b:=((Mg.segs ({ mg0 x.kd x.fr x.to with ep:=x.ep,rn:=x.rn }:Mg) (zCe.cells zS) (zPm.cells zS) (zPr.cells zS zS zS) (zOp.cells zS) (zDc.cells zS zS zS zS)).flatten:List Value).toArray) ((Bc (show (Mg.segs ({ mg0 x.kd x.fr x.to with ep:=x.ep }:Mg) (zCe.cells zS) (zPm.cells zS) (zPr.cells zS zS zS) (zOp.cells zS) (zDc.cells zS zS zS zS)).map List.length=mgN from HZL.out) 8 (rfl) rfl).trans rfl)
   clear qc0
   have zu13_2a:=hm.size
   refine ⟨hm.mono (by intro k hk h;omega),(fun _=>rfl),?_⟩
   intro u13_2 hr
   have zu13_2:=hr.size
   have Hx22:=hid (qb5.mod hr (by intro h2;omega))
   have Cx23:=hid (Cx21.out.goM hm hr (fun _ _ h=>h))
   clear Cx21 hm hr Z act E qb5 Hx20
   refine QChain.go fun Z act E=>?_
   refine Aq rfl (Ac rfl) rfl Hx22.out (off:=156) (vs:=[.int .u64 (x.tm:Nat)]) (by kernel_rfl) one1 (by show 156+1≤295;decide) (E.d 10) (ec (E.d 5)) ?_
   intro u13_3a qc0 hm
   have qb5:=qc0.eqv (b:=((Mg.segs ({ mg0 x.kd x.fr x.to with ep:=x.ep,rn:=x.rn,tm:=x.tm }:Mg) (zCe.cells zS) (zPm.cells zS) (zPr.cells zS zS zS) (zOp.cells zS) (zDc.cells zS zS zS zS)).flatten:List Value).toArray) ((Bc (show (Mg.segs ({ mg0 x.kd x.fr x.to with ep:=x.ep,rn:=x.rn }:Mg) (zCe.cells zS) (zPm.cells zS) (zPr.cells zS zS zS) (zOp.cells zS) (zDc.cells zS zS zS zS)).map List.length=mgN from HZL.out) 9 (rfl) rfl).trans rfl)
   clear qc0
   have zu13_3a:=hm.size
   refine ⟨hm.mono (by intro k hk h;omega),(fun _=>rfl),?_⟩
   intro u13_3 hr
   have zu13_3:=hr.size
   have Hx24:=hid (qb5.mod hr (by intro h2;omega))
   have Cx25:=hid (Cx23.out.goM hm hr (fun _ _ h=>h))
   clear Cx23 hm hr Z act E qb5 Hx22
   refine QChain.nil fun vs hl hzz hrows hne=>?_
   obtain ⟨Z,hYZ,hZb,hV⟩:=hzz
   rw [show vs=[gw vs 0,gw vs 1,gw vs 2,gw vs 3,gw vs 4,gw vs 5,gw vs 6,gw vs 7,gw vs 8,gw vs 9,gw vs 10,gw vs 11] from (Be hl).trans rfl]
   have ha0:=HA0.out
   subst ha0
   clear HA0 hV hYZ hZb hsz0 hrows hne oe1 oe3
   simp only [Au,Act.put,sIB,sCZ,sCS,List.set_nil]
   clear hl
   have hrz:MgR.rd R2 u13_3 ((Mg.segs ({ mg0 x.kd x.fr x.to with ep:=x.ep,rn:=x.rn,tm:=x.tm }:Mg) (zCe.cells zS) (zPm.cells zS) (zPr.cells zS zS zS) (zOp.cells zS) (zDc.cells zS zS zS zS)).flatten) ({ mg0 x.kd x.fr x.to with ep:=x.ep,rn:=x.rn,tm:=x.tm }:Mg):=⟨_,_,_,_,_,rfl,{ HZK.out with ep:=HOK.out.ep,rn:=HOK.out.rn,tm:=HOK.out.tm },zCe_rd _ _,zPm_rd _ _,z_pr _ _,z_op _ _,z_dc _ _⟩
   have HRZ:=Lib.hid hrz
   clear hrz
   go_wp2_with fail
   go_meet
   case rel=>exact ⟨congrArg (fun z=>Value.pointer (some ⟨z,0,none⟩)) (by omega),_,_,HE.out.symm,Hx24.out,HRZ.out,(hmz.out.trans Cx25.out (fun _ _ h=>h))⟩
  have K5:=Lib.hid h5
  clear h5
  go_upto_region 12 with (fail)
  refine Aa 97 [35,34] [0,1] (fun a0 HA0=>?_)
  have oe12:=ev HA0 12 rfl
  refine QSeq.pure rfl (.bool false) (fun E=>An rfl (E.v oe12) rfl (Ag _ _ _ _ _ _) (Al _ _ _ Tryz.underlying3) (congrArg Value.bool (Bb K5.out))) ?_
  refine QSeq.pure rfl _ (fun E=>Af rfl (E.d 0 0)) ?_
  refine QSeq.nil (t':=[_,_]) rfl ?_
  obtain rfl:=HA0.out
  clear HA0 oe12
  simp only [pz,Act.put,sIB,sCZ,sCS]
  by_cases h6:x.kd=6
  ·have KK:=Lib.hid h6
   clear h6
   go_upto_region 14 with (fail)
   refine Aa 97 [46,45] [0,1] (fun a0 HA0=>?_)
   have oe12:=ev HA0 12 rfl
   refine QSeq.pure rfl (.bool true) (fun E=>An rfl (E.v oe12) rfl (Ag _ _ _ _ _ _) (Al _ _ _ Tryz.underlying3) (congrArg Value.bool (Bi KK.out))) ?_
   refine QSeq.pure rfl _ (fun E=>Af rfl (E.d 0 0)) ?_
   refine QSeq.nil (t':=[_,_]) rfl ?_
   obtain rfl:=HA0.out
   clear HA0 oe12
   simp only [pz,Act.put,sIB,sCZ,sCS]
   have HE:=hid (show Bf x=({ mg0 x.kd x.fr x.to with pm:=x.pm }:Mg) by unfold Bf;rw [if_neg K1.out,if_neg K2.out,if_neg K3.out,if_neg K4.out,if_neg K5.out,if_pos KK.out]<;>rfl)
   go_upto_region 15 with (fail)
   refine Aa 97 [47,48,49,100] [0,1,2,3] (fun a0 HA0=>?_)
   have oe1:=ev HA0 1 rfl
   have oe3:=ev HA0 3 rfl
   refine QSeq.pure rfl (.pointer (some ⟨w.heap.size,157,none⟩)) (fun E=>Ad rfl Tryz.underlying61 rfl (by kernel_rfl) (E.v oe1)) ?_
   refine QSeq.pure rfl _ (fun E=>Am rfl Tryz.underlying40 rfl (off:=157) (cs:=(c10)) (by rw [HC10.out];kernel_rfl) (E.d 0 0) (Cs.seg (HB1.out.mod Cx9.out (fun h=>h)) HLN.out 10 rfl rfl)) ?_
   refine QSeq.pure rfl (.pointer (some ⟨w1.heap.size,157,none⟩)) (fun E=>Ad rfl Tryz.underlying61 rfl (by kernel_rfl) (E.v oe3)) ?_
   refine QSeq.go fun act E=>?_
   refine Aq rfl (Ac rfl) rfl Hx8.out (off:=157) (vs:=c10) (by rw [HC10.out];kernel_rfl) HO10.out (by show 157+_≤295;rw [HC10.out];decide) (E.d 2 0) (ec (E.d 1 1)) ?_
   intro u15_3 qc0 hm
   have qb5:=qc0.eqv (b:=((Mg.segs ({ mg0 x.kd x.fr x.to with pm:=x.pm }:Mg) (zCe.cells zS) c10 (zPr.cells zS zS zS) (zOp.cells zS) (zDc.cells zS zS zS zS)).flatten:List Value).toArray) ((Bc HZL.out 10 (by rw [HC10.out];rfl) rfl).trans rfl)
   clear qc0
   have Hx26:=hid qb5
   have zu15_3:=hm.size
   have Cx27:=hid (show Mod (fun k=>(k=w1.heap.size)) u1_8 u15_3 from hm)
   clear hm
   clear act E qb5 Hx8
   refine QSeq.nil (t':=[_,_,_,_]) rfl ?_
   obtain rfl:=HA0.out
   clear HA0 oe1 oe3
   simp only [pz,Act.put,sIB,sCZ,sCS,List.set_nil]
   have hrz:MgR.rd R2 u15_3 ((Mg.segs ({ mg0 x.kd x.fr x.to with pm:=x.pm }:Mg) (zCe.cells zS) c10 (zPr.cells zS zS zS) (zOp.cells zS) (zDc.cells zS zS zS zS)).flatten) ({ mg0 x.kd x.fr x.to with pm:=x.pm }:Mg):=⟨_,_,_,_,_,rfl,{ HZK.out with },zCe_rd _ _,((Hx2.out.mod Cx9.out (fun _ _ h=>h)).mod Cx27.out (sB HBT)),z_pr _ _,z_op _ _,z_dc _ _⟩
   have HRZ:=Lib.hid hrz
   clear hrz
   go_wp2_with fail
   go_meet
   case rel=>exact ⟨congrArg (fun z=>Value.pointer (some ⟨z,0,none⟩)) (by omega),_,_,HE.out.symm,Hx26.out,HRZ.out,(hmz.out.trans Cx27.out (fun _ _ h=>h))⟩
  have K6:=Lib.hid h6
  clear h6
  go_upto_region 14 with (fail)
  refine Aa 97 [46,45] [0,1] (fun a0 HA0=>?_)
  have oe12:=ev HA0 12 rfl
  refine QSeq.pure rfl (.bool false) (fun E=>An rfl (E.v oe12) rfl (Ag _ _ _ _ _ _) (Al _ _ _ Tryz.underlying3) (congrArg Value.bool (Bb K6.out))) ?_
  refine QSeq.pure rfl _ (fun E=>Af rfl (E.d 0 0)) ?_
  refine QSeq.nil (t':=[_,_]) rfl ?_
  obtain rfl:=HA0.out
  clear HA0 oe12
  simp only [pz,Act.put,sIB,sCZ,sCS]
  by_cases h7:x.kd=7
  ·have KK:=Lib.hid h7
   clear h7
   go_upto_region 16 with (fail)
   refine Aa 97 [51,50] [0,1] (fun a0 HA0=>?_)
   have oe12:=ev HA0 12 rfl
   refine QSeq.pure rfl (.bool true) (fun E=>An rfl (E.v oe12) rfl (Ag _ _ _ _ _ _) (Al _ _ _ Tryz.underlying3) (congrArg Value.bool (Bi KK.out))) ?_
   refine QSeq.pure rfl _ (fun E=>Af rfl (E.d 0 0)) ?_
   refine QSeq.nil (t':=[_,_]) rfl ?_
   obtain rfl:=HA0.out
   clear HA0 oe12
   simp only [pz,Act.put,sIB,sCZ,sCS]
   have HE:=hid (show Bf x=({ mg0 x.kd x.fr x.to with pr:=x.pr }:Mg) by unfold Bf;rw [if_neg K1.out,if_neg K2.out,if_neg K3.out,if_neg K4.out,if_neg K5.out,if_neg K6.out,if_pos KK.out]<;>rfl)
   go_upto_region 17 with (fail)
   refine Aa 97 [52,53,54,100] [0,1,2,3] (fun a0 HA0=>?_)
   have oe1:=ev HA0 1 rfl
   have oe3:=ev HA0 3 rfl
   refine QSeq.pure rfl (.pointer (some ⟨w.heap.size,163,none⟩)) (fun E=>Ad rfl Tryz.underlying61 rfl (by kernel_rfl) (E.v oe1)) ?_
   refine QSeq.pure rfl _ (fun E=>Am rfl Tryz.underlying47 rfl (off:=163) (cs:=(c11)) (by rw [HC11.out];kernel_rfl) (E.d 0 0) (Cs.seg (HB1.out.mod Cx9.out (fun h=>h)) HLN.out 11 rfl rfl)) ?_
   refine QSeq.pure rfl (.pointer (some ⟨w1.heap.size,163,none⟩)) (fun E=>Ad rfl Tryz.underlying61 rfl (by kernel_rfl) (E.v oe3)) ?_
   refine QSeq.go fun act E=>?_
   refine Aq rfl (Ac rfl) rfl Hx8.out (off:=163) (vs:=c11) (by rw [HC11.out];kernel_rfl) HO11.out (by show 163+_≤295;rw [HC11.out];decide) (E.d 2 0) (ec (E.d 1 1)) ?_
   intro u17_3 qc0 hm
   have qb5:=qc0.eqv (b:=((Mg.segs ({ mg0 x.kd x.fr x.to with pr:=x.pr }:Mg) (zCe.cells zS) (zPm.cells zS) c11 (zOp.cells zS) (zDc.cells zS zS zS zS)).flatten:List Value).toArray) ((Bc HZL.out 11 (by rw [HC11.out];rfl) rfl).trans rfl)
   clear qc0
   have Hx28:=hid qb5
   have zu17_3:=hm.size
   have Cx29:=hid (show Mod (fun k=>(k=w1.heap.size)) u1_8 u17_3 from hm)
   clear hm
   clear act E qb5 Hx8
   refine QSeq.nil (t':=[_,_,_,_]) rfl ?_
   obtain rfl:=HA0.out
   clear HA0 oe1 oe3
   simp only [pz,Act.put,sIB,sCZ,sCS,List.set_nil]
   have hrz:MgR.rd R2 u17_3 ((Mg.segs ({ mg0 x.kd x.fr x.to with pr:=x.pr }:Mg) (zCe.cells zS) (zPm.cells zS) c11 (zOp.cells zS) (zDc.cells zS zS zS zS)).flatten) ({ mg0 x.kd x.fr x.to with pr:=x.pr }:Mg):=⟨_,_,_,_,_,rfl,{ HZK.out with },zCe_rd _ _,zPm_rd _ _,((Hx3.out.mod Cx9.out (fun _ _ h=>h)).mod Cx29.out (sB HBT)),z_op _ _,z_dc _ _⟩
   have HRZ:=Lib.hid hrz
   clear hrz
   go_wp2_with fail
   go_meet
   case rel=>exact ⟨congrArg (fun z=>Value.pointer (some ⟨z,0,none⟩)) (by omega),_,_,HE.out.symm,Hx28.out,HRZ.out,(hmz.out.trans Cx29.out (fun _ _ h=>h))⟩
  have K7:=Lib.hid h7
  clear h7
  go_upto_region 16 with (fail)
  refine Aa 97 [51,50] [0,1] (fun a0 HA0=>?_)
  have oe12:=ev HA0 12 rfl
  refine QSeq.pure rfl (.bool false) (fun E=>An rfl (E.v oe12) rfl (Ag _ _ _ _ _ _) (Al _ _ _ Tryz.underlying3) (congrArg Value.bool (Bb K7.out))) ?_
  refine QSeq.pure rfl _ (fun E=>Af rfl (E.d 0 0)) ?_
  refine QSeq.nil (t':=[_,_]) rfl ?_
  obtain rfl:=HA0.out
  clear HA0 oe12
  simp only [pz,Act.put,sIB,sCZ,sCS]
  by_cases h8:x.kd=8
  ·have KK:=Lib.hid h8
   clear h8
   go_upto_region 18 with (fail)
   refine Aa 97 [56,55] [0,1] (fun a0 HA0=>?_)
   have oe12:=ev HA0 12 rfl
   refine QSeq.pure rfl (.bool true) (fun E=>An rfl (E.v oe12) rfl (Ag _ _ _ _ _ _) (Al _ _ _ Tryz.underlying3) (congrArg Value.bool (Bi KK.out))) ?_
   refine QSeq.pure rfl _ (fun E=>Af rfl (E.d 0 0)) ?_
   refine QSeq.nil (t':=[_,_]) rfl ?_
   obtain rfl:=HA0.out
   clear HA0 oe12
   simp only [pz,Act.put,sIB,sCZ,sCS]
   have HE:=hid (show Bf x=({ mg0 x.kd x.fr x.to with vt:=x.vt }:Mg) by unfold Bf;rw [if_neg K1.out,if_neg K2.out,if_neg K3.out,if_neg K4.out,if_neg K5.out,if_neg K6.out,if_neg K7.out,if_pos KK.out]<;>rfl)
   go_upto_region 19 with (fail)
   refine Aa 97 [57,58,59,100] [0,1,2,3] (fun a0 HA0=>?_)
   have oe1:=ev HA0 1 rfl
   have oe3:=ev HA0 3 rfl
   refine QSeq.pure rfl (.pointer (some ⟨w.heap.size,174,none⟩)) (fun E=>Ad rfl Tryz.underlying61 rfl (by kernel_rfl) (E.v oe1)) ?_
   refine QSeq.pure rfl _ (fun E=>Am rfl Tryz.underlying49 rfl (off:=174) (cs:=(x.vt.cells)) (by rw [Vt.len HOK.out.vt];kernel_rfl) (E.d 0 0) (Cs.seg (HB1.out.mod Cx9.out (fun h=>h)) HLN.out 12 rfl rfl)) ?_
   refine QSeq.pure rfl (.pointer (some ⟨w1.heap.size,174,none⟩)) (fun E=>Ad rfl Tryz.underlying61 rfl (by kernel_rfl) (E.v oe3)) ?_
   refine QSeq.go fun act E=>?_
   refine Aq rfl (Ac rfl) rfl Hx8.out (off:=174) (vs:=(x.vt.cells)) (by rw [Vt.len HOK.out.vt];kernel_rfl) (Vt.one _) (by show 174+_≤295;rw [Vt.len HOK.out.vt];decide) (E.d 2 0) (ec (E.d 1 1)) ?_
   intro u19_3 qc0 hm
   have qb5:=qc0.eqv (b:=((Mg.segs ({ mg0 x.kd x.fr x.to with vt:=x.vt }:Mg) (zCe.cells zS) (zPm.cells zS) (zPr.cells zS zS zS) (zOp.cells zS) (zDc.cells zS zS zS zS)).flatten:List Value).toArray) ((Bc HZL.out 12 (by rw [Vt.len HOK.out.vt];rfl) rfl).trans rfl)
   clear qc0
   have Hx30:=hid qb5
   have zu19_3:=hm.size
   have Cx31:=hid (show Mod (fun k=>(k=w1.heap.size)) u1_8 u19_3 from hm)
   clear hm
   clear act E qb5 Hx8
   refine QSeq.nil (t':=[_,_,_,_]) rfl ?_
   obtain rfl:=HA0.out
   clear HA0 oe1 oe3
   simp only [pz,Act.put,sIB,sCZ,sCS,List.set_nil]
   have hrz:MgR.rd R2 u19_3 ((Mg.segs ({ mg0 x.kd x.fr x.to with vt:=x.vt }:Mg) (zCe.cells zS) (zPm.cells zS) (zPr.cells zS zS zS) (zOp.cells zS) (zDc.cells zS zS zS zS)).flatten) ({ mg0 x.kd x.fr x.to with vt:=x.vt }:Mg):=⟨_,_,_,_,_,rfl,{ HZK.out with vt:=HOK.out.vt },zCe_rd _ _,zPm_rd _ _,z_pr _ _,z_op _ _,z_dc _ _⟩
   have HRZ:=Lib.hid hrz
   clear hrz
   go_wp2_with fail
   go_meet
   case rel=>exact ⟨congrArg (fun z=>Value.pointer (some ⟨z,0,none⟩)) (by omega),_,_,HE.out.symm,Hx30.out,HRZ.out,(hmz.out.trans Cx31.out (fun _ _ h=>h))⟩
  have K8:=Lib.hid h8
  clear h8
  go_upto_region 18 with (fail)
  refine Aa 97 [56,55] [0,1] (fun a0 HA0=>?_)
  have oe12:=ev HA0 12 rfl
  refine QSeq.pure rfl (.bool false) (fun E=>An rfl (E.v oe12) rfl (Ag _ _ _ _ _ _) (Al _ _ _ Tryz.underlying3) (congrArg Value.bool (Bb K8.out))) ?_
  refine QSeq.pure rfl _ (fun E=>Af rfl (E.d 0 0)) ?_
  refine QSeq.nil (t':=[_,_]) rfl ?_
  obtain rfl:=HA0.out
  clear HA0 oe12
  simp only [pz,Act.put,sIB,sCZ,sCS]
  by_cases h9:x.kd=9
  ·have KK:=Lib.hid h9
   clear h9
   go_upto_region 20 with (fail)
   refine Aa 97 [61,60] [0,1] (fun a0 HA0=>?_)
   have oe12:=ev HA0 12 rfl
   refine QSeq.pure rfl (.bool true) (fun E=>An rfl (E.v oe12) rfl (Ag _ _ _ _ _ _) (Al _ _ _ Tryz.underlying3) (congrArg Value.bool (Bi KK.out))) ?_
   refine QSeq.pure rfl _ (fun E=>Af rfl (E.d 0 0)) ?_
   refine QSeq.nil (t':=[_,_]) rfl ?_
   obtain rfl:=HA0.out
   clear HA0 oe12
   simp only [pz,Act.put,sIB,sCZ,sCS]
   have HE:=hid (show Bf x=({ mg0 x.kd x.fr x.to with ix:=x.ix,en:=x.en }:Mg) by unfold Bf;rw [if_neg K1.out,if_neg K2.out,if_neg K3.out,if_neg K4.out,if_neg K5.out,if_neg K6.out,if_neg K7.out,if_neg K8.out,if_pos KK.out]<;>rfl)
   go_upto_region 21 with (fail)
   generalize ha0:Act.mk _ _=a0
   have oe1:a0.eval (.tmp 1)=.pointer (some ⟨w.heap.size,0,none⟩):=by rw [← ha0];rfl
   have oe3:a0.eval (.tmp 3)=.pointer (some ⟨w1.heap.size,0,none⟩):=by rw [← ha0];rfl
   have hsz0:a0.tmps.size=97:=by rw [← ha0];rfl
   have HA0:=hid ha0
   clear ha0
   refine A3 97 hsz0 [62,63,64,65,66,102,67,104] (fun k=>(k=w1.heap.size)) (fun k j=>(k=0∧((j=w1.heap.size)))∨(k=1∧((j=w1.heap.size)))) (by intro k j h;(try dsimp only at h ⊢);omega) [qi (.pointer (some ⟨w.heap.size,212,none⟩)),qi (.int .i64 x.ix),qi (.pointer (some ⟨w.heap.size,213,none⟩)),qi (.agg (x.en.cells).toArray),qi (.pointer (some ⟨w1.heap.size,212,none⟩)),qv 0,qi (.pointer (some ⟨w1.heap.size,213,none⟩)),qv 1] ⟨Ab,Ab,Ab,Ab,Ab,Ak,Ab,Ak,trivial⟩ [5,7] ⟨?_,?_,?_,?_,?_,?_,?_,?_,trivial⟩ ?_
   ·exact stq (fun E=>Ad rfl Tryz.underlying61 rfl (by kernel_rfl) (E.v oe1))
   ·exact stq (fun E=>Aj rfl Tryz.underlying3 rfl (E.d 0) (Cs.seg1 ((HB1.out.mod Cx9.out (fun h=>h)).mod E.m (by intro h2;omega)) HLN.out 13 rfl (o:=212) (k:=0) rfl rfl rfl))
   ·exact stq (fun E=>Ad rfl Tryz.underlying61 rfl (by kernel_rfl) (E.v oe1))
   ·exact stq (fun E=>Am rfl Tryz.underlying51 rfl (off:=213) (cs:=(x.en.cells)) (by rw [En.len HOK.out.en];kernel_rfl) (E.d 2) (Cs.seg ((HB1.out.mod Cx9.out (fun h=>h)).mod E.m (by intro h2;omega)) HLN.out 14 rfl rfl))
   ·exact stq (fun E=>Ad rfl Tryz.underlying61 rfl (by kernel_rfl) (E.v oe3))
   ·exact Ah rfl
   ·exact stq (fun E=>Ad rfl Tryz.underlying61 rfl (by kernel_rfl) (E.v oe3))
   ·exact Ah rfl
   intro u21_0 hr
   have zu21_0:=hr.size
   have Cx32:=hid (hr.new (S:=(fun k=>(k=w1.heap.size))))
   have Hx33:=hid (Hx8.out.mod hr (by intro h2;omega))
   clear Hx8
   clear hr
   refine QChain.go fun Z act E=>?_
   refine Aq rfl (Ac rfl) rfl Hx33.out (off:=212) (vs:=[.int .i64 x.ix]) (by kernel_rfl) one1 (by show 212+1≤295;decide) (E.d 4) (ec (E.d 1)) ?_
   intro u21_1a qc0 hm
   have qb5:=qc0.eqv (b:=((Mg.segs ({ mg0 x.kd x.fr x.to with ix:=x.ix }:Mg) (zCe.cells zS) (zPm.cells zS) (zPr.cells zS zS zS) (zOp.cells zS) (zDc.cells zS zS zS zS)).flatten:List Value).toArray) ((Bc HZL.out 13 (rfl) rfl).trans rfl)
   clear qc0
   have zu21_1a:=hm.size
   refine ⟨hm.mono (by intro k hk h;omega),(fun _=>rfl),?_⟩
   intro u21_1 hr
   have zu21_1:=hr.size
   have Hx34:=hid (qb5.mod hr (by intro h2;omega))
   have Cx35:=hid (Cx32.out.goM hm hr (fun _ _ h=>h))
   clear Cx32 hm hr Z act E qb5 Hx33
   refine QChain.go fun Z act E=>?_
   refine Aq rfl (Ac rfl) rfl Hx34.out (off:=213) (vs:=(x.en.cells)) (by rw [En.len HOK.out.en];kernel_rfl) (En.one _) (by show 213+_≤295;rw [En.len HOK.out.en];decide) (E.d 6) (ec (E.d 3)) ?_
   intro u21_2a qc0 hm
   have qb5:=qc0.eqv (b:=((Mg.segs ({ mg0 x.kd x.fr x.to with ix:=x.ix,en:=x.en }:Mg) (zCe.cells zS) (zPm.cells zS) (zPr.cells zS zS zS) (zOp.cells zS) (zDc.cells zS zS zS zS)).flatten:List Value).toArray) ((Bc (show (Mg.segs ({ mg0 x.kd x.fr x.to with ix:=x.ix }:Mg) (zCe.cells zS) (zPm.cells zS) (zPr.cells zS zS zS) (zOp.cells zS) (zDc.cells zS zS zS zS)).map List.length=mgN from HZL.out) 14 (by rw [En.len HOK.out.en];rfl) rfl).trans rfl)
   clear qc0
   have zu21_2a:=hm.size
   refine ⟨hm.mono (by intro k hk h;omega),(fun _=>rfl),?_⟩
   intro u21_2 hr
   have zu21_2:=hr.size
   have Hx36:=hid (qb5.mod hr (by intro h2;omega))
   have Cx37:=hid (Cx35.out.goM hm hr (fun _ _ h=>h))
   clear Cx35 hm hr Z act E qb5 Hx34
   refine QChain.nil fun vs hl hzz hrows hne=>?_
   obtain ⟨Z,hYZ,hZb,hV⟩:=hzz
   rw [show vs=[gw vs 0,gw vs 1,gw vs 2,gw vs 3,gw vs 4,gw vs 5,gw vs 6,gw vs 7] from (Be hl).trans rfl]
   have ha0:=HA0.out
   subst ha0
   clear HA0 hV hYZ hZb hsz0 hrows hne oe1 oe3
   simp only [Au,Act.put,sIB,sCZ,sCS,List.set_nil]
   clear hl
   have hrz:MgR.rd R2 u21_2 ((Mg.segs ({ mg0 x.kd x.fr x.to with ix:=x.ix,en:=x.en }:Mg) (zCe.cells zS) (zPm.cells zS) (zPr.cells zS zS zS) (zOp.cells zS) (zDc.cells zS zS zS zS)).flatten) ({ mg0 x.kd x.fr x.to with ix:=x.ix,en:=x.en }:Mg):=⟨_,_,_,_,_,rfl,{ HZK.out with ix:=HOK.out.ix,en:=HOK.out.en },zCe_rd _ _,zPm_rd _ _,z_pr _ _,z_op _ _,z_dc _ _⟩
   have HRZ:=Lib.hid hrz
   clear hrz
   go_wp2_with fail
   go_meet
   case rel=>exact ⟨congrArg (fun z=>Value.pointer (some ⟨z,0,none⟩)) (by omega),_,_,HE.out.symm,Hx36.out,HRZ.out,(hmz.out.trans Cx37.out (fun _ _ h=>h))⟩
  have K9:=Lib.hid h9
  clear h9
  go_upto_region 20 with (fail)
  refine Aa 97 [61,60] [0,1] (fun a0 HA0=>?_)
  have oe12:=ev HA0 12 rfl
  refine QSeq.pure rfl (.bool false) (fun E=>An rfl (E.v oe12) rfl (Ag _ _ _ _ _ _) (Al _ _ _ Tryz.underlying3) (congrArg Value.bool (Bb K9.out))) ?_
  refine QSeq.pure rfl _ (fun E=>Af rfl (E.d 0 0)) ?_
  refine QSeq.nil (t':=[_,_]) rfl ?_
  obtain rfl:=HA0.out
  clear HA0 oe12
  simp only [pz,Act.put,sIB,sCZ,sCS]
  by_cases h10:x.kd=10
  ·have KK:=Lib.hid h10
   clear h10
   go_upto_region 22 with (fail)
   refine Aa 97 [69,68] [0,1] (fun a0 HA0=>?_)
   have oe12:=ev HA0 12 rfl
   refine QSeq.pure rfl (.bool true) (fun E=>An rfl (E.v oe12) rfl (Ag _ _ _ _ _ _) (Al _ _ _ Tryz.underlying3) (congrArg Value.bool (Bi KK.out))) ?_
   refine QSeq.pure rfl _ (fun E=>Af rfl (E.d 0 0)) ?_
   refine QSeq.nil (t':=[_,_]) rfl ?_
   obtain rfl:=HA0.out
   clear HA0 oe12
   simp only [pz,Act.put,sIB,sCZ,sCS]
   have HE:=hid (show Bf x=({ mg0 x.kd x.fr x.to with op:=x.op }:Mg) by unfold Bf;rw [if_neg K1.out,if_neg K2.out,if_neg K3.out,if_neg K4.out,if_neg K5.out,if_neg K6.out,if_neg K7.out,if_neg K8.out,if_neg K9.out,if_pos KK.out]<;>rfl)
   go_upto_region 23 with (fail)
   refine Aa 97 [70,71,72,100] [0,1,2,3] (fun a0 HA0=>?_)
   have oe1:=ev HA0 1 rfl
   have oe3:=ev HA0 3 rfl
   refine QSeq.pure rfl (.pointer (some ⟨w.heap.size,248,none⟩)) (fun E=>Ad rfl Tryz.underlying61 rfl (by kernel_rfl) (E.v oe1)) ?_
   refine QSeq.pure rfl _ (fun E=>Am rfl Tryz.underlying54 rfl (off:=248) (cs:=(c15)) (by rw [HC15.out];kernel_rfl) (E.d 0 0) (Cs.seg (HB1.out.mod Cx9.out (fun h=>h)) HLN.out 15 rfl rfl)) ?_
   refine QSeq.pure rfl (.pointer (some ⟨w1.heap.size,248,none⟩)) (fun E=>Ad rfl Tryz.underlying61 rfl (by kernel_rfl) (E.v oe3)) ?_
   refine QSeq.go fun act E=>?_
   refine Aq rfl (Ac rfl) rfl Hx8.out (off:=248) (vs:=c15) (by rw [HC15.out];kernel_rfl) HO15.out (by show 248+_≤295;rw [HC15.out];decide) (E.d 2 0) (ec (E.d 1 1)) ?_
   intro u23_3 qc0 hm
   have qb5:=qc0.eqv (b:=((Mg.segs ({ mg0 x.kd x.fr x.to with op:=x.op }:Mg) (zCe.cells zS) (zPm.cells zS) (zPr.cells zS zS zS) c15 (zDc.cells zS zS zS zS)).flatten:List Value).toArray) ((Bc HZL.out 15 (by rw [HC15.out];rfl) rfl).trans rfl)
   clear qc0
   have Hx38:=hid qb5
   have zu23_3:=hm.size
   have Cx39:=hid (show Mod (fun k=>(k=w1.heap.size)) u1_8 u23_3 from hm)
   clear hm
   clear act E qb5 Hx8
   refine QSeq.nil (t':=[_,_,_,_]) rfl ?_
   obtain rfl:=HA0.out
   clear HA0 oe1 oe3
   simp only [pz,Act.put,sIB,sCZ,sCS,List.set_nil]
   have hrz:MgR.rd R2 u23_3 ((Mg.segs ({ mg0 x.kd x.fr x.to with op:=x.op }:Mg) (zCe.cells zS) (zPm.cells zS) (zPr.cells zS zS zS) c15 (zDc.cells zS zS zS zS)).flatten) ({ mg0 x.kd x.fr x.to with op:=x.op }:Mg):=⟨_,_,_,_,_,rfl,{ HZK.out with },zCe_rd _ _,zPm_rd _ _,z_pr _ _,((Hx4.out.mod Cx9.out (fun _ _ h=>h)).mod Cx39.out (sB HBT)),z_dc _ _⟩
   have HRZ:=Lib.hid hrz
   clear hrz
   go_wp2_with fail
   go_meet
   case rel=>exact ⟨congrArg (fun z=>Value.pointer (some ⟨z,0,none⟩)) (by omega),_,_,HE.out.symm,Hx38.out,HRZ.out,(hmz.out.trans Cx39.out (fun _ _ h=>h))⟩
  have K10:=Lib.hid h10
  clear h10
  go_upto_region 22 with (fail)
  refine Aa 97 [69,68] [0,1] (fun a0 HA0=>?_)
  have oe12:=ev HA0 12 rfl
  refine QSeq.pure rfl (.bool false) (fun E=>An rfl (E.v oe12) rfl (Ag _ _ _ _ _ _) (Al _ _ _ Tryz.underlying3) (congrArg Value.bool (Bb K10.out))) ?_
  refine QSeq.pure rfl _ (fun E=>Af rfl (E.d 0 0)) ?_
  refine QSeq.nil (t':=[_,_]) rfl ?_
  obtain rfl:=HA0.out
  clear HA0 oe12
  simp only [pz,Act.put,sIB,sCZ,sCS]
  by_cases h11:x.kd=11
  ·have KK:=Lib.hid h11
   clear h11
   go_upto_region 24 with (fail)
   refine Aa 97 [74,73] [0,1] (fun a0 HA0=>?_)
   have oe12:=ev HA0 12 rfl
   refine QSeq.pure rfl (.bool true) (fun E=>An rfl (E.v oe12) rfl (Ag _ _ _ _ _ _) (Al _ _ _ Tryz.underlying3) (congrArg Value.bool (Bi KK.out))) ?_
   refine QSeq.pure rfl _ (fun E=>Af rfl (E.d 0 0)) ?_
   refine QSeq.nil (t':=[_,_]) rfl ?_
   obtain rfl:=HA0.out
   clear HA0 oe12
   simp only [pz,Act.put,sIB,sCZ,sCS]
   have HE:=hid (show Bf x=({ mg0 x.kd x.fr x.to with ix:=x.ix }:Mg) by unfold Bf;rw [if_neg K1.out,if_neg K2.out,if_neg K3.out,if_neg K4.out,if_neg K5.out,if_neg K6.out,if_neg K7.out,if_neg K8.out,if_neg K9.out,if_neg K10.out,if_pos KK.out]<;>rfl)
   go_upto_region 25 with (fail)
   refine Aa 97 [75,76,77,100] [0,1,2,3] (fun a0 HA0=>?_)
   have oe1:=ev HA0 1 rfl
   have oe3:=ev HA0 3 rfl
   refine QSeq.pure rfl (.pointer (some ⟨w.heap.size,212,none⟩)) (fun E=>Ad rfl Tryz.underlying61 rfl (by kernel_rfl) (E.v oe1)) ?_
   refine QSeq.pure rfl (.int .i64 x.ix) (fun E=>Aj rfl Tryz.underlying3 rfl (E.d 0 0) (Cs.seg1 (HB1.out.mod Cx9.out (fun h=>h)) HLN.out 13 rfl (o:=212) (k:=0) rfl rfl rfl)) ?_
   refine QSeq.pure rfl (.pointer (some ⟨w1.heap.size,212,none⟩)) (fun E=>Ad rfl Tryz.underlying61 rfl (by kernel_rfl) (E.v oe3)) ?_
   refine QSeq.go fun act E=>?_
   refine Aq rfl (Ac rfl) rfl Hx8.out (off:=212) (vs:=[.int .i64 x.ix]) (by kernel_rfl) one1 (by show 212+1≤295;decide) (E.d 2 0) (ec (E.d 1 1)) ?_
   intro u25_3 qc0 hm
   have qb5:=qc0.eqv (b:=((Mg.segs ({ mg0 x.kd x.fr x.to with ix:=x.ix }:Mg) (zCe.cells zS) (zPm.cells zS) (zPr.cells zS zS zS) (zOp.cells zS) (zDc.cells zS zS zS zS)).flatten:List Value).toArray) ((Bc HZL.out 13 (rfl) rfl).trans rfl)
   clear qc0
   have Hx40:=hid qb5
   have zu25_3:=hm.size
   have Cx41:=hid (show Mod (fun k=>(k=w1.heap.size)) u1_8 u25_3 from hm)
   clear hm
   clear act E qb5 Hx8
   refine QSeq.nil (t':=[_,_,_,_]) rfl ?_
   obtain rfl:=HA0.out
   clear HA0 oe1 oe3
   simp only [pz,Act.put,sIB,sCZ,sCS,List.set_nil]
   have hrz:MgR.rd R2 u25_3 ((Mg.segs ({ mg0 x.kd x.fr x.to with ix:=x.ix }:Mg) (zCe.cells zS) (zPm.cells zS) (zPr.cells zS zS zS) (zOp.cells zS) (zDc.cells zS zS zS zS)).flatten) ({ mg0 x.kd x.fr x.to with ix:=x.ix }:Mg):=⟨_,_,_,_,_,rfl,{ HZK.out with ix:=HOK.out.ix },zCe_rd _ _,zPm_rd _ _,z_pr _ _,z_op _ _,z_dc _ _⟩
   have HRZ:=Lib.hid hrz
   clear hrz
   go_wp2_with fail
   go_meet
   case rel=>exact ⟨congrArg (fun z=>Value.pointer (some ⟨z,0,none⟩)) (by omega),_,_,HE.out.symm,Hx40.out,HRZ.out,(hmz.out.trans Cx41.out (fun _ _ h=>h))⟩
  have K11:=Lib.hid h11
  clear h11
  go_upto_region 24 with (fail)
  refine Aa 97 [74,73] [0,1] (fun a0 HA0=>?_)
  have oe12:=ev HA0 12 rfl
  refine QSeq.pure rfl (.bool false) (fun E=>An rfl (E.v oe12) rfl (Ag _ _ _ _ _ _) (Al _ _ _ Tryz.underlying3) (congrArg Value.bool (Bb K11.out))) ?_
  refine QSeq.pure rfl _ (fun E=>Af rfl (E.d 0 0)) ?_
  refine QSeq.nil (t':=[_,_]) rfl ?_
  obtain rfl:=HA0.out
  clear HA0 oe12
  simp only [pz,Act.put,sIB,sCZ,sCS]
  by_cases h12:x.kd=12
  ·have KK:=Lib.hid h12
   clear h12
   go_upto_region 26 with (fail)
   refine Aa 97 [79,78] [0,1] (fun a0 HA0=>?_)
   have oe12:=ev HA0 12 rfl
   refine QSeq.pure rfl (.bool true) (fun E=>An rfl (E.v oe12) rfl (Ag _ _ _ _ _ _) (Al _ _ _ Tryz.underlying3) (congrArg Value.bool (Bi KK.out))) ?_
   refine QSeq.pure rfl _ (fun E=>Af rfl (E.d 0 0)) ?_
   refine QSeq.nil (t':=[_,_]) rfl ?_
   obtain rfl:=HA0.out
   clear HA0 oe12
   simp only [pz,Act.put,sIB,sCZ,sCS]
   have HE:=hid (show Bf x=({ mg0 x.kd x.fr x.to with dn:=x.dn }:Mg) by unfold Bf;rw [if_neg K1.out,if_neg K2.out,if_neg K3.out,if_neg K4.out,if_neg K5.out,if_neg K6.out,if_neg K7.out,if_neg K8.out,if_neg K9.out,if_neg K10.out,if_neg K11.out,if_pos KK.out]<;>rfl)
   go_upto_region 27 with (fail)
   refine Aa 97 [80,81,82,100] [0,1,2,3] (fun a0 HA0=>?_)
   have oe1:=ev HA0 1 rfl
   have oe3:=ev HA0 3 rfl
   refine QSeq.pure rfl (.pointer (some ⟨w.heap.size,282,none⟩)) (fun E=>Ad rfl Tryz.underlying61 rfl (by kernel_rfl) (E.v oe1)) ?_
   refine QSeq.pure rfl _ (fun E=>Am rfl Tryz.underlying56 rfl (off:=282) (cs:=(x.dn.cells)) (by kernel_rfl) (E.d 0 0) (Cs.seg (HB1.out.mod Cx9.out (fun h=>h)) HLN.out 16 rfl rfl)) ?_
   refine QSeq.pure rfl (.pointer (some ⟨w1.heap.size,282,none⟩)) (fun E=>Ad rfl Tryz.underlying61 rfl (by kernel_rfl) (E.v oe3)) ?_
   refine QSeq.go fun act E=>?_
   refine Aq rfl (Ac rfl) rfl Hx8.out (off:=282) (vs:=(x.dn.cells)) (by kernel_rfl) (Dn.one _) (by show 282+4≤295;decide) (E.d 2 0) (ec (E.d 1 1)) ?_
   intro u27_3 qc0 hm
   have qb5:=qc0.eqv (b:=((Mg.segs ({ mg0 x.kd x.fr x.to with dn:=x.dn }:Mg) (zCe.cells zS) (zPm.cells zS) (zPr.cells zS zS zS) (zOp.cells zS) (zDc.cells zS zS zS zS)).flatten:List Value).toArray) ((Bc HZL.out 16 (rfl) rfl).trans rfl)
   clear qc0
   have Hx42:=hid qb5
   have zu27_3:=hm.size
   have Cx43:=hid (show Mod (fun k=>(k=w1.heap.size)) u1_8 u27_3 from hm)
   clear hm
   clear act E qb5 Hx8
   refine QSeq.nil (t':=[_,_,_,_]) rfl ?_
   obtain rfl:=HA0.out
   clear HA0 oe1 oe3
   simp only [pz,Act.put,sIB,sCZ,sCS,List.set_nil]
   have hrz:MgR.rd R2 u27_3 ((Mg.segs ({ mg0 x.kd x.fr x.to with dn:=x.dn }:Mg) (zCe.cells zS) (zPm.cells zS) (zPr.cells zS zS zS) (zOp.cells zS) (zDc.cells zS zS zS zS)).flatten) ({ mg0 x.kd x.fr x.to with dn:=x.dn }:Mg):=⟨_,_,_,_,_,rfl,{ HZK.out with dn:=HOK.out.dn },zCe_rd _ _,zPm_rd _ _,z_pr _ _,z_op _ _,z_dc _ _⟩
   have HRZ:=Lib.hid hrz
   clear hrz
   go_wp2_with fail
   go_meet
   case rel=>exact ⟨congrArg (fun z=>Value.pointer (some ⟨z,0,none⟩)) (by omega),_,_,HE.out.symm,Hx42.out,HRZ.out,(hmz.out.trans Cx43.out (fun _ _ h=>h))⟩
  have K12:=Lib.hid h12
  clear h12
  go_upto_region 26 with (fail)
  refine Aa 97 [79,78] [0,1] (fun a0 HA0=>?_)
  have oe12:=ev HA0 12 rfl
  refine QSeq.pure rfl (.bool false) (fun E=>An rfl (E.v oe12) rfl (Ag _ _ _ _ _ _) (Al _ _ _ Tryz.underlying3) (congrArg Value.bool (Bb K12.out))) ?_
  refine QSeq.pure rfl _ (fun E=>Af rfl (E.d 0 0)) ?_
  refine QSeq.nil (t':=[_,_]) rfl ?_
  obtain rfl:=HA0.out
  clear HA0 oe12
  simp only [pz,Act.put,sIB,sCZ,sCS]
  by_cases h13:x.kd=13
  ·have KK:=Lib.hid h13
   clear h13
   go_upto_region 28 with (fail)
   refine Aa 97 [84,83] [0,1] (fun a0 HA0=>?_)
   have oe12:=ev HA0 12 rfl
   refine QSeq.pure rfl (.bool true) (fun E=>An rfl (E.v oe12) rfl (Ag _ _ _ _ _ _) (Al _ _ _ Tryz.underlying3) (congrArg Value.bool (Bi KK.out))) ?_
   refine QSeq.pure rfl _ (fun E=>Af rfl (E.d 0 0)) ?_
   refine QSeq.nil (t':=[_,_]) rfl ?_
   obtain rfl:=HA0.out
   clear HA0 oe12
   simp only [pz,Act.put,sIB,sCZ,sCS]
   have HE:=hid (show Bf x=({ mg0 x.kd x.fr x.to with ix:=x.ix,rp:=x.rp }:Mg) by unfold Bf;rw [if_neg K1.out,if_neg K2.out,if_neg K3.out,if_neg K4.out,if_neg K5.out,if_neg K6.out,if_neg K7.out,if_neg K8.out,if_neg K9.out,if_neg K10.out,if_neg K11.out,if_neg K12.out,if_pos KK.out]<;>rfl)
   go_upto_region 29 with (fail)
   generalize ha0:Act.mk _ _=a0
   have oe1:a0.eval (.tmp 1)=.pointer (some ⟨w.heap.size,0,none⟩):=by rw [← ha0];rfl
   have oe3:a0.eval (.tmp 3)=.pointer (some ⟨w1.heap.size,0,none⟩):=by rw [← ha0];rfl
   have hsz0:a0.tmps.size=97:=by rw [← ha0];rfl
   have HA0:=hid ha0
   clear ha0
   refine A3 97 hsz0 [85,86,87,88,89,102,90,104] (fun k=>(k=w1.heap.size)) (fun k j=>(k=0∧((j=w1.heap.size)))∨(k=1∧((j=w1.heap.size)))) (by intro k j h;(try dsimp only at h ⊢);omega) [qi (.pointer (some ⟨w.heap.size,212,none⟩)),qi (.int .i64 x.ix),qi (.pointer (some ⟨w.heap.size,286,none⟩)),qi (.string x.rp),qi (.pointer (some ⟨w1.heap.size,212,none⟩)),qv 0,qi (.pointer (some ⟨w1.heap.size,286,none⟩)),qv 1] ⟨Ab,Ab,Ab,Ab,Ab,Ak,Ab,Ak,trivial⟩ [5,7] ⟨?_,?_,?_,?_,?_,?_,?_,?_,trivial⟩ ?_
   ·exact stq (fun E=>Ad rfl Tryz.underlying61 rfl (by kernel_rfl) (E.v oe1))
   ·exact stq (fun E=>Aj rfl Tryz.underlying3 rfl (E.d 0) (Cs.seg1 ((HB1.out.mod Cx9.out (fun h=>h)).mod E.m (by intro h2;omega)) HLN.out 13 rfl (o:=212) (k:=0) rfl rfl rfl))
   ·exact stq (fun E=>Ad rfl Tryz.underlying61 rfl (by kernel_rfl) (E.v oe1))
   ·exact stq (fun E=>Aj rfl Tryz.underlying9 rfl (E.d 2) (Cs.seg1 ((HB1.out.mod Cx9.out (fun h=>h)).mod E.m (by intro h2;omega)) HLN.out 17 rfl (o:=286) (k:=0) rfl rfl rfl))
   ·exact stq (fun E=>Ad rfl Tryz.underlying61 rfl (by kernel_rfl) (E.v oe3))
   ·exact Ah rfl
   ·exact stq (fun E=>Ad rfl Tryz.underlying61 rfl (by kernel_rfl) (E.v oe3))
   ·exact Ah rfl
   intro u29_0 hr
   have zu29_0:=hr.size
   have Cx44:=hid (hr.new (S:=(fun k=>(k=w1.heap.size))))
   have Hx45:=hid (Hx8.out.mod hr (by intro h2;omega))
   clear Hx8
   clear hr
   refine QChain.go fun Z act E=>?_
   refine Aq rfl (Ac rfl) rfl Hx45.out (off:=212) (vs:=[.int .i64 x.ix]) (by kernel_rfl) one1 (by show 212+1≤295;decide) (E.d 4) (ec (E.d 1)) ?_
   intro u29_1a qc0 hm
   have qb5:=qc0.eqv (b:=((Mg.segs ({ mg0 x.kd x.fr x.to with ix:=x.ix }:Mg) (zCe.cells zS) (zPm.cells zS) (zPr.cells zS zS zS) (zOp.cells zS) (zDc.cells zS zS zS zS)).flatten:List Value).toArray) ((Bc HZL.out 13 (rfl) rfl).trans rfl)
   clear qc0
   have zu29_1a:=hm.size
   refine ⟨hm.mono (by intro k hk h;omega),(fun _=>rfl),?_⟩
   intro u29_1 hr
   have zu29_1:=hr.size
   have Hx46:=hid (qb5.mod hr (by intro h2;omega))
   have Cx47:=hid (Cx44.out.goM hm hr (fun _ _ h=>h))
   clear Cx44 hm hr Z act E qb5 Hx45
   refine QChain.go fun Z act E=>?_
   refine Aq rfl (Ac rfl) rfl Hx46.out (off:=286) (vs:=[.string x.rp]) (by kernel_rfl) one1 (by show 286+1≤295;decide) (E.d 6) (ec (E.d 3)) ?_
   intro u29_2a qc0 hm
   have qb5:=qc0.eqv (b:=((Mg.segs ({ mg0 x.kd x.fr x.to with ix:=x.ix,rp:=x.rp }:Mg) (zCe.cells zS) (zPm.cells zS) (zPr.cells zS zS zS) (zOp.cells zS) (zDc.cells zS zS zS zS)).flatten:List Value).toArray) ((Bc (show (Mg.segs ({ mg0 x.kd x.fr x.to with ix:=x.ix }:Mg) (zCe.cells zS) (zPm.cells zS) (zPr.cells zS zS zS) (zOp.cells zS) (zDc.cells zS zS zS zS)).map List.length=mgN from HZL.out) 17 (rfl) rfl).trans rfl)
   clear qc0
   have zu29_2a:=hm.size
   refine ⟨hm.mono (by intro k hk h;omega),(fun _=>rfl),?_⟩
   intro u29_2 hr
   have zu29_2:=hr.size
   have Hx48:=hid (qb5.mod hr (by intro h2;omega))
   have Cx49:=hid (Cx47.out.goM hm hr (fun _ _ h=>h))
   clear Cx47 hm hr Z act E qb5 Hx46
   refine QChain.nil fun vs hl hzz hrows hne=>?_
   obtain ⟨Z,hYZ,hZb,hV⟩:=hzz
   rw [show vs=[gw vs 0,gw vs 1,gw vs 2,gw vs 3,gw vs 4,gw vs 5,gw vs 6,gw vs 7] from (Be hl).trans rfl]
   have ha0:=HA0.out
   subst ha0
   clear HA0 hV hYZ hZb hsz0 hrows hne oe1 oe3
   simp only [Au,Act.put,sIB,sCZ,sCS,List.set_nil]
   clear hl
   have hrz:MgR.rd R2 u29_2 ((Mg.segs ({ mg0 x.kd x.fr x.to with ix:=x.ix,rp:=x.rp }:Mg) (zCe.cells zS) (zPm.cells zS) (zPr.cells zS zS zS) (zOp.cells zS) (zDc.cells zS zS zS zS)).flatten) ({ mg0 x.kd x.fr x.to with ix:=x.ix,rp:=x.rp }:Mg):=⟨_,_,_,_,_,rfl,{ HZK.out with ix:=HOK.out.ix },zCe_rd _ _,zPm_rd _ _,z_pr _ _,z_op _ _,z_dc _ _⟩
   have HRZ:=Lib.hid hrz
   clear hrz
   go_wp2_with fail
   go_meet
   case rel=>exact ⟨congrArg (fun z=>Value.pointer (some ⟨z,0,none⟩)) (by omega),_,_,HE.out.symm,Hx48.out,HRZ.out,(hmz.out.trans Cx49.out (fun _ _ h=>h))⟩
  have K13:=Lib.hid h13
  clear h13
  go_upto_region 28 with (fail)
  refine Aa 97 [84,83] [0,1] (fun a0 HA0=>?_)
  have oe12:=ev HA0 12 rfl
  refine QSeq.pure rfl (.bool false) (fun E=>An rfl (E.v oe12) rfl (Ag _ _ _ _ _ _) (Al _ _ _ Tryz.underlying3) (congrArg Value.bool (Bb K13.out))) ?_
  refine QSeq.pure rfl _ (fun E=>Af rfl (E.d 0 0)) ?_
  refine QSeq.nil (t':=[_,_]) rfl ?_
  obtain rfl:=HA0.out
  clear HA0 oe12
  simp only [pz,Act.put,sIB,sCZ,sCS]
  by_cases h14:x.kd=14
  ·have KK:=Lib.hid h14
   clear h14
   go_upto_region 30 with (fail)
   refine Aa 97 [92,91] [0,1] (fun a0 HA0=>?_)
   have oe12:=ev HA0 12 rfl
   refine QSeq.pure rfl (.bool true) (fun E=>An rfl (E.v oe12) rfl (Ag _ _ _ _ _ _) (Al _ _ _ Tryz.underlying3) (congrArg Value.bool (Bi KK.out))) ?_
   refine QSeq.pure rfl _ (fun E=>Af rfl (E.d 0 0)) ?_
   refine QSeq.nil (t':=[_,_]) rfl ?_
   obtain rfl:=HA0.out
   clear HA0 oe12
   simp only [pz,Act.put,sIB,sCZ,sCS]
   have HE:=hid (show Bf x=({ mg0 x.kd x.fr x.to with dc:=x.dc }:Mg) by unfold Bf;rw [if_neg K1.out,if_neg K2.out,if_neg K3.out,if_neg K4.out,if_neg K5.out,if_neg K6.out,if_neg K7.out,if_neg K8.out,if_neg K9.out,if_neg K10.out,if_neg K11.out,if_neg K12.out,if_neg K13.out,if_pos KK.out]<;>rfl)
   go_upto_region 31 with (fail)
   refine Aa 97 [93,94,95,100] [0,1,2,3] (fun a0 HA0=>?_)
   have oe1:=ev HA0 1 rfl
   have oe3:=ev HA0 3 rfl
   refine QSeq.pure rfl (.pointer (some ⟨w.heap.size,287,none⟩)) (fun E=>Ad rfl Tryz.underlying61 rfl (by kernel_rfl) (E.v oe1)) ?_
   refine QSeq.pure rfl _ (fun E=>Am rfl Tryz.underlying59 rfl (off:=287) (cs:=(c18)) (by rw [HC18.out];kernel_rfl) (E.d 0 0) (Cs.seg (HB1.out.mod Cx9.out (fun h=>h)) HLN.out 18 rfl rfl)) ?_
   refine QSeq.pure rfl (.pointer (some ⟨w1.heap.size,287,none⟩)) (fun E=>Ad rfl Tryz.underlying61 rfl (by kernel_rfl) (E.v oe3)) ?_
   refine QSeq.go fun act E=>?_
   refine Aq rfl (Ac rfl) rfl Hx8.out (off:=287) (vs:=c18) (by rw [HC18.out];kernel_rfl) HO18.out (by show 287+_≤295;rw [HC18.out];decide) (E.d 2 0) (ec (E.d 1 1)) ?_
   intro u31_3 qc0 hm
   have qb5:=qc0.eqv (b:=((Mg.segs ({ mg0 x.kd x.fr x.to with dc:=x.dc }:Mg) (zCe.cells zS) (zPm.cells zS) (zPr.cells zS zS zS) (zOp.cells zS) c18).flatten:List Value).toArray) ((Bc HZL.out 18 (by rw [HC18.out];rfl) rfl).trans rfl)
   clear qc0
   have Hx50:=hid qb5
   have zu31_3:=hm.size
   have Cx51:=hid (show Mod (fun k=>(k=w1.heap.size)) u1_8 u31_3 from hm)
   clear hm
   clear act E qb5 Hx8
   refine QSeq.nil (t':=[_,_,_,_]) rfl ?_
   obtain rfl:=HA0.out
   clear HA0 oe1 oe3
   simp only [pz,Act.put,sIB,sCZ,sCS,List.set_nil]
   have hrz:MgR.rd R2 u31_3 ((Mg.segs ({ mg0 x.kd x.fr x.to with dc:=x.dc }:Mg) (zCe.cells zS) (zPm.cells zS) (zPr.cells zS zS zS) (zOp.cells zS) c18).flatten) ({ mg0 x.kd x.fr x.to with dc:=x.dc }:Mg):=⟨_,_,_,_,_,rfl,{ HZK.out with },zCe_rd _ _,zPm_rd _ _,z_pr _ _,z_op _ _,((Hx5.out.mod Cx9.out (fun _ _ h=>h)).mod Cx51.out (sB HBT))⟩
   have HRZ:=Lib.hid hrz
   clear hrz
   go_wp2_with fail
   go_meet
   case rel=>exact ⟨congrArg (fun z=>Value.pointer (some ⟨z,0,none⟩)) (by omega),_,_,HE.out.symm,Hx50.out,HRZ.out,(hmz.out.trans Cx51.out (fun _ _ h=>h))⟩
  have K14:=Lib.hid h14
  clear h14
  go_upto_region 30 with (fail)
  refine Aa 97 [92,91] [0,1] (fun a0 HA0=>?_)
  have oe12:=ev HA0 12 rfl
  refine QSeq.pure rfl (.bool false) (fun E=>An rfl (E.v oe12) rfl (Ag _ _ _ _ _ _) (Al _ _ _ Tryz.underlying3) (congrArg Value.bool (Bb K14.out))) ?_
  refine QSeq.pure rfl _ (fun E=>Af rfl (E.d 0 0)) ?_
  refine QSeq.nil (t':=[_,_]) rfl ?_
  obtain rfl:=HA0.out
  clear HA0 oe12
  simp only [pz,Act.put,sIB,sCZ,sCS]
  have HE:=hid (show Bf x=mg0 0 0 0 by unfold Bf;rw [if_neg K1.out,if_neg K2.out,if_neg K3.out,if_neg K4.out,if_neg K5.out,if_neg K6.out,if_neg K7.out,if_neg K8.out,if_neg K9.out,if_neg K10.out,if_neg K11.out,if_neg K12.out,if_neg K13.out,if_neg K14.out]<;>rfl)
  go_upto_region 3 with (fail)
  refine Aa 97 [13,98] [0,1] (fun a0 HA0=>?_)
  have oe2:=ev HA0 2 rfl
  refine QSeq.pure rfl (.agg ((mg0C 0 0 0):List Value).toArray) (fun E=>ex_build0 rfl (r:=((mg0C 0 0 0):List Value).toArray) (by kernel_rfl)) ?_
  refine QSeq.go fun act E=>?_
  refine Aq rfl (Ac rfl) rfl (HB2.out.mod Cx9.out (fun h=>h)) (off:=0) (vs:=(mg0C 0 0 0)) (by kernel_rfl) HZO.out (by show 0+295≤295;decide) (E.v oe2) (ec (E.d 0 0)) ?_
  intro u3_1 qc0 hm
  have qB2:=qc0.eqv (b:=((mg0C 0 0 0):List Value).toArray) (A5 _ _ rfl)
  clear qc0
  have Hx52:=hid qB2
  have zu3_1:=hm.size
  have Cx53:=hid (show Mod (fun k=>(k=w.heap.size+1)) u1_8 u3_1 from hm)
  clear hm
  clear act E qB2 HB2
  refine QSeq.nil (t':=[_,_]) rfl ?_
  obtain rfl:=HA0.out
  clear HA0 oe2
  simp only [pz,Act.put,sIB,sCZ,sCS,List.set_nil]
  go_wp2
  exact bodyPost_ret (A7 rfl _ _ (w.heap.size+1) (mg0C 0 0 0) rfl (fun k u hu=>by rw [Hx52.out.cell];simpa using hu) Tryz.underlying61 rfl (by kernel_rfl)) rfl ⟨_,rfl,by rw [HE.out];exact mg0_rd A4 A4 A4 _ _,((HM0.out.trans Cx9.out (fun _ _ h=>h.elim)).trans Cx53.out (by intro k h1 h2;omega))⟩
 case rest=>
  obtain ⟨wq,rfl⟩:∃ x,x=wc:=⟨_,rfl⟩
  obtain ⟨rfl,y,cy,hy,hb5,hrz,hm⟩:=hcut
  have zwq:=hm.size
  have HB5:=Lib.hid hb5
  have HRM:=Lib.hid hrz
  have HSZ:=hid (MgR.len hrz)
  have HY:=Lib.hid hy
  have HWY:=hid (MgR.one hrz)
  clear hb5 hrz hy
  clear Hx8
  clear Hx1
  clear Hx2
  clear Hx3
  clear Hx4
  clear Hx5
  clear HB1
  have Hx54:=hid ((HB2.out.mod Cx9.out (fun h=>h)).mod hm (by intro h2;omega))
  have Hx55:=hid ((HM0.out.trans Cx9.out (fun _ _ h=>h.elim)).trans hm (by intro k h1 h2;omega))
  clear HB2 HM0
  clear hm
  go_upto_region 32 with (fail)
  refine Aa 97 [96,98] [0,1] (fun a0 HA0=>?_)
  have oe2:=ev HA0 2 rfl
  have oe3:=ev HA0 3 rfl
  refine QSeq.pure rfl _ (fun E=>Am rfl Tryz.underlying61 rfl (off:=0) (cs:=cy) (by rw [HSZ.out];kernel_rfl) (E.v oe3) (Cs.whole HB5.out)) ?_
  refine QSeq.go fun act E=>?_
  refine Aq rfl (Ac rfl) rfl Hx54.out (off:=0) (vs:=cy) (by rw [HSZ.out];kernel_rfl) HWY.out (by rw [HSZ.out];show 0+295≤295;decide) (E.v oe2) (ec (E.d 0 0)) ?_
  intro u32_1 qc0 hm
  have qB2:=qc0.eqv (b:=(cy:List Value).toArray) (A5 _ _ (by rw [HSZ.out];rfl))
  clear qc0
  have Hx56:=hid qB2
  have zu32_1:=hm.size
  have Cx57:=hid (show Mod (fun k=>(k=w.heap.size+1)) wq u32_1 from hm)
  clear hm
  clear act E qB2 Hx54
  refine QSeq.nil (t':=[_,_]) rfl ?_
  obtain rfl:=HA0.out
  clear HA0 oe2 oe3
  simp only [pz,Act.put,sIB,sCZ,sCS,List.set_nil]
  go_wp2
  exact bodyPost_ret (A7 rfl _ _ (w.heap.size+1) cy rfl (fun k u hu=>by rw [Hx56.out.cell];simpa using hu) Tryz.underlying61 rfl (by rw [HSZ.out];kernel_rfl)) rfl ⟨_,rfl,by rw [← HY.out];exact (HRM.out.mod Cx57.out (sB HBT)),(Hx55.out.trans Cx57.out (by intro k h1 h2;omega))⟩
end Go.Proofs.YtnaoeginonpicaaGreat
