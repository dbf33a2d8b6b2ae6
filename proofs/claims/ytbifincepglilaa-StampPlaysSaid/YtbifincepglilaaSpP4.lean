/- Texts that are built one behind the other: XTy, XPt1, XPt2, XWt1, XSp0, XConf, XSp1, XSp2, XCmEq, XEq, XEb, XSp3, XSp5, XSc0, XAr, XSa0. No condition. -/
import Derived.Test.YtbifincepglilaaSpP3
import Derived.Deep.RegionWith
import Derived.Shelf.SlMaps.Clone
set_option maxRecDepth 100000
set_option linter.unusedVariables false
open List renaming setIfInBounds_toArray → sIB, set_cons_zero → sCZ, set_cons_succ → sCS
/- The kinds of things that messages are made of: their cells, what reads as one. -/
namespace Go.Proofs.Ytbifincepglilaa
open Go Go.RowKit Go.Gv
/-- a stamp, or an ack -/
structure St where
 rp:Int
 cl:Int
 sq:Int
 h:List Int
 tm:Nat
 sb:Int
 mr:Int
abbrev St.cells (x:St):List Value:=[.int .i64 x.rp,.int .i64 x.cl,.int .i64 x.sq] ++ (x.h.map bv ++ [.int .u64 (x.tm:Nat),.int .i64 x.sb,.int .i64 x.mr])
abbrev St.val (x:St):Value:=.agg x.cells.toArray
structure St.OK (x:St):Prop where
 rp:I64 x.rp
 cl:I64 x.cl
 sq:I64 x.sq
 h:HK x.h
 tm:x.tm < U64
 sb:I64 x.sb
 mr:I64 x.mr
theorem St.len {x:St} (h:x.OK):x.cells.length=38:=by simp [St.cells,h.h.1]
theorem St.one (x:St):∀ u ∈ x.cells,u.oneCell'=true:=by
 intro u hu
 simp only [St.cells,List.mem_append,List.mem_cons,List.not_mem_nil,or_false,List.mem_map] at hu
 rcases hu with (rfl|rfl|rfl)|⟨y,-,rfl⟩|rfl|rfl|rfl<;>rfl
def StR:Rep St:=Rep.flat 38 (by decide) St.cells St.OK (fun a h=>St.len h) (fun a _=>St.one a)
/-- a vote -/
structure Vt where
 kd:Int
 ep:Int
 rd:Int
 rp:Int
 h:List Int
 sb:Int
 mr:Int
abbrev Vt.cells (x:Vt):List Value:=[.int .i64 x.kd,.int .i64 x.ep,.int .i64 x.rd,.int .i64 x.rp] ++ (x.h.map bv ++ [.int .i64 x.sb,.int .i64 x.mr])
abbrev Vt.val (x:Vt):Value:=.agg x.cells.toArray
structure Vt.OK (x:Vt):Prop where
 kd:I64 x.kd
 ep:I64 x.ep
 rd:I64 x.rd
 rp:I64 x.rp
 h:HK x.h
 sb:I64 x.sb
 mr:I64 x.mr
theorem Vt.len {x:Vt} (h:x.OK):x.cells.length=38:=by simp [Vt.cells,h.h.1]
theorem Vt.one (x:Vt):∀ u ∈ x.cells,u.oneCell'=true:=by
 intro u hu
 simp only [Vt.cells,List.mem_append,List.mem_cons,List.not_mem_nil,or_false,List.mem_map] at hu
 rcases hu with (rfl|rfl|rfl|rfl)|⟨y,-,rfl⟩|rfl|rfl<;>rfl
/-- a denial -/
structure Dn where
 rp:Int
 ix:Int
 sb:Int
 mr:Int
abbrev Dn.cells (x:Dn):List Value:=[.int .i64 x.rp,.int .i64 x.ix,.int .i64 x.sb,.int .i64 x.mr]
abbrev Dn.val (x:Dn):Value:=.agg x.cells.toArray
structure Dn.OK (x:Dn):Prop where
 rp:I64 x.rp
 ix:I64 x.ix
 sb:I64 x.sb
 mr:I64 x.mr
theorem Dn.len {x:Dn} (h:x.OK):x.cells.length=4:=by rfl
theorem Dn.one (x:Dn):∀ u ∈ x.cells,u.oneCell'=true:=by
 intro u hu
 simp only [Dn.cells,List.mem_cons,List.not_mem_nil,or_false] at hu
 rcases hu with rfl|rfl|rfl|rfl<;>rfl
def DnR:Rep Dn:=Rep.flat 4 (by decide) Dn.cells Dn.OK (fun a h=>Dn.len h) (fun a _=>Dn.one a)
/-- an entry -/
structure En where
 cl:Int
 sq:Int
 h:List Int
 tm:Nat
abbrev En.cells (x:En):List Value:=[.int .i64 x.cl,.int .i64 x.sq] ++ (x.h.map bv ++ [.int .u64 (x.tm:Nat)])
abbrev En.val (x:En):Value:=.agg x.cells.toArray
structure En.OK (x:En):Prop where
 cl:I64 x.cl
 sq:I64 x.sq
 h:HK x.h
 tm:x.tm < U64
theorem En.len {x:En} (h:x.OK):x.cells.length=35:=by simp [En.cells,h.h.1]
theorem En.one (x:En):∀ u ∈ x.cells,u.oneCell'=true:=by
 intro u hu
 simp only [En.cells,List.mem_append,List.mem_cons,List.not_mem_nil,or_false,List.mem_map] at hu
 rcases hu with (rfl|rfl)|⟨y,-,rfl⟩|rfl<;>rfl
theorem RdR_keep {R:Nat→Prop} {N:Nat} {w w':World} {v:Value} {bs:List Int} (h:RdR R N w v bs) (hk:∀ p u,R p.block→w.cell? p=some u→w'.cell? p=some u):RdR R N w' v bs:=
 ⟨⟨h.1.1,h.1.2.keepc fun h0 g hg p u hp hc=>hk p u (hp▸h.2.1 h0 g hg) hc⟩,h.2⟩
theorem RdR_tight {R:Nat→Prop} {N:Nat} {w:World} {v:Value} {bs:List Int} (h:RdR R N w v bs):RdR (fun k=>R k∧k < w.heap.size) N w v bs:=
 ⟨h.1,fun h0 g hg=>⟨h.2.1 h0 g hg,h.1.2.lt (by decide) h0 hg⟩,h.2.2⟩
theorem Cm_one (c:Cm):∀ u ∈ c.cells,u.oneCell'=true:=by
 intro u hu
 simp only [Cm.cells,List.mem_append,List.mem_cons,List.not_mem_nil,or_false,List.mem_map] at hu
 rcases hu with (rfl|rfl)|⟨x,-,rfl⟩|rfl|rfl|rfl<;>rfl
def CmR:Rep Cm:=Rep.flat 37 (by decide) Cm.cells Cm.OK (fun a h=>Cm.len h.2.1) (fun a _=>Cm_one a)
/-- a certificate -/
structure Ce where
 c:Cm
 l:List St
abbrev Ce.cells (x:Ce) (v_l:Value):List Value:=x.c.cells ++ [v_l]
def Ce.OK (x:Ce):Prop:=x.c.OK
def Ce.rd (R:Nat→Prop) (w:World) (cs:List Value) (x:Ce):Prop:=∃ v_l,cs=x.cells v_l∧x.OK∧RdS StR R w v_l x.l
def CeR:Rep Ce where
 sz:=38
 pos:=by decide
 rd:=Ce.rd
 len h:=by
  obtain ⟨v_l,rfl,hok,h0⟩:=h
  simp [Ce.cells,Cm.len hok.2.1]
 one h:=by
  obtain ⟨v_l,rfl,hok,h0⟩:=h
  obtain ⟨_,_,e_l⟩:=h0.shape
  subst e_l
  intro u hu
  simp only [Ce.cells,List.mem_append,List.mem_cons,List.not_mem_nil,or_false,List.mem_map] at hu
  rcases hu with hu|rfl
  ·exact Cm_one _ _ hu
  ·rfl
 keep h hk:=by
  obtain ⟨v_l,rfl,hok,h0⟩:=h
  exact ⟨_,rfl,hok,h0.keep hk⟩
 wid h hs:=by
  obtain ⟨v_l,rfl,hok,h0⟩:=h
  exact ⟨_,rfl,hok,h0.widen hs⟩
 tight h:=by
  obtain ⟨v_l,rfl,hok,h0⟩:=h
  exact ⟨_,rfl,hok,h0.tight⟩
/-- a promise -/
structure Pm where
 rp:Int
 ep:Int
 fl:Nat
 l:List Ce
 sb:Int
 mr:Int
abbrev Pm.cells (x:Pm) (v_l:Value):List Value:=[.int .i64 x.rp,.int .i64 x.ep,.int .u64 (x.fl:Nat),v_l,.int .i64 x.sb,.int .i64 x.mr]
def Pm.OK (x:Pm):Prop:=I64 x.rp∧I64 x.ep∧x.fl < U64∧I64 x.sb∧I64 x.mr
def Pm.rd (R:Nat→Prop) (w:World) (cs:List Value) (x:Pm):Prop:=∃ v_l,cs=x.cells v_l∧x.OK∧RdS CeR R w v_l x.l
def PmR:Rep Pm where
 sz:=6
 pos:=by decide
 rd:=Pm.rd
 len h:=by
  obtain ⟨v_l,rfl,hok,h0⟩:=h
  rfl
 one h:=by
  obtain ⟨v_l,rfl,hok,h0⟩:=h
  obtain ⟨_,_,e_l⟩:=h0.shape
  subst e_l
  intro u hu
  simp only [Pm.cells,List.mem_append,List.mem_cons,List.not_mem_nil,or_false,List.mem_map] at hu
  rcases hu with rfl|rfl|rfl|rfl|rfl|rfl<;>rfl
 keep h hk:=by
  obtain ⟨v_l,rfl,hok,h0⟩:=h
  exact ⟨_,rfl,hok,h0.keep hk⟩
 wid h hs:=by
  obtain ⟨v_l,rfl,hok,h0⟩:=h
  exact ⟨_,rfl,hok,h0.widen hs⟩
 tight h:=by
  obtain ⟨v_l,rfl,hok,h0⟩:=h
  exact ⟨_,rfl,hok,h0.tight⟩
/-- an opening -/
structure Op where
 ix:Int
 pl:List Int
 nc:List Int
abbrev Op.cells (x:Op) (v_pl:Value):List Value:=[.int .i64 x.ix,v_pl] ++ x.nc.map bv
def Op.OK (x:Op):Prop:=I64 x.ix∧HK x.nc
def Op.rd (R:Nat→Prop) (w:World) (cs:List Value) (x:Op):Prop:=∃ v_pl,cs=x.cells v_pl∧x.OK∧RdR R x.pl.length w v_pl x.pl
def OpR:Rep Op where
 sz:=34
 pos:=by decide
 rd:=Op.rd
 len h:=by
  obtain ⟨v_pl,rfl,hok,h0⟩:=h
  simp [Op.cells,hok.2.1]
 one h:=by
  obtain ⟨v_pl,rfl,hok,h0⟩:=h
  obtain ⟨_,_,e_pl⟩:=h0.shape
  subst e_pl
  intro u hu
  simp only [Op.cells,List.mem_append,List.mem_cons,List.not_mem_nil,or_false,List.mem_map] at hu
  rcases hu with (rfl|rfl)|⟨y,-,rfl⟩<;>rfl
 keep h hk:=by
  obtain ⟨v_pl,rfl,hok,h0⟩:=h
  exact ⟨_,rfl,hok,RdR_keep h0 hk⟩
 wid h hs:=by
  obtain ⟨v_pl,rfl,hok,h0⟩:=h
  exact ⟨_,rfl,hok,h0.widen hs (Nat.le_refl _)⟩
 tight h:=by
  obtain ⟨v_pl,rfl,hok,h0⟩:=h
  exact ⟨_,rfl,hok,RdR_tight h0⟩
/-- a tombstone -/
structure Tb where
 ix:Int
 l:List Dn
abbrev Tb.cells (x:Tb) (v_l:Value):List Value:=[.int .i64 x.ix,v_l]
def Tb.OK (x:Tb):Prop:=I64 x.ix
def Tb.rd (R:Nat→Prop) (w:World) (cs:List Value) (x:Tb):Prop:=∃ v_l,cs=x.cells v_l∧x.OK∧RdS DnR R w v_l x.l
def TbR:Rep Tb where
 sz:=2
 pos:=by decide
 rd:=Tb.rd
 len h:=by
  obtain ⟨v_l,rfl,hok,h0⟩:=h
  rfl
 one h:=by
  obtain ⟨v_l,rfl,hok,h0⟩:=h
  obtain ⟨_,_,e_l⟩:=h0.shape
  subst e_l
  intro u hu
  simp only [Tb.cells,List.mem_append,List.mem_cons,List.not_mem_nil,or_false,List.mem_map] at hu
  rcases hu with rfl|rfl<;>rfl
 keep h hk:=by
  obtain ⟨v_l,rfl,hok,h0⟩:=h
  exact ⟨_,rfl,hok,h0.keep hk⟩
 wid h hs:=by
  obtain ⟨v_l,rfl,hok,h0⟩:=h
  exact ⟨_,rfl,hok,h0.widen hs⟩
 tight h:=by
  obtain ⟨v_l,rfl,hok,h0⟩:=h
  exact ⟨_,rfl,hok,h0.tight⟩
/-- a batch -/
structure Ba where
 ep:Int
 tm:Nat
 ps:List Pm
 os:List Op
 ts:List Tb
abbrev Ba.cells (x:Ba) (v_ps v_os v_ts:Value):List Value:=[.int .i64 x.ep,.int .u64 (x.tm:Nat),v_ps,v_os,v_ts]
def Ba.OK (x:Ba):Prop:=I64 x.ep∧x.tm < U64
def Ba.rd (R:Nat→Prop) (w:World) (cs:List Value) (x:Ba):Prop:=∃ v_ps v_os v_ts,cs=x.cells v_ps v_os v_ts∧x.OK∧RdS PmR R w v_ps x.ps∧RdS OpR R w v_os x.os∧RdS TbR R w v_ts x.ts
/-- a proposal -/
structure Pr where
 ep:Int
 rn:Int
 vl:Int
 rp:Int
 ba:Ba
 sb:Int
 mr:Int
abbrev Pr.cells (x:Pr) (v_ps v_os v_ts:Value):List Value:=[.int .i64 x.ep,.int .i64 x.rn,.int .i64 x.vl,.int .i64 x.rp,.int .i64 x.ba.ep,.int .u64 (x.ba.tm:Nat),v_ps,v_os,v_ts,.int .i64 x.sb,.int .i64 x.mr]
def Pr.OK (x:Pr):Prop:=I64 x.ep∧I64 x.rn∧I64 x.vl∧I64 x.rp∧x.ba.OK∧I64 x.sb∧I64 x.mr
def Pr.rd (R:Nat→Prop) (w:World) (cs:List Value) (x:Pr):Prop:=∃ v_ps v_os v_ts,cs=x.cells v_ps v_os v_ts∧x.OK∧RdS PmR R w v_ps x.ba.ps∧RdS OpR R w v_os x.ba.os∧RdS TbR R w v_ts x.ba.ts
end Go.Proofs.Ytbifincepglilaa

/- Small parts of messages, put as bytes. -/
namespace Go.Proofs.Ytbifincepglilaa
open Go Go.RowKit Go.Gv
def nameB (a b:Int):List Int:=encI a ++ encI b
theorem WInt_Q {R:Nat→Prop} {g:Nat} {n:Int} {bs:List Int} {w:World} (hW:WrR R 900000 w g bs) (hn:I64 n) (hl:(bs ++ encI n).length≤900000) :
 Calls Try.prog 45 #[.pointer (some ⟨g,0,none⟩),.int .i64 n] w fun e w'=>e=.returned (.pointer (some ⟨g,0,none⟩))∧WrR (fun k=>R k∨New w w' k) 900000 w' g (bs ++ encI n)∧Mod R w w':=by
 obtain ⟨v,h1,h2,h3,h4⟩:=hW
 exact (WInt_any g n v bs w h1 hn (by unfold Room;omega)).mono fun _ _ ⟨he,h⟩=>⟨he,WrTo_R _ h2 h3 h hl⟩
theorem WNum_Q {R:Nat→Prop} {g:Nat} {n:Nat} {bs:List Int} {w:World} (hW:WrR R 900000 w g bs) (hn:n < U64) (hl:(bs ++ encN n).length≤900000) :
 Calls Try.prog 54 #[.pointer (some ⟨g,0,none⟩),.int .u64 n] w fun e w'=>e=.returned (.pointer (some ⟨g,0,none⟩))∧WrR (fun k=>R k∨New w w' k) 900000 w' g (bs ++ encN n)∧Mod R w w':=by
 obtain ⟨v,h1,h2,h3,h4⟩:=hW
 exact (Num_any g n v bs w h1 hn (by unfold Room;omega)).mono fun _ _ ⟨he,h⟩=>⟨he,WrTo_R _ h2 h3 h hl⟩
theorem WHash_Q {R:Nat→Prop} {g:Nat} {h bs:List Int} {w:World} (hW:WrR R 900000 w g bs) (hh:HK h) (hl:(bs ++ h).length≤900000) :
 Calls Try.prog 47 #[.pointer (some ⟨g,0,none⟩),hv h] w fun e w'=>e=.returned (.pointer (some ⟨g,0,none⟩))∧WrR (fun k=>R k∨New w w' k) 900000 w' g (bs ++ h)∧Mod R w w':=by
 obtain ⟨v,h1,h2,h3,h4⟩:=hW
 exact (WHash_any g v bs h w h1 hh.1 hh.2 (by unfold Room;omega)).mono fun _ _ ⟨he,h⟩=>⟨he,WrTo_R _ h2 h3 h hl⟩
theorem WRow_Q {R R':Nat→Prop} {M g:Nat} {bs:List Int} {v2:Value} {cs:List Int} {w:World} (hW:WrR R 900000 w g bs) (hr:RdR R' M w v2 cs) (hs:∀ k,R' k→R k→False) (hl:(bs ++ (encN cs.length ++ cs)).length≤900000) :
 Calls Try.prog 44 #[.pointer (some ⟨g,0,none⟩),v2] w fun e w'=>e=.returned (.pointer (some ⟨g,0,none⟩))∧WrR (fun k=>R k∨New w w' k) 900000 w' g (bs ++ (encN cs.length ++ cs))∧Mod R w w':=by
 obtain ⟨v,h1,h2,h3,h4⟩:=hW
 obtain ⟨ao,cap,rfl⟩:=hr.shape
 have hlc:cs.length≤900000:=by simp only [List.length_append] at hl;omega
 refine (WRow_any g v bs ao cap cs w h1 hr.1 ?_ (by unfold Room;omega)).mono fun _ _ ⟨he,h⟩=>⟨he,WrTo_R _ h2 h3 h hl⟩
 intro h0 k hg hk
 rcases hk with rfl|hk
 ·exact hs _ (hr.2.1 h0 _ hg) h2
 ·exact hs _ (hr.2.1 h0 _ hg) (h3 k hk.symm)
set_option maxHeartbeats 2000000 in
theorem PutName_Q {R:Nat→Prop} {g:Nat} {bs:List Int} {a b:Int} {w:World} (hW:WrR R 900000 w g bs) (hB:∀ k,R k→k < w.heap.size) (ha:I64 a) (hb:I64 b) (hl:(bs ++ nameB a b).length≤900000) :
 Calls Try.prog 53 #[.pointer (some ⟨g,0,none⟩),.agg #[.int .i64 a,.int .i64 b]] w fun e w'=>e=.returned (.tuple #[])∧WrR (fun k=>R k∨New w w' k) 900000 w' g (bs ++ nameB a b)∧Mod R w w':=by
 have HW:=Lib.hid hW
 have HBR:=Lib.hid hB
 have HL:=hid (show (bs ++ (encI a ++ encI b)).length≤900000 from hl)
 have HA:=Lib.hid ha
 have HB:=Lib.hid hb
 clear hW hB hl ha hb
 change Calls _ _ #[.pointer (some ⟨g,0,none⟩),.agg #[.int .i64 a,.int .i64 b]] _ _
 go_enter Try.func53,Try.ntmps53
 go_upto_region 1 with (fail)
 obtain ⟨w1,hw1⟩:∃ zz,zz=(w.alloc (.cells #[.int .i64 a,.int .i64 b] 30)):=⟨_,rfl⟩
 change Code.wp _ _ _ _ (w.alloc (.cells #[.int .i64 a,.int .i64 b] 30))
 rw [← hw1]
 have HB3:=hid (show Cs w1 (w.heap.size) #[.int .i64 a,.int .i64 b] 30 by rw [hw1];exact Cs.new _ _ _)
 have hm:Mod (fun _=>False) w w1:=by rw [hw1];exact (Mod.refl _ _).alloc _
 have HM0:=hid (show Mod (fun k=>(R k)) w w1 from hm.mono (fun _ _ h=>h.elim))
 have hs1:w1.heap.size=w.heap.size+1:=by rw [hw1];simp
 have Hx1:=hid (HW.out.mod hm (fun _ _ h=>h))
 clear HW
 clear hw1 hm
 go_upto_region 1 with (fail)
 generalize ha0:Act.mk _ _=a0
 have oe0:a0.eval (.tmp 0)=.pointer (some ⟨g,0,none⟩):=by rw [← ha0];rfl
 have oe3:a0.eval (.tmp 3)=.pointer (some ⟨w.heap.size,0,none⟩):=by rw [← ha0];rfl
 have hsz0:a0.tmps.size=11:=by rw [← ha0];rfl
 have HA0:=hid ha0
 clear ha0
 refine B0 11 hsz0 [4,5,6,7,8,9,10] (fun k=>(R k)) (fun k j=>(k=0∧((R j)))∨(k=1∧((R j)))) (by intro k j h;(try dsimp only at h ⊢);rcases h with ⟨-,h⟩|⟨-,h⟩;(exact h);(exact h)) [qi (.pointer (some ⟨g,0,none⟩)),qi (.pointer (some ⟨w.heap.size,0,none⟩)),qi (.int .i64 a),qi (.pointer (some ⟨g,0,none⟩)),qi (.pointer (some ⟨w.heap.size,1,none⟩)),qi (.int .i64 b),qi (.pointer (some ⟨g,0,none⟩))] ⟨Aa,Aa,Aa,Aa,Aa,Aa,Aa,trivial⟩ [3,6] ⟨?_,?_,?_,?_,?_,?_,?_,trivial⟩ ?_
 ·exact stq (fun E=>Ah rfl (E.v oe0))
 ·exact stq (fun E=>Ai rfl Try.underlying30 rfl (by kernel_rfl) (E.v oe3))
 ·exact stq (fun E=>Am rfl Try.underlying3 rfl (E.d 1) (Cs.lit1 (HB3.out.mod E.m (by intro h2;rcases h2 with ⟨h0,h2⟩|h2<;>first|omega|(have hb:=HBR.out _ h2;omega))) rfl))
 ·exact Au rfl
 ·exact stq (fun E=>Ai rfl Try.underlying30 rfl (by kernel_rfl) (E.v oe3))
 ·exact stq (fun E=>Am rfl Try.underlying3 rfl (E.d 4) (Cs.lit1 (HB3.out.mod E.m (by intro h2;rcases h2 with ⟨h0,h2⟩|h2<;>first|omega|(have hb:=HBR.out _ h2;omega))) rfl))
 ·exact Au rfl
 intro u1_0 hr
 have zu1_0:=hr.size
 have Cx2:=hid (hr.new (S:=(fun k=>(R k))))
 have Hx3:=hid (Hx1.out.mod hr (by intro k h1 h2;have hb:=HBR.out k h1;omega))
 clear Hx1
 clear hr
 refine QChain.go fun Z act E=>?_
 refine Ax (args:=#[.pointer (some ⟨g,0,none⟩),.int .i64 a]) rfl (Ab rfl) rfl Try.func45 (args2 (E.d 0) (E.d 2)) (WInt_Q Hx3.out HA.out (by have:=HL.out;simp only [List.length_append] at this ⊢; omega)) ?_
 rintro e u1_1a ⟨rfl,qwr,hm⟩
 have zu1_1a:=hm.size
 refine ⟨_,rfl,hm.mono (by intro k hk h;first|omega|exact Or.inl ⟨(by have hb:=HBR.out k h;omega),Or.inl ⟨rfl,h⟩⟩),(fun _=>rfl),?_⟩
 intro u1_1 hr
 have zu1_1:=hr.size
 have Hx4:=hid ((qwr.widen (R':=(fun k=>(R k)∨(New u1_0 u1_1a k))) (fun _ h=>h) (Nat.le_refl _)).mod hr (by intro k h1 h2;rcases h1 with h1|h1<;>first|omega|(have hb:=HBR.out k h1;omega)))
 have Cx5:=hid (Cx2.out.goM hm hr (fun _ _ h=>h))
 clear Cx2 hm hr Z act E qwr Hx3
 refine QChain.go fun Z act E=>?_
 refine Ax (args:=#[.pointer (some ⟨g,0,none⟩),.int .i64 b]) rfl (Ab rfl) rfl Try.func45 (args2 (E.d 3) (E.d 5)) (WInt_Q Hx4.out HB.out (by have:=HL.out;simp only [List.length_append] at this ⊢; omega)) ?_
 rintro e u1_2a ⟨rfl,qwr,hm⟩
 have zu1_2a:=hm.size
 refine ⟨_,rfl,hm.mono (by intro k hk h;rcases h with h|h<;>first|omega|exact Or.inl ⟨(by have hb:=HBR.out k h;omega),Or.inr (⟨rfl,h⟩)⟩),(fun _=>rfl),?_⟩
 intro u1_2 hr
 have zu1_2:=hr.size
 have Hx6:=hid ((qwr.widen (R':=(fun k=>(R k)∨(New u1_0 u1_1a k)∨(New u1_1 u1_2a k))) (by intro k h1;simp only [or_assoc] at h1 ⊢; exact h1) (Nat.le_refl _)).mod hr (by intro k h1 h2;rcases h1 with h1|h1|h1<;>first|omega|(have hb:=HBR.out k h1;omega)))
 have Cx7:=hid (Cx5.out.goM hm hr (by intro k h0 h2;rcases h2 with h2|h2<;>first|omega|exact h2))
 clear Cx5 hm hr Z act E qwr Hx4
 refine QChain.nil fun vs hl hzz hrows hne=>?_
 obtain ⟨Z,hYZ,hZb,hV⟩:=hzz
 have f0:=fvi hV hl 0
 have f3:=fvi hV hl 3
 have f6:=fvi hV hl 6
 rw [show vs=[gw vs 0,gw vs 1,gw vs 2,gw vs 3,gw vs 4,gw vs 5,gw vs 6] from (Bh hl).trans rfl]
 have ha0:=HA0.out
 subst ha0
 clear HA0 hV hYZ hZb hsz0 hrows hne oe0 oe3
 simp only [Ar,Act.put,sIB,sCZ,sCS,f0,f3,f6]
 clear hl f0 f3 f6
 go_wp2
 go_end0
 have hq:=(Hx6.out.widen (R':=(fun k=>R k∨New w u1_2 k)) (by intro k h1;rcases h1 with h1|h1|h1<;>first|exact Or.inl h1|(right;omega)) (Nat.le_refl _))
 simp only [List.append_assoc] at hq
 exact ⟨rfl,by simpa only [nameB,List.append_assoc] using hq,(HM0.out.trans Cx7.out (fun _ _ h=>h))⟩
end Go.Proofs.Ytbifincepglilaa

/- Parts of messages, put as bytes. -/
namespace Go.Proofs.Ytbifincepglilaa
open Go Go.RowKit Go.Gv
end Go.Proofs.Ytbifincepglilaa

/- Package wire: the texts that are signed, a batch's hash. -/
namespace Go.Proofs.Ytbifincepglilaa
open Go Go.RowKit Go.Gv
/-- a word, as a row -/
def wordB (s:ByteArray):List Int:=encN (bytesOf s).length ++ bytesOf s
abbrev wStamp:ByteArray:={ data:=#[115,116,97,109,112] }
def B8 (x:St):List Int:=wordB wStamp ++ (encI x.rp ++ (nameB x.cl x.sq ++ (x.h ++ encN x.tm)))
/-- a function from a thing to bytes; to a hash -/
def Makes {α:Type} (A:Rep α) (F:FuncId) (f:α→List Int):Prop:=∀ (R2:Nat→Prop) (cs:List Value) (x:α) (w:World),A.rd R2 w cs x→(∀ k,R2 k→k < w.heap.size)→(f x).length≤900000→
 Calls Try.prog F #[.agg cs.toArray] w fun e w'=>∃ v',e=.returned v'∧OwR (New w w') 900000 w' v' (f x)∧Mod (fun _=>False) w w'
def Hashes {α:Type} (A:Rep α) (F:FuncId) (f:α→List Int):Prop:=∀ (R2:Nat→Prop) (cs:List Value) (x:α) (w:World),A.rd R2 w cs x→(∀ k,R2 k→k < w.heap.size)→(f x).length≤900000→
 Calls Try.prog F #[.agg cs.toArray] w fun e w'=>e=.returned (hv (shaF (f x)))∧Mod (fun _=>False) w w'
set_option maxHeartbeats 2000000 in
theorem text_Q (s:ByteArray) (w:World) (hs:s.size≤1000):Calls Try.prog 52 #[.string s] w fun e w'=>∃ g,e=.returned (.pointer (some ⟨g,0,none⟩))∧WrR (New w w') 900000 w' g (wordB s)∧Mod (fun _=>False) w w':=by
 have HS:=Lib.hid hs
 have HL:=hid (show ([] ++ (encN (bytesOf s).length ++ bytesOf s)).length≤900000 by have:=(encN_len10 (n:=(bytesOf s).length) (by unfold U64;rw [bytesOf_len];omega)).2;simp only [List.nil_append,List.length_append];rw [bytesOf_len] at *; omega)
 clear hs
 go_enter Try.func52,Try.ntmps52
 go_upto_region 1 with (fail)
 have HM0:=hid (Mod.refl (fun _=>False) w)
 go_upto_region 1 with (fail)
 generalize ha0:Act.mk _ _=a0
 have oe0:a0.eval (.tmp 0)=.string s:=by rw [← ha0];rfl
 have hsz0:a0.tmps.size=7:=by rw [← ha0];rfl
 have HA0:=hid ha0
 clear ha0
 refine Az 7 hsz0 [3,4,5,6,2] [qv 0,qi (.string s),qr w.heap.size (fun _=>False) (fun R w v=>RdR R 1000000 w v (bytesOf s)),qv 1,qv 1] ⟨Ay,Aa,(qr_stable rdR_cells),Ay,Ay,trivial⟩ [0,3] ⟨?_,?_,?_,?_,?_,trivial⟩ ?_
 ·exact Au rfl
 ·exact stq (fun E=>Ah rfl (E.v oe0))
 ·refine Ag rfl rfl rfl fun _ _ _ _ hZ hm _ _ _ hd _ _=>?_
  have h1:=hd ⟨1,.data⟩ (by simp) rfl _ rfl
  exact qe_strB rfl (Ab rfl) rfl h1 (by have:=HS.out;omega) hm.size (fun j hj=>(hZ j hj).2) (fun _ _ h=>h)
 ·exact Au rfl
 ·refine Ag rfl rfl rfl fun _ _ _ _ _ _ _ _ _ hd _ _=>?_
  have h3:=hd ⟨3,.data⟩ (by simp) rfl _ rfl
  exact Aq rfl (Ab rfl) (An rfl rfl) QE.refl h3
 intro u1_0 hr
 have zu1_0:=hr.size
 have Cx1:=hid (hr.new (S:=(fun _=>False)))
 clear hr
 refine QChain.go fun Z act E=>?_
 refine Ax (args:=#[]) rfl (Ab rfl) rfl Try.func43 args0 (NewWriter_Q _) ?_
 rintro e u1_1a ⟨g,rfl,qwr,hm⟩
 have zu1_1a:=hm.size
 refine ⟨_,rfl,hm.mono (fun _ _ h=>h.elim),(fun _=>rfl),?_⟩
 intro u1_1 hr
 have zu1_1:=hr.size
 have Hx2:=hid ((qwr.widen (R':=(fun k=>(New u1_0 u1_1a k))) (fun _ h=>h) (Nat.le_refl _)).mod hr (by intro k h1 h2;omega))
 have Cx3:=hid (Cx1.out.go hm hr)
 clear Cx1 hm hr Z act E qwr
 refine QChain.go fun Z act E=>?_
 have h2q:qr w.heap.size (fun _=>False) (fun R w v=>RdR R 1000000 w v (bytesOf s)) Z ([] ++ [.pointer (some ⟨g,0,none⟩)]) (act.eval (.tmp 5)) _:=E.d 2
 obtain ⟨R2,hR2,hrd2⟩:=h2q
 refine Ax (args:=#[.pointer (some ⟨g,0,none⟩),act.eval (.tmp 5)]) rfl (Ab rfl) rfl Try.func44 (args2 (chv (v:=.pointer (some ⟨g,0,none⟩)) (E.d 0)) rfl) (WRow_Q Hx2.out hrd2 (by intro k h1 h2;have hr2:=hR2 k h1;exact hr2.2.2 ⟨by omega,E.YZ k (by (try dsimp only);omega)⟩) HL.out) ?_
 rintro e u1_2a ⟨rfl,qwr,hm⟩
 have zu1_2a:=hm.size
 refine ⟨_,rfl,hm.mono (by intro k hk h;omega),(fun _=>rfl),?_⟩
 intro u1_2 hr
 have zu1_2:=hr.size
 have Hx4:=hid ((qwr.widen (R':=(fun k=>(New u1_0 u1_1a k)∨(New u1_1 u1_2a k))) (fun _ h=>h) (Nat.le_refl _)).mod hr (by intro k h1 h2;omega))
 have Cx5:=hid (Cx3.out.goM hm hr (by intro k h0 h2;omega))
 clear Cx3 hm hr qwr Hx2
 refine QChain.nil fun vs hl hzz hrows hne=>?_
 obtain ⟨Z,hYZ,hZb,hV⟩:=hzz
 have f0:=fvc hV hl 0
 have f1:=fvi hV hl 1
 have f3:=fvc hV hl 3
 have f4:=fvc hV hl 4
 rw [show vs=[gw vs 0,gw vs 1,gw vs 2,gw vs 3,gw vs 4] from (Bh hl).trans rfl]
 have ha0:=HA0.out
 subst ha0
 clear HA0 hV hYZ hZb hsz0 hrows hne oe0
 simp only [Ar,Act.put,sIB,sCZ,sCS,f0,f1,f3,f4]
 clear hl f0 f1 f3 f4
 go_wp2
 go_ret
 have hq:=(Hx4.out.widen (R':=(fun k=>New w u1_2 k)) (by intro k h1;omega) (Nat.le_refl _))
 rw [List.nil_append] at hq
 exact ⟨_,rfl,hq,(HM0.out.trans Cx5.out (fun _ _ h=>h.elim))⟩
set_option maxHeartbeats 4000000 in
theorem StampText_Q:Makes StR 33 B8:=by
 intro R2 cs x w hx hB2 hl
 obtain ⟨rfl,hok⟩:=hx
 have HBT:=Lib.hid hB2
 have HOK:=Lib.hid hok
 have HL:=Lib.hid hl
 clear hB2 hl hok
 unfold B8 wStamp at HL
 go_enter Try.func33,Try.ntmps33
 go_upto_region 1 with (fail)
 obtain ⟨w1,hw1⟩:∃ zz,zz=(w.alloc (.cells (x.cells:List Value).toArray 47)):=⟨_,rfl⟩
 change Code.wp _ _ _ _ (w.alloc (.cells (x.cells:List Value).toArray 47))
 rw [← hw1]
 have HB1:=hid (show Cs w1 (w.heap.size) (x.cells:List Value).toArray 47 by rw [hw1];exact Cs.new _ _ _)
 have hm:Mod (fun _=>False) w w1:=by rw [hw1];exact (Mod.refl _ _).alloc _
 have HM0:=hid (show Mod (fun _=>False) w w1 from hm.mono (fun _ _ h=>h.elim))
 have hs1:w1.heap.size=w.heap.size+1:=by rw [hw1];simp
 clear hw1 hm
 go_upto_region 1 with (fail)
 generalize ha0:Act.mk _ _=a0
 have oe1:a0.eval (.tmp 1)=.pointer (some ⟨w.heap.size,0,none⟩):=by rw [← ha0];rfl
 have hsz0:a0.tmps.size=20:=by rw [← ha0];rfl
 have HA0:=hid ha0
 clear ha0
 refine Az 20 hsz0 [4,5,6,7,3] [qv 0,qi (.pointer (some ⟨w.heap.size,0,none⟩)),qi (.int .i64 x.rp),qv 1,qv 1] ⟨Ay,Aa,Aa,Ay,Ay,trivial⟩ [0,3] ⟨?_,?_,?_,?_,?_,trivial⟩ ?_
 ·exact Au rfl
 ·exact stq (fun E=>Ai rfl Try.underlying47 rfl (by kernel_rfl) (E.v oe1))
 ·exact stq (fun E=>Am rfl Try.underlying3 rfl (E.d 1) (Cs.pre1 (HB1.out.mod E.m.old (by intro h2;omega)) rfl))
 ·exact Au rfl
 ·refine Ag rfl rfl rfl fun _ _ _ _ _ _ _ _ _ hd _ _=>?_
  have h3:=hd ⟨3,.data⟩ (by simp) rfl _ rfl
  exact Aq rfl (Ab rfl) (An rfl rfl) QE.refl h3
 intro u1_0 hr
 have zu1_0:=hr.size
 have Cx1:=hid (hr.new (S:=(fun _=>False)))
 clear hr
 refine QChain.go fun Z act E=>?_
 refine Ax (args:=#[.string { data:=#[115,116,97,109,112] }]) rfl (Ab rfl) rfl Try.func52 (Ca rfl) (text_Q { data:=#[115,116,97,109,112] } _ (by decide)) ?_
 rintro e u1_1a ⟨g,rfl,qwr,hm⟩
 have zu1_1a:=hm.size
 refine ⟨_,rfl,hm.mono (fun _ _ h=>h.elim),(fun _=>rfl),?_⟩
 intro u1_1 hr
 have zu1_1:=hr.size
 have Hx2:=hid ((qwr.widen (R':=(fun k=>(New u1_0 u1_1a k))) (fun _ h=>h) (Nat.le_refl _)).mod hr (by intro k h1 h2;omega))
 have Cx3:=hid (Cx1.out.go hm hr)
 clear Cx1 hm hr Z act E qwr
 refine QChain.go fun Z act E=>?_
 refine Ax (args:=#[.pointer (some ⟨g,0,none⟩),.int .i64 x.rp]) rfl (Ab rfl) rfl Try.func45 (args2 (chv (v:=.pointer (some ⟨g,0,none⟩)) (E.d 0)) (E.d 2)) (WInt_Q Hx2.out HOK.out.rp (by have:=HL.out;simp only [List.length_append] at this ⊢; omega)) ?_
 rintro e u1_2a ⟨rfl,qwr,hm⟩
 have zu1_2a:=hm.size
 refine ⟨_,rfl,hm.mono (by intro k hk h;omega),(fun _=>rfl),?_⟩
 intro u1_2 hr
 have zu1_2:=hr.size
 have Hx4:=hid ((qwr.widen (R':=(fun k=>(New u1_0 u1_1a k)∨(New u1_1 u1_2a k))) (fun _ h=>h) (Nat.le_refl _)).mod hr (by intro k h1 h2;omega))
 have Cx5:=hid (Cx3.out.goM hm hr (by intro k h0 h2;omega))
 clear Cx3 hm hr Z act E qwr Hx2
 refine QChain.nil fun vs hl hzz hrows hne=>?_
 obtain ⟨Z,hYZ,hZb,hV⟩:=hzz
 have f0:=fvc hV hl 0
 have f3:=fvc hV hl 3
 have f4:=fvc hV hl 4
 rw [show vs=[gw vs 0,gw vs 1,gw vs 2,gw vs 3,gw vs 4] from (Bh hl).trans rfl]
 have ha0:=HA0.out
 subst ha0
 clear HA0 hV hYZ hZb hsz0 hrows hne oe1
 simp only [Ar,Act.put,sIB,sCZ,sCS,f0,f3,f4]
 clear hl f0 f3 f4
 go_upto_region 2 with (fail)
 generalize ha0:Act.mk _ _=a0
 have oe1:a0.eval (.tmp 1)=.pointer (some ⟨w.heap.size,0,none⟩):=by rw [← ha0];rfl
 have oe3:a0.eval (.tmp 3)=.pointer (some ⟨g,0,none⟩):=by rw [← ha0];rfl
 have hsz0:a0.tmps.size=20:=by rw [← ha0];rfl
 have HA0:=hid ha0
 clear ha0
 refine B0 20 hsz0 [8,9,10,11] (fun k=>(New u1_0 u1_1a k)∨(New u1_1 u1_2a k)) (fun k j=>(k=0∧((New u1_0 u1_1a j)∨(New u1_1 u1_2a j)))) (fun _ _ h=>h.2) [qi (.pointer (some ⟨g,0,none⟩)),qi (.pointer (some ⟨w.heap.size,1,none⟩)),qi (.agg #[.int .i64 x.cl,.int .i64 x.sq]),qi (.tuple #[])] ⟨Aa,Aa,Aa,Aa,trivial⟩ [3] ⟨?_,?_,?_,?_,trivial⟩ ?_
 ·exact stq (fun E=>Ah rfl (E.v oe3))
 ·exact stq (fun E=>Ai rfl Try.underlying47 rfl (by kernel_rfl) (E.v oe1))
 ·exact stq (fun E=>Ap rfl Try.underlying30 rfl (off:=1) (cs:=[.int .i64 x.cl,.int .i64 x.sq]) (by kernel_rfl) (E.d 1) (Cs.preA ((HB1.out.mod Cx5.out (fun h=>h)).mod E.m (by intro h2;omega)) rfl))
 ·exact Au rfl
 intro u2_0 hr
 have zu2_0:=hr.size
 have Cx6:=hid (hr.new (S:=(fun k=>(New u1_0 u1_1a k)∨(New u1_1 u1_2a k))))
 have Hx7:=hid (Hx4.out.mod hr (by intro k h1 h2;omega))
 clear Hx4
 clear hr
 refine QChain.go fun Z act E=>?_
 refine Ax (args:=#[.pointer (some ⟨g,0,none⟩),.agg #[.int .i64 x.cl,.int .i64 x.sq]]) rfl (Ab rfl) rfl Try.func53 (args2 (E.d 0) (E.d 2)) (PutName_Q Hx7.out (by intro k h1;omega) HOK.out.cl HOK.out.sq (by have:=HL.out;simp only [List.length_append] at this ⊢; omega)) ?_
 rintro e u2_1a ⟨rfl,qwr,hm⟩
 have zu2_1a:=hm.size
 refine ⟨_,rfl,hm.mono (by intro k hk h;omega),(fun _=>rfl),?_⟩
 intro u2_1 hr
 have zu2_1:=hr.size
 have Hx8:=hid ((qwr.widen (R':=(fun k=>(New u1_0 u1_1a k)∨(New u1_1 u1_2a k)∨(New u2_0 u2_1a k))) (by intro k h1;omega) (Nat.le_refl _)).mod hr (by intro k h1 h2;omega))
 have Cx9:=hid (Cx6.out.goM hm hr (fun _ _ h=>h))
 clear Cx6 hm hr Z act E qwr Hx7
 refine QChain.nil fun vs hl hzz hrows hne=>?_
 obtain ⟨Z,hYZ,hZb,hV⟩:=hzz
 have f0:=fvi hV hl 0
 have f3:=fvi hV hl 3
 rw [show vs=[gw vs 0,gw vs 1,gw vs 2,gw vs 3] from (Bh hl).trans rfl]
 have ha0:=HA0.out
 subst ha0
 clear HA0 hV hYZ hZb hsz0 hrows hne oe1 oe3
 simp only [Ar,Act.put,sIB,sCZ,sCS,f0,f3]
 clear hl f0 f3
 go_upto_region 3 with (fail)
 generalize ha0:Act.mk _ _=a0
 have oe1:a0.eval (.tmp 1)=.pointer (some ⟨w.heap.size,0,none⟩):=by rw [← ha0];rfl
 have oe3:a0.eval (.tmp 3)=.pointer (some ⟨g,0,none⟩):=by rw [← ha0];rfl
 have hsz0:a0.tmps.size=20:=by rw [← ha0];rfl
 have HA0:=hid ha0
 clear ha0
 refine B0 20 hsz0 [12,13,14,15,16,17,18,19,2] (fun k=>(New u1_0 u1_1a k)∨(New u1_1 u1_2a k)∨(New u2_0 u2_1a k)) (fun k j=>(k=0∧((New u1_0 u1_1a j)∨(New u1_1 u1_2a j)∨(New u2_0 u2_1a j)))∨(k=1∧((New u1_0 u1_1a j)∨(New u1_1 u1_2a j)∨(New u2_0 u2_1a j)))) (by intro k j h;(try dsimp only at h ⊢);omega) [qi (.pointer (some ⟨g,0,none⟩)),qi (.pointer (some ⟨w.heap.size,3,none⟩)),qi (hv x.h),qi (.pointer (some ⟨g,0,none⟩)),qi (.pointer (some ⟨w.heap.size,35,none⟩)),qi (.int .u64 (x.tm:Nat)),qi (.pointer (some ⟨g,0,none⟩)),qv 2,qv 2] ⟨Aa,Aa,Aa,Aa,Aa,Aa,Aa,Ay,Ay,trivial⟩ [3,6,7] ⟨?_,?_,?_,?_,?_,?_,?_,?_,?_,trivial⟩ ?_
 ·exact stq (fun E=>Ah rfl (E.v oe3))
 ·exact stq (fun E=>Ai rfl Try.underlying47 rfl (by kernel_rfl) (E.v oe1))
 ·exact stq (fun E=>Ap rfl Try.underlying32 rfl (off:=3) (cs:=x.h.map bv) (by rw [List.length_map,HOK.out.h.1];exact Bj) (E.d 1) (Cs.midA (((HB1.out.mod Cx5.out (fun h=>h)).mod Cx9.out (by intro h2;omega)).mod E.m (by intro h2;omega)) rfl))
 ·exact Au rfl
 ·exact stq (fun E=>Ai rfl Try.underlying47 rfl (by kernel_rfl) (E.v oe1))
 ·exact stq (fun E=>Am rfl Try.underlying45 rfl (E.d 4) (Cs.post1 (m:=32) (k:=0) (((HB1.out.mod Cx5.out (fun h=>h)).mod Cx9.out (by intro h2;omega)).mod E.m (by intro h2;omega)) (by rw [List.length_map];exact HOK.out.h.1) rfl rfl))
 ·exact Au rfl
 ·exact Au rfl
 ·refine Ag rfl rfl rfl fun _ _ _ _ _ _ _ _ _ hd _ _=>?_
  have h7:=hd ⟨7,.data⟩ (by simp) rfl _ rfl
  exact Aq rfl (Ab rfl) (An rfl rfl) QE.refl h7
 intro u3_0 hr
 have zu3_0:=hr.size
 have Cx10:=hid (hr.new (S:=(fun k=>(New u1_0 u1_1a k)∨(New u1_1 u1_2a k)∨(New u2_0 u2_1a k))))
 have Hx11:=hid (Hx8.out.mod hr (by intro k h1 h2;omega))
 clear Hx8
 clear hr
 refine QChain.go fun Z act E=>?_
 refine Ax (args:=#[.pointer (some ⟨g,0,none⟩),hv x.h]) rfl (Ab rfl) rfl Try.func47 (args2 (E.d 0) (E.d 2)) (WHash_Q Hx11.out HOK.out.h (by have:=HL.out;simp only [List.length_append] at this ⊢; omega)) ?_
 rintro e u3_1a ⟨rfl,qwr,hm⟩
 have zu3_1a:=hm.size
 refine ⟨_,rfl,hm.mono (by intro k hk h;omega),(fun _=>rfl),?_⟩
 intro u3_1 hr
 have zu3_1:=hr.size
 have Hx12:=hid ((qwr.widen (R':=(fun k=>(New u1_0 u1_1a k)∨(New u1_1 u1_2a k)∨(New u2_0 u2_1a k)∨(New u3_0 u3_1a k))) (by intro k h1;omega) (Nat.le_refl _)).mod hr (by intro k h1 h2;omega))
 have Cx13:=hid (Cx10.out.goM hm hr (fun _ _ h=>h))
 clear Cx10 hm hr Z act E qwr Hx11
 refine QChain.go fun Z act E=>?_
 refine Ax (args:=#[.pointer (some ⟨g,0,none⟩),.int .u64 (x.tm:Nat)]) rfl (Ab rfl) rfl Try.func54 (args2 (E.d 3) (E.d 5)) (WNum_Q Hx12.out HOK.out.tm (by have:=HL.out;simp only [List.length_append] at this ⊢; omega)) ?_
 rintro e u3_2a ⟨rfl,qwr,hm⟩
 have zu3_2a:=hm.size
 refine ⟨_,rfl,hm.mono (by intro k hk h;omega),(fun _=>rfl),?_⟩
 intro u3_2 hr
 have zu3_2:=hr.size
 have Hx14:=hid ((qwr.widen (R':=(fun k=>(New u1_0 u1_1a k)∨(New u1_1 u1_2a k)∨(New u2_0 u2_1a k)∨(New u3_0 u3_1a k)∨(New u3_1 u3_2a k))) (by intro k h1;omega) (Nat.le_refl _)).mod hr (by intro k h1 h2;omega))
 have Cx15:=hid (Cx13.out.goM hm hr (by intro k h0 h2;omega))
 clear Cx13 hm hr Z act E qwr Hx12
 refine QChain.go fun Z act E=>?_
 refine Ax (args:=#[.pointer (some ⟨g,0,none⟩)]) rfl (Ab rfl) rfl Try.func48 (Ca (E.d 6)) (WBytes_Q Hx14.out) ?_
 rintro e u3_3a ⟨vb,rfl,qout,hm⟩
 have zu3_3a:=hm.size
 refine ⟨_,rfl,hm.mono (fun _ _ h=>h.elim),(fun _=>rfl),?_⟩
 intro u3_3 hr
 have zu3_3:=hr.size
 have Hx16:=hid ((qout.widen (R':=(fun k=>(New u3_2 u3_3a k))) (fun _ h=>h) (Nat.le_refl _)).mod hr (by intro k h1 h2;omega))
 have hmr:=Mod.after hm hr
 have Hx17:=hid (Hx14.out.mod hmr (by intro k h1 h2;omega))
 clear Hx14
 clear hmr
 have Cx18:=hid (Cx15.out.go hm hr)
 clear Cx15 hm hr Z act E qout
 refine QChain.nil fun vs hl hzz hrows hne=>?_
 obtain ⟨Z,hYZ,hZb,hV⟩:=hzz
 have f0:=fvi hV hl 0
 have f3:=fvi hV hl 3
 have f6:=fvi hV hl 6
 have f7:=fvc hV hl 7
 have f8:=fvc hV hl 8
 rw [show vs=[gw vs 0,gw vs 1,gw vs 2,gw vs 3,gw vs 4,gw vs 5,gw vs 6,gw vs 7,gw vs 8] from (Bh hl).trans rfl]
 have ha0:=HA0.out
 subst ha0
 clear HA0 hV hYZ hZb hsz0 hrows hne oe1 oe3
 simp only [Ar,Act.put,sIB,sCZ,sCS,f0,f3,f6,f7,f8]
 clear hl f0 f3 f6 f7 f8
 go_wp2
 go_ret
 have hq:=(Hx16.out.widen (R':=(fun k=>New w u3_3 k)) (by intro k h1;omega) (Nat.le_refl _))
 simp only [List.append_assoc,List.nil_append] at hq
 exact ⟨vb,rfl,by simpa only [B8,wStamp,List.append_assoc] using hq,(((HM0.out.trans Cx5.out (fun _ _ h=>h.elim)).trans Cx9.out (by intro k h1 h2;omega)).trans Cx18.out (by intro k h1 h2;omega))⟩
end Go.Proofs.Ytbifincepglilaa

/- stamp.Stamper as an object: a map from names to stamps, whose entries have their numbers; the book in blocks. -/
namespace Go.Proofs.Ytbifincepglilaa
open Go Go.RowKit Go.Gv
open Go.Maps (Keyed)
/-! ### names as keys -/
def nmV (k:Int × Int):Value:=.agg #[.int .i64 k.1,.int .i64 k.2]
def NmK (k:Int × Int):Prop:=I64 k.1∧I64 k.2
theorem nm_key (k:Int × Int) (h:NmK k):∃ l,keyOf Try.prog 30 (nmV k)=some l:=by
 have hu:=Try.underlying30
 have hkt:Try.prog.keyType 30=true:=by kernel_rfl
 have hc:Try.prog.cellsOf 30=2:=by kernel_rfl
 have hc1:Try.prog.cellsOf 3=1:=by kernel_rfl
 obtain ⟨n,hn⟩:∃ n,n+2=Try.prog.types.size+1:=⟨Try.prog.types.size - 1,by have:0 < Try.prog.types.size:=of_decide_eq_true (by kernel_rfl);omega⟩
 have hfm:(nmV k).formed Try.prog 30=true:=by simp [Value.formed,nmV,hu,hc]
 have wf:∀ z:Int,I64 z→(Lit.int .i64 z).wf=true:=fun z hz=>by unfold I64 at hz;simp [Lit.wf,IntKind.min,IntKind.max,IntKind.signed,IntKind.bits];omega
 unfold keyOf
 rw [hu]
 simp only [hkt,hfm,Bool.and_self,if_true,← hn]
 have e1:∀ z:Int,I64 z→Try.prog.keyLits (n+1) 3 [.int .i64 z]=some [.int .i64 z]:=fun z hz=>by
  unfold Program.keyLits
  rw [Try.underlying3]
  simp [wf z hz]
 have hk:Try.prog.keyLits (n+2) 30 (nmV k).cells.toList=some [.int .i64 k.1,.int .i64 k.2]:=by
  unfold Program.keyLits
  rw [hu]
  simp [nmV,Value.cells,hc,hc1,e1 _ h.1,e1 _ h.2]
 exact ⟨_,by rw [hk];rfl⟩
theorem nm_enc:KeyEnc Try.prog 30 nmV NmK where
 law:=Keyed.of_law (deep_law_laid laidOutX (m:=3) (by omega) (of_decide_eq_true (by kernel_rfl)) (by kernel_rfl) (by kernel_rfl))
 key:=nm_key
 inj:=fun a b ha hb h=>by
  unfold nmV at h
  simp only [Value.agg.injEq,Array.mk.injEq,List.cons.injEq,Value.int.injEq,true_and,and_true] at h
  obtain ⟨a1,a2⟩:=a
  obtain ⟨b1,b2⟩:=b
  simp only at h
  rw [h.1,h.2]
/-! ### the map -/
def zSt:St:=⟨0,0,0,List.replicate 32 0,0,0,0⟩
theorem zero_st:(Try.prog.info? 47).bind (·.zero)=some zSt.val:=by kernel_rfl
theorem Bt:zSt.OK:=⟨by unfold I64;decide,by unfold I64;decide,by unfold I64;decide,⟨by simp [zSt],fun b hb=>by rw [List.eq_of_mem_replicate hb];decide⟩,by unfold U64;decide,by unfold I64;decide,by unfold I64;decide⟩
abbrev NMap:=List ((Int × Int) × St)
/-- what stands in the map; each entry's number is one that was given -/
def MapB (w:World) (b:Nat) (l:NMap):Prop:=MapIs w b nmV St.val NmK l∧∃ es clock,w.heap[b]? = some (.map es clock)∧∀ e ∈ es.toList,e.born < clock
/-- an entry that was just made, and has nothing yet -/
def MapE (w:World) (b:Nat) (l:NMap) (a:Int × Int) (c:Nat):Prop:=
 ∃ es:Array MapEntry,w.heap[b]? = some (.map (es.push ⟨nmV a,zSt.val,c⟩) (c+1))∧es.toList.map (fun e=>(e.key,e.val))=l.map (fun p=>(nmV p.1,p.2.val))∧(∀ e ∈ es.toList,e.born < c)∧(∀ p ∈ l,NmK p.1)∧l.Pairwise (fun p q=>p.1≠q.1)
section
variable {w w':World} {b:Nat} {l:NMap} {a:Int × Int} {c:Nat} {S:Nat→Prop}
theorem MapB.lt (h:MapB w b l):b < w.heap.size:=h.1.lt
theorem MapB.mod (h:MapB w b l) (hm:Mod S w w') (hn:¬ S b):MapB w' b l:=by
 obtain ⟨h1,es,k,h2,h3⟩:=h
 exact ⟨h1.mod hm hn,es,k,hm.obj h2 hn,h3⟩
theorem MapE.mod (h:MapE w b l a c) (hm:Mod S w w') (hn:¬ S b):MapE w' b l a c:=by
 obtain ⟨es,h1,h2⟩:=h
 exact ⟨es,hm.obj h1 hn,h2⟩
theorem MapB.made (w:World):MapB (w.alloc (.map #[] 0)) w.heap.size []:=⟨MapIs.made w nmV St.val NmK,#[],0,heap_alloc_new w _,fun e he=>by simp at he⟩
theorem MapB.entry (h:MapB w b l) (ha:NmK a) (hn:Bs l a=none):∃ c w1,(Instr.mapEntry 57 (.map (some b)) (nmV a)).run Try.prog w=.ok (.tuple #[zSt.val,goInt (c:Nat)]) w1∧MapE w1 b l a c∧Mod (fun k=>k=b) w w1:=by
 obtain ⟨⟨⟨es,clock,hb,he0⟩,h2,h3⟩,es1,clock1,hb1,hborn⟩:=h
 have hb0:=hb
 rw [hb1] at hb0
 cases hb0
 obtain ⟨lk,hk⟩:=nm_enc.key a ha
 have hset:∀ o:Obj,Mod (fun i=>i=b) w { w with heap:=w.heap.setIfInBounds b o }:=fun o=>
  ⟨rfl,rfl,rfl,by simp,fun i hi hn=>by simp [show ¬ b=i from fun e=>hn e.symm]⟩
 have hlt:=(Array.getElem?_eq_some_iff.1 hb).1
 rcases MapIs.found ⟨⟨es,clock,hb,he0⟩,h2,h3⟩ nm_enc hb he0 a ha with ⟨f1,f2⟩|⟨j,p,f1,f2,f3,f4⟩
 ·refine ⟨clock,{ w with heap:=w.heap.setIfInBounds b (.map (es.push ⟨nmV a,zSt.val,clock⟩) (clock+1)) },?_,⟨es,by simp [hlt],he0,hborn,h2,h3⟩,hset _⟩
  simp [Instr.mapEntry,run_underlying Try.underlying57,MapKept.run_getObj_map hb,nm_enc.law.check w false hk,f1,zero_run zero_st,MapKept.run_setObj_map _ hb,Result.andThen]
 ·rw [mlook_at h3 f2 f3] at hn
  cases hn
theorem MapE.store (h:MapE w b l a c) (ha:NmK a) (hn:Bs l a=none) (y:St):∃ w1,(Instr.entryStore 57 (.map (some b)) (goInt (c:Nat)) y.val).run Try.prog w=.ok () w1∧MapB w1 b (l ++ [(a,y)])∧Mod (fun k=>k=b) w w1:=by
 obtain ⟨es,hb,he,hborn,h2,h3⟩:=h
 have hset:∀ o:Obj,Mod (fun i=>i=b) w { w with heap:=w.heap.setIfInBounds b o }:=fun o=>
  ⟨rfl,rfl,rfl,by simp,fun i hi hn=>by simp [show ¬ b=i from fun e=>hn e.symm]⟩
 have hlt:=(Array.getElem?_eq_some_iff.1 hb).1
 have hne:∀ p ∈ l,p.1≠a:=by
  intro p hp e
  obtain ⟨j,hj⟩:=List.getElem?_of_mem hp
  rw [mlook_at h3 hj e] at hn
  cases hn
 have hidx:(es.push ⟨nmV a,zSt.val,c⟩).findIdx? (fun e=>((e.born:Nat):Int) == ((c:Nat):Int))=some es.size:=by
  rw [Array.findIdx?_eq_some_iff_getElem]
  refine ⟨by simp,by simp,fun j hj=>?_⟩
  have hje:(es.push ⟨nmV a,zSt.val,c⟩)[j]'(by simp;omega)=es[j]:=by rw [Array.getElem_push_lt]
  have:=hborn es[j] (Array.getElem_mem_toList hj)
  rw [hje]
  simp
  omega
 have hmd:(es.push ⟨nmV a,zSt.val,c⟩).modify es.size (fun e=>{ e with val:=y.val })=es.push ⟨nmV a,y.val,c⟩:=by
  apply Array.ext
  ·simp
  ·intro i h1 h2
   simp only [Array.getElem_modify]
   by_cases hi:es.size=i
   ·subst hi;simp
   ·rw [if_neg hi]
    simp at h1
    rw [Array.getElem_push_lt (by omega),Array.getElem_push_lt (by omega)]
 refine ⟨{ w with heap:=w.heap.setIfInBounds b (.map (es.push ⟨nmV a,y.val,c⟩) (c+1)) },?_,⟨⟨⟨es.push ⟨nmV a,y.val,c⟩,c+1,by simp [hlt],by simp [he]⟩,?_,?_⟩,es.push ⟨nmV a,y.val,c⟩,c+1,by simp [hlt],?_⟩,hset _⟩
 ·have hai:(asInt (Value.int .i64 ((c:Nat):Int))).run Try.prog w=.ok ((c:Nat):Int) w:=rfl
  simp [Instr.entryStore,MapKept.run_getObj_map hb,MapKept.run_setObj_map _ hb,hai,goInt,hidx,hmd,Result.andThen]
 ·intro p hp
  rcases List.mem_append.1 hp with h|h
  ·exact h2 p h
  ·simp at h;subst h;exact ha
 ·rw [List.pairwise_append]
  refine ⟨h3,List.pairwise_singleton _ _,fun p hp q hq=>?_⟩
  simp at hq
  subst hq
  exact hne p hp
 ·intro e he2
  simp at he2
  rcases he2 with h|h
  ·have:=hborn e (by simpa using h);omega
  ·subst h;exact Nat.lt_succ_self _
end
/-! ### the stamper -/
structure SS where
 now:Nat
 floor:Nat
 last:Nat
 m:NMap
def SpC (f k rep:Int) (s:SS) (b:Nat):List Value:=[.int .i64 f,.int .i64 k,.int .i64 rep,.int .u64 (s.now:Nat),.int .u64 (s.floor:Nat),.int .u64 (s.last:Nat),.map (some b)]
def SpR (R:Nat→Prop) (w:World) (p:Nat) (f k rep:Int) (s:SS):Prop:=
 ∃ b,Cs w p (SpC f k rep s b).toArray 91∧R p∧R b∧MapB w b s.m∧p≠b∧s.now < U64∧s.floor+1 < U64∧s.last+1 < U64∧∀ q ∈ s.m,q.2.OK
section
variable {R R' S:Nat→Prop} {w w':World} {p:Nat} {f k rep:Int} {s:SS}
theorem SpR.mod (h:SpR R w p f k rep s) (hm:Mod S w w') (hs:∀ k,R k→S k→False):SpR R w' p f k rep s:=by
 obtain ⟨b,h1,h2,h3,h4,h5⟩:=h
 exact ⟨b,h1.mod hm (hs p h2),h2,h3,h4.mod hm (hs b h3),h5⟩
theorem SpR.widen (h:SpR R w p f k rep s) (hs:∀ k,R k→R' k):SpR R' w p f k rep s:=by
 obtain ⟨b,h1,h2,h3,h4⟩:=h
 exact ⟨b,h1,hs p h2,hs b h3,h4⟩
end
/-- the program's book, in blocks of R -/
def BkR (R:Nat→Prop) (w:World) (g:Nat) (L:List (Int × List Int)):Prop:=∃ b,BookIs w g b L∧R g∧R b
theorem BkR.mod {R S:Nat→Prop} {w w':World} {g:Nat} {L:List (Int × List Int)} (h:BkR R w g L) (hm:Mod S w w') (hs:∀ k,R k→S k→False):BkR R w' g L:=by
 obtain ⟨b,h1,h2,h3⟩:=h
 exact ⟨b,h1.mod hm (hs g h2) (hs b h3),h2,h3⟩
theorem BkR.widen {R R':Nat→Prop} {w:World} {g:Nat} {L:List (Int × List Int)} (h:BkR R w g L) (hs:∀ k,R k→R' k):BkR R' w g L:=by
 obtain ⟨b,h1,h2,h3⟩:=h
 exact ⟨b,h1,hs g h2,hs b h3⟩
theorem Book_new_Q (w:World):Calls Try.prog 9 #[] w fun e w'=>∃ g,e=.returned (.pointer (some ⟨g,0,none⟩))∧BkR (New w w') w' g []∧Mod (fun _=>False) w w':=
 (Book_new w).mono fun e w' ⟨g,b,he,h1,h2,h3,hm⟩=>⟨g,he,⟨b,h3,⟨h1,h3.cell.lt⟩,⟨h2,h3.map.lt⟩⟩,hm⟩
theorem Make_Q {R R':Nat→Prop} {N:Nat} {w:World} {g:Nat} {L:List (Int × List Int)} (hbk:BkR R w g L) (hLL:L.length≤1000000) (a b:Int) (h bs:List Int) {v:Value} (ha:I64 a) (hsi:I64 (1000+a)) (hb:I64 b) (hh:HK h) (hr:RdR R' N w v bs) (hl:bs.length≤800000) :
 Calls Try.prog 10 #[.pointer (some ⟨g,0,none⟩),.agg #[.int .i64 a,.int .i64 b],hv h,v] w fun e w'=>e=.returned (mkCm L a b h bs).val∧BkR R w' g (mkBook L a b h bs)∧Mod R w w':=by
 obtain ⟨b',h1,h2,h3⟩:=hbk
 exact (Make_any h1 hLL a b h bs v ha hsi hb hh hr.1 hl).mono fun e w' ⟨he,k,hm⟩=>⟨he,⟨b',k,h2,h3⟩,hm.mono fun _ _ e=>by rw [e];exact h3⟩
theorem Right_Q {R:Nat→Prop} {w:World} {g:Nat} {L:List (Int × List Int)} {d:Bool} (hbk:BkR R w g L) (f k:Int) (c:Cm) (hc:c.OK) (hsi:I64 (1000+c.cl)) (hd:Bo L k c=d) :
 Calls Try.prog 32 #[.agg #[.int .i64 f,.int .i64 k],.pointer (some ⟨g,0,none⟩),.agg c.cells.toArray] w fun e w'=>e=.returned (.bool d)∧Mod (fun _=>False) w w':=by
 subst hd
 obtain ⟨b',h1,h2,h3⟩:=hbk
 exact Right_any h1 f k c hc hsi
theorem Sign_Q {R R':Nat→Prop} {N:Nat} {w:World} {g:Nat} {L:List (Int × List Int)} {v:Value} {bs:List Int} (hbk:BkR R w g L) (y:Int) (hr:RdR R' N w v bs) (hy:I64 y) (hl:bs.length≤1000000) (hL:L.length≤1000000) :
 Calls Try.prog 27 #[.pointer (some ⟨g,0,none⟩),.int .i64 y,v] w fun e w'=>e=.returned (.agg #[.int .i64 y,.int .i64 (mkN (B7 L (y,bs)) (y,bs):Nat)])∧BkR R w' g (B7 L (y,bs))∧Mod R w w':=by
 obtain ⟨b',h1,h2,h3⟩:=hbk
 exact (Book_sign h1 y hr.1 ⟨hy,hr.1.1,hl⟩ hL).mono fun e w' ⟨m,he,hm,hb,hmod⟩=>by
  subst hm
  exact ⟨he,⟨b',hb,h2,h3⟩,hmod.mono fun _ _ e=>by rw [e];exact h3⟩
end Go.Proofs.Ytbifincepglilaa

/- wire.ValidConf, N, Quorum, and the statement WireConfs. -/
namespace Go.Proofs.Ytbifincepglilaa
open Go Go.RowKit Go.Gv
def okConf (F C:Int):Bool:=decide (1≤F∧F≤21∧1≤C∧C≤100)
theorem ValidConf_any (F C:Int) (w:World):Calls Try.prog 30 #[.agg #[.int .i64 F,.int .i64 C]] w fun e w'=>e=.returned (.bool (okConf F C))∧Mod (fun _=>False) w w':=by
 unfold okConf
 rcases Int.lt_or_le F 1 with h1|h1
 ·have hd:(decide ((1:Int)≤F))=false:=by simp;omega
  go_enter Try.func30,Try.ntmps30
  go_wp2
  go_ret
  exact ⟨ret_bool (by simp;omega),(Mod.refl _ _).alloc _⟩
 rcases Int.lt_or_le 21 F with h2|h2
 ·have hd:(decide (F≤(21:Int)))=false:=by simp;omega
  go_enter Try.func30,Try.ntmps30
  go_wp2
  go_ret
  exact ⟨ret_bool (by simp;omega),(Mod.refl _ _).alloc _⟩
 rcases Int.lt_or_le C 1 with h3|h3
 ·have hd:(decide ((1:Int)≤C))=false:=by simp;omega
  go_enter Try.func30,Try.ntmps30
  go_wp2
  go_ret
  exact ⟨ret_bool (by simp;omega),(Mod.refl _ _).alloc _⟩
 rcases Int.lt_or_le 100 C with h4|h4
 ·have hd:(decide (C≤(100:Int)))=false:=by simp;omega
  go_enter Try.func30,Try.ntmps30
  go_wp2
  go_ret
  exact ⟨ret_bool (by simp;omega),(Mod.refl _ _).alloc _⟩
 ·go_enter Try.func30,Try.ntmps30
  go_wp2
  go_ret
  exact ⟨ret_bool (by simp;omega),(Mod.refl _ _).alloc _⟩
theorem N_any (F C:Int) (h:-1000≤F∧F≤1000) (w:World):Calls Try.prog 49 #[.agg #[.int .i64 F,.int .i64 C]] w fun e w'=>e=.returned (.int .i64 (3 * F+1))∧Mod (fun _=>False) w w':=by
 obtain ⟨h1,h2⟩:=h
 go_enter Try.func49,Try.ntmps49
 go_wp2
 go_ret
 exact ⟨rfl,(Mod.refl _ _).alloc _⟩
end Go.Proofs.Ytbifincepglilaa

/- stamp.Stamper: laws for its map, its numbers; Now, Floor, Len. -/
namespace Go.Proofs.Ytbifincepglilaa
open Go Go.RowKit Go.Gv
theorem u64_eq {a b:Int} (h:a=b) (h1:0≤b) (h2:b≤18446744073709551615):IntKind.u64.wrap a=b:=by
 subst h
 exact IntWalk.u64_in _ ⟨h1,h2⟩
theorem eq_tt {a b:Int} (h:a=b):(a == b)=true:=by simp [h]
theorem ex_max3 {P:Program} {w:World} {a:Act} {o:Oper} {x y z:Operand} {ts:Array TypeId} {k k' k2:IntKind} {m n q r:Int} (ho:o.op=.call { callee:=.builtin .max,args:=#[x,y,z],argTypes:=ts }) (hx:a.eval x=.int k m) (hy:a.eval y=.int k' n) (hz:a.eval z=.int k2 q) (he:max (max m n) q=r):(execOp a.eval o).run P w=.ok (.value (.int k r)) w:=by
 have e1:∀ x y:Int,(if y > x then y else x)=max x y:=by intro x y;rw [Int.max_def];split<;>split<;>omega
 subst he
 unfold execOp
 simp [ho,resolve,invoke,builtin,hx,hy,hz,Builtin.max_,Builtin.max2,Result.andThen,e1]
def lookV (l:NMap) (k:Int × Int):Value:=.tuple #[((Bs l k).getD zSt).val,.bool (mhas l k)]
theorem lookV_none {l:NMap} {k:Int × Int} (h:Bs l k=none):lookV l k=.tuple #[zSt.val,.bool false]:=by unfold lookV mhas;rw [h];rfl
theorem lookV_some {l:NMap} {k:Int × Int} {y:St} (h:Bs l k=some y):lookV l k=.tuple #[y.val,.bool true]:=by unfold lookV mhas;rw [h];rfl
theorem ex_lookS {w:World} {a:Act} {o:Oper} {x y:Operand} {b:Nat} {l:NMap} {k:Int × Int} {v:Value} (ho:o.op=.lookup 57 x y true) (hx:a.eval x=.map (some b)) (hy:a.eval y=nmV k) (hk:NmK k) (h:MapB w b l) (hv:lookV l k=v):(execOp a.eval o).run Try.prog w=.ok (.value v) w:=by
 have hl:=h.1.lookup nm_enc Try.underlying57 (zero_run zero_st w) k hk true
 have e:((Bs l k).map St.val).getD zSt.val=((Bs l k).getD zSt).val:=by cases Bs l k<;>rfl
 rw [if_pos rfl,e,show Value.tuple #[((Bs l k).getD zSt).val,.bool (mhas l k)]=v from hv] at hl
 unfold execOp
 simp [ho,hx,hy,hl,Result.andThen]
section
variable {ops:Array Oper} {Q:Exit→Act→World→Prop} {i:Nat} {o:Oper} {a:Act} {w:World} {b c:Nat} {l:NMap} {k:Int × Int} {KQ:Value→World→Prop}
theorem qc_entry {x y:Operand} (ho:ops[i]? = some o) (hw:Region.wanted o (yielded ops a.tmps)=true) (hop:o.op=.mapEntry 57 x y) (hx:a.eval x=.map (some b)) (hy:a.eval y=nmV k) (hk:NmK k) (hm:MapB w b l) (hn:Bs l k=none)
 (h:∀ c w',MapE w' b l k c→Mod (fun j=>j=b) w w'→KQ (.tuple #[zSt.val,goInt (c:Nat)]) w'):wpOp Try.prog ops Q i (fun a' w'=>∃ v,a'=a.put o.dst v∧KQ v w') a w:=by
 obtain ⟨c,w1,hr,h1,h2⟩:=hm.entry hk hn
 refine qc_run ho hw ?_ (h c w1 h1 h2)
 unfold execOp
 simp [hop,hx,hy,hr,Result.andThen]
theorem qc_entryS {x z u:Operand} {y:St} (ho:ops[i]? = some o) (hw:Region.wanted o (yielded ops a.tmps)=true) (hop:o.op=.entryStore 57 x z u) (hx:a.eval x=.map (some b)) (hz:a.eval z=goInt (c:Nat)) (hu:a.eval u=y.val) (hk:NmK k) (hm:MapE w b l k c) (hn:Bs l k=none)
 (h:∀ w',MapB w' b (l ++ [(k,y)])→Mod (fun j=>j=b) w w'→KQ undef w'):wpOp Try.prog ops Q i (fun a' w'=>∃ v,a'=a.put o.dst v∧KQ v w') a w:=by
 obtain ⟨w1,hr,h1,h2⟩:=hm.store hk hn y
 refine qc_turn ho hw ?_ (h w1 h1 h2)
 unfold execOp
 simp [hop,hx,hz,hu,hr,Result.andThen]
theorem qc_map (ho:ops[i]? = some o) (hw:Region.wanted o (yielded ops a.tmps)=true) (hop:o.op=.makeMap 57 none)
 (h:∀ w',MapB w' w.heap.size []→Mod (fun _=>False) w w'→KQ (.map (some w.heap.size)) w'):wpOp Try.prog ops Q i (fun a' w'=>∃ v,a'=a.put o.dst v∧KQ v w') a w:=by
 refine qc_run ho hw ?_ (h (w.alloc (.map #[] 0)) (MapB.made w) ((Mod.refl _ _).alloc _))
 unfold execOp
 simp [hop,Instr.makeMap,Result.andThen]
end
theorem laid_stamp (rp a b:Int) (X:List Int) (t:Nat) (hX:X.length=32):laid [(0,1),(1,2),(3,32),(35,1),(36,2)] [.int .i64 0,.int .i64 0,.int .i64 0,.int .u8 0,.int .u8 0,.int .u8 0,.int .u8 0,.int .u8 0,.int .u8 0,.int .u8 0,.int .u8 0,.int .u8 0,.int .u8 0,.int .u8 0,.int .u8 0,.int .u8 0,.int .u8 0,.int .u8 0,.int .u8 0,.int .u8 0,.int .u8 0,.int .u8 0,.int .u8 0,.int .u8 0,.int .u8 0,.int .u8 0,.int .u8 0,.int .u8 0,.int .u8 0,.int .u8 0,.int .u8 0,.int .u8 0,.int .u8 0,.int .u8 0,.int .u8 0,.int .u64 0,.int .i64 0,.int .i64 0] [(0,.int .i64 rp),(1,.agg #[.int .i64 a,.int .i64 b]),(2,hv X),(3,.int .u64 (t:Nat))]=some (St.cells ⟨rp,a,b,X,t,0,0⟩):=by
 have h1:(hv X).cells.toList=X.map bv:=by simp [hv,Value.cells]
 have h2:(hv X).cells.size=32:=by simp [hv,Value.cells,hX]
 unfold laid
 simp only [List.getElem?_cons_zero]
 rw [if_neg (by simp [Value.cells])]
 unfold laid
 simp only [List.getElem?_cons_succ,List.getElem?_cons_zero]
 rw [if_neg (by simp [Value.cells])]
 unfold laid
 simp only [List.getElem?_cons_succ,List.getElem?_cons_zero]
 rw [if_neg (by rw [h2];simp [Value.cells]),h1]
 unfold laid
 simp only [List.getElem?_cons_succ,List.getElem?_cons_zero]
 rw [if_neg (by simp [Value.cells,hX])]
 unfold laid
 congr 1
 unfold St.cells
 have e:∀ (A B:List Value) (u n:Value),A.length=35→(A ++ u :: B).take 35 ++ [n] ++ (A ++ u :: B).drop 36=A ++ n :: B:=by
  intro A B u n hA
  rw [List.take_append_of_le_length (by omega),List.take_of_length_le (by omega),List.drop_append,List.drop_eq_nil_of_le (by omega),show 36 - A.length=1 by omega]
  simp
 have:=e ([Value.int .i64 rp,.int .i64 a,.int .i64 b] ++ X.map bv) [.int .i64 0,.int .i64 0] (.int .u64 0) (.int .u64 (t:Nat)) (by simp [hX])
 simpa [Value.cells] using this
theorem lay_stsig (c:St) (y m:Int) (hl:c.h.length=32):lay c.cells.toArray 36 [.int .i64 y,.int .i64 m]=(St.cells { c with sb:=y,mr:=m }).toArray:=by
 unfold lay
 apply congrArg List.toArray
 have e:∀ (A:List Value) (u v:Value),A.length=36→(A ++ [u,v]).take 36 ++ [.int .i64 y,.int .i64 m] ++ (A ++ [u,v]).drop (36+2)=A ++ [.int .i64 y,.int .i64 m]:=by
  intro A u v hA
  rw [List.take_append_of_le_length (by omega),List.take_of_length_le (by omega),List.drop_eq_nil_of_le (by simp;omega)]
  simp
 have:=e ([Value.int .i64 c.rp,.int .i64 c.cl,.int .i64 c.sq] ++ c.h.map bv ++ [.int .u64 (c.tm:Nat)]) (.int .i64 c.sb) (.int .i64 c.mr) (by simp [hl])
 simpa [St.cells] using this
theorem Bm {P:Program} {fn:Func} {p u:Tmp} {ty:TypeId} (h:fn.results=#[.cell p ty,.tmp u]) (tmps:Array Value) (w:World) (g:Nat) (cs:List Value) {d:TypeDesc}
 (hp:tmps.getD p undef=.pointer (some ⟨g,0,none⟩)) (hc:∀ j u,cs[j]? = some u→w.cell? ⟨g,j,none⟩=some u) (hu:P.underlying ty=some d) (hd:aggDesc d=true) (hi:(P.info? ty).map (·.size)=some cs.length) :
 (results fn tmps).run P w=.ok (.tuple #[.agg cs.toArray,tmps.getD u undef]) w:=by
 have hp':tmps[p]?.getD undef=.pointer (some ⟨g,0,none⟩):=by simpa using hp
 simp [results,h,hp',asAddr,run_loadA w ty d hu hd ⟨g,0,none⟩ cs hi (fun j u hu=>by rw [add_mk,Nat.zero_add];exact hc j u hu)]
theorem Bb:(Try.prog.info? 47).map (·.size)=some 38:=by kernel_rfl
theorem wordB_len (s:ByteArray) (h:s.size≤100):(wordB s).length≤110:=by
 have hb:(bytesOf s).length=s.size:=by simp [bytesOf]
 have:=(encN_len10 (n:=(bytesOf s).length) (by unfold U64;omega)).2
 simp only [wordB,List.length_append];omega
theorem encI_len0 (x:Int) (h:I64 x):(encI x).length≤10:=(encI_len x h.2).2
theorem stampT_len {x:St} (h:x.OK):(B8 x).length≤900000:=by
 have h1:=encI_len0 _ h.rp;have h2:=encI_len0 _ h.cl;have h3:=encI_len0 _ h.sq;have h4:=(encN_len10 h.tm).2;have h7:=h.h.1;have h5:=wordB_len wStamp (by decide)
 simp only [B8,nameB,List.length_append];omega
/-! ### what is asked of the stamper -/
section
variable {R:Nat→Prop} {w:World} {p:Nat} {f k rep:Int} {s:SS}
set_option maxHeartbeats 1000000 in
theorem Now_Q (h:SpR R w p f k rep s):Calls Try.prog 19 #[.pointer (some ⟨p,0,none⟩)] w fun e w'=>e=.returned (.int .u64 (s.now:Nat))∧w=w':=by
 obtain ⟨b,hc,-⟩:=h
 have c3:w.cell? ⟨p,3,none⟩=some (.int .u64 (s.now:Nat)):=(hc.cell 3).trans rfl
 clear hc
 go_enter Try.func19,Try.ntmps19
 go_wp2
 go_ret
 exact ⟨rfl,rfl⟩
set_option maxHeartbeats 1000000 in
theorem Floor_Q (h:SpR R w p f k rep s):Calls Try.prog 16 #[.pointer (some ⟨p,0,none⟩)] w fun e w'=>e=.returned (.int .u64 (s.floor:Nat))∧w=w':=by
 obtain ⟨b,hc,-⟩:=h
 have c4:w.cell? ⟨p,4,none⟩=some (.int .u64 (s.floor:Nat)):=(hc.cell 4).trans rfl
 clear hc
 go_enter Try.func16,Try.ntmps16
 go_wp2
 go_ret
 exact ⟨rfl,rfl⟩
set_option maxHeartbeats 1000000 in
theorem SLen_Q (h:SpR R w p f k rep s):Calls Try.prog 17 #[.pointer (some ⟨p,0,none⟩)] w fun e w'=>e=.returned (.int .i64 s.m.length)∧w=w':=by
 obtain ⟨b,hc,-,-,hm,-⟩:=h
 have c6:w.cell? ⟨p,6,none⟩=some (.map (some b)):=(hc.cell 6).trans rfl
 have hlen:=hm.1.len Try.underlying57 3
 clear hc hm
 go_enter Try.func17,Try.ntmps17
 go_wp2
 go_ret
 exact ⟨rfl,rfl⟩
end
end Go.Proofs.Ytbifincepglilaa

/- stamp.Stamper: Tick, Raise; wire.In; stamp.New. -/
namespace Go.Proofs.Ytbifincepglilaa
open Go Go.RowKit Go.Gv
theorem eq_ff {a b:Int} (h:¬ a=b):(a == b)=false:=by simp [h]
def tickS (s:SS) (n:Nat):SS:=⟨s.now+min n (U64 - 1 - s.now),s.floor,s.last,s.m⟩
set_option maxHeartbeats 4000000 in
theorem Tick_Q {R:Nat→Prop} {w:World} {p:Nat} {f k rep:Int} {s:SS} {n:Nat} (h:SpR R w p f k rep s) (hB:∀ k,R k→k < w.heap.size) (hn:n < U64) :
 Calls Try.prog 13 #[.pointer (some ⟨p,0,none⟩),.int .u64 (n:Nat)] w fun e w'=>e=.returned (.tuple #[])∧SpR R w' p f k rep (tickS s n)∧Mod R w w':=by
 obtain ⟨b,hc,hp,hb,hmp,hne,hnw,hfl,hla,hok⟩:=h
 have hpl:=hc.lt
 have hbl:=hmp.lt
 have hU:U64=18446744073709551616:=rfl
 have HC:=hid (show Cs w p #[.int .i64 f,.int .i64 k,.int .i64 rep,.int .u64 (s.now:Nat),.int .u64 (s.floor:Nat),.int .u64 (s.last:Nat),.map (some b)] 91 from hc)
 have HMP:=Lib.hid hmp
 have HBR:=Lib.hid hB
 have HPR:=Lib.hid hp
 have HRB:=Lib.hid hb
 have HOKS:=Lib.hid hok
 clear hc hmp hp hb hok hB
 obtain ⟨d,hd⟩:∃ d,d=U64 - 1 - s.now:=⟨_,rfl⟩
 obtain ⟨mn,hmn⟩:∃ m,m=min n d:=⟨_,rfl⟩
 obtain ⟨t,ht⟩:∃ t,t=s.now+mn:=⟨_,rfl⟩
 go_enter Try.func13,Try.ntmps13
 go_upto_region 0 with (fail)
 have HM0:=hid (Mod.refl (fun k=>(R k)) w)
 go_upto_region 0 with (fail)
 generalize ha0:Act.mk _ _=a0
 have oe0:a0.eval (.tmp 0)=.pointer (some ⟨p,0,none⟩):=by rw [← ha0];rfl
 have oe1:a0.eval (.tmp 1)=.int .u64 (n:Nat):=by rw [← ha0];rfl
 have hsz0:a0.tmps.size=19:=by rw [← ha0];rfl
 have HA0:=hid ha0
 clear ha0
 refine B0 19 hsz0 [4,5,6,7,8,9,10,11,12,13,14,15,16,17,18,34] (fun k=>(k=p)) (fun k j=>(k=0∧((j=p)))) (fun _ _ h=>h.2) [qi (.pointer (some ⟨p,0,none⟩)),qi (.pointer (some ⟨p,0,none⟩)),qi (.pointer (some ⟨p,0,none⟩)),qi (.pointer (some ⟨p,3,none⟩)),qi (.int .u64 (s.now:Nat)),qi (.int .u64 (n:Nat)),qi (.pointer (some ⟨p,0,none⟩)),qi (.pointer (some ⟨p,0,none⟩)),qi (.pointer (some ⟨p,3,none⟩)),qi (.int .u64 (s.now:Nat)),qi (.int .u64 ((d:Nat):Int)),qi (.int .u64 ((mn:Nat):Int)),qi (.int .u64 ((t:Nat):Int)),qi (.pointer (some ⟨p,0,none⟩)),qi (.pointer (some ⟨p,3,none⟩)),qv 0] ⟨Aa,Aa,Aa,Aa,Aa,Aa,Aa,Aa,Aa,Aa,Aa,Aa,Aa,Aa,Aa,Ay,trivial⟩ [15] ⟨?_,?_,?_,?_,?_,?_,?_,?_,?_,?_,?_,?_,?_,?_,?_,?_,trivial⟩ ?_
 ·exact stq (fun E=>Ah rfl (E.v oe0))
 ·exact stq (fun E=>Ah rfl (E.v oe0))
 ·exact stq (fun E=>A1 rfl (E.d 1))
 ·exact stq (fun E=>Ai rfl Try.underlying91 rfl (by kernel_rfl) (E.d 2))
 ·refine Ag rfl rfl rfl fun _ _ _ _ _ _ hm0 _ _ hd hub _=>?_
  have h3:=hd ⟨3,.data⟩ (by simp) rfl _ rfl
  refine Aq rfl (Ab rfl) (Am rfl Try.underlying45 rfl h3 (Cs.lit1 (HC.out.mod hm0 (by intro h2;have hu:=hub 0 15 rfl (by kernel_rfl);rcases h2 with ⟨h0,kk,hk,h2⟩|h2<;>omega)) rfl)) QE.refl ?_
  rfl
 ·exact stq (fun E=>Ah rfl (E.v oe1))
 ·exact stq (fun E=>Ah rfl (E.v oe0))
 ·exact stq (fun E=>A1 rfl (E.d 6))
 ·exact stq (fun E=>Ai rfl Try.underlying91 rfl (by kernel_rfl) (E.d 7))
 ·refine Ag rfl rfl rfl fun _ _ _ _ _ _ hm0 _ _ hd hub _=>?_
  have h8:=hd ⟨8,.data⟩ (by simp) rfl _ rfl
  refine Aq rfl (Ab rfl) (Am rfl Try.underlying45 rfl h8 (Cs.lit1 (HC.out.mod hm0 (by intro h2;have hu:=hub 0 15 rfl (by kernel_rfl);rcases h2 with ⟨h0,kk,hk,h2⟩|h2<;>omega)) rfl)) QE.refl ?_
  rfl
 ·exact stq (fun E=>Av rfl rfl (E.d 9) (Ak _ _ _ _ _ _) (run_sub_i _ _ Try.underlying45) (congrArg (Value.int .u64) (u64_eq (b:=((d:Nat):Int)) (by omega) (by omega) (by omega))))
 ·exact stq (fun E=>ex_min (r:=((mn:Nat):Int)) rfl (E.d 5) (E.d 10) (by split<;>omega))
 ·exact stq (fun E=>Av rfl (E.d 4) (E.d 11) (Ak _ _ _ _ _ _) (Be _ _ Try.underlying45) (congrArg (Value.int .u64) (u64_eq (b:=((t:Nat):Int)) (by omega) (by omega) (by omega))))
 ·exact stq (fun E=>A1 rfl (E.d 0))
 ·exact stq (fun E=>Ai rfl Try.underlying91 rfl (by kernel_rfl) (E.d 13))
 ·exact Au rfl
 intro u0_0 hr
 have zu0_0:=hr.size
 have Cx1:=hid (hr.new (S:=(fun k=>(k=p))))
 have Hx2:=hid (HC.out.mod hr (by intro h2;omega))
 clear HC
 clear hr
 refine QChain.go fun Z act E=>?_
 refine Bc rfl (Ab rfl) rfl Hx2.out (off:=3) (vs:=[Value.int .u64 ((t:Nat):Int)]) (by kernel_rfl) one1 (by simp) (E.d 14) (ec (E.d 12)) ?_
 intro u0_1a qc0 hm
 have qrd:=qc0.eqv (b:=#[.int .i64 f,.int .i64 k,.int .i64 rep,.int .u64 ((t:Nat):Int),.int .u64 (s.floor:Nat),.int .u64 (s.last:Nat),.map (some b)]) rfl
 clear qc0
 have zu0_1a:=hm.size
 refine ⟨hm.mono (by intro k hk h;omega),(fun _=>rfl),?_⟩
 intro u0_1 hr
 have zu0_1:=hr.size
 have Hx3:=hid (qrd.mod hr (by intro h2;omega))
 have Cx4:=hid (Cx1.out.goM hm hr (fun _ _ h=>h))
 clear Cx1 hm hr Z act E qrd Hx2
 refine QChain.nil fun vs hl hzz hrows hne=>?_
 obtain ⟨Z,hYZ,hZb,hV⟩:=hzz
 have f0:=fvi hV hl 0
 have f1:=fvi hV hl 1
 have f5:=fvi hV hl 5
 have f6:=fvi hV hl 6
 have f11:=fvi hV hl 11
 rw [show vs=[gw vs 0,gw vs 1,gw vs 2,gw vs 3,gw vs 4,gw vs 5,gw vs 6,gw vs 7,gw vs 8,gw vs 9,gw vs 10,gw vs 11,gw vs 12,gw vs 13,gw vs 14,gw vs 15] from (Bh hl).trans rfl]
 have ha0:=HA0.out
 subst ha0
 clear HA0 hV hYZ hZb hsz0 hrows hne oe0 oe1
 simp only [Ar,Act.put,sIB,sCZ,sCS,List.set_nil,f0,f1,f5,f6,f11]
 clear hl f0 f1 f5 f6 f11
 go_wp2
 refine bodyPost_end (results_none rfl _ _ _) rfl ?_
 have ht2:s.now+min n (U64 - 1 - s.now)=t:=by rw [ht,hmn,hd]
 unfold tickS
 rw [ht2]
 exact ⟨rfl,⟨b,Hx3.out,HPR.out,HRB.out,(HMP.out.mod Cx4.out (by intro h2;omega)),hne,(show t < U64 by omega),hfl,hla,HOKS.out⟩,(HM0.out.trans Cx4.out (by intro k h1 h2;first|exact h2|omega|exact (h2▸HPR.out)|exact (h2▸HRB.out)|exact Or.inl (h2▸HPR.out)|exact Or.inl (h2▸HRB.out)))⟩
def raiseS (s:SS) (n:Nat):SS:=⟨s.now,max s.floor n,s.last,s.m⟩
set_option maxHeartbeats 4000000 in
theorem Raise_Q {R:Nat→Prop} {w:World} {p:Nat} {f k rep:Int} {s:SS} {n:Nat} (h:SpR R w p f k rep s) (hB:∀ k,R k→k < w.heap.size) (hn:n+1 < U64) :
 Calls Try.prog 15 #[.pointer (some ⟨p,0,none⟩),.int .u64 (n:Nat)] w fun e w'=>e=.returned (.int .i64 0)∧SpR R w' p f k rep (raiseS s n)∧Mod R w w':=by
 obtain ⟨b,hc,hp,hb,hmp,hne,hnw,hfl,hla,hok⟩:=h
 have hpl:=hc.lt
 have hbl:=hmp.lt
 have hU:U64=18446744073709551616:=rfl
 have HC:=hid (show Cs w p #[.int .i64 f,.int .i64 k,.int .i64 rep,.int .u64 (s.now:Nat),.int .u64 (s.floor:Nat),.int .u64 (s.last:Nat),.map (some b)] 91 from hc)
 have HMP:=Lib.hid hmp
 have HBR:=Lib.hid hB
 have HPR:=Lib.hid hp
 have HRB:=Lib.hid hb
 have HOKS:=Lib.hid hok
 clear hc hmp hp hb hok hB
 go_enter Try.func15,Try.ntmps15
 go_upto_region 1 with (fail)
 have HM0:=hid (Mod.refl (fun k=>(R k)) w)
 go_upto_region 1 with (fail)
 refine Al 16 [5,6] [0,1] (fun a0 HA0=>?_)
 have oe1:=ev HA0 1 rfl
 refine QSeq.pure rfl _ (fun E=>Ah rfl (E.v oe1)) ?_
 refine QSeq.pure rfl (.bool false) (fun E=>Av rfl (E.d 0 0) rfl (Ak _ _ _ _ _ _) (Bg _ _ _ Try.underlying45) (congrArg Value.bool (eq_ff (by omega)))) ?_
 refine QSeq.nil (t':=[_,_]) rfl ?_
 obtain rfl:=HA0.out
 clear HA0 oe1
 simp only [pz,Act.put,sIB,sCZ,sCS]
 obtain ⟨t,ht⟩:∃ t,t=max s.floor n:=⟨_,rfl⟩
 go_upto_region 3 with (fail)
 refine Al 16 [7,8,9,10,11,12,13,14,15,25] [0,1,2,3,4,5,6,7,8,9] (fun a0 HA0=>?_)
 have oe0:=ev HA0 0 rfl
 have oe1:=ev HA0 1 rfl
 refine QSeq.pure rfl _ (fun E=>Ah rfl (E.v oe0)) ?_
 refine QSeq.pure rfl _ (fun E=>Ah rfl (E.v oe0)) ?_
 refine QSeq.pure rfl (.pointer (some ⟨p,0,none⟩)) (fun E=>A1 rfl (E.d 1 0)) ?_
 refine QSeq.pure rfl (.pointer (some ⟨p,4,none⟩)) (fun E=>Ai rfl Try.underlying91 rfl (by kernel_rfl) (E.d 2 0)) ?_
 refine QSeq.pure rfl _ (fun E=>Am rfl Try.underlying45 rfl (E.d 3 0) (Cs.lit1 HC.out rfl)) ?_
 refine QSeq.pure rfl _ (fun E=>Ah rfl (E.v oe1)) ?_
 refine QSeq.pure rfl (.int .u64 ((t:Nat):Int)) (fun E=>ex_max (r:=((t:Nat):Int)) rfl (E.d 4 1) (E.d 5 0) (by split<;>omega)) ?_
 refine QSeq.pure rfl (.pointer (some ⟨p,0,none⟩)) (fun E=>A1 rfl (E.d 0 6)) ?_
 refine QSeq.pure rfl (.pointer (some ⟨p,4,none⟩)) (fun E=>Ai rfl Try.underlying91 rfl (by kernel_rfl) (E.d 7 0)) ?_
 refine QSeq.go fun act E=>?_
 refine Bc rfl (Ab rfl) rfl HC.out (off:=4) (vs:=[Value.int .u64 ((t:Nat):Int)]) (by kernel_rfl) one1 (by simp) (E.d 8 0) (ec (E.d 6 2)) ?_
 intro u3_9 qc0 hm
 have qrd:=qc0.eqv (b:=#[.int .i64 f,.int .i64 k,.int .i64 rep,.int .u64 (s.now:Nat),.int .u64 ((t:Nat):Int),.int .u64 (s.last:Nat),.map (some b)]) rfl
 clear qc0
 have Hx1:=hid qrd
 have zu3_9:=hm.size
 have Cx2:=hid (show Mod (fun k=>(k=p)) w u3_9 from hm)
 clear hm
 clear act E qrd HC
 refine QSeq.nil (t':=[_,_,_,_,_,_,_,_,_,_]) rfl ?_
 obtain rfl:=HA0.out
 clear HA0 oe0 oe1
 simp only [pz,Act.put,sIB,sCZ,sCS,List.set_nil]
 go_upto_region 4 with (fail)
 refine Al 16 [4] [0] (fun a0 HA0=>?_)
 refine QSeq.pure rfl (.int .i64 0) (fun E=>An rfl rfl) ?_
 refine QSeq.nil (t':=[_]) rfl ?_
 obtain rfl:=HA0.out
 clear HA0
 simp only [pz,Act.put,sIB,sCZ,sCS]
 go_wp2
 go_ret
 unfold raiseS
 rw [← ht]
 exact ⟨rfl,⟨b,Hx1.out,HPR.out,HRB.out,(HMP.out.mod Cx2.out (by intro h2;omega)),hne,hnw,(show t+1 < U64 by omega),hla,HOKS.out⟩,(HM0.out.trans Cx2.out (by intro k h1 h2;first|exact h2|omega|exact (h2▸HPR.out)|exact (h2▸HRB.out)|exact Or.inl (h2▸HPR.out)|exact Or.inl (h2▸HRB.out)))⟩
set_option maxHeartbeats 4000000 in
theorem Raise_N {R:Nat→Prop} {w:World} {p:Nat} {f k rep:Int} {s:SS} {n:Nat} (h:SpR R w p f k rep s) (hB:∀ k,R k→k < w.heap.size) (hn:n+1=U64) :
 Calls Try.prog 15 #[.pointer (some ⟨p,0,none⟩),.int .u64 (n:Nat)] w fun e w'=>e=.returned (.int .i64 4)∧SpR R w' p f k rep s∧Mod R w w':=by
 obtain ⟨b,hc,hp,hb,hmp,hne,hnw,hfl,hla,hok⟩:=h
 have hpl:=hc.lt
 have hbl:=hmp.lt
 have hU:U64=18446744073709551616:=rfl
 have HC:=hid (show Cs w p #[.int .i64 f,.int .i64 k,.int .i64 rep,.int .u64 (s.now:Nat),.int .u64 (s.floor:Nat),.int .u64 (s.last:Nat),.map (some b)] 91 from hc)
 have HMP:=Lib.hid hmp
 have HBR:=Lib.hid hB
 have HPR:=Lib.hid hp
 have HRB:=Lib.hid hb
 have HOKS:=Lib.hid hok
 clear hc hmp hp hb hok hB
 go_enter Try.func15,Try.ntmps15
 go_upto_region 1 with (fail)
 have HM0:=hid (Mod.refl (fun k=>(R k)) w)
 go_upto_region 1 with (fail)
 refine Al 16 [5,6] [0,1] (fun a0 HA0=>?_)
 have oe1:=ev HA0 1 rfl
 refine QSeq.pure rfl _ (fun E=>Ah rfl (E.v oe1)) ?_
 refine QSeq.pure rfl (.bool true) (fun E=>Av rfl (E.d 0 0) rfl (Ak _ _ _ _ _ _) (Bg _ _ _ Try.underlying45) (congrArg Value.bool (eq_tt (by omega)))) ?_
 refine QSeq.nil (t':=[_,_]) rfl ?_
 obtain rfl:=HA0.out
 clear HA0 oe1
 simp only [pz,Act.put,sIB,sCZ,sCS]
 go_upto_region 2 with (fail)
 refine Al 16 [4] [0] (fun a0 HA0=>?_)
 refine QSeq.pure rfl (.int .i64 4) (fun E=>An rfl rfl) ?_
 refine QSeq.nil (t':=[_]) rfl ?_
 obtain rfl:=HA0.out
 clear HA0
 simp only [pz,Act.put,sIB,sCZ,sCS]
 go_wp2
 go_ret
 exact ⟨rfl,⟨b,HC.out,HPR.out,HRB.out,HMP.out,hne,hnw,hfl,hla,HOKS.out⟩,HM0.out⟩
set_option maxHeartbeats 4000000 in
theorem In_Q {F C r:Int} (hF:1≤F∧F≤21) (hr:0≤r∧r < 3 * F+1) (w:World):Calls Try.prog 31 #[.agg #[.int .i64 F,.int .i64 C],.int .i64 r] w fun e w'=>e=.returned (.bool true)∧Mod (fun _=>False) w w':=by
 change Calls _ _ #[.agg #[.int .i64 F,.int .i64 C],.int .i64 r] _ _
 go_enter Try.func31,Try.ntmps31
 go_upto_region 1 with (fail)
 obtain ⟨w1,hw1⟩:∃ zz,zz=(w.alloc (.cells #[.int .i64 F,.int .i64 C] 26)):=⟨_,rfl⟩
 change Code.wp _ _ _ _ (w.alloc (.cells #[.int .i64 F,.int .i64 C] 26))
 rw [← hw1]
 have HB2:=hid (show Cs w1 (w.heap.size) #[.int .i64 F,.int .i64 C] 26 by rw [hw1];exact Cs.new _ _ _)
 have hm:Mod (fun _=>False) w w1:=by rw [hw1];exact (Mod.refl _ _).alloc _
 have HM0:=hid (show Mod (fun _=>False) w w1 from hm.mono (fun _ _ h=>h.elim))
 have hs1:w1.heap.size=w.heap.size+1:=by rw [hw1];simp
 clear hw1 hm
 go_upto_region 1 with (fail)
 refine Al 13 [5,6,7,8,9,10,11,12,4] [0,1,2,3,4,5,6,7,8] (fun a0 HA0=>?_)
 have oe1:=ev HA0 1 rfl
 have oe2:=ev HA0 2 rfl
 refine QSeq.pure rfl _ (fun E=>Ah rfl (E.v oe1)) ?_
 refine QSeq.pure rfl (.bool true) (fun E=>Av rfl (E.d 0 0) rfl (Ak _ _ _ _ _ _) (B3 _ _ _ Try.underlying3) (congrArg Value.bool (decide_eq_true (by omega)))) ?_
 refine QSeq.pure rfl _ (fun E=>Ah rfl (E.d 1 0)) ?_
 refine QSeq.pureG rfl (.int .i64 r) (fun E=>((Ad rfl rfl (E.sz 7 (by decide)) (E.d 2 0)).trans rfl)) (fun E=>Ah rfl (E.v oe1)) ?_
 refine QSeq.pureG rfl (.agg #[.int .i64 F,.int .i64 C]) (fun E=>((Ad rfl rfl (E.sz 7 (by decide)) (E.d 2 1)).trans rfl)) (fun E=>Ap rfl Try.underlying26 rfl (off:=0) (cs:=[.int .i64 F,.int .i64 C]) (by kernel_rfl) (E.v oe2) (Cs.litA HB2.out rfl)) ?_
 refine QSeq.go fun act E=>?_
 refine Ax (args:=#[.agg #[.int .i64 F,.int .i64 C]]) rfl ((Ad rfl rfl (E.sz 7 (by decide)) (E.d 2 2)).trans rfl) rfl Try.func49 (Ca (E.d 4 0)) (N_any F C (by omega) _) ?_
 rintro e u1_5 ⟨rfl,hm⟩
 refine ⟨_,rfl,?_⟩
 have zu1_5:=hm.size
 have Cx1:=hid (show Mod (fun _=>False) w1 u1_5 from hm)
 clear hm
 clear act E
 refine QSeq.pureG rfl (.bool true) (fun E=>((Ad rfl rfl (E.sz 7 (by decide)) (E.d 2 3)).trans rfl)) (fun E=>Av rfl (E.d 3 2) (E.d 5 0) (Ak _ _ _ _ _ _) (run_lss_i _ _ _ Try.underlying3) (congrArg Value.bool (decide_eq_true (by omega)))) ?_
 refine QSeq.pure rfl (.bool true) (fun E=>A5 rfl (E.d 2 4) (E.d 6 0) rfl) ?_
 refine QSeq.pure rfl _ (fun E=>An rfl (E.d 7 0)) ?_
 refine QSeq.nil (t':=[_,_,_,_,_,_,_,_,_]) rfl ?_
 obtain rfl:=HA0.out
 clear HA0 oe1 oe2
 simp only [pz,Act.put,sIB,sCZ,sCS]
 go_wp2
 go_ret
 exact ⟨rfl,(HM0.out.trans Cx1.out (fun _ _ h=>h.elim))⟩
def ss0:SS:=⟨0,0,0,[]⟩
set_option maxHeartbeats 4000000 in
theorem New_Q {F C r:Int} (hF:1≤F∧F≤21) (hC:1≤C∧C≤100) (hr:0≤r∧r < 3 * F+1) (w:World):Calls Try.prog 11 #[.agg #[.int .i64 F,.int .i64 C],.int .i64 r] w fun e w'=>∃ p,e=.returned (.tuple #[.pointer (some ⟨p,0,none⟩),.int .i64 0])∧SpR (New w w') w' p F C r ss0∧Mod (fun _=>False) w w':=by
 have HV:=Lib.hid (show okConf F C=true by unfold okConf;exact decide_eq_true ⟨hF.1,hF.2,hC⟩)
 change Calls _ _ #[.agg #[.int .i64 F,.int .i64 C],.int .i64 r] _ _
 go_enter Try.func11,Try.ntmps11
 go_upto_region 1 with (fail)
 obtain ⟨w1,hw1⟩:∃ zz,zz=(w.alloc (.cells #[.int .i64 F,.int .i64 C] 26)):=⟨_,rfl⟩
 change Code.wp _ _ _ _ (w.alloc (.cells #[.int .i64 F,.int .i64 C] 26))
 rw [← hw1]
 have HB2:=hid (show Cs w1 (w.heap.size) #[.int .i64 F,.int .i64 C] 26 by rw [hw1];exact Cs.new _ _ _)
 have hm:Mod (fun _=>False) w w1:=by rw [hw1];exact (Mod.refl _ _).alloc _
 have HM0:=hid (show Mod (fun _=>False) w w1 from hm.mono (fun _ _ h=>h.elim))
 have hs1:w1.heap.size=w.heap.size+1:=by rw [hw1];simp
 clear hw1 hm
 go_upto_region 1 with (fail)
 refine Al 20 [6,7,8,9,10,11,12,13,14] [0,1,2,3,4,5,6,7,8] (fun a0 HA0=>?_)
 have oe1:=ev HA0 1 rfl
 have oe2:=ev HA0 2 rfl
 refine QSeq.pure rfl _ (fun E=>Ap rfl Try.underlying26 rfl (off:=0) (cs:=[.int .i64 F,.int .i64 C]) (by kernel_rfl) (E.v oe2) (Cs.litA HB2.out rfl)) ?_
 refine QSeq.call rfl rfl Try.func30 ((HV.out▸ValidConf_any F C _)) (fun E=>Ca (E.d 0 0)) ?_
 rintro e u1_1 ⟨rfl,hm⟩
 refine ⟨_,rfl,?_⟩
 have zu1_1:=hm.size
 have Cx1:=hid (show Mod (fun _=>False) w1 u1_1 from hm)
 clear hm
 refine QSeq.pure rfl (.bool false) (fun E=>ex_not rfl (E.d 1 0)) ?_
 refine QSeq.pure rfl _ (fun E=>Ah rfl (E.d 2 0)) ?_
 refine QSeq.pureG rfl (.agg #[.int .i64 F,.int .i64 C]) (fun E=>((Ad rfl rfl (E.sz 9 (by decide)) (E.d 3 0)).trans rfl)) (fun E=>Ap rfl Try.underlying26 rfl (off:=0) (cs:=[.int .i64 F,.int .i64 C]) (by kernel_rfl) (E.v oe2) (Cs.litA (HB2.out.mod Cx1.out (fun h=>h)) rfl)) ?_
 refine QSeq.pureG rfl (.int .i64 r) (fun E=>((Ad rfl rfl (E.sz 9 (by decide)) (E.d 3 1)).trans rfl)) (fun E=>Ah rfl (E.v oe1)) ?_
 refine QSeq.go fun act E=>?_
 refine Ax (args:=#[.agg #[.int .i64 F,.int .i64 C],.int .i64 r]) rfl ((Ad rfl rfl (E.sz 9 (by decide)) (E.d 3 2)).trans rfl) rfl Try.func31 (args2 (E.d 4 1) (E.d 5 0)) (In_Q hF hr _) ?_
 rintro e u1_6 ⟨rfl,hm⟩
 refine ⟨_,rfl,?_⟩
 have zu1_6:=hm.size
 have HMu1_6:=hid hm
 have Cx2:=hid (Cx1.out.goE hm)
 clear hm Cx1
 clear act E
 refine QSeq.pureG rfl (.bool false) (fun E=>((Ad rfl rfl (E.sz 9 (by decide)) (E.d 3 3)).trans rfl)) (fun E=>ex_not rfl (E.d 6 0)) ?_
 refine QSeq.pure rfl (.bool false) (fun E=>A5 rfl (E.d 3 4) rfl (E.d 7 0)) ?_
 clear HMu1_6
 refine QSeq.nil (t':=[_,_,_,_,_,_,_,_,_]) rfl ?_
 obtain rfl:=HA0.out
 clear HA0 oe1 oe2
 simp only [pz,Act.put,sIB,sCZ,sCS]
 go_upto_region 3 with (fail)
 refine Al 20 [15,16,17,18,19,4,5] [0,1,2,3,4,5,6] (fun a0 HA0=>?_)
 have oe1:=ev HA0 1 rfl
 have oe2:=ev HA0 2 rfl
 refine QSeq.pure rfl _ (fun E=>Ap rfl Try.underlying26 rfl (off:=0) (cs:=[.int .i64 F,.int .i64 C]) (by kernel_rfl) (E.v oe2) (Cs.litA (HB2.out.mod Cx2.out (fun h=>h)) rfl)) ?_
 refine QSeq.pure rfl _ (fun E=>Ah rfl (E.v oe1)) ?_
 refine QSeq.go fun act E=>?_
 refine qc_map rfl (Ab rfl) rfl ?_
 intro u3_2 qmp hm
 have zl3_2:=qmp.lt
 have Hx3:=hid qmp
 have zu3_2:=hm.size
 have Cx4:=hid (show Mod (fun _=>False) u1_6 u3_2 from hm)
 clear hm
 clear act E qmp
 refine QSeq.go fun act E=>?_
 refine qc_run rfl (Ab rfl) (v:=.agg #[.int .i64 F,.int .i64 C,.int .i64 r,.int .u64 0,.int .u64 0,.int .u64 0,.map (some u1_6.heap.size)]) (ex_build rfl (z:=[.int .i64 0,.int .i64 0,.int .i64 0,.int .u64 0,.int .u64 0,.int .u64 0,.map none]) (places:=[(0,2),(2,1),(3,1),(4,1),(5,1),(6,1)]) (by kernel_rfl) (parts:=[(0,.agg #[.int .i64 F,.int .i64 C]),(1,.int .i64 r),(5,.map (some u1_6.heap.size))]) (by simp only [List.map_toArray,List.map_cons,List.map_nil,show act.eval (.tmp 15)=.agg #[.int .i64 F,.int .i64 C] from (E.d 0 2),show act.eval (.tmp 16)=.int .i64 r from (E.d 1 1),show act.eval (.tmp 17)=.map (some u1_6.heap.size) from (E.d 2 0)];try rfl) (r:=[.int .i64 F,.int .i64 C,.int .i64 r,.int .u64 0,.int .u64 0,.int .u64 0,.map (some u1_6.heap.size)]) (by rfl)) ?_
 clear act E
 refine QSeq.go fun act E=>?_
 refine qc_box rfl (Ab rfl) rfl (vs:=[.int .i64 F,.int .i64 C,.int .i64 r,.int .u64 0,.int .u64 0,.int .u64 0,.map (some u1_6.heap.size)]) (by rw [show act.eval (.tmp 18)=_ from (E.d 3 0)];rfl) ?_
 intro u3_4 qsp hm
 have zl3_4:=qsp.lt
 have Hx5:=hid qsp
 have zu3_4:=hm.size
 have HMu3_4:=hid hm
 have Cx6:=hid (Cx4.out.goE hm)
 clear hm Cx4
 clear act E qsp
 refine QSeq.pure rfl _ (fun E=>An rfl (E.d 4 0)) ?_
 refine QSeq.pure rfl (.int .i64 0) (fun E=>An rfl rfl) ?_
 have Hx7:=hid (Hx3.out.mod HMu3_4.out (fun h=>h))
 clear Hx3 HMu3_4
 refine QSeq.nil (t':=[_,_,_,_,_,_,_]) rfl ?_
 obtain rfl:=HA0.out
 clear HA0 oe1 oe2
 simp only [pz,Act.put,sIB,sCZ,sCS]
 go_wp2
 refine bodyPost_ret (results_tmp2 rfl _ _ _) rfl ?_
 exact ⟨_,rfl,⟨_,Hx5.out,by (try dsimp only);unfold New;omega,by unfold New;omega,Hx7.out,by omega,(by unfold U64;decide),(by unfold U64;decide),(by unfold U64;decide),(fun q hq=>by cases hq)⟩,((HM0.out.trans Cx2.out (fun _ _ h=>h.elim)).trans Cx6.out (fun _ _ h=>h.elim))⟩
end Go.Proofs.Ytbifincepglilaa

/- Equality of commitments, names and signatures. -/
namespace Go.Proofs.Ytbifincepglilaa
open Go Go.RowKit Go.Gv
theorem size_run {P:Program} {T:TypeId} {n:Nat} (h:(P.info? T).map (·.size)=some n) (w:World):(sizeOf T).run P w=.ok n w:=by
 cases hq:P.info? T with
 | none=>rw [hq] at h;cases h
 | some i=>rw [hq] at h;simp [sizeOf,typeInfo,hq];exact Option.some.inj h
theorem part_agg {P:Program} {T:TypeId} {n:Nat} {d:TypeDesc} (hu:P.underlying T=some d) (hd:aggDesc d=true) (h:(P.info? T).map (·.size)=some n) (cs:Array Value) (off:Nat) (w:World):(part T cs off).run P w=.ok (.agg (cs.extract off (off+n))) w:=by
 have hagg:(isAgg T).run P w=.ok true w:=by
  unfold isAgg
  rw [Sem.run_bind,run_underlying hu w]
  cases d<;>simp_all [aggDesc]
 simp [part,hagg,size_run h]
theorem part_one {P:Program} {T:TypeId} {d:TypeDesc} (hu:P.underlying T=some d) (hd:aggDesc d=false) {cs:Array Value} {off:Nat} {v:Value} (hv:cs[off]? = some v) (w:World):(part T cs off).run P w=.ok v w:=by
 have hagg:(isAgg T).run P w=.ok false w:=by
  unfold isAgg
  rw [Sem.run_bind,run_underlying hu w]
  cases d<;>simp_all [aggDesc]
 simp [part,hagg,hv]
end Go.Proofs.Ytbifincepglilaa

/- Equality of flat things (all cells are ints): they are equal where their cells are. -/
namespace Go.Proofs.Ytbifincepglilaa
open Go Go.RowKit Go.Gv
/-- cells that are ints of these kinds -/
def KI:List IntKind→List Value→Prop
 | [],[]=>True
 | k :: ks,v :: vs=>(∃ a,v=.int k a)∧KI ks vs
 | _,_=>False
theorem KI.len:∀ {ks:List IntKind} {vs:List Value},KI ks vs→vs.length=ks.length
 | [],[],_=>rfl
 | k :: ks,v :: vs,h=>by simp [KI.len h.2]
 | [],v :: vs,h=>h.elim
 | k :: ks,[],h=>h.elim
theorem KI.append:∀ {ks ks':List IntKind} {a b:List Value},KI ks a→KI ks' b→KI (ks ++ ks') (a ++ b)
 | [],ks',[],b,_,h=>h
 | k :: ks,ks',v :: vs,b,h,h'=>⟨h.1,KI.append h.2 h'⟩
 | [],_,v :: vs,_,h,_=>h.elim
 | k :: ks,_,[],_,h,_=>h.elim
theorem KI.split:∀ {ks ks':List IntKind} {vs:List Value},KI (ks ++ ks') vs→∃ a b,vs=a ++ b∧KI ks a∧KI ks' b
 | [],ks',vs,h=>⟨[],vs,rfl,trivial,h⟩
 | k :: ks,ks',v :: vs,h=>by
  obtain ⟨a,b,rfl,h1,h2⟩:=KI.split h.2
  exact ⟨v :: a,b,rfl,⟨h.1,h1⟩,h2⟩
 | k :: ks,_,[],h=>h.elim
theorem KI.ints {k:IntKind}:∀ {n:Nat} {h:List Int},h.length=n→KI (List.replicate n k) (h.map (Value.int k))
 | 0,[],_=>trivial
 | n+1,a :: h,e=>⟨⟨a,rfl⟩,KI.ints (by simpa using e)⟩
theorem KI.rep {k:IntKind}:∀ {n:Nat} {vs:List Value},KI (List.replicate n k) vs→∃ h:List Int,h.length=n∧vs=h.map (Value.int k)
 | 0,[],_=>⟨[],rfl,rfl⟩
 | 0,v :: vs,h=>h.elim
 | n+1,[],h=>h.elim
 | n+1,v :: vs,h=>by
  obtain ⟨a,rfl⟩:=h.1
  obtain ⟨l,e,rfl⟩:=KI.rep h.2
  exact ⟨a :: l,by simp [e],rfl⟩
def EqW (P:Program) (d:Nat) (T:TypeId) (ks:List IntKind):Prop:=∀ (xs ys:List Value) (c:Bool) (w:World),KI ks xs→KI ks ys→(c=true↔xs=ys)→(Op.equalIn d T (.agg xs.toArray) (.agg ys.toArray)).run P w=.ok c w
def EqT (P:Program) (d:Nat) (T:TypeId) (ks:List IntKind):Prop:=∀ (A B:List Value) (off:Nat) (xs ys:List Value) (c:Bool) (w:World),KI ks xs→KI ks ys→(c=true↔xs=ys)→(A.drop off).take ks.length=xs→(B.drop off).take ks.length=ys→
 ∃ x y,(part T A.toArray off).run P w=.ok x w∧(part T B.toArray off).run P w=.ok y w∧(Op.equalIn d T x y).run P w=.ok c w
theorem ex_bool (p:Prop):∃ c:Bool,(c=true↔p):=by
 rcases Classical.em p with h|h
 ·exact ⟨true,by simp [h]⟩
 ·exact ⟨false,by simp [h]⟩
theorem bool_of {c d:Bool} (h:c=true↔d=true):c=d:=by cases c<;>cases d<;>simp_all
variable {P:Program}
theorem drop_one {A:List Value} {off:Nat} {v:Value} (h:(A.drop off).take 1=[v]):A.toArray[off]? = some v:=by
 have h1:((A.drop off).take 1)[0]? = some v:=by rw [h];rfl
 rw [List.getElem?_take,List.getElem?_drop] at h1
 simpa using h1
theorem EqT.int {d:Nat} {T:TypeId} {k:IntKind} (hu:P.underlying T=some (.int k)):EqT P (d+1) T [k]:=by
 intro A B off xs ys c w hx hy hc ha hb
 match xs,ys,hx,hy with
 | [x],[y],⟨⟨a,e⟩,_⟩,⟨⟨b,e'⟩,_⟩=>
  subst e e'
  refine ⟨_,_,part_one hu rfl (drop_one ha) w,part_one hu rfl (drop_one hb) w,?_⟩
  rw [run_equalIn_int w d T k k a b hu,show (a == b)=c from bool_of (by rw [hc];simp)]
theorem EqT.agg {d:Nat} {T:TypeId} {ks:List IntKind} {de:TypeDesc} (h:EqW P d T ks) (hu:P.underlying T=some de) (hd:aggDesc de=true) (hs:(P.info? T).map (·.size)=some ks.length):EqT P d T ks:=by
 intro A B off xs ys c w hx hy hc ha hb
 have e:∀ (A:List Value),A.toArray.extract off (off+ks.length)=((A.drop off).take ks.length).toArray:=fun A=>by
  apply Array.ext'
  simp [List.extract_eq_take_drop,Nat.add_sub_cancel_left]
 have p1:=part_agg hu hd hs A.toArray off w
 have p2:=part_agg hu hd hs B.toArray off w
 rw [e,ha] at p1
 rw [e,hb] at p2
 exact ⟨_,_,p1,p2,h xs ys c w hx hy hc⟩
theorem EqW.ints {d:Nat} {T e:TypeId} {n:Nat} {k:IntKind} (ht:P.underlying T=some (.array n e)) (he:P.underlying e=some (.int k)) (hs:(P.info? e).map (·.size)=some 1):EqW P (d+2) T (List.replicate n k):=by
 intro xs ys c w hx hy hc
 obtain ⟨a,ha,rfl⟩:=hx.rep
 obtain ⟨b,hb,rfl⟩:=hy.rep
 rw [run_equalIn_ints w d T e n ht he hs a b ha hb]
 rw [show decide (a=b)=c from bool_of (by
  rw [hc,decide_eq_true_iff]
  exact ⟨fun h=>by rw [h],fun h=>(List.map_inj_right (fun x y h=>by injection h)).1 h⟩)]
def FsE (P:Program) (d:Nat):Nat→List Field→List (List IntKind)→Prop
 | _,[],[]=>True
 | off,f :: fs,ks :: l=>f.name ≠ "_" ∧ f.offset=off∧EqT P d f.type ks∧FsE P d (off+ks.length) fs l
 | _,_,_=>False
theorem eqFields_all {d:Nat}:∀ (fs:List Field) (l:List (List IntKind)) (pre pre' xs ys:List Value) (c:Bool) (w:World),FsE P d pre.length fs l→pre'.length=pre.length→KI l.flatten xs→KI l.flatten ys→(c=true↔xs=ys)→
 (Op.eqFields d (pre ++ xs).toArray (pre' ++ ys).toArray fs).run P w=.ok c w
 | [],[],pre,pre',xs,ys,c,w,_,_,hx,hy,hc=>by
  match xs,ys,hx,hy,hc with
  | [],[],_,_,hc=>obtain rfl:c=true:=hc.2 rfl;simp [Op.eqFields]
 | [],_ :: _,_,_,_,_,_,_,h,_,_,_,_=>h.elim
 | _ :: _,[],_,_,_,_,_,_,h,_,_,_,_=>h.elim
 | f :: fs,ks :: l,pre,pre',xs,ys,c,w,⟨h1,h2,h3,h4⟩,hp,hx,hy,hc=>by
  obtain ⟨a,b,rfl,ha,hb⟩:=KI.split (by simpa using hx)
  obtain ⟨a',b',rfl,ha',hb'⟩:=KI.split (by simpa using hy)
  have la:=ha.len
  have la':=ha'.len
  obtain ⟨c1,hc1⟩:=ex_bool (a=a')
  obtain ⟨c2,hc2⟩:=ex_bool (b=b')
  obtain ⟨x,y,p1,p2,q⟩:=h3 (pre ++ (a ++ b)) (pre' ++ (a' ++ b')) pre.length a a' c1 w ha ha' hc1 (by rw [List.drop_left,← la,List.take_left]) (by rw [← hp,List.drop_left,← la',List.take_left])
  have ih:=eqFields_all fs l (pre ++ a) (pre' ++ a') b b' c2 w (by rw [List.length_append,la];exact h4) (by rw [List.length_append,List.length_append,hp,la,la']) hb hb' hc2
  rw [List.append_assoc,List.append_assoc] at ih
  unfold Op.eqFields
  rw [if_pos h1,h2]
  simp only [Sem.run_bind,p1,p2,q,Result.andThen_ok]
  have hcc:c=(c1 && c2):=bool_of (by
   rw [hc,Bool.and_eq_true,hc1,hc2]
   exact ⟨fun h=>List.append_inj h (by rw [la,la']),fun h=>by rw [h.1,h.2]⟩)
  subst hcc
  cases c1
  ·simp
  ·simp [ih]
theorem EqW.struct {d:Nat} {T:TypeId} {fs:Array Field} (l:List (List IntKind)) (hu:P.underlying T=some (.struct fs)) (hs:P.stoodInHeld T=false) (hl:FsE P d 0 fs.toList l):EqW P (d+1) T l.flatten:=by
 intro xs ys c w hx hy hc
 have hf:P.fieldsOf T=fs:=by unfold Program.fieldsOf;rw [hu]
 rw [run_equalIn_struct w d T xs.toArray ys.toArray (by rw [hf];exact hu) hs,hf]
 exact eqFields_all fs.toList l [] [] xs ys c w hl rfl hx hy hc
theorem EqW.run {T:TypeId} {ks:List IntKind} (h:EqW P 10000 T ks) {xs ys:List Value} (hx:KI ks xs) (hy:KI ks ys) {c:Bool} (hc:c=true↔xs=ys) (w:World):(binOp .eql T (.agg xs.toArray) (.agg ys.toArray)).run P w=.ok (.bool (c)) w:=by
 rw [run_eql_struct,h xs ys c w hx hy hc]
 rfl
theorem EqW.runN {T:TypeId} {ks:List IntKind} (h:EqW P 10000 T ks) {xs ys:List Value} (hx:KI ks xs) (hy:KI ks ys) {c:Bool} (hc:c=true↔xs=ys) (w:World):(binOp .neq T (.agg xs.toArray) (.agg ys.toArray)).run P w=.ok (.bool (!c)) w:=by
 rw [run_neq_struct,h xs ys c w hx hy hc]
 rfl
abbrev kHash:List IntKind:=List.replicate 32 .u8
theorem eqT_int {d:Nat}:EqT Try.prog (d+1) 3 [.i64]:=EqT.int Try.underlying3
theorem eqT_u64 {d:Nat}:EqT Try.prog (d+1) 45 [.u64]:=EqT.int Try.underlying45
theorem eqT_hash {d:Nat}:EqT Try.prog (d+2) 32 kHash:=EqT.agg (EqW.ints Try.underlying32 Try.underlying5 (by kernel_rfl)) Try.underlying32 rfl (by kernel_rfl)
theorem eqW_name {d:Nat}:EqW Try.prog (d+2) 30 [.i64,.i64]:=EqW.struct [[.i64],[.i64]] Try.underlying30 (by kernel_rfl) ⟨by decide,rfl,eqT_int,by decide,rfl,eqT_int,trivial⟩
theorem eqT_name {d:Nat}:EqT Try.prog (d+2) 30 [.i64,.i64]:=EqT.agg eqW_name Try.underlying30 rfl (by kernel_rfl)
theorem eqW_sig {d:Nat}:EqW Try.prog (d+2) 34 [.i64,.i64]:=EqW.struct [[.i64],[.i64]] Try.underlying34 (by kernel_rfl) ⟨by decide,rfl,eqT_int,by decide,rfl,eqT_int,trivial⟩
theorem eqT_sig {d:Nat}:EqT Try.prog (d+2) 34 [.i64,.i64]:=EqT.agg eqW_sig Try.underlying34 rfl (by kernel_rfl)
theorem eqW_stamp {d:Nat}:EqW Try.prog (d+3) 47 [[.i64],[.i64,.i64],kHash,[.u64],[.i64,.i64]].flatten:=
 EqW.struct [[.i64],[.i64,.i64],kHash,[.u64],[.i64,.i64]] Try.underlying47 (by kernel_rfl) ⟨by decide,rfl,eqT_int,by decide,rfl,eqT_name,by decide,rfl,eqT_hash,by decide,rfl,eqT_u64,by decide,rfl,eqT_sig,trivial⟩
theorem eqW_commit {d:Nat}:EqW Try.prog (d+3) 36 [[.i64,.i64],kHash,[.i64],[.i64,.i64]].flatten:=
 EqW.struct [[.i64,.i64],kHash,[.i64],[.i64,.i64]] Try.underlying36 (by kernel_rfl) ⟨by decide,rfl,eqT_name,by decide,rfl,eqT_hash,by decide,rfl,eqT_int,by decide,rfl,eqT_sig,trivial⟩
theorem ki_hash {h:List Int} (e:h.length=32):KI kHash (h.map bv):=KI.ints e
theorem ki_st {x:St} (h:x.OK):KI [[.i64],[.i64,.i64],kHash,[.u64],[.i64,.i64]].flatten x.cells:=by
 have:=KI.append (ks:=[.i64,.i64,.i64]) (a:=[.int .i64 x.rp,.int .i64 x.cl,.int .i64 x.sq]) ⟨⟨_,rfl⟩,⟨_,rfl⟩,⟨_,rfl⟩,trivial⟩ (KI.append (ki_hash h.h.1) (ks':=[.u64,.i64,.i64]) (b:=[.int .u64 (x.tm:Nat),.int .i64 x.sb,.int .i64 x.mr]) ⟨⟨_,rfl⟩,⟨_,rfl⟩,⟨_,rfl⟩,trivial⟩)
 exact this
theorem ki_cm {x:Cm} (h:x.h.length=32):KI [[.i64,.i64],kHash,[.i64],[.i64,.i64]].flatten x.cells:=by
 have:=KI.append (ks:=[.i64,.i64]) (a:=[.int .i64 x.cl,.int .i64 x.sq]) ⟨⟨_,rfl⟩,⟨_,rfl⟩,trivial⟩ (KI.append (ki_hash h) (ks':=[.i64,.i64,.i64]) (b:=[.int .i64 x.ln,.int .i64 x.sb,.int .i64 x.mr]) ⟨⟨_,rfl⟩,⟨_,rfl⟩,⟨_,rfl⟩,trivial⟩)
 exact this
end Go.Proofs.Ytbifincepglilaa

/- Whether two things are one, in plain words. -/
namespace Go.Proofs.Ytbifincepglilaa
open Go Go.RowKit Go.Gv
theorem ne_ff {a b:Int} (h:a=b):(!(a == b))=false:=by simp [h]
theorem agg_guardE (op:BinOp) (T:TypeId) (x y:Operand) (a b:Array Value) (h:Try.prog.eqGuardType Try.prog.depth T=false) (w:World):(eqGuard op T x y (.agg a) (.agg b)).run Try.prog w=.ok () w:=run_eqGuard_agg (P:=Try.prog) w op T x y a b h
theorem hash_inj {a b:List Int} (h:a.map bv=b.map bv):a=b:=(List.map_inj_right (fun a b e=>by injection e)).1 h
theorem ki_2 (a b:Int):KI [.i64,.i64] [Value.int .i64 a,Value.int .i64 b]:=⟨⟨_,rfl⟩,⟨_,rfl⟩,trivial⟩
end Go.Proofs.Ytbifincepglilaa

/- stamp.Stamper.Stamp. -/
namespace Go.Proofs.Ytbifincepglilaa
open Go Go.RowKit Go.Gv
theorem run_neq_hv {a b:List Int} (ha:a.length=32) (hb:b.length=32) {c:Bool} (hc:c=true↔a=b) (w:World):(binOp .neq 32 (hv a) (hv b)).run Try.prog w=.ok (.bool (!c)) w:=
 EqW.runN (EqW.ints (d:=9998) Try.underlying32 Try.underlying5 (by kernel_rfl)) (ki_hash ha) (ki_hash hb) (hc.trans ⟨fun h=>by rw [h],hash_inj⟩) w
def stampY0 (rep:Int) (c:Cm) (t:Nat):St:=⟨rep,c.cl,c.sq,c.h,t,0,0⟩
def stampL (L:List (Int × List Int)) (rep:Int) (c:Cm) (t:Nat):List (Int × List Int):=B7 L (rep,B8 (stampY0 rep c t))
def stampY (L:List (Int × List Int)) (rep:Int) (c:Cm) (t:Nat):St:={ stampY0 rep c t with sb:=rep,mr:=((mkN (stampL L rep c t) (rep,B8 (stampY0 rep c t)):Nat):Int) }
def stampS (s:SS) (L:List (Int × List Int)) (rep:Int) (c:Cm) (t:Nat):SS:=⟨s.now,s.floor,t,s.m ++ [((c.cl,c.sq),stampY L rep c t)]⟩
theorem mlook_ok {l:NMap} {k:Int × Int} {y:St} (h:∀ q ∈ l,q.2.OK) (hl:Bs l k=some y):y.OK:=by
 unfold Bs at hl
 cases hq:l.find? (fun p=>p.1=k) with
 | none=>rw [hq] at hl;cases hl
 | some p=>rw [hq] at hl;cases hl;exact h p (List.mem_of_find?_eq_some hq)
theorem signF_le {n:Nat} (L:List (Int × List Int)) (k:Int × List Int) (h:L.length≤n):(B7 L k).length≤n+1:=by
 unfold B7
 by_cases hk:mkN L k=0
 ·rw [if_pos hk,List.length_append];simp only [List.length_cons,List.length_nil];omega
 ·rw [if_neg hk];omega
theorem mkN_le (L:List (Int × List Int)) (k:Int × List Int):mkN L k≤L.length:=by
 unfold mkN
 cases hq:Bs (Bn 0 L) k with
 | none=>simp
 | some m=>
  have:=(marks_pos 0 _ _ m hq).2
  simp;omega
theorem mkN_I64 (L:List (Int × List Int)) (k:Int × List Int) (h:L.length≤1000000):I64 ((mkN L k:Nat):Int):=by
 have:=mkN_le L k
 unfold I64;omega
set_option maxHeartbeats 4000000 in
theorem Stamp_bad {R Rb:Nat→Prop} {w:World} {p g:Nat} {f k rep:Int} {s:SS} {c:Cm} {L:List (Int × List Int)} (h:SpR R w p f k rep s) (hbk:BkR Rb w g L) (hB:∀ k,R k→k < w.heap.size) (hBb:∀ k,Rb k→k < w.heap.size) (hd:∀ k,R k→Rb k→False) (hco:c.OK) (hsi:I64 (1000+c.cl)) (hrt:Bo L k c=false) :
 Calls Try.prog 14 #[.pointer (some ⟨p,0,none⟩),.pointer (some ⟨g,0,none⟩),.agg c.cells.toArray] w fun e w'=>e=.returned (.tuple #[.agg zSt.cells.toArray,.int .i64 3])∧SpR R w' p f k rep s∧BkR Rb w' g L∧Mod (fun _=>False) w w':=by
 obtain ⟨b,hc,hp,hb,hmp,hne,hnw,hfl,hla,hok⟩:=h
 have hpl:=hc.lt
 have hbl:=hmp.lt
 have hU:U64=18446744073709551616:=rfl
 have HC:=hid (show Cs w p #[.int .i64 f,.int .i64 k,.int .i64 rep,.int .u64 (s.now:Nat),.int .u64 (s.floor:Nat),.int .u64 (s.last:Nat),.map (some b)] 91 from hc)
 have HMP:=Lib.hid hmp
 have HBR:=Lib.hid hB
 have HPR:=Lib.hid hp
 have HRB:=Lib.hid hb
 have HOKS:=Lib.hid hok
 clear hc hmp hp hb hok hB
 have HBK:=Lib.hid hbk
 have HBB:=Lib.hid hBb
 have HDJ:=Lib.hid hd
 have HCO:=Lib.hid hco
 have HSI:=Lib.hid hsi
 have HRT:=Lib.hid hrt
 have HNPR:=hid (fun (h:Rb p)=>HDJ.out p HPR.out h)
 have HNBR:=hid (fun (h:Rb b)=>HDJ.out b HRB.out h)
 clear hbk hBb hd hco hsi hrt
 change Calls _ _ #[.pointer (some ⟨p,0,none⟩),.pointer (some ⟨g,0,none⟩),.agg (c.cells:List Value).toArray] _ _
 go_enter Try.func14,Try.ntmps14
 go_upto_region 1 with (fail)
 obtain ⟨w1,hw1⟩:∃ zz,zz=((w.alloc (.cells (c.cells:List Value).toArray 36)).alloc (.cells #[.int .i64 0,.int .i64 0,.int .i64 0,.int .u8 0,.int .u8 0,.int .u8 0,.int .u8 0,.int .u8 0,.int .u8 0,.int .u8 0,.int .u8 0,.int .u8 0,.int .u8 0,.int .u8 0,.int .u8 0,.int .u8 0,.int .u8 0,.int .u8 0,.int .u8 0,.int .u8 0,.int .u8 0,.int .u8 0,.int .u8 0,.int .u8 0,.int .u8 0,.int .u8 0,.int .u8 0,.int .u8 0,.int .u8 0,.int .u8 0,.int .u8 0,.int .u8 0,.int .u8 0,.int .u8 0,.int .u8 0,.int .u64 0,.int .i64 0,.int .i64 0] 47)):=⟨_,rfl⟩
 change Code.wp _ _ _ _ ((w.alloc (.cells (c.cells:List Value).toArray 36)).alloc (.cells #[.int .i64 0,.int .i64 0,.int .i64 0,.int .u8 0,.int .u8 0,.int .u8 0,.int .u8 0,.int .u8 0,.int .u8 0,.int .u8 0,.int .u8 0,.int .u8 0,.int .u8 0,.int .u8 0,.int .u8 0,.int .u8 0,.int .u8 0,.int .u8 0,.int .u8 0,.int .u8 0,.int .u8 0,.int .u8 0,.int .u8 0,.int .u8 0,.int .u8 0,.int .u8 0,.int .u8 0,.int .u8 0,.int .u8 0,.int .u8 0,.int .u8 0,.int .u8 0,.int .u8 0,.int .u8 0,.int .u8 0,.int .u64 0,.int .i64 0,.int .i64 0] 47))
 rw [← hw1]
 have HB5:=hid (show Cs w1 (w.heap.size) (c.cells:List Value).toArray 36 by rw [hw1];exact (Cs.new _ _ _).alloc _)
 have HB6:=hid (show Cs w1 (w.heap.size+1) #[.int .i64 0,.int .i64 0,.int .i64 0,.int .u8 0,.int .u8 0,.int .u8 0,.int .u8 0,.int .u8 0,.int .u8 0,.int .u8 0,.int .u8 0,.int .u8 0,.int .u8 0,.int .u8 0,.int .u8 0,.int .u8 0,.int .u8 0,.int .u8 0,.int .u8 0,.int .u8 0,.int .u8 0,.int .u8 0,.int .u8 0,.int .u8 0,.int .u8 0,.int .u8 0,.int .u8 0,.int .u8 0,.int .u8 0,.int .u8 0,.int .u8 0,.int .u8 0,.int .u8 0,.int .u8 0,.int .u8 0,.int .u64 0,.int .i64 0,.int .i64 0] 47 by rw [hw1];exact Cs_newN _ _ _ (by simp))
 have hm:Mod (fun _=>False) w w1:=by rw [hw1];exact ((Mod.refl _ _).alloc _).alloc _
 have HM0:=hid (show Mod (fun _=>False) w w1 from hm.mono (fun _ _ h=>h.elim))
 have hs1:w1.heap.size=w.heap.size+2:=by rw [hw1];simp
 have Hx1:=hid (HC.out.mod hm (fun h=>h))
 clear HC
 have Hx2:=hid (HMP.out.mod hm (fun h=>h))
 clear HMP
 have Hx3:=hid (HBK.out.mod hm (fun _ _ h=>h))
 clear HBK
 clear hw1 hm
 go_upto_region 1 with (fail)
 generalize ha0:Act.mk _ _=a0
 have oe0:a0.eval (.tmp 0)=.pointer (some ⟨p,0,none⟩):=by rw [← ha0];rfl
 have oe1:a0.eval (.tmp 1)=.pointer (some ⟨g,0,none⟩):=by rw [← ha0];rfl
 have oe5:a0.eval (.tmp 5)=.pointer (some ⟨w.heap.size,0,none⟩):=by rw [← ha0];rfl
 have hsz0:a0.tmps.size=90:=by rw [← ha0];rfl
 have HA0:=hid ha0
 clear ha0
 refine Az 90 hsz0 [12,13,14,15,16,17,18,19] [qi (.pointer (some ⟨p,0,none⟩)),qi (.pointer (some ⟨p,0,none⟩)),qi (.pointer (some ⟨p,0,none⟩)),qi (.agg #[.int .i64 f,.int .i64 k]),qi (.pointer (some ⟨g,0,none⟩)),qi (c.val),qi (.bool false),qi (.bool true)] ⟨Aa,Aa,Aa,Aa,Aa,Aa,Aa,Aa,trivial⟩ [6] ⟨?_,?_,?_,?_,?_,?_,?_,?_,trivial⟩ ?_
 ·exact stq (fun E=>Ah rfl (E.v oe0))
 ·exact stq (fun E=>A1 rfl (E.d 0))
 ·exact stq (fun E=>Ai rfl Try.underlying91 rfl (by kernel_rfl) (E.d 1))
 ·exact stq (fun E=>Ap rfl Try.underlying26 rfl (off:=0) (cs:=[.int .i64 f,.int .i64 k]) (by kernel_rfl) (E.d 2) (Cs.litA (Hx1.out.mod E.m.old (by intro h2;omega)) rfl))
 ·exact stq (fun E=>Ah rfl (E.v oe1))
 ·exact stq (fun E=>Ap rfl Try.underlying36 rfl (off:=0) (cs:=c.cells) (by rw [Cm.len HCO.out.2.1];exact Bd) (E.v oe5) (Cs.whole (HB5.out.mod E.m.old (by intro h2;omega))))
 ·exact Au rfl
 ·exact stq (fun E=>ex_not rfl (E.d 6))
 intro u1_0 hr
 have zu1_0:=hr.size
 have Cx4:=hid (hr.new (S:=(fun _=>False)))
 clear hr
 refine QChain.go fun Z act E=>?_
 refine Ax (args:=#[.agg #[.int .i64 f,.int .i64 k],.pointer (some ⟨g,0,none⟩),c.val]) rfl (Ab rfl) rfl Try.func32 (args3 (E.d 3) (E.d 4) (E.d 5)) (Right_Q (Hx3.out.mod Cx4.out (fun _ _ h=>h)) f k c HCO.out HSI.out HRT.out) ?_
 rintro e u1_1a ⟨rfl,hm⟩
 have zu1_1a:=hm.size
 refine ⟨_,rfl,hm.mono (fun _ _ h=>h.elim),(fun _=>rfl),?_⟩
 intro u1_1 hr
 have zu1_1:=hr.size
 have Cx5:=hid (Cx4.out.go hm hr)
 clear Cx4 hm hr Z act E
 refine QChain.nil fun vs hl hzz hrows hne=>?_
 obtain ⟨Z,hYZ,hZb,hV⟩:=hzz
 have f0:=fvi hV hl 0
 have f4:=fvi hV hl 4
 have f6:=fvi hV hl 6
 have f7:=fvi hV hl 7
 rw [show vs=[gw vs 0,gw vs 1,gw vs 2,gw vs 3,gw vs 4,gw vs 5,gw vs 6,gw vs 7] from (Bh hl).trans rfl]
 have ha0:=HA0.out
 subst ha0
 clear HA0 hV hYZ hZb hsz0 hrows hne oe0 oe1 oe5
 simp only [Ar,Act.put,sIB,sCZ,sCS,f0,f4,f6,f7]
 clear hl f0 f4 f6 f7
 go_upto_region 2 with (fail)
 refine Al 90 [20,91,7] [0,1,2] (fun a0 HA0=>?_)
 have oe6:=ev HA0 6 rfl
 refine QSeq.pure rfl (.agg (zSt.cells:List Value).toArray) (fun E=>ex_build0 rfl (r:=(zSt.cells:List Value).toArray) (by kernel_rfl)) ?_
 refine QSeq.go fun act E=>?_
 refine Bc rfl (Ab rfl) rfl (HB6.out.mod Cx5.out (fun h=>h)) (off:=0) (vs:=zSt.cells) (by rw [St.len Bt];exact Bb) (St.one zSt) (by rw [St.len Bt];decide) (E.v oe6) (ec (E.d 0 0)) ?_
 intro u2_1 qc0 hm
 have qB6:=qc0.eqv (b:=(zSt.cells:List Value).toArray) (A0 _ _ (by rw [St.len Bt];rfl))
 clear qc0
 have Hx6:=hid qB6
 have zu2_1:=hm.size
 have Cx7:=hid (show Mod (fun k=>(k=w.heap.size+1)) u1_1 u2_1 from hm)
 clear hm
 clear act E qB6 HB6
 refine QSeq.pure rfl (.int .i64 3) (fun E=>An rfl rfl) ?_
 refine QSeq.nil (t':=[_,_,_]) rfl ?_
 obtain rfl:=HA0.out
 clear HA0 oe6
 simp only [pz,Act.put,sIB,sCZ,sCS,List.set_nil]
 go_wp2
 refine bodyPost_ret (Bm rfl _ _ (w.heap.size+1) (zSt.cells) rfl (fun k u hu=>by rw [Hx6.out.cell];simpa using hu) Try.underlying47 rfl (by rw [St.len Bt];exact Bb)) rfl ?_
 exact ⟨rfl,⟨b,((Hx1.out.mod Cx5.out (fun h=>h)).mod Cx7.out (by intro h2;omega)),HPR.out,HRB.out,((Hx2.out.mod Cx5.out (fun h=>h)).mod Cx7.out (by intro h2;omega)),hne,hnw,hfl,hla,HOKS.out⟩,((Hx3.out.mod Cx5.out (fun _ _ h=>h)).mod Cx7.out (sB HBB)),((HM0.out.trans Cx5.out (fun _ _ h=>h.elim)).trans Cx7.out (by intro k h1 h2;omega))⟩
set_option maxHeartbeats 4000000 in
theorem Stamp_end {R Rb:Nat→Prop} {w:World} {p g:Nat} {f k rep:Int} {s:SS} {c:Cm} {L:List (Int × List Int)} (h:SpR R w p f k rep s) (hbk:BkR Rb w g L) (hB:∀ k,R k→k < w.heap.size) (hBb:∀ k,Rb k→k < w.heap.size) (hd:∀ k,R k→Rb k→False) (hco:c.OK) (hsi:I64 (1000+c.cl)) (hrt:Bo L k c=true) {t:Nat} (hml:Bs s.m (c.cl,c.sq)=none) (ht:t=max (max s.now (s.floor+1)) (s.last+1)) (htl:¬ t+1 < U64) :
 Calls Try.prog 14 #[.pointer (some ⟨p,0,none⟩),.pointer (some ⟨g,0,none⟩),.agg c.cells.toArray] w fun e w'=>e=.returned (.tuple #[.agg zSt.cells.toArray,.int .i64 4])∧SpR R w' p f k rep s∧BkR Rb w' g L∧Mod (fun _=>False) w w':=by
 obtain ⟨b,hc,hp,hb,hmp,hne,hnw,hfl,hla,hok⟩:=h
 have hpl:=hc.lt
 have hbl:=hmp.lt
 have hU:U64=18446744073709551616:=rfl
 have HC:=hid (show Cs w p #[.int .i64 f,.int .i64 k,.int .i64 rep,.int .u64 (s.now:Nat),.int .u64 (s.floor:Nat),.int .u64 (s.last:Nat),.map (some b)] 91 from hc)
 have HMP:=Lib.hid hmp
 have HBR:=Lib.hid hB
 have HPR:=Lib.hid hp
 have HRB:=Lib.hid hb
 have HOKS:=Lib.hid hok
 clear hc hmp hp hb hok hB
 have HBK:=Lib.hid hbk
 have HBB:=Lib.hid hBb
 have HDJ:=Lib.hid hd
 have HCO:=Lib.hid hco
 have HSI:=Lib.hid hsi
 have HRT:=Lib.hid hrt
 have HNPR:=hid (fun (h:Rb p)=>HDJ.out p HPR.out h)
 have HNBR:=hid (fun (h:Rb b)=>HDJ.out b HRB.out h)
 clear hbk hBb hd hco hsi hrt
 have HML:=Lib.hid hml
 clear hml
 have HNK:=hid (show NmK (c.cl,c.sq) from ⟨HCO.out.1.1,HCO.out.1.2.1⟩)
 change Calls _ _ #[.pointer (some ⟨p,0,none⟩),.pointer (some ⟨g,0,none⟩),.agg (c.cells:List Value).toArray] _ _
 go_enter Try.func14,Try.ntmps14
 go_upto_region 1 with (fail)
 obtain ⟨w1,hw1⟩:∃ zz,zz=((w.alloc (.cells (c.cells:List Value).toArray 36)).alloc (.cells #[.int .i64 0,.int .i64 0,.int .i64 0,.int .u8 0,.int .u8 0,.int .u8 0,.int .u8 0,.int .u8 0,.int .u8 0,.int .u8 0,.int .u8 0,.int .u8 0,.int .u8 0,.int .u8 0,.int .u8 0,.int .u8 0,.int .u8 0,.int .u8 0,.int .u8 0,.int .u8 0,.int .u8 0,.int .u8 0,.int .u8 0,.int .u8 0,.int .u8 0,.int .u8 0,.int .u8 0,.int .u8 0,.int .u8 0,.int .u8 0,.int .u8 0,.int .u8 0,.int .u8 0,.int .u8 0,.int .u8 0,.int .u64 0,.int .i64 0,.int .i64 0] 47)):=⟨_,rfl⟩
 change Code.wp _ _ _ _ ((w.alloc (.cells (c.cells:List Value).toArray 36)).alloc (.cells #[.int .i64 0,.int .i64 0,.int .i64 0,.int .u8 0,.int .u8 0,.int .u8 0,.int .u8 0,.int .u8 0,.int .u8 0,.int .u8 0,.int .u8 0,.int .u8 0,.int .u8 0,.int .u8 0,.int .u8 0,.int .u8 0,.int .u8 0,.int .u8 0,.int .u8 0,.int .u8 0,.int .u8 0,.int .u8 0,.int .u8 0,.int .u8 0,.int .u8 0,.int .u8 0,.int .u8 0,.int .u8 0,.int .u8 0,.int .u8 0,.int .u8 0,.int .u8 0,.int .u8 0,.int .u8 0,.int .u8 0,.int .u64 0,.int .i64 0,.int .i64 0] 47))
 rw [← hw1]
 have HB5:=hid (show Cs w1 (w.heap.size) (c.cells:List Value).toArray 36 by rw [hw1];exact (Cs.new _ _ _).alloc _)
 have HB6:=hid (show Cs w1 (w.heap.size+1) #[.int .i64 0,.int .i64 0,.int .i64 0,.int .u8 0,.int .u8 0,.int .u8 0,.int .u8 0,.int .u8 0,.int .u8 0,.int .u8 0,.int .u8 0,.int .u8 0,.int .u8 0,.int .u8 0,.int .u8 0,.int .u8 0,.int .u8 0,.int .u8 0,.int .u8 0,.int .u8 0,.int .u8 0,.int .u8 0,.int .u8 0,.int .u8 0,.int .u8 0,.int .u8 0,.int .u8 0,.int .u8 0,.int .u8 0,.int .u8 0,.int .u8 0,.int .u8 0,.int .u8 0,.int .u8 0,.int .u8 0,.int .u64 0,.int .i64 0,.int .i64 0] 47 by rw [hw1];exact Cs_newN _ _ _ (by simp))
 have hm:Mod (fun _=>False) w w1:=by rw [hw1];exact ((Mod.refl _ _).alloc _).alloc _
 have HM0:=hid (show Mod (fun _=>False) w w1 from hm.mono (fun _ _ h=>h.elim))
 have hs1:w1.heap.size=w.heap.size+2:=by rw [hw1];simp
 have Hx1:=hid (HC.out.mod hm (fun h=>h))
 clear HC
 have Hx2:=hid (HMP.out.mod hm (fun h=>h))
 clear HMP
 have Hx3:=hid (HBK.out.mod hm (fun _ _ h=>h))
 clear HBK
 clear hw1 hm
 go_upto_region 1 with (fail)
 generalize ha0:Act.mk _ _=a0
 have oe0:a0.eval (.tmp 0)=.pointer (some ⟨p,0,none⟩):=by rw [← ha0];rfl
 have oe1:a0.eval (.tmp 1)=.pointer (some ⟨g,0,none⟩):=by rw [← ha0];rfl
 have oe5:a0.eval (.tmp 5)=.pointer (some ⟨w.heap.size,0,none⟩):=by rw [← ha0];rfl
 have hsz0:a0.tmps.size=90:=by rw [← ha0];rfl
 have HA0:=hid ha0
 clear ha0
 refine Az 90 hsz0 [12,13,14,15,16,17,18,19] [qi (.pointer (some ⟨p,0,none⟩)),qi (.pointer (some ⟨p,0,none⟩)),qi (.pointer (some ⟨p,0,none⟩)),qi (.agg #[.int .i64 f,.int .i64 k]),qi (.pointer (some ⟨g,0,none⟩)),qi (c.val),qi (.bool true),qi (.bool false)] ⟨Aa,Aa,Aa,Aa,Aa,Aa,Aa,Aa,trivial⟩ [6] ⟨?_,?_,?_,?_,?_,?_,?_,?_,trivial⟩ ?_
 ·exact stq (fun E=>Ah rfl (E.v oe0))
 ·exact stq (fun E=>A1 rfl (E.d 0))
 ·exact stq (fun E=>Ai rfl Try.underlying91 rfl (by kernel_rfl) (E.d 1))
 ·exact stq (fun E=>Ap rfl Try.underlying26 rfl (off:=0) (cs:=[.int .i64 f,.int .i64 k]) (by kernel_rfl) (E.d 2) (Cs.litA (Hx1.out.mod E.m.old (by intro h2;omega)) rfl))
 ·exact stq (fun E=>Ah rfl (E.v oe1))
 ·exact stq (fun E=>Ap rfl Try.underlying36 rfl (off:=0) (cs:=c.cells) (by rw [Cm.len HCO.out.2.1];exact Bd) (E.v oe5) (Cs.whole (HB5.out.mod E.m.old (by intro h2;omega))))
 ·exact Au rfl
 ·exact stq (fun E=>ex_not rfl (E.d 6))
 intro u1_0 hr
 have zu1_0:=hr.size
 have Cx4:=hid (hr.new (S:=(fun _=>False)))
 clear hr
 refine QChain.go fun Z act E=>?_
 refine Ax (args:=#[.agg #[.int .i64 f,.int .i64 k],.pointer (some ⟨g,0,none⟩),c.val]) rfl (Ab rfl) rfl Try.func32 (args3 (E.d 3) (E.d 4) (E.d 5)) (Right_Q (Hx3.out.mod Cx4.out (fun _ _ h=>h)) f k c HCO.out HSI.out HRT.out) ?_
 rintro e u1_1a ⟨rfl,hm⟩
 have zu1_1a:=hm.size
 refine ⟨_,rfl,hm.mono (fun _ _ h=>h.elim),(fun _=>rfl),?_⟩
 intro u1_1 hr
 have zu1_1:=hr.size
 have Cx5:=hid (Cx4.out.go hm hr)
 clear Cx4 hm hr Z act E
 refine QChain.nil fun vs hl hzz hrows hne=>?_
 obtain ⟨Z,hYZ,hZb,hV⟩:=hzz
 have f0:=fvi hV hl 0
 have f4:=fvi hV hl 4
 have f6:=fvi hV hl 6
 have f7:=fvi hV hl 7
 rw [show vs=[gw vs 0,gw vs 1,gw vs 2,gw vs 3,gw vs 4,gw vs 5,gw vs 6,gw vs 7] from (Bh hl).trans rfl]
 have ha0:=HA0.out
 subst ha0
 clear HA0 hV hYZ hZb hsz0 hrows hne oe0 oe1 oe5
 simp only [Ar,Act.put,sIB,sCZ,sCS,f0,f4,f6,f7]
 clear hl f0 f4 f6 f7
 go_upto_region 3 with (fail)
 generalize ha0:Act.mk _ _=a0
 have oe0:a0.eval (.tmp 0)=.pointer (some ⟨p,0,none⟩):=by rw [← ha0];rfl
 have oe5:a0.eval (.tmp 5)=.pointer (some ⟨w.heap.size,0,none⟩):=by rw [← ha0];rfl
 have hsz0:a0.tmps.size=90:=by rw [← ha0];rfl
 have HA0:=hid ha0
 clear ha0
 refine wp_region_Q 90 hsz0 (by kernel_rfl) (by kernel_rfl) [22,23,24,25,26,27,28,21,29,30,8,101,9] (by kernel_rfl) (by decide) (fun _=>False) (fun _ _=>False) (fun _ _ h=>h) [qi (.pointer (some ⟨p,0,none⟩)),qi (.pointer (some ⟨p,0,none⟩)),qi (.pointer (some ⟨p,6,none⟩)),qi (.map (some b)),qi (.pointer (some ⟨w.heap.size,0,none⟩)),qi (.agg #[.int .i64 c.cl,.int .i64 c.sq]),qi (.tuple #[zSt.val,.bool false]),qi (.tuple #[zSt.val,.bool false]),qi (zSt.val),qi (.bool false),qa,qa,qi (.bool false)] ⟨Aa,Aa,Aa,Aa,Aa,Aa,Aa,Aa,Aa,Aa,B5,B5,Aa,trivial⟩ [] (by kernel_rfl) (by decide) (by kernel_rfl) [⟨10,11,47,[.int .i64 0,.int .i64 0,.int .i64 0,.int .u8 0,.int .u8 0,.int .u8 0,.int .u8 0,.int .u8 0,.int .u8 0,.int .u8 0,.int .u8 0,.int .u8 0,.int .u8 0,.int .u8 0,.int .u8 0,.int .u8 0,.int .u8 0,.int .u8 0,.int .u8 0,.int .u8 0,.int .u8 0,.int .u8 0,.int .u8 0,.int .u8 0,.int .u8 0,.int .u8 0,.int .u8 0,.int .u8 0,.int .u8 0,.int .u8 0,.int .u8 0,.int .u8 0,.int .u8 0,.int .u8 0,.int .u8 0,.int .u64 0,.int .i64 0,.int .i64 0],0,(fun t=>zSt.cells)⟩] (by kernel_rfl) (by intro r hr;simp only [List.mem_cons,List.not_mem_nil,or_false] at hr;rcases hr with rfl<;>exact ⟨by kernel_rfl,by kernel_rfl⟩) (by intro r hr;simp only [List.mem_cons,List.not_mem_nil,or_false] at hr;rcases hr with rfl<;>exact ⟨of_decide_eq_true (by kernel_rfl),of_decide_eq_true (by kernel_rfl)⟩) (by intro r hr;simp only [List.mem_cons,List.not_mem_nil,or_false] at hr;rcases hr with rfl<;>exact fun _ _ _ _=>⟨trivial,trivial⟩) ⟨?_,?_,?_,?_,?_,?_,?_,?_,?_,?_,?_,?_,?_,trivial⟩ ?_
 ·exact stq (fun E=>Ah rfl (E.v oe0))
 ·exact stq (fun E=>A1 rfl (E.d 0))
 ·exact stq (fun E=>Ai rfl Try.underlying91 rfl (by kernel_rfl) (E.d 1))
 ·exact stq (fun E=>Am rfl Try.underlying57 rfl (E.d 2) (Cs.lit1 ((Hx1.out.mod Cx5.out (fun h=>h)).mod E.m.old (by intro h2;omega)) rfl))
 ·exact stq (fun E=>Ai rfl Try.underlying36 rfl (by kernel_rfl) (E.v oe5))
 ·exact stq (fun E=>Ap rfl Try.underlying30 rfl (off:=0) (cs:=[.int .i64 c.cl,.int .i64 c.sq]) (by kernel_rfl) (E.d 4) (Cs.preA (pre:=[.int .i64 c.cl,.int .i64 c.sq]) (mid:=c.h.map bv) (post:=[.int .i64 c.ln,.int .i64 c.sb,.int .i64 c.mr]) ((HB5.out.mod Cx5.out (fun h=>h)).mod E.m.old (by intro h2;omega)) rfl))
 ·exact stq (fun E=>ex_lookS (k:=(c.cl,c.sq)) rfl (E.d 3) (E.d 5) HNK.out ((Hx2.out.mod Cx5.out (fun h=>h)).mod E.m.old (by intro h2;omega)) (lookV_none HML.out))
 ·exact stq (fun E=>Ah rfl (E.d 6))
 ·exact stq (fun E=>A9 rfl (E.d 7) rfl)
 ·exact stq (fun E=>A9 rfl (E.d 7) rfl)
 ·exact stepq_make rfl rfl ⟨rfl,rfl,by kernel_rfl,by kernel_rfl⟩
 ·refine stepq_write rfl rfl rfl ⟨rfl,8,(.tmp 29),rfl,by decide,rfl,by kernel_rfl,fun Z tr act w' hm hout hsz hd hpre=>?_⟩
  have h8:=hd ⟨8,.data⟩ (by simp) rfl _ rfl
  exact ⟨Nat.zero_le _,(by rw [show act.eval ((.tmp 29))=_ from h8];rfl),(by rw [St.len Bt];rfl),(St.one zSt)⟩
 ·exact stq (fun E=>An rfl (E.d 9))
 intro u3_0 hr
 have zu3_0:=hr.size
 have Cx6:=hid (hr.new (S:=(fun _=>False)))
 clear hr
 refine QChain.nil fun vs hl hzz hrows hne=>?_
 obtain ⟨Z,hYZ,hZb,hV⟩:=hzz
 obtain ⟨b8,g10,hBb8,hYb8,hCb8⟩:=hrows _ (by simp only [List.mem_cons,List.not_mem_nil,or_false];trivial)
 have f10:gw vs 10=_:=getv g10
 (try dsimp only at hBb8 hYb8);(try simp only [false_or] at hBb8 hYb8)
 have zqb8:=hCb8.lt
 have Hx7:=hid (show Cs u3_0 b8 (zSt.cells:List Value).toArray 47 from hCb8)
 have f0:=fvi hV hl 0
 have f7:=fvi hV hl 7
 have f12:=fvi hV hl 12
 rw [show vs=[gw vs 0,gw vs 1,gw vs 2,gw vs 3,gw vs 4,gw vs 5,gw vs 6,gw vs 7,gw vs 8,gw vs 9,gw vs 10,gw vs 11,gw vs 12] from (Bh hl).trans rfl]
 have ha0:=HA0.out
 subst ha0
 clear HA0 hV hYZ hZb hsz0 hrows hne oe0 oe5 hCb8 g10
 simp only [Ar,Act.put,sIB,sCZ,sCS,List.set_nil,f10,f0,f7,f12]
 clear hl f10 f0 f7 f12
 go_upto_region 4 with (fail)
 refine Al 90 [31] [0] (fun a0 HA0=>?_)
 have oe9:=ev HA0 9 rfl
 refine QSeq.pure rfl _ (fun E=>Ah rfl (E.v oe9)) ?_
 refine QSeq.nil (t':=[_]) rfl ?_
 obtain rfl:=HA0.out
 clear HA0 oe9
 simp only [pz,Act.put,sIB,sCZ,sCS]
 clear Hx7
 obtain ⟨fl,hfl2⟩:∃ x,x=s.floor+1:=⟨_,rfl⟩
 obtain ⟨ls,hls2⟩:∃ x,x=s.last+1:=⟨_,rfl⟩
 have htn:t=max (max s.now fl) ls:=by rw [hfl2,hls2];exact ht
 go_upto_region 8 with (fail)
 generalize ha0:Act.mk _ _=a0
 have oe0:a0.eval (.tmp 0)=.pointer (some ⟨p,0,none⟩):=by rw [← ha0];rfl
 have hsz0:a0.tmps.size=90:=by rw [← ha0];rfl
 have HA0:=hid ha0
 clear ha0
 refine Az 90 hsz0 [39,40,41,42,43,44,45,46,47,48,49,50,51,52,53,10] [qi (.pointer (some ⟨p,0,none⟩)),qi (.pointer (some ⟨p,0,none⟩)),qi (.pointer (some ⟨p,3,none⟩)),qi (.int .u64 (s.now:Nat)),qi (.pointer (some ⟨p,0,none⟩)),qi (.pointer (some ⟨p,0,none⟩)),qi (.pointer (some ⟨p,4,none⟩)),qi (.int .u64 (s.floor:Nat)),qi (.int .u64 ((fl:Nat):Int)),qi (.pointer (some ⟨p,0,none⟩)),qi (.pointer (some ⟨p,0,none⟩)),qi (.pointer (some ⟨p,5,none⟩)),qi (.int .u64 (s.last:Nat)),qi (.int .u64 ((ls:Nat):Int)),qi (.int .u64 ((t:Nat):Int)),qi (.int .u64 ((t:Nat):Int))] ⟨Aa,Aa,Aa,Aa,Aa,Aa,Aa,Aa,Aa,Aa,Aa,Aa,Aa,Aa,Aa,Aa,trivial⟩ [] ⟨?_,?_,?_,?_,?_,?_,?_,?_,?_,?_,?_,?_,?_,?_,?_,?_,trivial⟩ ?_
 ·exact stq (fun E=>Ah rfl (E.v oe0))
 ·exact stq (fun E=>A1 rfl (E.d 0))
 ·exact stq (fun E=>Ai rfl Try.underlying91 rfl (by kernel_rfl) (E.d 1))
 ·exact stq (fun E=>Am rfl Try.underlying45 rfl (E.d 2) (Cs.lit1 (((Hx1.out.mod Cx5.out (fun h=>h)).mod Cx6.out (fun h=>h)).mod E.m.old (by intro h2;omega)) rfl))
 ·exact stq (fun E=>Ah rfl (E.v oe0))
 ·exact stq (fun E=>A1 rfl (E.d 4))
 ·exact stq (fun E=>Ai rfl Try.underlying91 rfl (by kernel_rfl) (E.d 5))
 ·exact stq (fun E=>Am rfl Try.underlying45 rfl (E.d 6) (Cs.lit1 (((Hx1.out.mod Cx5.out (fun h=>h)).mod Cx6.out (fun h=>h)).mod E.m.old (by intro h2;omega)) rfl))
 ·exact stq (fun E=>Av rfl (E.d 7) rfl (Ak _ _ _ _ _ _) (Be _ _ Try.underlying45) (congrArg (Value.int .u64) (u64_eq (b:=((fl:Nat):Int)) (by omega) (by omega) (by omega))))
 ·exact stq (fun E=>Ah rfl (E.v oe0))
 ·exact stq (fun E=>A1 rfl (E.d 9))
 ·exact stq (fun E=>Ai rfl Try.underlying91 rfl (by kernel_rfl) (E.d 10))
 ·exact stq (fun E=>Am rfl Try.underlying45 rfl (E.d 11) (Cs.lit1 (((Hx1.out.mod Cx5.out (fun h=>h)).mod Cx6.out (fun h=>h)).mod E.m.old (by intro h2;omega)) rfl))
 ·exact stq (fun E=>Av rfl (E.d 12) rfl (Ak _ _ _ _ _ _) (Be _ _ Try.underlying45) (congrArg (Value.int .u64) (u64_eq (b:=((ls:Nat):Int)) (by omega) (by omega) (by omega))))
 ·exact stq (fun E=>ex_max3 (r:=((t:Nat):Int)) rfl (E.d 3) (E.d 8) (E.d 13) (by rw [htn];omega))
 ·exact stq (fun E=>An rfl (E.d 14))
 intro u8_0 hr
 have zu8_0:=hr.size
 have Cx8:=hid (hr.new (S:=(fun _=>False)))
 clear hr
 refine QChain.nil fun vs hl hzz hrows hne=>?_
 obtain ⟨Z,hYZ,hZb,hV⟩:=hzz
 have f0:=fvi hV hl 0
 have f4:=fvi hV hl 4
 have f9:=fvi hV hl 9
 have f14:=fvi hV hl 14
 have f15:=fvi hV hl 15
 rw [show vs=[gw vs 0,gw vs 1,gw vs 2,gw vs 3,gw vs 4,gw vs 5,gw vs 6,gw vs 7,gw vs 8,gw vs 9,gw vs 10,gw vs 11,gw vs 12,gw vs 13,gw vs 14,gw vs 15] from (Bh hl).trans rfl]
 have ha0:=HA0.out
 subst ha0
 clear HA0 hV hYZ hZb hsz0 hrows hne oe0
 simp only [Ar,Act.put,sIB,sCZ,sCS,f0,f4,f9,f14,f15]
 clear hl f0 f4 f9 f14 f15
 go_upto_region 9 with (fail)
 refine Al 90 [54,55] [0,1] (fun a0 HA0=>?_)
 have oe10:=ev HA0 10 rfl
 refine QSeq.pure rfl _ (fun E=>Ah rfl (E.v oe10)) ?_
 refine QSeq.pure rfl (.bool true) (fun E=>Av rfl (E.d 0 0) rfl (Ak _ _ _ _ _ _) (B3 _ _ _ Try.underlying45) (congrArg Value.bool (decide_eq_true (by omega)))) ?_
 refine QSeq.nil (t':=[_,_]) rfl ?_
 obtain rfl:=HA0.out
 clear HA0 oe10
 simp only [pz,Act.put,sIB,sCZ,sCS]
 go_upto_region 10 with (fail)
 refine Al 90 [56,91,7] [0,1,2] (fun a0 HA0=>?_)
 have oe6:=ev HA0 6 rfl
 refine QSeq.pure rfl (.agg (zSt.cells:List Value).toArray) (fun E=>ex_build0 rfl (r:=(zSt.cells:List Value).toArray) (by kernel_rfl)) ?_
 refine QSeq.go fun act E=>?_
 refine Bc rfl (Ab rfl) rfl (((HB6.out.mod Cx5.out (fun h=>h)).mod Cx6.out (fun h=>h)).mod Cx8.out (fun h=>h)) (off:=0) (vs:=zSt.cells) (by rw [St.len Bt];exact Bb) (St.one zSt) (by rw [St.len Bt];decide) (E.v oe6) (ec (E.d 0 0)) ?_
 intro u10_1 qc0 hm
 have qB6:=qc0.eqv (b:=(zSt.cells:List Value).toArray) (A0 _ _ (by rw [St.len Bt];rfl))
 clear qc0
 have Hx9:=hid qB6
 have zu10_1:=hm.size
 have Cx10:=hid (show Mod (fun k=>(k=w.heap.size+1)) u8_0 u10_1 from hm)
 clear hm
 clear act E qB6 HB6
 refine QSeq.pure rfl (.int .i64 4) (fun E=>An rfl rfl) ?_
 refine QSeq.nil (t':=[_,_,_]) rfl ?_
 obtain rfl:=HA0.out
 clear HA0 oe6
 simp only [pz,Act.put,sIB,sCZ,sCS,List.set_nil]
 go_wp2
 refine bodyPost_ret (Bm rfl _ _ (w.heap.size+1) (zSt.cells) rfl (fun k u hu=>by rw [Hx9.out.cell];simpa using hu) Try.underlying47 rfl (by rw [St.len Bt];exact Bb)) rfl ?_
 exact ⟨rfl,⟨b,((((Hx1.out.mod Cx5.out (fun h=>h)).mod Cx6.out (fun h=>h)).mod Cx8.out (fun h=>h)).mod Cx10.out (by intro h2;omega)),HPR.out,HRB.out,((((Hx2.out.mod Cx5.out (fun h=>h)).mod Cx6.out (fun h=>h)).mod Cx8.out (fun h=>h)).mod Cx10.out (by intro h2;omega)),hne,hnw,hfl,hla,HOKS.out⟩,((((Hx3.out.mod Cx5.out (fun _ _ h=>h)).mod Cx6.out (fun _ _ h=>h)).mod Cx8.out (fun _ _ h=>h)).mod Cx10.out (sB HBB)),((((HM0.out.trans Cx5.out (fun _ _ h=>h.elim)).trans Cx6.out (fun _ _ h=>h.elim)).trans Cx8.out (fun _ _ h=>h.elim)).trans Cx10.out (by intro k h1 h2;omega))⟩
set_option maxHeartbeats 4000000 in
theorem Stamp_old {R Rb:Nat→Prop} {w:World} {p g:Nat} {f k rep:Int} {s:SS} {c:Cm} {L:List (Int × List Int)} (h:SpR R w p f k rep s) (hbk:BkR Rb w g L) (hB:∀ k,R k→k < w.heap.size) (hBb:∀ k,Rb k→k < w.heap.size) (hd:∀ k,R k→Rb k→False) (hco:c.OK) (hsi:I64 (1000+c.cl)) (hrt:Bo L k c=true) {y:St} (hml:Bs s.m (c.cl,c.sq)=some y) (hhe:y.h=c.h) :
 Calls Try.prog 14 #[.pointer (some ⟨p,0,none⟩),.pointer (some ⟨g,0,none⟩),.agg c.cells.toArray] w fun e w'=>e=.returned (.tuple #[.agg y.cells.toArray,.int .i64 0])∧SpR R w' p f k rep s∧BkR Rb w' g L∧Mod (fun _=>False) w w':=by
 obtain ⟨b,hc,hp,hb,hmp,hne,hnw,hfl,hla,hok⟩:=h
 have hpl:=hc.lt
 have hbl:=hmp.lt
 have hU:U64=18446744073709551616:=rfl
 have HC:=hid (show Cs w p #[.int .i64 f,.int .i64 k,.int .i64 rep,.int .u64 (s.now:Nat),.int .u64 (s.floor:Nat),.int .u64 (s.last:Nat),.map (some b)] 91 from hc)
 have HMP:=Lib.hid hmp
 have HBR:=Lib.hid hB
 have HPR:=Lib.hid hp
 have HRB:=Lib.hid hb
 have HOKS:=Lib.hid hok
 clear hc hmp hp hb hok hB
 have HBK:=Lib.hid hbk
 have HBB:=Lib.hid hBb
 have HDJ:=Lib.hid hd
 have HCO:=Lib.hid hco
 have HSI:=Lib.hid hsi
 have HRT:=Lib.hid hrt
 have HNPR:=hid (fun (h:Rb p)=>HDJ.out p HPR.out h)
 have HNBR:=hid (fun (h:Rb b)=>HDJ.out b HRB.out h)
 clear hbk hBb hd hco hsi hrt
 have HML:=Lib.hid hml
 clear hml
 have HNK:=hid (show NmK (c.cl,c.sq) from ⟨HCO.out.1.1,HCO.out.1.2.1⟩)
 have HYO:=hid (mlook_ok HOKS.out HML.out)
 change Calls _ _ #[.pointer (some ⟨p,0,none⟩),.pointer (some ⟨g,0,none⟩),.agg (c.cells:List Value).toArray] _ _
 go_enter Try.func14,Try.ntmps14
 go_upto_region 1 with (fail)
 obtain ⟨w1,hw1⟩:∃ zz,zz=((w.alloc (.cells (c.cells:List Value).toArray 36)).alloc (.cells #[.int .i64 0,.int .i64 0,.int .i64 0,.int .u8 0,.int .u8 0,.int .u8 0,.int .u8 0,.int .u8 0,.int .u8 0,.int .u8 0,.int .u8 0,.int .u8 0,.int .u8 0,.int .u8 0,.int .u8 0,.int .u8 0,.int .u8 0,.int .u8 0,.int .u8 0,.int .u8 0,.int .u8 0,.int .u8 0,.int .u8 0,.int .u8 0,.int .u8 0,.int .u8 0,.int .u8 0,.int .u8 0,.int .u8 0,.int .u8 0,.int .u8 0,.int .u8 0,.int .u8 0,.int .u8 0,.int .u8 0,.int .u64 0,.int .i64 0,.int .i64 0] 47)):=⟨_,rfl⟩
 change Code.wp _ _ _ _ ((w.alloc (.cells (c.cells:List Value).toArray 36)).alloc (.cells #[.int .i64 0,.int .i64 0,.int .i64 0,.int .u8 0,.int .u8 0,.int .u8 0,.int .u8 0,.int .u8 0,.int .u8 0,.int .u8 0,.int .u8 0,.int .u8 0,.int .u8 0,.int .u8 0,.int .u8 0,.int .u8 0,.int .u8 0,.int .u8 0,.int .u8 0,.int .u8 0,.int .u8 0,.int .u8 0,.int .u8 0,.int .u8 0,.int .u8 0,.int .u8 0,.int .u8 0,.int .u8 0,.int .u8 0,.int .u8 0,.int .u8 0,.int .u8 0,.int .u8 0,.int .u8 0,.int .u8 0,.int .u64 0,.int .i64 0,.int .i64 0] 47))
 rw [← hw1]
 have HB5:=hid (show Cs w1 (w.heap.size) (c.cells:List Value).toArray 36 by rw [hw1];exact (Cs.new _ _ _).alloc _)
 have HB6:=hid (show Cs w1 (w.heap.size+1) #[.int .i64 0,.int .i64 0,.int .i64 0,.int .u8 0,.int .u8 0,.int .u8 0,.int .u8 0,.int .u8 0,.int .u8 0,.int .u8 0,.int .u8 0,.int .u8 0,.int .u8 0,.int .u8 0,.int .u8 0,.int .u8 0,.int .u8 0,.int .u8 0,.int .u8 0,.int .u8 0,.int .u8 0,.int .u8 0,.int .u8 0,.int .u8 0,.int .u8 0,.int .u8 0,.int .u8 0,.int .u8 0,.int .u8 0,.int .u8 0,.int .u8 0,.int .u8 0,.int .u8 0,.int .u8 0,.int .u8 0,.int .u64 0,.int .i64 0,.int .i64 0] 47 by rw [hw1];exact Cs_newN _ _ _ (by simp))
 have hm:Mod (fun _=>False) w w1:=by rw [hw1];exact ((Mod.refl _ _).alloc _).alloc _
 have HM0:=hid (show Mod (fun _=>False) w w1 from hm.mono (fun _ _ h=>h.elim))
 have hs1:w1.heap.size=w.heap.size+2:=by rw [hw1];simp
 have Hx1:=hid (HC.out.mod hm (fun h=>h))
 clear HC
 have Hx2:=hid (HMP.out.mod hm (fun h=>h))
 clear HMP
 have Hx3:=hid (HBK.out.mod hm (fun _ _ h=>h))
 clear HBK
 clear hw1 hm
 go_upto_region 1 with (fail)
 generalize ha0:Act.mk _ _=a0
 have oe0:a0.eval (.tmp 0)=.pointer (some ⟨p,0,none⟩):=by rw [← ha0];rfl
 have oe1:a0.eval (.tmp 1)=.pointer (some ⟨g,0,none⟩):=by rw [← ha0];rfl
 have oe5:a0.eval (.tmp 5)=.pointer (some ⟨w.heap.size,0,none⟩):=by rw [← ha0];rfl
 have hsz0:a0.tmps.size=90:=by rw [← ha0];rfl
 have HA0:=hid ha0
 clear ha0
 refine Az 90 hsz0 [12,13,14,15,16,17,18,19] [qi (.pointer (some ⟨p,0,none⟩)),qi (.pointer (some ⟨p,0,none⟩)),qi (.pointer (some ⟨p,0,none⟩)),qi (.agg #[.int .i64 f,.int .i64 k]),qi (.pointer (some ⟨g,0,none⟩)),qi (c.val),qi (.bool true),qi (.bool false)] ⟨Aa,Aa,Aa,Aa,Aa,Aa,Aa,Aa,trivial⟩ [6] ⟨?_,?_,?_,?_,?_,?_,?_,?_,trivial⟩ ?_
 ·exact stq (fun E=>Ah rfl (E.v oe0))
 ·exact stq (fun E=>A1 rfl (E.d 0))
 ·exact stq (fun E=>Ai rfl Try.underlying91 rfl (by kernel_rfl) (E.d 1))
 ·exact stq (fun E=>Ap rfl Try.underlying26 rfl (off:=0) (cs:=[.int .i64 f,.int .i64 k]) (by kernel_rfl) (E.d 2) (Cs.litA (Hx1.out.mod E.m.old (by intro h2;omega)) rfl))
 ·exact stq (fun E=>Ah rfl (E.v oe1))
 ·exact stq (fun E=>Ap rfl Try.underlying36 rfl (off:=0) (cs:=c.cells) (by rw [Cm.len HCO.out.2.1];exact Bd) (E.v oe5) (Cs.whole (HB5.out.mod E.m.old (by intro h2;omega))))
 ·exact Au rfl
 ·exact stq (fun E=>ex_not rfl (E.d 6))
 intro u1_0 hr
 have zu1_0:=hr.size
 have Cx4:=hid (hr.new (S:=(fun _=>False)))
 clear hr
 refine QChain.go fun Z act E=>?_
 refine Ax (args:=#[.agg #[.int .i64 f,.int .i64 k],.pointer (some ⟨g,0,none⟩),c.val]) rfl (Ab rfl) rfl Try.func32 (args3 (E.d 3) (E.d 4) (E.d 5)) (Right_Q (Hx3.out.mod Cx4.out (fun _ _ h=>h)) f k c HCO.out HSI.out HRT.out) ?_
 rintro e u1_1a ⟨rfl,hm⟩
 have zu1_1a:=hm.size
 refine ⟨_,rfl,hm.mono (fun _ _ h=>h.elim),(fun _=>rfl),?_⟩
 intro u1_1 hr
 have zu1_1:=hr.size
 have Cx5:=hid (Cx4.out.go hm hr)
 clear Cx4 hm hr Z act E
 refine QChain.nil fun vs hl hzz hrows hne=>?_
 obtain ⟨Z,hYZ,hZb,hV⟩:=hzz
 have f0:=fvi hV hl 0
 have f4:=fvi hV hl 4
 have f6:=fvi hV hl 6
 have f7:=fvi hV hl 7
 rw [show vs=[gw vs 0,gw vs 1,gw vs 2,gw vs 3,gw vs 4,gw vs 5,gw vs 6,gw vs 7] from (Bh hl).trans rfl]
 have ha0:=HA0.out
 subst ha0
 clear HA0 hV hYZ hZb hsz0 hrows hne oe0 oe1 oe5
 simp only [Ar,Act.put,sIB,sCZ,sCS,f0,f4,f6,f7]
 clear hl f0 f4 f6 f7
 go_upto_region 3 with (fail)
 generalize ha0:Act.mk _ _=a0
 have oe0:a0.eval (.tmp 0)=.pointer (some ⟨p,0,none⟩):=by rw [← ha0];rfl
 have oe5:a0.eval (.tmp 5)=.pointer (some ⟨w.heap.size,0,none⟩):=by rw [← ha0];rfl
 have hsz0:a0.tmps.size=90:=by rw [← ha0];rfl
 have HA0:=hid ha0
 clear ha0
 refine wp_region_Q 90 hsz0 (by kernel_rfl) (by kernel_rfl) [22,23,24,25,26,27,28,21,29,30,8,101,9] (by kernel_rfl) (by decide) (fun _=>False) (fun _ _=>False) (fun _ _ h=>h) [qi (.pointer (some ⟨p,0,none⟩)),qi (.pointer (some ⟨p,0,none⟩)),qi (.pointer (some ⟨p,6,none⟩)),qi (.map (some b)),qi (.pointer (some ⟨w.heap.size,0,none⟩)),qi (.agg #[.int .i64 c.cl,.int .i64 c.sq]),qi (.tuple #[y.val,.bool true]),qi (.tuple #[y.val,.bool true]),qi (y.val),qi (.bool true),qa,qa,qi (.bool true)] ⟨Aa,Aa,Aa,Aa,Aa,Aa,Aa,Aa,Aa,Aa,B5,B5,Aa,trivial⟩ [] (by kernel_rfl) (by decide) (by kernel_rfl) [⟨10,11,47,[.int .i64 0,.int .i64 0,.int .i64 0,.int .u8 0,.int .u8 0,.int .u8 0,.int .u8 0,.int .u8 0,.int .u8 0,.int .u8 0,.int .u8 0,.int .u8 0,.int .u8 0,.int .u8 0,.int .u8 0,.int .u8 0,.int .u8 0,.int .u8 0,.int .u8 0,.int .u8 0,.int .u8 0,.int .u8 0,.int .u8 0,.int .u8 0,.int .u8 0,.int .u8 0,.int .u8 0,.int .u8 0,.int .u8 0,.int .u8 0,.int .u8 0,.int .u8 0,.int .u8 0,.int .u8 0,.int .u8 0,.int .u64 0,.int .i64 0,.int .i64 0],0,(fun t=>y.cells)⟩] (by kernel_rfl) (by intro r hr;simp only [List.mem_cons,List.not_mem_nil,or_false] at hr;rcases hr with rfl<;>exact ⟨by kernel_rfl,by kernel_rfl⟩) (by intro r hr;simp only [List.mem_cons,List.not_mem_nil,or_false] at hr;rcases hr with rfl<;>exact ⟨of_decide_eq_true (by kernel_rfl),of_decide_eq_true (by kernel_rfl)⟩) (by intro r hr;simp only [List.mem_cons,List.not_mem_nil,or_false] at hr;rcases hr with rfl<;>exact fun _ _ _ _=>⟨trivial,trivial⟩) ⟨?_,?_,?_,?_,?_,?_,?_,?_,?_,?_,?_,?_,?_,trivial⟩ ?_
 ·exact stq (fun E=>Ah rfl (E.v oe0))
 ·exact stq (fun E=>A1 rfl (E.d 0))
 ·exact stq (fun E=>Ai rfl Try.underlying91 rfl (by kernel_rfl) (E.d 1))
 ·exact stq (fun E=>Am rfl Try.underlying57 rfl (E.d 2) (Cs.lit1 ((Hx1.out.mod Cx5.out (fun h=>h)).mod E.m.old (by intro h2;omega)) rfl))
 ·exact stq (fun E=>Ai rfl Try.underlying36 rfl (by kernel_rfl) (E.v oe5))
 ·exact stq (fun E=>Ap rfl Try.underlying30 rfl (off:=0) (cs:=[.int .i64 c.cl,.int .i64 c.sq]) (by kernel_rfl) (E.d 4) (Cs.preA (pre:=[.int .i64 c.cl,.int .i64 c.sq]) (mid:=c.h.map bv) (post:=[.int .i64 c.ln,.int .i64 c.sb,.int .i64 c.mr]) ((HB5.out.mod Cx5.out (fun h=>h)).mod E.m.old (by intro h2;omega)) rfl))
 ·exact stq (fun E=>ex_lookS (k:=(c.cl,c.sq)) rfl (E.d 3) (E.d 5) HNK.out ((Hx2.out.mod Cx5.out (fun h=>h)).mod E.m.old (by intro h2;omega)) (lookV_some HML.out))
 ·exact stq (fun E=>Ah rfl (E.d 6))
 ·exact stq (fun E=>A9 rfl (E.d 7) rfl)
 ·exact stq (fun E=>A9 rfl (E.d 7) rfl)
 ·exact stepq_make rfl rfl ⟨rfl,rfl,by kernel_rfl,by kernel_rfl⟩
 ·refine stepq_write rfl rfl rfl ⟨rfl,8,(.tmp 29),rfl,by decide,rfl,by kernel_rfl,fun Z tr act w' hm hout hsz hd hpre=>?_⟩
  have h8:=hd ⟨8,.data⟩ (by simp) rfl _ rfl
  exact ⟨Nat.zero_le _,(by rw [show act.eval ((.tmp 29))=_ from h8];rfl),(by rw [St.len HYO.out];rfl),(St.one y)⟩
 ·exact stq (fun E=>An rfl (E.d 9))
 intro u3_0 hr
 have zu3_0:=hr.size
 have Cx6:=hid (hr.new (S:=(fun _=>False)))
 clear hr
 refine QChain.nil fun vs hl hzz hrows hne=>?_
 obtain ⟨Z,hYZ,hZb,hV⟩:=hzz
 obtain ⟨b8,g10,hBb8,hYb8,hCb8⟩:=hrows _ (by simp only [List.mem_cons,List.not_mem_nil,or_false];trivial)
 have f10:gw vs 10=_:=getv g10
 (try dsimp only at hBb8 hYb8);(try simp only [false_or] at hBb8 hYb8)
 have zqb8:=hCb8.lt
 have Hx7:=hid (show Cs u3_0 b8 (y.cells:List Value).toArray 47 from hCb8)
 have f0:=fvi hV hl 0
 have f7:=fvi hV hl 7
 have f12:=fvi hV hl 12
 rw [show vs=[gw vs 0,gw vs 1,gw vs 2,gw vs 3,gw vs 4,gw vs 5,gw vs 6,gw vs 7,gw vs 8,gw vs 9,gw vs 10,gw vs 11,gw vs 12] from (Bh hl).trans rfl]
 have ha0:=HA0.out
 subst ha0
 clear HA0 hV hYZ hZb hsz0 hrows hne oe0 oe5 hCb8 g10
 simp only [Ar,Act.put,sIB,sCZ,sCS,List.set_nil,f10,f0,f7,f12]
 clear hl f10 f0 f7 f12
 go_upto_region 4 with (fail)
 refine Al 90 [31] [0] (fun a0 HA0=>?_)
 have oe9:=ev HA0 9 rfl
 refine QSeq.pure rfl _ (fun E=>Ah rfl (E.v oe9)) ?_
 refine QSeq.nil (t':=[_]) rfl ?_
 obtain rfl:=HA0.out
 clear HA0 oe9
 simp only [pz,Act.put,sIB,sCZ,sCS]
 have HHE:=Lib.hid hhe
 clear hhe
 go_upto_region 5 with (fail)
 refine Al 90 [32,33,34,35,36] [0,1,2,3,4] (fun a0 HA0=>?_)
 have oe5:=ev HA0 5 rfl
 have oe8:=ev HA0 8 rfl
 refine QSeq.pure rfl (.pointer (some ⟨b8,3,none⟩)) (fun E=>Ai rfl Try.underlying47 rfl (by kernel_rfl) (E.v oe8)) ?_
 refine QSeq.pure rfl _ (fun E=>Ap rfl Try.underlying32 rfl (off:=3) (cs:=y.h.map bv) (by rw [List.length_map,HYO.out.h.1];exact Bj) (E.d 0 0) (Cs.midA Hx7.out rfl)) ?_
 refine QSeq.pure rfl (.pointer (some ⟨w.heap.size,2,none⟩)) (fun E=>Ai rfl Try.underlying36 rfl (by kernel_rfl) (E.v oe5)) ?_
 refine QSeq.pure rfl _ (fun E=>Ap rfl Try.underlying32 rfl (off:=2) (cs:=c.h.map bv) (by rw [List.length_map,HCO.out.2.1];exact Bj) (E.d 2 0) (((HB5.out.mod Cx5.out (fun h=>h)).mod Cx6.out (fun h=>h)).hash)) ?_
 refine QSeq.pure rfl (.bool false) (fun E=>Av rfl (E.d 1 2) (E.d 3 0) (agg_guardE _ _ _ _ _ _ (by kernel_rfl) _) (run_neq_hv HYO.out.h.1 HCO.out.2.1 (c:=true) (by simp only [true_iff];exact HHE.out) _) rfl) ?_
 refine QSeq.nil (t':=[_,_,_,_,_]) rfl ?_
 obtain rfl:=HA0.out
 clear HA0 oe5 oe8
 simp only [pz,Act.put,sIB,sCZ,sCS]
 go_upto_region 7 with (fail)
 refine Al 90 [38,91,7] [0,1,2] (fun a0 HA0=>?_)
 have oe6:=ev HA0 6 rfl
 have oe8:=ev HA0 8 rfl
 refine QSeq.pure rfl _ (fun E=>Ap rfl Try.underlying47 rfl (off:=0) (cs:=y.cells) (by rw [St.len HYO.out];exact Bb) (E.v oe8) (Cs.whole Hx7.out)) ?_
 refine QSeq.go fun act E=>?_
 refine Bc rfl (Ab rfl) rfl ((HB6.out.mod Cx5.out (fun h=>h)).mod Cx6.out (fun h=>h)) (off:=0) (vs:=y.cells) (by rw [St.len HYO.out];exact Bb) (St.one y) (by rw [St.len HYO.out];decide) (E.v oe6) (ec (E.d 0 0)) ?_
 intro u7_1 qc0 hm
 have qB6:=qc0.eqv (b:=(y.cells:List Value).toArray) (A0 _ _ (by rw [St.len HYO.out];rfl))
 clear qc0
 have Hx8:=hid qB6
 have zu7_1:=hm.size
 have Cx9:=hid (show Mod (fun k=>(k=w.heap.size+1)) u3_0 u7_1 from hm)
 clear hm
 clear act E qB6 HB6
 refine QSeq.pure rfl (.int .i64 0) (fun E=>An rfl rfl) ?_
 refine QSeq.nil (t':=[_,_,_]) rfl ?_
 obtain rfl:=HA0.out
 clear HA0 oe6 oe8
 simp only [pz,Act.put,sIB,sCZ,sCS,List.set_nil]
 go_wp2
 refine bodyPost_ret (Bm rfl _ _ (w.heap.size+1) (y.cells) rfl (fun k u hu=>by rw [Hx8.out.cell];simpa using hu) Try.underlying47 rfl (by rw [St.len HYO.out];exact Bb)) rfl ?_
 exact ⟨rfl,⟨b,(((Hx1.out.mod Cx5.out (fun h=>h)).mod Cx6.out (fun h=>h)).mod Cx9.out (by intro h2;omega)),HPR.out,HRB.out,(((Hx2.out.mod Cx5.out (fun h=>h)).mod Cx6.out (fun h=>h)).mod Cx9.out (by intro h2;omega)),hne,hnw,hfl,hla,HOKS.out⟩,(((Hx3.out.mod Cx5.out (fun _ _ h=>h)).mod Cx6.out (fun _ _ h=>h)).mod Cx9.out (sB HBB)),(((HM0.out.trans Cx5.out (fun _ _ h=>h.elim)).trans Cx6.out (fun _ _ h=>h.elim)).trans Cx9.out (by intro k h1 h2;omega))⟩
set_option maxHeartbeats 4000000 in
theorem Stamp_other {R Rb:Nat→Prop} {w:World} {p g:Nat} {f k rep:Int} {s:SS} {c:Cm} {L:List (Int × List Int)} (h:SpR R w p f k rep s) (hbk:BkR Rb w g L) (hB:∀ k,R k→k < w.heap.size) (hBb:∀ k,Rb k→k < w.heap.size) (hd:∀ k,R k→Rb k→False) (hco:c.OK) (hsi:I64 (1000+c.cl)) (hrt:Bo L k c=true) {y:St} (hml:Bs s.m (c.cl,c.sq)=some y) (hhe:y.h≠c.h) :
 Calls Try.prog 14 #[.pointer (some ⟨p,0,none⟩),.pointer (some ⟨g,0,none⟩),.agg c.cells.toArray] w fun e w'=>e=.returned (.tuple #[.agg zSt.cells.toArray,.int .i64 5])∧SpR R w' p f k rep s∧BkR Rb w' g L∧Mod (fun _=>False) w w':=by
 obtain ⟨b,hc,hp,hb,hmp,hne,hnw,hfl,hla,hok⟩:=h
 have hpl:=hc.lt
 have hbl:=hmp.lt
 have hU:U64=18446744073709551616:=rfl
 have HC:=hid (show Cs w p #[.int .i64 f,.int .i64 k,.int .i64 rep,.int .u64 (s.now:Nat),.int .u64 (s.floor:Nat),.int .u64 (s.last:Nat),.map (some b)] 91 from hc)
 have HMP:=Lib.hid hmp
 have HBR:=Lib.hid hB
 have HPR:=Lib.hid hp
 have HRB:=Lib.hid hb
 have HOKS:=Lib.hid hok
 clear hc hmp hp hb hok hB
 have HBK:=Lib.hid hbk
 have HBB:=Lib.hid hBb
 have HDJ:=Lib.hid hd
 have HCO:=Lib.hid hco
 have HSI:=Lib.hid hsi
 have HRT:=Lib.hid hrt
 have HNPR:=hid (fun (h:Rb p)=>HDJ.out p HPR.out h)
 have HNBR:=hid (fun (h:Rb b)=>HDJ.out b HRB.out h)
 clear hbk hBb hd hco hsi hrt
 have HML:=Lib.hid hml
 clear hml
 have HNK:=hid (show NmK (c.cl,c.sq) from ⟨HCO.out.1.1,HCO.out.1.2.1⟩)
 have HYO:=hid (mlook_ok HOKS.out HML.out)
 change Calls _ _ #[.pointer (some ⟨p,0,none⟩),.pointer (some ⟨g,0,none⟩),.agg (c.cells:List Value).toArray] _ _
 go_enter Try.func14,Try.ntmps14
 go_upto_region 1 with (fail)
 obtain ⟨w1,hw1⟩:∃ zz,zz=((w.alloc (.cells (c.cells:List Value).toArray 36)).alloc (.cells #[.int .i64 0,.int .i64 0,.int .i64 0,.int .u8 0,.int .u8 0,.int .u8 0,.int .u8 0,.int .u8 0,.int .u8 0,.int .u8 0,.int .u8 0,.int .u8 0,.int .u8 0,.int .u8 0,.int .u8 0,.int .u8 0,.int .u8 0,.int .u8 0,.int .u8 0,.int .u8 0,.int .u8 0,.int .u8 0,.int .u8 0,.int .u8 0,.int .u8 0,.int .u8 0,.int .u8 0,.int .u8 0,.int .u8 0,.int .u8 0,.int .u8 0,.int .u8 0,.int .u8 0,.int .u8 0,.int .u8 0,.int .u64 0,.int .i64 0,.int .i64 0] 47)):=⟨_,rfl⟩
 change Code.wp _ _ _ _ ((w.alloc (.cells (c.cells:List Value).toArray 36)).alloc (.cells #[.int .i64 0,.int .i64 0,.int .i64 0,.int .u8 0,.int .u8 0,.int .u8 0,.int .u8 0,.int .u8 0,.int .u8 0,.int .u8 0,.int .u8 0,.int .u8 0,.int .u8 0,.int .u8 0,.int .u8 0,.int .u8 0,.int .u8 0,.int .u8 0,.int .u8 0,.int .u8 0,.int .u8 0,.int .u8 0,.int .u8 0,.int .u8 0,.int .u8 0,.int .u8 0,.int .u8 0,.int .u8 0,.int .u8 0,.int .u8 0,.int .u8 0,.int .u8 0,.int .u8 0,.int .u8 0,.int .u8 0,.int .u64 0,.int .i64 0,.int .i64 0] 47))
 rw [← hw1]
 have HB5:=hid (show Cs w1 (w.heap.size) (c.cells:List Value).toArray 36 by rw [hw1];exact (Cs.new _ _ _).alloc _)
 have HB6:=hid (show Cs w1 (w.heap.size+1) #[.int .i64 0,.int .i64 0,.int .i64 0,.int .u8 0,.int .u8 0,.int .u8 0,.int .u8 0,.int .u8 0,.int .u8 0,.int .u8 0,.int .u8 0,.int .u8 0,.int .u8 0,.int .u8 0,.int .u8 0,.int .u8 0,.int .u8 0,.int .u8 0,.int .u8 0,.int .u8 0,.int .u8 0,.int .u8 0,.int .u8 0,.int .u8 0,.int .u8 0,.int .u8 0,.int .u8 0,.int .u8 0,.int .u8 0,.int .u8 0,.int .u8 0,.int .u8 0,.int .u8 0,.int .u8 0,.int .u8 0,.int .u64 0,.int .i64 0,.int .i64 0] 47 by rw [hw1];exact Cs_newN _ _ _ (by simp))
 have hm:Mod (fun _=>False) w w1:=by rw [hw1];exact ((Mod.refl _ _).alloc _).alloc _
 have HM0:=hid (show Mod (fun _=>False) w w1 from hm.mono (fun _ _ h=>h.elim))
 have hs1:w1.heap.size=w.heap.size+2:=by rw [hw1];simp
 have Hx1:=hid (HC.out.mod hm (fun h=>h))
 clear HC
 have Hx2:=hid (HMP.out.mod hm (fun h=>h))
 clear HMP
 have Hx3:=hid (HBK.out.mod hm (fun _ _ h=>h))
 clear HBK
 clear hw1 hm
 go_upto_region 1 with (fail)
 generalize ha0:Act.mk _ _=a0
 have oe0:a0.eval (.tmp 0)=.pointer (some ⟨p,0,none⟩):=by rw [← ha0];rfl
 have oe1:a0.eval (.tmp 1)=.pointer (some ⟨g,0,none⟩):=by rw [← ha0];rfl
 have oe5:a0.eval (.tmp 5)=.pointer (some ⟨w.heap.size,0,none⟩):=by rw [← ha0];rfl
 have hsz0:a0.tmps.size=90:=by rw [← ha0];rfl
 have HA0:=hid ha0
 clear ha0
 refine Az 90 hsz0 [12,13,14,15,16,17,18,19] [qi (.pointer (some ⟨p,0,none⟩)),qi (.pointer (some ⟨p,0,none⟩)),qi (.pointer (some ⟨p,0,none⟩)),qi (.agg #[.int .i64 f,.int .i64 k]),qi (.pointer (some ⟨g,0,none⟩)),qi (c.val),qi (.bool true),qi (.bool false)] ⟨Aa,Aa,Aa,Aa,Aa,Aa,Aa,Aa,trivial⟩ [6] ⟨?_,?_,?_,?_,?_,?_,?_,?_,trivial⟩ ?_
 ·exact stq (fun E=>Ah rfl (E.v oe0))
 ·exact stq (fun E=>A1 rfl (E.d 0))
 ·exact stq (fun E=>Ai rfl Try.underlying91 rfl (by kernel_rfl) (E.d 1))
 ·exact stq (fun E=>Ap rfl Try.underlying26 rfl (off:=0) (cs:=[.int .i64 f,.int .i64 k]) (by kernel_rfl) (E.d 2) (Cs.litA (Hx1.out.mod E.m.old (by intro h2;omega)) rfl))
 ·exact stq (fun E=>Ah rfl (E.v oe1))
 ·exact stq (fun E=>Ap rfl Try.underlying36 rfl (off:=0) (cs:=c.cells) (by rw [Cm.len HCO.out.2.1];exact Bd) (E.v oe5) (Cs.whole (HB5.out.mod E.m.old (by intro h2;omega))))
 ·exact Au rfl
 ·exact stq (fun E=>ex_not rfl (E.d 6))
 intro u1_0 hr
 have zu1_0:=hr.size
 have Cx4:=hid (hr.new (S:=(fun _=>False)))
 clear hr
 refine QChain.go fun Z act E=>?_
 refine Ax (args:=#[.agg #[.int .i64 f,.int .i64 k],.pointer (some ⟨g,0,none⟩),c.val]) rfl (Ab rfl) rfl Try.func32 (args3 (E.d 3) (E.d 4) (E.d 5)) (Right_Q (Hx3.out.mod Cx4.out (fun _ _ h=>h)) f k c HCO.out HSI.out HRT.out) ?_
 rintro e u1_1a ⟨rfl,hm⟩
 have zu1_1a:=hm.size
 refine ⟨_,rfl,hm.mono (fun _ _ h=>h.elim),(fun _=>rfl),?_⟩
 intro u1_1 hr
 have zu1_1:=hr.size
 have Cx5:=hid (Cx4.out.go hm hr)
 clear Cx4 hm hr Z act E
 refine QChain.nil fun vs hl hzz hrows hne=>?_
 obtain ⟨Z,hYZ,hZb,hV⟩:=hzz
 have f0:=fvi hV hl 0
 have f4:=fvi hV hl 4
 have f6:=fvi hV hl 6
 have f7:=fvi hV hl 7
 rw [show vs=[gw vs 0,gw vs 1,gw vs 2,gw vs 3,gw vs 4,gw vs 5,gw vs 6,gw vs 7] from (Bh hl).trans rfl]
 have ha0:=HA0.out
 subst ha0
 clear HA0 hV hYZ hZb hsz0 hrows hne oe0 oe1 oe5
 simp only [Ar,Act.put,sIB,sCZ,sCS,f0,f4,f6,f7]
 clear hl f0 f4 f6 f7
 go_upto_region 3 with (fail)
 generalize ha0:Act.mk _ _=a0
 have oe0:a0.eval (.tmp 0)=.pointer (some ⟨p,0,none⟩):=by rw [← ha0];rfl
 have oe5:a0.eval (.tmp 5)=.pointer (some ⟨w.heap.size,0,none⟩):=by rw [← ha0];rfl
 have hsz0:a0.tmps.size=90:=by rw [← ha0];rfl
 have HA0:=hid ha0
 clear ha0
 refine wp_region_Q 90 hsz0 (by kernel_rfl) (by kernel_rfl) [22,23,24,25,26,27,28,21,29,30,8,101,9] (by kernel_rfl) (by decide) (fun _=>False) (fun _ _=>False) (fun _ _ h=>h) [qi (.pointer (some ⟨p,0,none⟩)),qi (.pointer (some ⟨p,0,none⟩)),qi (.pointer (some ⟨p,6,none⟩)),qi (.map (some b)),qi (.pointer (some ⟨w.heap.size,0,none⟩)),qi (.agg #[.int .i64 c.cl,.int .i64 c.sq]),qi (.tuple #[y.val,.bool true]),qi (.tuple #[y.val,.bool true]),qi (y.val),qi (.bool true),qa,qa,qi (.bool true)] ⟨Aa,Aa,Aa,Aa,Aa,Aa,Aa,Aa,Aa,Aa,B5,B5,Aa,trivial⟩ [] (by kernel_rfl) (by decide) (by kernel_rfl) [⟨10,11,47,[.int .i64 0,.int .i64 0,.int .i64 0,.int .u8 0,.int .u8 0,.int .u8 0,.int .u8 0,.int .u8 0,.int .u8 0,.int .u8 0,.int .u8 0,.int .u8 0,.int .u8 0,.int .u8 0,.int .u8 0,.int .u8 0,.int .u8 0,.int .u8 0,.int .u8 0,.int .u8 0,.int .u8 0,.int .u8 0,.int .u8 0,.int .u8 0,.int .u8 0,.int .u8 0,.int .u8 0,.int .u8 0,.int .u8 0,.int .u8 0,.int .u8 0,.int .u8 0,.int .u8 0,.int .u8 0,.int .u8 0,.int .u64 0,.int .i64 0,.int .i64 0],0,(fun t=>y.cells)⟩] (by kernel_rfl) (by intro r hr;simp only [List.mem_cons,List.not_mem_nil,or_false] at hr;rcases hr with rfl<;>exact ⟨by kernel_rfl,by kernel_rfl⟩) (by intro r hr;simp only [List.mem_cons,List.not_mem_nil,or_false] at hr;rcases hr with rfl<;>exact ⟨of_decide_eq_true (by kernel_rfl),of_decide_eq_true (by kernel_rfl)⟩) (by intro r hr;simp only [List.mem_cons,List.not_mem_nil,or_false] at hr;rcases hr with rfl<;>exact fun _ _ _ _=>⟨trivial,trivial⟩) ⟨?_,?_,?_,?_,?_,?_,?_,?_,?_,?_,?_,?_,?_,trivial⟩ ?_
 ·exact stq (fun E=>Ah rfl (E.v oe0))
 ·exact stq (fun E=>A1 rfl (E.d 0))
 ·exact stq (fun E=>Ai rfl Try.underlying91 rfl (by kernel_rfl) (E.d 1))
 ·exact stq (fun E=>Am rfl Try.underlying57 rfl (E.d 2) (Cs.lit1 ((Hx1.out.mod Cx5.out (fun h=>h)).mod E.m.old (by intro h2;omega)) rfl))
 ·exact stq (fun E=>Ai rfl Try.underlying36 rfl (by kernel_rfl) (E.v oe5))
 ·exact stq (fun E=>Ap rfl Try.underlying30 rfl (off:=0) (cs:=[.int .i64 c.cl,.int .i64 c.sq]) (by kernel_rfl) (E.d 4) (Cs.preA (pre:=[.int .i64 c.cl,.int .i64 c.sq]) (mid:=c.h.map bv) (post:=[.int .i64 c.ln,.int .i64 c.sb,.int .i64 c.mr]) ((HB5.out.mod Cx5.out (fun h=>h)).mod E.m.old (by intro h2;omega)) rfl))
 ·exact stq (fun E=>ex_lookS (k:=(c.cl,c.sq)) rfl (E.d 3) (E.d 5) HNK.out ((Hx2.out.mod Cx5.out (fun h=>h)).mod E.m.old (by intro h2;omega)) (lookV_some HML.out))
 ·exact stq (fun E=>Ah rfl (E.d 6))
 ·exact stq (fun E=>A9 rfl (E.d 7) rfl)
 ·exact stq (fun E=>A9 rfl (E.d 7) rfl)
 ·exact stepq_make rfl rfl ⟨rfl,rfl,by kernel_rfl,by kernel_rfl⟩
 ·refine stepq_write rfl rfl rfl ⟨rfl,8,(.tmp 29),rfl,by decide,rfl,by kernel_rfl,fun Z tr act w' hm hout hsz hd hpre=>?_⟩
  have h8:=hd ⟨8,.data⟩ (by simp) rfl _ rfl
  exact ⟨Nat.zero_le _,(by rw [show act.eval ((.tmp 29))=_ from h8];rfl),(by rw [St.len HYO.out];rfl),(St.one y)⟩
 ·exact stq (fun E=>An rfl (E.d 9))
 intro u3_0 hr
 have zu3_0:=hr.size
 have Cx6:=hid (hr.new (S:=(fun _=>False)))
 clear hr
 refine QChain.nil fun vs hl hzz hrows hne=>?_
 obtain ⟨Z,hYZ,hZb,hV⟩:=hzz
 obtain ⟨b8,g10,hBb8,hYb8,hCb8⟩:=hrows _ (by simp only [List.mem_cons,List.not_mem_nil,or_false];trivial)
 have f10:gw vs 10=_:=getv g10
 (try dsimp only at hBb8 hYb8);(try simp only [false_or] at hBb8 hYb8)
 have zqb8:=hCb8.lt
 have Hx7:=hid (show Cs u3_0 b8 (y.cells:List Value).toArray 47 from hCb8)
 have f0:=fvi hV hl 0
 have f7:=fvi hV hl 7
 have f12:=fvi hV hl 12
 rw [show vs=[gw vs 0,gw vs 1,gw vs 2,gw vs 3,gw vs 4,gw vs 5,gw vs 6,gw vs 7,gw vs 8,gw vs 9,gw vs 10,gw vs 11,gw vs 12] from (Bh hl).trans rfl]
 have ha0:=HA0.out
 subst ha0
 clear HA0 hV hYZ hZb hsz0 hrows hne oe0 oe5 hCb8 g10
 simp only [Ar,Act.put,sIB,sCZ,sCS,List.set_nil,f10,f0,f7,f12]
 clear hl f10 f0 f7 f12
 go_upto_region 4 with (fail)
 refine Al 90 [31] [0] (fun a0 HA0=>?_)
 have oe9:=ev HA0 9 rfl
 refine QSeq.pure rfl _ (fun E=>Ah rfl (E.v oe9)) ?_
 refine QSeq.nil (t':=[_]) rfl ?_
 obtain rfl:=HA0.out
 clear HA0 oe9
 simp only [pz,Act.put,sIB,sCZ,sCS]
 have HHE:=Lib.hid hhe
 clear hhe
 go_upto_region 5 with (fail)
 refine Al 90 [32,33,34,35,36] [0,1,2,3,4] (fun a0 HA0=>?_)
 have oe5:=ev HA0 5 rfl
 have oe8:=ev HA0 8 rfl
 refine QSeq.pure rfl (.pointer (some ⟨b8,3,none⟩)) (fun E=>Ai rfl Try.underlying47 rfl (by kernel_rfl) (E.v oe8)) ?_
 refine QSeq.pure rfl _ (fun E=>Ap rfl Try.underlying32 rfl (off:=3) (cs:=y.h.map bv) (by rw [List.length_map,HYO.out.h.1];exact Bj) (E.d 0 0) (Cs.midA Hx7.out rfl)) ?_
 refine QSeq.pure rfl (.pointer (some ⟨w.heap.size,2,none⟩)) (fun E=>Ai rfl Try.underlying36 rfl (by kernel_rfl) (E.v oe5)) ?_
 refine QSeq.pure rfl _ (fun E=>Ap rfl Try.underlying32 rfl (off:=2) (cs:=c.h.map bv) (by rw [List.length_map,HCO.out.2.1];exact Bj) (E.d 2 0) (((HB5.out.mod Cx5.out (fun h=>h)).mod Cx6.out (fun h=>h)).hash)) ?_
 refine QSeq.pure rfl (.bool true) (fun E=>Av rfl (E.d 1 2) (E.d 3 0) (agg_guardE _ _ _ _ _ _ (by kernel_rfl) _) (run_neq_hv HYO.out.h.1 HCO.out.2.1 (c:=false) (by simp only [Bool.false_eq_true,false_iff];exact HHE.out) _) rfl) ?_
 refine QSeq.nil (t':=[_,_,_,_,_]) rfl ?_
 obtain rfl:=HA0.out
 clear HA0 oe5 oe8
 simp only [pz,Act.put,sIB,sCZ,sCS]
 go_upto_region 6 with (fail)
 refine Al 90 [37,91,7] [0,1,2] (fun a0 HA0=>?_)
 have oe6:=ev HA0 6 rfl
 refine QSeq.pure rfl (.agg (zSt.cells:List Value).toArray) (fun E=>ex_build0 rfl (r:=(zSt.cells:List Value).toArray) (by kernel_rfl)) ?_
 refine QSeq.go fun act E=>?_
 refine Bc rfl (Ab rfl) rfl ((HB6.out.mod Cx5.out (fun h=>h)).mod Cx6.out (fun h=>h)) (off:=0) (vs:=zSt.cells) (by rw [St.len Bt];exact Bb) (St.one zSt) (by rw [St.len Bt];decide) (E.v oe6) (ec (E.d 0 0)) ?_
 intro u6_1 qc0 hm
 have qB6:=qc0.eqv (b:=(zSt.cells:List Value).toArray) (A0 _ _ (by rw [St.len Bt];rfl))
 clear qc0
 have Hx8:=hid qB6
 have zu6_1:=hm.size
 have Cx9:=hid (show Mod (fun k=>(k=w.heap.size+1)) u3_0 u6_1 from hm)
 clear hm
 clear act E qB6 HB6
 refine QSeq.pure rfl (.int .i64 5) (fun E=>An rfl rfl) ?_
 refine QSeq.nil (t':=[_,_,_]) rfl ?_
 obtain rfl:=HA0.out
 clear HA0 oe6
 simp only [pz,Act.put,sIB,sCZ,sCS,List.set_nil]
 go_wp2
 refine bodyPost_ret (Bm rfl _ _ (w.heap.size+1) (zSt.cells) rfl (fun k u hu=>by rw [Hx8.out.cell];simpa using hu) Try.underlying47 rfl (by rw [St.len Bt];exact Bb)) rfl ?_
 exact ⟨rfl,⟨b,(((Hx1.out.mod Cx5.out (fun h=>h)).mod Cx6.out (fun h=>h)).mod Cx9.out (by intro h2;omega)),HPR.out,HRB.out,(((Hx2.out.mod Cx5.out (fun h=>h)).mod Cx6.out (fun h=>h)).mod Cx9.out (by intro h2;omega)),hne,hnw,hfl,hla,HOKS.out⟩,(((Hx3.out.mod Cx5.out (fun _ _ h=>h)).mod Cx6.out (fun _ _ h=>h)).mod Cx9.out (sB HBB)),(((HM0.out.trans Cx5.out (fun _ _ h=>h.elim)).trans Cx6.out (fun _ _ h=>h.elim)).trans Cx9.out (by intro k h1 h2;omega))⟩
set_option maxHeartbeats 4000000 in
theorem Stamp_new {R Rb:Nat→Prop} {w:World} {p g:Nat} {f k rep:Int} {s:SS} {c:Cm} {L:List (Int × List Int)} (h:SpR R w p f k rep s) (hbk:BkR Rb w g L) (hB:∀ k,R k→k < w.heap.size) (hBb:∀ k,Rb k→k < w.heap.size) (hd:∀ k,R k→Rb k→False) (hco:c.OK) (hsi:I64 (1000+c.cl)) (hrt:Bo L k c=true) {t:Nat} (hml:Bs s.m (c.cl,c.sq)=none) (ht:t=max (max s.now (s.floor+1)) (s.last+1)) (htl:t+1 < U64) (hrp:I64 rep) (hbl2:L.length≤999999) :
 Calls Try.prog 14 #[.pointer (some ⟨p,0,none⟩),.pointer (some ⟨g,0,none⟩),.agg c.cells.toArray] w fun e w'=>e=.returned (.tuple #[.agg (stampY L rep c t).cells.toArray,.int .i64 0])∧SpR R w' p f k rep (stampS s L rep c t)∧BkR Rb w' g (stampL L rep c t)∧Mod (fun k=>(R k)∨(Rb k)) w w':=by
 obtain ⟨b,hc,hp,hb,hmp,hne,hnw,hfl,hla,hok⟩:=h
 have hpl:=hc.lt
 have hbl:=hmp.lt
 have hU:U64=18446744073709551616:=rfl
 have HC:=hid (show Cs w p #[.int .i64 f,.int .i64 k,.int .i64 rep,.int .u64 (s.now:Nat),.int .u64 (s.floor:Nat),.int .u64 (s.last:Nat),.map (some b)] 91 from hc)
 have HMP:=Lib.hid hmp
 have HBR:=Lib.hid hB
 have HPR:=Lib.hid hp
 have HRB:=Lib.hid hb
 have HOKS:=Lib.hid hok
 clear hc hmp hp hb hok hB
 have HBK:=Lib.hid hbk
 have HBB:=Lib.hid hBb
 have HDJ:=Lib.hid hd
 have HCO:=Lib.hid hco
 have HSI:=Lib.hid hsi
 have HRT:=Lib.hid hrt
 have HNPR:=hid (fun (h:Rb p)=>HDJ.out p HPR.out h)
 have HNBR:=hid (fun (h:Rb b)=>HDJ.out b HRB.out h)
 clear hbk hBb hd hco hsi hrt
 have HML:=Lib.hid hml
 clear hml
 have HNK:=hid (show NmK (c.cl,c.sq) from ⟨HCO.out.1.1,HCO.out.1.2.1⟩)
 change Calls _ _ #[.pointer (some ⟨p,0,none⟩),.pointer (some ⟨g,0,none⟩),.agg (c.cells:List Value).toArray] _ _
 go_enter Try.func14,Try.ntmps14
 go_upto_region 1 with (fail)
 obtain ⟨w1,hw1⟩:∃ zz,zz=((w.alloc (.cells (c.cells:List Value).toArray 36)).alloc (.cells #[.int .i64 0,.int .i64 0,.int .i64 0,.int .u8 0,.int .u8 0,.int .u8 0,.int .u8 0,.int .u8 0,.int .u8 0,.int .u8 0,.int .u8 0,.int .u8 0,.int .u8 0,.int .u8 0,.int .u8 0,.int .u8 0,.int .u8 0,.int .u8 0,.int .u8 0,.int .u8 0,.int .u8 0,.int .u8 0,.int .u8 0,.int .u8 0,.int .u8 0,.int .u8 0,.int .u8 0,.int .u8 0,.int .u8 0,.int .u8 0,.int .u8 0,.int .u8 0,.int .u8 0,.int .u8 0,.int .u8 0,.int .u64 0,.int .i64 0,.int .i64 0] 47)):=⟨_,rfl⟩
 change Code.wp _ _ _ _ ((w.alloc (.cells (c.cells:List Value).toArray 36)).alloc (.cells #[.int .i64 0,.int .i64 0,.int .i64 0,.int .u8 0,.int .u8 0,.int .u8 0,.int .u8 0,.int .u8 0,.int .u8 0,.int .u8 0,.int .u8 0,.int .u8 0,.int .u8 0,.int .u8 0,.int .u8 0,.int .u8 0,.int .u8 0,.int .u8 0,.int .u8 0,.int .u8 0,.int .u8 0,.int .u8 0,.int .u8 0,.int .u8 0,.int .u8 0,.int .u8 0,.int .u8 0,.int .u8 0,.int .u8 0,.int .u8 0,.int .u8 0,.int .u8 0,.int .u8 0,.int .u8 0,.int .u8 0,.int .u64 0,.int .i64 0,.int .i64 0] 47))
 rw [← hw1]
 have HB5:=hid (show Cs w1 (w.heap.size) (c.cells:List Value).toArray 36 by rw [hw1];exact (Cs.new _ _ _).alloc _)
 have HB6:=hid (show Cs w1 (w.heap.size+1) #[.int .i64 0,.int .i64 0,.int .i64 0,.int .u8 0,.int .u8 0,.int .u8 0,.int .u8 0,.int .u8 0,.int .u8 0,.int .u8 0,.int .u8 0,.int .u8 0,.int .u8 0,.int .u8 0,.int .u8 0,.int .u8 0,.int .u8 0,.int .u8 0,.int .u8 0,.int .u8 0,.int .u8 0,.int .u8 0,.int .u8 0,.int .u8 0,.int .u8 0,.int .u8 0,.int .u8 0,.int .u8 0,.int .u8 0,.int .u8 0,.int .u8 0,.int .u8 0,.int .u8 0,.int .u8 0,.int .u8 0,.int .u64 0,.int .i64 0,.int .i64 0] 47 by rw [hw1];exact Cs_newN _ _ _ (by simp))
 have hm:Mod (fun _=>False) w w1:=by rw [hw1];exact ((Mod.refl _ _).alloc _).alloc _
 have HM0:=hid (show Mod (fun k=>(R k)∨(Rb k)) w w1 from hm.mono (fun _ _ h=>h.elim))
 have hs1:w1.heap.size=w.heap.size+2:=by rw [hw1];simp
 have Hx1:=hid (HC.out.mod hm (fun h=>h))
 clear HC
 have Hx2:=hid (HMP.out.mod hm (fun h=>h))
 clear HMP
 have Hx3:=hid (HBK.out.mod hm (fun _ _ h=>h))
 clear HBK
 clear hw1 hm
 go_upto_region 1 with (fail)
 generalize ha0:Act.mk _ _=a0
 have oe0:a0.eval (.tmp 0)=.pointer (some ⟨p,0,none⟩):=by rw [← ha0];rfl
 have oe1:a0.eval (.tmp 1)=.pointer (some ⟨g,0,none⟩):=by rw [← ha0];rfl
 have oe5:a0.eval (.tmp 5)=.pointer (some ⟨w.heap.size,0,none⟩):=by rw [← ha0];rfl
 have hsz0:a0.tmps.size=90:=by rw [← ha0];rfl
 have HA0:=hid ha0
 clear ha0
 refine Az 90 hsz0 [12,13,14,15,16,17,18,19] [qi (.pointer (some ⟨p,0,none⟩)),qi (.pointer (some ⟨p,0,none⟩)),qi (.pointer (some ⟨p,0,none⟩)),qi (.agg #[.int .i64 f,.int .i64 k]),qi (.pointer (some ⟨g,0,none⟩)),qi (c.val),qi (.bool true),qi (.bool false)] ⟨Aa,Aa,Aa,Aa,Aa,Aa,Aa,Aa,trivial⟩ [6] ⟨?_,?_,?_,?_,?_,?_,?_,?_,trivial⟩ ?_
 ·exact stq (fun E=>Ah rfl (E.v oe0))
 ·exact stq (fun E=>A1 rfl (E.d 0))
 ·exact stq (fun E=>Ai rfl Try.underlying91 rfl (by kernel_rfl) (E.d 1))
 ·exact stq (fun E=>Ap rfl Try.underlying26 rfl (off:=0) (cs:=[.int .i64 f,.int .i64 k]) (by kernel_rfl) (E.d 2) (Cs.litA (Hx1.out.mod E.m.old (by intro h2;omega)) rfl))
 ·exact stq (fun E=>Ah rfl (E.v oe1))
 ·exact stq (fun E=>Ap rfl Try.underlying36 rfl (off:=0) (cs:=c.cells) (by rw [Cm.len HCO.out.2.1];exact Bd) (E.v oe5) (Cs.whole (HB5.out.mod E.m.old (by intro h2;omega))))
 ·exact Au rfl
 ·exact stq (fun E=>ex_not rfl (E.d 6))
 intro u1_0 hr
 have zu1_0:=hr.size
 have Cx4:=hid (hr.new (S:=(fun _=>False)))
 clear hr
 refine QChain.go fun Z act E=>?_
 refine Ax (args:=#[.agg #[.int .i64 f,.int .i64 k],.pointer (some ⟨g,0,none⟩),c.val]) rfl (Ab rfl) rfl Try.func32 (args3 (E.d 3) (E.d 4) (E.d 5)) (Right_Q (Hx3.out.mod Cx4.out (fun _ _ h=>h)) f k c HCO.out HSI.out HRT.out) ?_
 rintro e u1_1a ⟨rfl,hm⟩
 have zu1_1a:=hm.size
 refine ⟨_,rfl,hm.mono (fun _ _ h=>h.elim),(fun _=>rfl),?_⟩
 intro u1_1 hr
 have zu1_1:=hr.size
 have Cx5:=hid (Cx4.out.go hm hr)
 clear Cx4 hm hr Z act E
 refine QChain.nil fun vs hl hzz hrows hne=>?_
 obtain ⟨Z,hYZ,hZb,hV⟩:=hzz
 have f0:=fvi hV hl 0
 have f4:=fvi hV hl 4
 have f6:=fvi hV hl 6
 have f7:=fvi hV hl 7
 rw [show vs=[gw vs 0,gw vs 1,gw vs 2,gw vs 3,gw vs 4,gw vs 5,gw vs 6,gw vs 7] from (Bh hl).trans rfl]
 have ha0:=HA0.out
 subst ha0
 clear HA0 hV hYZ hZb hsz0 hrows hne oe0 oe1 oe5
 simp only [Ar,Act.put,sIB,sCZ,sCS,f0,f4,f6,f7]
 clear hl f0 f4 f6 f7
 go_upto_region 3 with (fail)
 generalize ha0:Act.mk _ _=a0
 have oe0:a0.eval (.tmp 0)=.pointer (some ⟨p,0,none⟩):=by rw [← ha0];rfl
 have oe5:a0.eval (.tmp 5)=.pointer (some ⟨w.heap.size,0,none⟩):=by rw [← ha0];rfl
 have hsz0:a0.tmps.size=90:=by rw [← ha0];rfl
 have HA0:=hid ha0
 clear ha0
 refine wp_region_Q 90 hsz0 (by kernel_rfl) (by kernel_rfl) [22,23,24,25,26,27,28,21,29,30,8,101,9] (by kernel_rfl) (by decide) (fun _=>False) (fun _ _=>False) (fun _ _ h=>h) [qi (.pointer (some ⟨p,0,none⟩)),qi (.pointer (some ⟨p,0,none⟩)),qi (.pointer (some ⟨p,6,none⟩)),qi (.map (some b)),qi (.pointer (some ⟨w.heap.size,0,none⟩)),qi (.agg #[.int .i64 c.cl,.int .i64 c.sq]),qi (.tuple #[zSt.val,.bool false]),qi (.tuple #[zSt.val,.bool false]),qi (zSt.val),qi (.bool false),qa,qa,qi (.bool false)] ⟨Aa,Aa,Aa,Aa,Aa,Aa,Aa,Aa,Aa,Aa,B5,B5,Aa,trivial⟩ [] (by kernel_rfl) (by decide) (by kernel_rfl) [⟨10,11,47,[.int .i64 0,.int .i64 0,.int .i64 0,.int .u8 0,.int .u8 0,.int .u8 0,.int .u8 0,.int .u8 0,.int .u8 0,.int .u8 0,.int .u8 0,.int .u8 0,.int .u8 0,.int .u8 0,.int .u8 0,.int .u8 0,.int .u8 0,.int .u8 0,.int .u8 0,.int .u8 0,.int .u8 0,.int .u8 0,.int .u8 0,.int .u8 0,.int .u8 0,.int .u8 0,.int .u8 0,.int .u8 0,.int .u8 0,.int .u8 0,.int .u8 0,.int .u8 0,.int .u8 0,.int .u8 0,.int .u8 0,.int .u64 0,.int .i64 0,.int .i64 0],0,(fun t=>zSt.cells)⟩] (by kernel_rfl) (by intro r hr;simp only [List.mem_cons,List.not_mem_nil,or_false] at hr;rcases hr with rfl<;>exact ⟨by kernel_rfl,by kernel_rfl⟩) (by intro r hr;simp only [List.mem_cons,List.not_mem_nil,or_false] at hr;rcases hr with rfl<;>exact ⟨of_decide_eq_true (by kernel_rfl),of_decide_eq_true (by kernel_rfl)⟩) (by intro r hr;simp only [List.mem_cons,List.not_mem_nil,or_false] at hr;rcases hr with rfl<;>exact fun _ _ _ _=>⟨trivial,trivial⟩) ⟨?_,?_,?_,?_,?_,?_,?_,?_,?_,?_,?_,?_,?_,trivial⟩ ?_
 ·exact stq (fun E=>Ah rfl (E.v oe0))
 ·exact stq (fun E=>A1 rfl (E.d 0))
 ·exact stq (fun E=>Ai rfl Try.underlying91 rfl (by kernel_rfl) (E.d 1))
 ·exact stq (fun E=>Am rfl Try.underlying57 rfl (E.d 2) (Cs.lit1 ((Hx1.out.mod Cx5.out (fun h=>h)).mod E.m.old (by intro h2;omega)) rfl))
 ·exact stq (fun E=>Ai rfl Try.underlying36 rfl (by kernel_rfl) (E.v oe5))
 ·exact stq (fun E=>Ap rfl Try.underlying30 rfl (off:=0) (cs:=[.int .i64 c.cl,.int .i64 c.sq]) (by kernel_rfl) (E.d 4) (Cs.preA (pre:=[.int .i64 c.cl,.int .i64 c.sq]) (mid:=c.h.map bv) (post:=[.int .i64 c.ln,.int .i64 c.sb,.int .i64 c.mr]) ((HB5.out.mod Cx5.out (fun h=>h)).mod E.m.old (by intro h2;omega)) rfl))
 ·exact stq (fun E=>ex_lookS (k:=(c.cl,c.sq)) rfl (E.d 3) (E.d 5) HNK.out ((Hx2.out.mod Cx5.out (fun h=>h)).mod E.m.old (by intro h2;omega)) (lookV_none HML.out))
 ·exact stq (fun E=>Ah rfl (E.d 6))
 ·exact stq (fun E=>A9 rfl (E.d 7) rfl)
 ·exact stq (fun E=>A9 rfl (E.d 7) rfl)
 ·exact stepq_make rfl rfl ⟨rfl,rfl,by kernel_rfl,by kernel_rfl⟩
 ·refine stepq_write rfl rfl rfl ⟨rfl,8,(.tmp 29),rfl,by decide,rfl,by kernel_rfl,fun Z tr act w' hm hout hsz hd hpre=>?_⟩
  have h8:=hd ⟨8,.data⟩ (by simp) rfl _ rfl
  exact ⟨Nat.zero_le _,(by rw [show act.eval ((.tmp 29))=_ from h8];rfl),(by rw [St.len Bt];rfl),(St.one zSt)⟩
 ·exact stq (fun E=>An rfl (E.d 9))
 intro u3_0 hr
 have zu3_0:=hr.size
 have Cx6:=hid (hr.new (S:=(fun _=>False)))
 clear hr
 refine QChain.nil fun vs hl hzz hrows hne=>?_
 obtain ⟨Z,hYZ,hZb,hV⟩:=hzz
 obtain ⟨b8,g10,hBb8,hYb8,hCb8⟩:=hrows _ (by simp only [List.mem_cons,List.not_mem_nil,or_false];trivial)
 have f10:gw vs 10=_:=getv g10
 (try dsimp only at hBb8 hYb8);(try simp only [false_or] at hBb8 hYb8)
 have zqb8:=hCb8.lt
 have Hx7:=hid (show Cs u3_0 b8 (zSt.cells:List Value).toArray 47 from hCb8)
 have f0:=fvi hV hl 0
 have f7:=fvi hV hl 7
 have f12:=fvi hV hl 12
 rw [show vs=[gw vs 0,gw vs 1,gw vs 2,gw vs 3,gw vs 4,gw vs 5,gw vs 6,gw vs 7,gw vs 8,gw vs 9,gw vs 10,gw vs 11,gw vs 12] from (Bh hl).trans rfl]
 have ha0:=HA0.out
 subst ha0
 clear HA0 hV hYZ hZb hsz0 hrows hne oe0 oe5 hCb8 g10
 simp only [Ar,Act.put,sIB,sCZ,sCS,List.set_nil,f10,f0,f7,f12]
 clear hl f10 f0 f7 f12
 go_upto_region 4 with (fail)
 refine Al 90 [31] [0] (fun a0 HA0=>?_)
 have oe9:=ev HA0 9 rfl
 refine QSeq.pure rfl _ (fun E=>Ah rfl (E.v oe9)) ?_
 refine QSeq.nil (t':=[_]) rfl ?_
 obtain rfl:=HA0.out
 clear HA0 oe9
 simp only [pz,Act.put,sIB,sCZ,sCS]
 clear Hx7
 obtain ⟨fl,hfl2⟩:∃ x,x=s.floor+1:=⟨_,rfl⟩
 obtain ⟨ls,hls2⟩:∃ x,x=s.last+1:=⟨_,rfl⟩
 have htn:t=max (max s.now fl) ls:=by rw [hfl2,hls2];exact ht
 go_upto_region 8 with (fail)
 generalize ha0:Act.mk _ _=a0
 have oe0:a0.eval (.tmp 0)=.pointer (some ⟨p,0,none⟩):=by rw [← ha0];rfl
 have hsz0:a0.tmps.size=90:=by rw [← ha0];rfl
 have HA0:=hid ha0
 clear ha0
 refine Az 90 hsz0 [39,40,41,42,43,44,45,46,47,48,49,50,51,52,53,10] [qi (.pointer (some ⟨p,0,none⟩)),qi (.pointer (some ⟨p,0,none⟩)),qi (.pointer (some ⟨p,3,none⟩)),qi (.int .u64 (s.now:Nat)),qi (.pointer (some ⟨p,0,none⟩)),qi (.pointer (some ⟨p,0,none⟩)),qi (.pointer (some ⟨p,4,none⟩)),qi (.int .u64 (s.floor:Nat)),qi (.int .u64 ((fl:Nat):Int)),qi (.pointer (some ⟨p,0,none⟩)),qi (.pointer (some ⟨p,0,none⟩)),qi (.pointer (some ⟨p,5,none⟩)),qi (.int .u64 (s.last:Nat)),qi (.int .u64 ((ls:Nat):Int)),qi (.int .u64 ((t:Nat):Int)),qi (.int .u64 ((t:Nat):Int))] ⟨Aa,Aa,Aa,Aa,Aa,Aa,Aa,Aa,Aa,Aa,Aa,Aa,Aa,Aa,Aa,Aa,trivial⟩ [] ⟨?_,?_,?_,?_,?_,?_,?_,?_,?_,?_,?_,?_,?_,?_,?_,?_,trivial⟩ ?_
 ·exact stq (fun E=>Ah rfl (E.v oe0))
 ·exact stq (fun E=>A1 rfl (E.d 0))
 ·exact stq (fun E=>Ai rfl Try.underlying91 rfl (by kernel_rfl) (E.d 1))
 ·exact stq (fun E=>Am rfl Try.underlying45 rfl (E.d 2) (Cs.lit1 (((Hx1.out.mod Cx5.out (fun h=>h)).mod Cx6.out (fun h=>h)).mod E.m.old (by intro h2;omega)) rfl))
 ·exact stq (fun E=>Ah rfl (E.v oe0))
 ·exact stq (fun E=>A1 rfl (E.d 4))
 ·exact stq (fun E=>Ai rfl Try.underlying91 rfl (by kernel_rfl) (E.d 5))
 ·exact stq (fun E=>Am rfl Try.underlying45 rfl (E.d 6) (Cs.lit1 (((Hx1.out.mod Cx5.out (fun h=>h)).mod Cx6.out (fun h=>h)).mod E.m.old (by intro h2;omega)) rfl))
 ·exact stq (fun E=>Av rfl (E.d 7) rfl (Ak _ _ _ _ _ _) (Be _ _ Try.underlying45) (congrArg (Value.int .u64) (u64_eq (b:=((fl:Nat):Int)) (by omega) (by omega) (by omega))))
 ·exact stq (fun E=>Ah rfl (E.v oe0))
 ·exact stq (fun E=>A1 rfl (E.d 9))
 ·exact stq (fun E=>Ai rfl Try.underlying91 rfl (by kernel_rfl) (E.d 10))
 ·exact stq (fun E=>Am rfl Try.underlying45 rfl (E.d 11) (Cs.lit1 (((Hx1.out.mod Cx5.out (fun h=>h)).mod Cx6.out (fun h=>h)).mod E.m.old (by intro h2;omega)) rfl))
 ·exact stq (fun E=>Av rfl (E.d 12) rfl (Ak _ _ _ _ _ _) (Be _ _ Try.underlying45) (congrArg (Value.int .u64) (u64_eq (b:=((ls:Nat):Int)) (by omega) (by omega) (by omega))))
 ·exact stq (fun E=>ex_max3 (r:=((t:Nat):Int)) rfl (E.d 3) (E.d 8) (E.d 13) (by rw [htn];omega))
 ·exact stq (fun E=>An rfl (E.d 14))
 intro u8_0 hr
 have zu8_0:=hr.size
 have Cx8:=hid (hr.new (S:=(fun _=>False)))
 clear hr
 refine QChain.nil fun vs hl hzz hrows hne=>?_
 obtain ⟨Z,hYZ,hZb,hV⟩:=hzz
 have f0:=fvi hV hl 0
 have f4:=fvi hV hl 4
 have f9:=fvi hV hl 9
 have f14:=fvi hV hl 14
 have f15:=fvi hV hl 15
 rw [show vs=[gw vs 0,gw vs 1,gw vs 2,gw vs 3,gw vs 4,gw vs 5,gw vs 6,gw vs 7,gw vs 8,gw vs 9,gw vs 10,gw vs 11,gw vs 12,gw vs 13,gw vs 14,gw vs 15] from (Bh hl).trans rfl]
 have ha0:=HA0.out
 subst ha0
 clear HA0 hV hYZ hZb hsz0 hrows hne oe0
 simp only [Ar,Act.put,sIB,sCZ,sCS,f0,f4,f9,f14,f15]
 clear hl f0 f4 f9 f14 f15
 go_upto_region 9 with (fail)
 refine Al 90 [54,55] [0,1] (fun a0 HA0=>?_)
 have oe10:=ev HA0 10 rfl
 refine QSeq.pure rfl _ (fun E=>Ah rfl (E.v oe10)) ?_
 refine QSeq.pure rfl (.bool false) (fun E=>Av rfl (E.d 0 0) rfl (Ak _ _ _ _ _ _) (B3 _ _ _ Try.underlying45) (congrArg Value.bool (decide_eq_false (by omega)))) ?_
 refine QSeq.nil (t':=[_,_]) rfl ?_
 obtain rfl:=HA0.out
 clear HA0 oe10
 simp only [pz,Act.put,sIB,sCZ,sCS]
 obtain ⟨y0,hy0⟩:∃ y:St,y=⟨rep,c.cl,c.sq,c.h,t,0,0⟩:=⟨_,rfl⟩
 have HYO0:=hid (show y0.OK by rw [hy0];exact ⟨hrp,HCO.out.1.1,HCO.out.1.2.1,HCO.out.2,by (try dsimp only);omega,by unfold I64;(try dsimp only);omega,by unfold I64;(try dsimp only);omega⟩)
 have HY0:=Lib.hid hy0
 have hyh:y0.h.length=32:=HYO0.out.h.1
 have HRP:=Lib.hid hrp
 have HBL:=Lib.hid hbl2
 clear hy0
 go_upto_region 11 with (fail)
 generalize ha0:Act.mk _ _=a0
 have oe0:a0.eval (.tmp 0)=.pointer (some ⟨p,0,none⟩):=by rw [← ha0];rfl
 have oe5:a0.eval (.tmp 5)=.pointer (some ⟨w.heap.size,0,none⟩):=by rw [← ha0];rfl
 have oe10:a0.eval (.tmp 10)=.int .u64 ((t:Nat):Int):=by rw [← ha0];rfl
 have hsz0:a0.tmps.size=90:=by rw [← ha0];rfl
 have HA0:=hid ha0
 clear ha0
 refine wp_region_Q 90 hsz0 (by kernel_rfl) (by kernel_rfl) [57,58,59,60,61,62,63,64,65,66,11,101] (by kernel_rfl) (by decide) (fun _=>False) (fun _ _=>False) (fun _ _ h=>h) [qi (.pointer (some ⟨p,0,none⟩)),qi (.pointer (some ⟨p,0,none⟩)),qi (.pointer (some ⟨p,2,none⟩)),qi (.int .i64 rep),qi (.pointer (some ⟨w.heap.size,0,none⟩)),qi (.agg #[.int .i64 c.cl,.int .i64 c.sq]),qi (.pointer (some ⟨w.heap.size,2,none⟩)),qi (hv c.h),qi (.int .u64 ((t:Nat):Int)),qi (.agg (y0.cells:List Value).toArray),qa,qa] ⟨Aa,Aa,Aa,Aa,Aa,Aa,Aa,Aa,Aa,Aa,B5,B5,trivial⟩ [] (by kernel_rfl) (by decide) (by kernel_rfl) [⟨10,11,47,[.int .i64 0,.int .i64 0,.int .i64 0,.int .u8 0,.int .u8 0,.int .u8 0,.int .u8 0,.int .u8 0,.int .u8 0,.int .u8 0,.int .u8 0,.int .u8 0,.int .u8 0,.int .u8 0,.int .u8 0,.int .u8 0,.int .u8 0,.int .u8 0,.int .u8 0,.int .u8 0,.int .u8 0,.int .u8 0,.int .u8 0,.int .u8 0,.int .u8 0,.int .u8 0,.int .u8 0,.int .u8 0,.int .u8 0,.int .u8 0,.int .u8 0,.int .u8 0,.int .u8 0,.int .u8 0,.int .u8 0,.int .u64 0,.int .i64 0,.int .i64 0],0,(fun t=>y0.cells)⟩] (by kernel_rfl) (by intro r hr;simp only [List.mem_cons,List.not_mem_nil,or_false] at hr;rcases hr with rfl<;>exact ⟨by kernel_rfl,by kernel_rfl⟩) (by intro r hr;simp only [List.mem_cons,List.not_mem_nil,or_false] at hr;rcases hr with rfl<;>exact ⟨of_decide_eq_true (by kernel_rfl),of_decide_eq_true (by kernel_rfl)⟩) (by intro r hr;simp only [List.mem_cons,List.not_mem_nil,or_false] at hr;rcases hr with rfl<;>exact fun _ _ _ _=>⟨trivial,trivial⟩) ⟨?_,?_,?_,?_,?_,?_,?_,?_,?_,?_,?_,?_,trivial⟩ ?_
 ·exact stq (fun E=>Ah rfl (E.v oe0))
 ·exact stq (fun E=>A1 rfl (E.d 0))
 ·exact stq (fun E=>Ai rfl Try.underlying91 rfl (by kernel_rfl) (E.d 1))
 ·exact stq (fun E=>Am rfl Try.underlying3 rfl (E.d 2) (Cs.lit1 ((((Hx1.out.mod Cx5.out (fun h=>h)).mod Cx6.out (fun h=>h)).mod Cx8.out (fun h=>h)).mod E.m.old (by intro h2;omega)) rfl))
 ·exact stq (fun E=>Ai rfl Try.underlying36 rfl (by kernel_rfl) (E.v oe5))
 ·exact stq (fun E=>Ap rfl Try.underlying30 rfl (off:=0) (cs:=[.int .i64 c.cl,.int .i64 c.sq]) (by kernel_rfl) (E.d 4) (Cs.preA (pre:=[.int .i64 c.cl,.int .i64 c.sq]) (mid:=c.h.map bv) (post:=[.int .i64 c.ln,.int .i64 c.sb,.int .i64 c.mr]) ((((HB5.out.mod Cx5.out (fun h=>h)).mod Cx6.out (fun h=>h)).mod Cx8.out (fun h=>h)).mod E.m.old (by intro h2;omega)) rfl))
 ·exact stq (fun E=>Ai rfl Try.underlying36 rfl (by kernel_rfl) (E.v oe5))
 ·exact stq (fun E=>Ap rfl Try.underlying32 rfl (off:=2) (cs:=c.h.map bv) (by rw [List.length_map,HCO.out.2.1];exact Bj) (E.d 6) (((((HB5.out.mod Cx5.out (fun h=>h)).mod Cx6.out (fun h=>h)).mod Cx8.out (fun h=>h)).mod E.m.old (by intro h2;omega)).hash))
 ·exact stq (fun E=>Ah rfl (E.v oe10))
 ·refine Ag rfl rfl rfl fun _ _ act _ _ _ _ _ _ hd _ _=>?_
  have h3:=hd ⟨3,.data⟩ (by simp) rfl _ rfl
  have h5:=hd ⟨5,.data⟩ (by simp) rfl _ rfl
  have h7:=hd ⟨7,.data⟩ (by simp) rfl _ rfl
  have h8:=hd ⟨8,.data⟩ (by simp) rfl _ rfl
  refine Aq rfl (Ab rfl) (ex_build rfl (z:=[.int .i64 0,.int .i64 0,.int .i64 0,.int .u8 0,.int .u8 0,.int .u8 0,.int .u8 0,.int .u8 0,.int .u8 0,.int .u8 0,.int .u8 0,.int .u8 0,.int .u8 0,.int .u8 0,.int .u8 0,.int .u8 0,.int .u8 0,.int .u8 0,.int .u8 0,.int .u8 0,.int .u8 0,.int .u8 0,.int .u8 0,.int .u8 0,.int .u8 0,.int .u8 0,.int .u8 0,.int .u8 0,.int .u8 0,.int .u8 0,.int .u8 0,.int .u8 0,.int .u8 0,.int .u8 0,.int .u8 0,.int .u64 0,.int .i64 0,.int .i64 0]) (places:=[(0,1),(1,2),(3,32),(35,1),(36,2)]) (by kernel_rfl) (parts:=[(0,.int .i64 rep),(1,.agg #[.int .i64 c.cl,.int .i64 c.sq]),(2,hv c.h),(3,.int .u64 ((t:Nat):Int))]) (by simp only [List.map_toArray,List.map_cons,List.map_nil,show act.eval (.tmp 60)=_ from h3,show act.eval (.tmp 62)=_ from h5,show act.eval (.tmp 64)=_ from h7,show act.eval (.tmp 65)=_ from h8];try rfl) (r:=y0.cells) (by rw [HY0.out];exact laid_stamp rep c.cl c.sq c.h t HCO.out.2.1)) QE.refl ?_
  rfl
 ·exact stepq_make rfl rfl ⟨rfl,rfl,by kernel_rfl,by kernel_rfl⟩
 ·refine stepq_write rfl rfl rfl ⟨rfl,11,(.tmp 66),rfl,by decide,rfl,by kernel_rfl,fun Z tr act w' hm hout hsz hd hpre=>?_⟩
  have h9:=hd ⟨9,.data⟩ (by simp) rfl _ rfl
  exact ⟨Nat.zero_le _,(by rw [show act.eval ((.tmp 66))=_ from h9];rfl),(by rw [St.len HYO0.out];rfl),(St.one y0)⟩
 intro u11_0 hr
 have zu11_0:=hr.size
 have Cx9:=hid (hr.new (S:=(fun _=>False)))
 clear hr
 refine QChain.nil fun vs hl hzz hrows hne=>?_
 obtain ⟨Z,hYZ,hZb,hV⟩:=hzz
 obtain ⟨b11,g10,hBb11,hYb11,hCb11⟩:=hrows _ (by simp only [List.mem_cons,List.not_mem_nil,or_false];trivial)
 have f10:gw vs 10=_:=getv g10
 (try dsimp only at hBb11 hYb11);(try simp only [false_or] at hBb11 hYb11)
 have zqb11:=hCb11.lt
 have Hx10:=hid (show Cs u11_0 b11 (y0.cells:List Value).toArray 47 from hCb11)
 have f0:=fvi hV hl 0
 have f8:=fvi hV hl 8
 rw [show vs=[gw vs 0,gw vs 1,gw vs 2,gw vs 3,gw vs 4,gw vs 5,gw vs 6,gw vs 7,gw vs 8,gw vs 9,gw vs 10,gw vs 11] from (Bh hl).trans rfl]
 have ha0:=HA0.out
 subst ha0
 clear HA0 hV hYZ hZb hsz0 hrows hne oe0 oe5 oe10 hCb11 g10
 simp only [Ar,Act.put,sIB,sCZ,sCS,List.set_nil,f10,f0,f8]
 clear hl f10 f0 f8
 obtain ⟨y1,hy1⟩:∃ y:St,y={ y0 with sb:=rep,mr:=(((mkN (B7 L (rep,B8 y0)) (rep,B8 y0)):Nat):Int) }:=⟨_,rfl⟩
 have HYO1:=hid (show y1.OK by rw [hy1];exact ⟨HYO0.out.rp,HYO0.out.cl,HYO0.out.sq,HYO0.out.h,HYO0.out.tm,HRP.out,mkN_I64 _ _ (signF_le _ _ HBL.out)⟩)
 have HY1:=Lib.hid hy1
 clear hy1
 go_upto_region 12 with (fail)
 generalize ha0:Act.mk _ _=a0
 have oe0:a0.eval (.tmp 0)=.pointer (some ⟨p,0,none⟩):=by rw [← ha0];rfl
 have oe1:a0.eval (.tmp 1)=.pointer (some ⟨g,0,none⟩):=by rw [← ha0];rfl
 have oe11:a0.eval (.tmp 11)=.pointer (some ⟨b11,0,none⟩):=by rw [← ha0];rfl
 have hsz0:a0.tmps.size=90:=by rw [← ha0];rfl
 have HA0:=hid ha0
 clear ha0
 refine B0 90 hsz0 [67,68,69,70,71,72,73,74,75,99] (fun k=>(Rb k)∨(k=b11)) (fun k j=>(k=1∧((Rb j)))∨(k=2∧((j=b11)))) (by intro k j h;(try dsimp only at h ⊢);rcases h with ⟨-,h⟩|⟨-,h⟩;(exact Or.inl (h));(exact Or.inr (h))) [qi (.pointer (some ⟨g,0,none⟩)),qi (.pointer (some ⟨p,0,none⟩)),qi (.pointer (some ⟨p,0,none⟩)),qi (.pointer (some ⟨p,2,none⟩)),qi (.int .i64 rep),qi (y0.val),qv 0,qi (.agg #[.int .i64 rep,.int .i64 (((mkN (B7 L (rep,B8 y0)) (rep,B8 y0)):Nat):Int)]),qi (.pointer (some ⟨b11,36,none⟩)),qv 2] ⟨Aa,Aa,Aa,Aa,Aa,Aa,Ay,Aa,Aa,Ay,trivial⟩ [6,7,9] ⟨?_,?_,?_,?_,?_,?_,?_,?_,?_,?_,trivial⟩ ?_
 ·exact stq (fun E=>Ah rfl (E.v oe1))
 ·exact stq (fun E=>Ah rfl (E.v oe0))
 ·exact stq (fun E=>A1 rfl (E.d 1))
 ·exact stq (fun E=>Ai rfl Try.underlying91 rfl (by kernel_rfl) (E.d 2))
 ·exact stq (fun E=>Am rfl Try.underlying3 rfl (E.d 3) (Cs.lit1 (((((Hx1.out.mod Cx5.out (fun h=>h)).mod Cx6.out (fun h=>h)).mod Cx8.out (fun h=>h)).mod Cx9.out (fun h=>h)).mod E.m (by intro h2;rcases h2 with ⟨h0,h2|h2⟩|h2<;>first|omega|(have hb:=HBB.out _ h2;omega)|exact HNPR.out h2|exact HNBR.out h2)) rfl))
 ·refine Ag rfl rfl rfl fun _ _ _ _ _ _ hm0 hout _ _ hub _=>?_
  refine Aq rfl (Ab rfl) (Ap rfl Try.underlying47 rfl (off:=0) (cs:=y0.cells) (by rw [St.len HYO0.out];exact Bb) ((hout 11 (by decide)).trans oe11) (Cs.whole (Hx10.out.mod hm0 (by intro h2;have hu:=hub 2 9 rfl (by kernel_rfl);rcases h2 with ⟨h0,kk,hk,h2⟩|h2<;>first|omega|(rcases h2 with ⟨hkk,h2⟩|⟨hkk,h2⟩<;>first|omega|(have hb:=HBB.out _ h2;omega)|exact HNPR.out h2|exact HNBR.out h2))))) QE.refl ?_
  rfl
 ·exact Au rfl
 ·exact Au rfl
 ·exact stq (fun E=>Ai rfl Try.underlying47 rfl (by kernel_rfl) (E.v oe11))
 ·exact Au rfl
 intro u12_0 hr
 have zu12_0:=hr.size
 have Cx11:=hid (hr.new (S:=(fun k=>(Rb k)∨(k=b11))))
 have Hx12:=hid (((((Hx3.out.mod Cx5.out (fun _ _ h=>h)).mod Cx6.out (fun _ _ h=>h)).mod Cx8.out (fun _ _ h=>h)).mod Cx9.out (fun _ _ h=>h)).mod hr (by intro k h1 h2;have hb:=HBB.out k h1;omega))
 clear Hx3
 have Hx13:=hid (Hx10.out.mod hr (by intro h2;omega))
 clear Hx10
 clear hr
 refine QChain.go fun Z act E=>?_
 refine Ax (args:=#[y0.val]) rfl (Ab rfl) rfl Try.func33 (Ca (E.d 5)) (StampText_Q (fun _=>False) _ y0 _ ⟨rfl,HYO0.out⟩ (fun _ h=>h.elim) (stampT_len HYO0.out)) ?_
 rintro e u12_1a ⟨tx,rfl,qtb,hm⟩
 have zu12_1a:=hm.size
 refine ⟨_,rfl,hm.mono (fun _ _ h=>h.elim),(fun _=>rfl),?_⟩
 intro u12_1 hr
 have zu12_1:=hr.size
 have Hx14:=hid ((qtb.widen (R':=(fun k=>(New u12_0 u12_1a k))) (fun _ h=>h) (Nat.le_refl _)).mod hr (by intro k h1 h2;omega))
 have hmr:=Mod.after hm hr
 have Hx15:=hid (Hx12.out.mod hmr (by intro k h1 h2;have hb:=HBB.out k h1;omega))
 have Hx16:=hid (Hx13.out.mod hmr (by intro h2;omega))
 clear Hx12 Hx13
 clear hmr
 have Cx17:=hid (Cx11.out.go hm hr)
 clear Cx11 hm hr Z act E qtb
 refine QChain.go fun Z act E=>?_
 refine Ax (args:=#[.pointer (some ⟨g,0,none⟩),.int .i64 rep,tx]) rfl (Ab rfl) rfl Try.func27 (args3 (E.d 0) (E.d 4) (chv (v:=tx) (E.d 6))) (Sign_Q (bs:=B8 y0) Hx15.out rep Hx14.out.rd HRP.out (Nat.le_trans (stampT_len HYO0.out) (by decide)) (Nat.le_trans HBL.out (by decide))) ?_
 rintro e u12_2a ⟨rfl,qbk,hm⟩
 have zu12_2a:=hm.size
 refine ⟨_,rfl,hm.mono (by intro k hk h;first|omega|exact Or.inl ⟨(by have hb:=HBB.out k h;omega),Or.inl ⟨rfl,h⟩⟩),(fun _=>rfl),?_⟩
 intro u12_2 hr
 have zu12_2:=hr.size
 have Hx18:=hid (qbk.mod hr (by intro k h1 h2;have hb:=HBB.out k h1;omega))
 have hmr:=hm.two hr
 have Hx19:=hid (Hx16.out.mod hmr (by intro h2;rcases h2 with h2|h2<;>first|omega|(have hb:=HBB.out _ h2;omega)|exact HNPR.out h2|exact HNBR.out h2))
 have Hx20:=hid (Hx14.out.mod hmr (by intro k h1 h2;rcases h2 with h2|h2<;>first|omega|(have hb:=HBB.out k h2;omega)|exact HNPR.out (h2▸h1)|exact HNPR.out (h1▸h2)|exact HNBR.out (h2▸h1)|exact HNBR.out (h1▸h2)))
 clear Hx16 Hx14
 clear hmr
 have Cx21:=hid (Cx17.out.goM hm hr (by intro k h0 h2;first|omega|exact Or.inl h2|exact Or.inr (h2)))
 clear Cx17 hm hr Z act E qbk Hx15
 refine QChain.go fun Z act E=>?_
 refine Bc rfl (Ab rfl) rfl Hx19.out (off:=36) (vs:=[.int .i64 rep,.int .i64 (((mkN (B7 L (rep,B8 y0)) (rep,B8 y0)):Nat):Int)]) (by kernel_rfl) (by intro u hu;simp only [List.mem_cons,List.not_mem_nil,or_false] at hu;rcases hu with rfl|rfl<;>rfl) (by rw [List.size_toArray,St.len HYO0.out];simp only [List.length_cons,List.length_nil];omega) (E.d 8) (ec (E.d 7)) ?_
 intro u12_3a qc0 hm
 have qb11:=qc0.eqv (b:=(y1.cells:List Value).toArray) (by rw [HY1.out];exact lay_stsig _ _ _ HYO0.out.h.1)
 clear qc0
 have zu12_3a:=hm.size
 refine ⟨hm.mono (by intro k hk h;omega),(fun _=>rfl),?_⟩
 intro u12_3 hr
 have zu12_3:=hr.size
 have Hx22:=hid (qb11.mod hr (by intro h2;omega))
 have hmr:=hm.two hr
 have Hx23:=hid (Hx18.out.mod hmr (by intro k h1 h2;have hb:=HBB.out k h1;omega))
 have Hx24:=hid (Hx20.out.mod hmr (by intro k h1 h2;omega))
 clear Hx18 Hx20
 clear hmr
 have Cx25:=hid (Cx21.out.goM hm hr (by intro k h0 h2;first|omega|exact Or.inl h2|exact Or.inr (h2)))
 clear Cx21 hm hr Z act E qb11 Hx19
 refine QChain.nil fun vs hl hzz hrows hne=>?_
 obtain ⟨Z,hYZ,hZb,hV⟩:=hzz
 have f0:=fvi hV hl 0
 have f1:=fvi hV hl 1
 have f6:=fvc hV hl 6
 have f7:=fvi hV hl 7
 rw [show vs=[gw vs 0,gw vs 1,gw vs 2,gw vs 3,gw vs 4,gw vs 5,gw vs 6,gw vs 7,gw vs 8,gw vs 9] from (Bh hl).trans rfl]
 have ha0:=HA0.out
 subst ha0
 clear HA0 hV hYZ hZb hsz0 hrows hne oe0 oe1 oe11
 simp only [Ar,Act.put,sIB,sCZ,sCS,List.set_nil,f0,f1,f6,f7]
 clear hl f0 f1 f6 f7
 clear Hx24
 have HN:=HML
 go_upto_region 13 with (fail)
 generalize ha0:Act.mk _ _=a0
 have oe0:a0.eval (.tmp 0)=.pointer (some ⟨p,0,none⟩):=by rw [← ha0];rfl
 have oe5:a0.eval (.tmp 5)=.pointer (some ⟨w.heap.size,0,none⟩):=by rw [← ha0];rfl
 have oe10:a0.eval (.tmp 10)=.int .u64 ((t:Nat):Int):=by rw [← ha0];rfl
 have oe11:a0.eval (.tmp 11)=.pointer (some ⟨b11,0,none⟩):=by rw [← ha0];rfl
 have hsz0:a0.tmps.size=90:=by rw [← ha0];rfl
 have HA0:=hid ha0
 clear ha0
 refine B0 90 hsz0 [76,77,78,79,80,81,82,83,84,85,86,101,87,88,104] (fun k=>(k=p)∨(k=b)) (fun k j=>(k=0∧((j=p)))∨(k=1∧((j=b)))∨(k=3∧((j=b)))) (by intro k j h;(try dsimp only at h ⊢);omega) [qi (.pointer (some ⟨p,0,none⟩)),qi (.pointer (some ⟨p,0,none⟩)),qi (.pointer (some ⟨p,0,none⟩)),qi (.pointer (some ⟨p,6,none⟩)),qi (.map (some b)),qi (.pointer (some ⟨w.heap.size,0,none⟩)),qi (.agg #[.int .i64 c.cl,.int .i64 c.sq]),qi (.int .u64 ((t:Nat):Int)),qi (y1.val),qi (.pointer (some ⟨p,0,none⟩)),qi (.pointer (some ⟨p,5,none⟩)),qv 0,qv 1,qv 2,qv 3] ⟨Aa,Aa,Aa,Aa,Aa,Aa,Aa,Aa,Aa,Aa,Aa,Ay,Ay,Ay,Ay,trivial⟩ [11,12,13,14] ⟨?_,?_,?_,?_,?_,?_,?_,?_,?_,?_,?_,?_,?_,?_,?_,trivial⟩ ?_
 ·exact stq (fun E=>Ah rfl (E.v oe0))
 ·exact stq (fun E=>Ah rfl (E.v oe0))
 ·exact stq (fun E=>A1 rfl (E.d 1))
 ·exact stq (fun E=>Ai rfl Try.underlying91 rfl (by kernel_rfl) (E.d 2))
 ·refine Ag rfl rfl rfl fun _ _ _ _ _ _ hm0 _ _ hd hub _=>?_
  have h3:=hd ⟨3,.data⟩ (by simp) rfl _ rfl
  refine Aq rfl (Ab rfl) (Am rfl Try.underlying57 rfl h3 (Cs.lit1 ((((((Hx1.out.mod Cx5.out (fun h=>h)).mod Cx6.out (fun h=>h)).mod Cx8.out (fun h=>h)).mod Cx9.out (fun h=>h)).mod Cx25.out (by intro h2;rcases h2 with h2|h2<;>first|omega|(have hb:=HBB.out _ h2;omega)|exact HNPR.out h2|exact HNBR.out h2)).mod hm0 (by intro h2;have hu:=hub 0 11 rfl (by kernel_rfl);rcases h2 with ⟨h0,kk,hk,h2⟩|h2<;>omega)) rfl)) QE.refl ?_
  rfl
 ·exact stq (fun E=>Ai rfl Try.underlying36 rfl (by kernel_rfl) (E.v oe5))
 ·exact stq (fun E=>Ap rfl Try.underlying30 rfl (off:=0) (cs:=[.int .i64 c.cl,.int .i64 c.sq]) (by kernel_rfl) (E.d 5) (Cs.preA (pre:=[.int .i64 c.cl,.int .i64 c.sq]) (mid:=c.h.map bv) (post:=[.int .i64 c.ln,.int .i64 c.sb,.int .i64 c.mr]) ((((((HB5.out.mod Cx5.out (fun h=>h)).mod Cx6.out (fun h=>h)).mod Cx8.out (fun h=>h)).mod Cx9.out (fun h=>h)).mod Cx25.out (by intro h2;rcases h2 with h2|h2<;>first|omega|(have hb:=HBB.out _ h2;omega)|exact HNPR.out h2|exact HNBR.out h2)).mod E.m (by intro h2;omega)) rfl))
 ·exact stq (fun E=>Ah rfl (E.v oe10))
 ·exact stq (fun E=>Ap rfl Try.underlying47 rfl (off:=0) (cs:=y1.cells) (by rw [St.len HYO1.out];exact Bb) (E.v oe11) (Cs.whole (Hx22.out.mod E.m (by intro h2;omega))))
 ·exact stq (fun E=>A1 rfl (E.d 0))
 ·exact stq (fun E=>Ai rfl Try.underlying91 rfl (by kernel_rfl) (E.d 9))
 ·exact Au rfl
 ·exact Au rfl
 ·exact Au rfl
 ·exact Au rfl
 intro u13_0 hr
 have zu13_0:=hr.size
 have Cx26:=hid (hr.new (S:=(fun k=>(k=p)∨(k=b))))
 have Hx27:=hid ((((((Hx1.out.mod Cx5.out (fun h=>h)).mod Cx6.out (fun h=>h)).mod Cx8.out (fun h=>h)).mod Cx9.out (fun h=>h)).mod Cx25.out (by intro h2;rcases h2 with h2|h2<;>first|omega|(have hb:=HBB.out _ h2;omega)|exact HNPR.out h2|exact HNBR.out h2)).mod hr (by intro h2;omega))
 clear Hx1
 have Hx28:=hid ((((((Hx2.out.mod Cx5.out (fun h=>h)).mod Cx6.out (fun h=>h)).mod Cx8.out (fun h=>h)).mod Cx9.out (fun h=>h)).mod Cx25.out (by intro h2;rcases h2 with h2|h2<;>first|omega|(have hb:=HBB.out _ h2;omega)|exact HNPR.out h2|exact HNBR.out h2)).mod hr (by intro h2;omega))
 clear Hx2
 clear hr
 refine QChain.go fun Z act E=>?_
 refine Bc rfl (Ab rfl) rfl Hx27.out (off:=5) (vs:=[Value.int .u64 ((t:Nat):Int)]) (by kernel_rfl) one1 (by simp) (E.d 10) (ec (E.d 7)) ?_
 intro u13_1a qc0 hm
 have qrd:=qc0.eqv (b:=#[.int .i64 f,.int .i64 k,.int .i64 rep,.int .u64 (s.now:Nat),.int .u64 (s.floor:Nat),.int .u64 ((t:Nat):Int),.map (some b)]) rfl
 clear qc0
 have zu13_1a:=hm.size
 refine ⟨hm.mono (by intro k hk h;omega),(fun _=>rfl),?_⟩
 intro u13_1 hr
 have zu13_1:=hr.size
 have Hx29:=hid (qrd.mod hr (by intro h2;omega))
 have hmr:=hm.two hr
 have Hx30:=hid (Hx28.out.mod hmr (by intro h2;omega))
 clear Hx28
 clear hmr
 have Cx31:=hid (Cx26.out.goM hm hr (by intro k h0 h2;omega))
 clear Cx26 hm hr Z act E qrd Hx27
 refine QChain.go fun Z act E=>?_
 refine qc_entry (k:=(c.cl,c.sq)) rfl (Ab rfl) rfl (E.d 4) (E.d 6) HNK.out Hx30.out HN.out ?_
 intro cE u13_2a qmp hm
 have zu13_2a:=hm.size
 refine ⟨hm.mono (by intro k hk h;omega),(fun _=>rfl),?_⟩
 intro u13_2 hr
 have zu13_2:=hr.size
 have Hx32:=hid (qmp.mod hr (by intro h2;omega))
 have hmr:=hm.two hr
 have Hx33:=hid (Hx29.out.mod hmr (by intro h2;omega))
 clear Hx29
 clear hmr
 have Cx34:=hid (Cx31.out.goM hm hr (by intro k h0 h2;omega))
 clear Cx31 hm hr Z act E qmp Hx30
 refine QChain.go fun Z act E=>?_
 refine qc_run rfl (Ab rfl) (A9 rfl (chv (v:=.tuple #[zSt.val,goInt (cE:Nat)]) (E.d 12)) rfl) ⟨Mod.refl _ _,(fun _=>rfl),?_⟩
 intro u13_3 hr
 have zu13_3:=hr.size
 have Hx35:=hid (Hx33.out.mod hr (by intro h2;omega))
 have Hx36:=hid (Hx32.out.mod hr (by intro h2;omega))
 clear Hx33 Hx32
 have Cx37:=hid (Cx34.out.goR hr)
 clear Cx34 hr Z act E
 refine QChain.go fun Z act E=>?_
 refine qc_entryS (k:=(c.cl,c.sq)) (y:=y1) rfl (Ab rfl) rfl (E.d 4) (chv (v:=goInt (cE:Nat)) (E.d 13)) (E.d 8) HNK.out Hx36.out HN.out ?_
 intro u13_4a qmp hm
 have zu13_4a:=hm.size
 refine ⟨hm.mono (by intro k hk h;omega),(fun _=>rfl),?_⟩
 intro u13_4 hr
 have zu13_4:=hr.size
 have Hx38:=hid (qmp.mod hr (by intro h2;omega))
 have hmr:=hm.two hr
 have Hx39:=hid (Hx35.out.mod hmr (by intro h2;omega))
 clear Hx35
 clear hmr
 have Cx40:=hid (Cx37.out.goM hm hr (by intro k h0 h2;omega))
 clear Cx37 hm hr Z act E qmp Hx36
 refine QChain.nil fun vs hl hzz hrows hne=>?_
 obtain ⟨Z,hYZ,hZb,hV⟩:=hzz
 have f0:=fvi hV hl 0
 have f1:=fvi hV hl 1
 have f7:=fvi hV hl 7
 have f12:=fvc hV hl 12
 have f13:=fvc hV hl 13
 rw [show vs=[gw vs 0,gw vs 1,gw vs 2,gw vs 3,gw vs 4,gw vs 5,gw vs 6,gw vs 7,gw vs 8,gw vs 9,gw vs 10,gw vs 11,gw vs 12,gw vs 13,gw vs 14] from (Bh hl).trans rfl]
 have ha0:=HA0.out
 subst ha0
 clear HA0 hV hYZ hZb hsz0 hrows hne oe0 oe5 oe10 oe11
 simp only [Ar,Act.put,sIB,sCZ,sCS,List.set_nil,f0,f1,f7,f12,f13]
 clear hl f0 f1 f7 f12 f13
 go_upto_region 14 with (fail)
 refine Al 90 [89,91,7] [0,1,2] (fun a0 HA0=>?_)
 have oe6:=ev HA0 6 rfl
 have oe11:=ev HA0 11 rfl
 refine QSeq.pure rfl _ (fun E=>Ap rfl Try.underlying47 rfl (off:=0) (cs:=y1.cells) (by rw [St.len HYO1.out];exact Bb) (E.v oe11) (Cs.whole (Hx22.out.mod Cx40.out (by intro h2;omega)))) ?_
 refine QSeq.go fun act E=>?_
 refine Bc rfl (Ab rfl) rfl ((((((HB6.out.mod Cx5.out (fun h=>h)).mod Cx6.out (fun h=>h)).mod Cx8.out (fun h=>h)).mod Cx9.out (fun h=>h)).mod Cx25.out (by intro h2;rcases h2 with h2|h2<;>first|omega|(have hb:=HBB.out _ h2;omega)|exact HNPR.out h2|exact HNBR.out h2)).mod Cx40.out (by intro h2;omega)) (off:=0) (vs:=y1.cells) (by rw [St.len HYO1.out];exact Bb) (St.one y1) (by rw [St.len HYO1.out];decide) (E.v oe6) (ec (E.d 0 0)) ?_
 intro u14_1 qc0 hm
 have qB6:=qc0.eqv (b:=(y1.cells:List Value).toArray) (A0 _ _ (by rw [St.len HYO1.out];rfl))
 clear qc0
 have Hx41:=hid qB6
 have zu14_1:=hm.size
 have Cx42:=hid (show Mod (fun k=>(k=w.heap.size+1)) u13_4 u14_1 from hm)
 clear hm
 clear act E qB6 HB6
 refine QSeq.pure rfl (.int .i64 0) (fun E=>An rfl rfl) ?_
 refine QSeq.nil (t':=[_,_,_]) rfl ?_
 obtain rfl:=HA0.out
 clear HA0 oe6 oe11
 simp only [pz,Act.put,sIB,sCZ,sCS,List.set_nil]
 go_wp2
 refine bodyPost_ret (Bm rfl _ _ (w.heap.size+1) (y1.cells) rfl (fun k u hu=>by rw [Hx41.out.cell];simpa using hu) Try.underlying47 rfl (by rw [St.len HYO1.out];exact Bb)) rfl ?_
 have hye:y1=stampY L rep c t:=by rw [HY1.out,HY0.out];rfl
 have hke:B7 L (rep,B8 y0)=stampL L rep c t:=by rw [HY0.out];rfl
 rw [← hke]
 unfold stampS
 rw [← hye]
 exact ⟨rfl,⟨b,(Hx39.out.mod Cx42.out (by intro h2;omega)),HPR.out,HRB.out,(Hx38.out.mod Cx42.out (by intro h2;omega)),hne,hnw,hfl,(show t+1 < U64 by omega),(fun q hq=>by rcases List.mem_append.1 hq with hq|hq;exact HOKS.out q hq;(simp at hq;subst hq;exact HYO1.out))⟩,((Hx23.out.mod Cx40.out (by intro k h1 h2;rcases h2 with h2|h2<;>first|omega|(have hb:=HBB.out k h1;omega)|exact HNPR.out (h2▸h1)|exact HNPR.out (h1▸h2)|exact HNBR.out (h2▸h1)|exact HNBR.out (h1▸h2))).mod Cx42.out (sB HBB)),(((((((HM0.out.trans Cx5.out (fun _ _ h=>h.elim)).trans Cx6.out (fun _ _ h=>h.elim)).trans Cx8.out (fun _ _ h=>h.elim)).trans Cx9.out (fun _ _ h=>h.elim)).trans Cx25.out (by intro k h1 h2;rcases h2 with h2|h2<;>first|exact h2|omega|exact Or.inl h2|exact Or.inr h2|exact Or.inr (Or.inl h2)|exact Or.inr (Or.inr h2)|(have hb:=HBB.out k h2;omega)|exact (h2▸HPR.out)|exact (h2▸HRB.out)|exact Or.inl (h2▸HPR.out)|exact Or.inl (h2▸HRB.out))).trans Cx40.out (by intro k h1 h2;rcases h2 with h2|h2<;>first|exact h2|omega|exact Or.inl h2|exact Or.inr h2|exact Or.inr (Or.inl h2)|exact Or.inr (Or.inr h2)|exact (h2▸HPR.out)|exact (h2▸HRB.out)|exact Or.inl (h2▸HPR.out)|exact Or.inl (h2▸HRB.out))).trans Cx42.out (by intro k h1 h2;first|exact h2|omega|exact Or.inl h2|exact Or.inr h2|exact Or.inr (Or.inl h2)|exact Or.inr (Or.inr h2)|exact (h2▸HPR.out)|exact (h2▸HRB.out)|exact Or.inl (h2▸HPR.out)|exact Or.inl (h2▸HRB.out)))⟩
end Go.Proofs.Ytbifincepglilaa

/- What is made and stamped, in short; the book only grows. -/
namespace Go.Proofs.Ytbifincepglilaa
open Go Go.RowKit Go.Gv
theorem mkN_grow {L:List (Int × List Int)} {k:Int × List Int} (k':Int × List Int) (h:mkN L k≠0):mkN (B7 L k') k=mkN L k:=by
 unfold B7
 by_cases h':mkN L k'=0
 ·rw [if_pos h']
  have e:=marks_put 0 L k' (mkN_none h')
  have hne:¬ k'=k:=fun e=>h (e▸h')
  unfold mkN
  rw [← e,mlook_put]
  by_cases h2:k'=k
  ·exact absurd h2 hne
  ·first
   | rw [if_neg h2]
   | rw [if_neg (fun e=>h2 e.symm)]
 ·rw [if_neg h']
theorem right_grow {L:List (Int × List Int)} {k:Int} {c:Cm} (k':Int × List Int) (h:Bo L k c=true):Bo (B7 L k') k c=true:=by
 unfold Bo rightF at h ⊢
 simp only [Bool.and_eq_true] at h ⊢
 obtain ⟨⟨h1,h2⟩,h3,h4⟩:=h
 have h3':=of_decide_eq_true h3
 rw [mkN_grow k' h3']
 exact ⟨⟨h1,h2⟩,h3,h4⟩
def z32:List Int:=List.replicate 32 0
theorem z32_ok:HK z32:=⟨by simp [z32],fun b hb=>by rw [List.eq_of_mem_replicate hb];decide⟩
structure Made (L:List (Int × List Int)) (k a b:Int) (bs:List Int) (c:Cm) (L':List (Int × List Int)):Prop where
 ok:c.OK
 cl:c.cl=a
 sq:c.sq=b
 hh:c.h=shaF (ofT a b z32 bs)
 rt:Bo L' k c=true
 si:I64 (1000+c.cl)
 ln:L'.length≤L.length+1
 gr:∀ k q,Bo L k q=true→Bo L' k q=true
theorem RdR_nil (w:World):RdR (fun _=>False) 900000 w (.slice none 0 0) []:=
 (show OwR (fun _=>False) 900000 w (.slice none 0 0) [] from ⟨Own.nil _ _ _ _,(fun g h=>by cases h),Nat.zero_le _⟩).rd
theorem Make_B {R R':Nat→Prop} {N:Nat} {w:World} {g:Nat} {L:List (Int × List Int)} (hbk:BkR R w g L) (hLL:L.length≤1000) (k a b:Int) (bs:List Int) {v:Value} (ha:0≤a∧a < k) (hk:k≤100) (hb:1≤b∧b≤1048576) (hr:RdR R' N w v bs) (hl:bs.length≤256) :
 Calls Try.prog 10 #[.pointer (some ⟨g,0,none⟩),.agg #[.int .i64 a,.int .i64 b],hv z32,v] w fun e w'=>∃ c L',e=.returned (.agg c.cells.toArray)∧BkR R w' g L'∧Made L k a b bs c L'∧Mod R w w':=by
 have hia:I64 a:=by unfold I64;omega
 have his:I64 (1000+a):=by unfold I64;omega
 have hib:I64 b:=by unfold I64;omega
 refine (Make_Q hbk (by omega) a b z32 bs hia his hib z32_ok hr (by omega)).mono ?_
 rintro e w' ⟨rfl,h1,h2⟩
 refine ⟨_,_,rfl,h1,⟨mkCm_ok L a b z32 bs hia his hib (by omega) (by omega),rfl,rfl,rfl,?_,his,signF_le _ _ (Nat.le_refl _),fun k q h=>right_grow _ h⟩,h2⟩
 refine right_made L a b z32 bs k ?_
 unfold validF cm0
 simp only [Bool.and_eq_true,decide_eq_true_eq]
 omega
structure Stamped (L:List (Int × List Int)) (rep:Int) (c:Cm) (t:Nat) (y:St) (L':List (Int × List Int)):Prop where
 ok:y.OK
 tm:y.tm=t
 hh:y.h=c.h
 rp:y.rp=rep
 ln:L'.length≤L.length+1
 gr:∀ k q,Bo L k q=true→Bo L' k q=true
theorem Stamp_B {R Rb:Nat→Prop} {w:World} {p g:Nat} {f k rep:Int} {s:SS} {c:Cm} {L:List (Int × List Int)} (h:SpR R w p f k rep s) (hbk:BkR Rb w g L) (hB:∀ k,R k→k < w.heap.size) (hBb:∀ k,Rb k→k < w.heap.size) (hd:∀ k,R k→Rb k→False) (hco:c.OK) (hsi:I64 (1000+c.cl)) (hrt:Bo L k c=true) {t:Nat} (hml:Bs s.m (c.cl,c.sq)=none) (ht:t=max (max s.now (s.floor+1)) (s.last+1)) (htl:t+1 < U64) (hrp:I64 rep) (hbl2:L.length≤999999) :
 Calls Try.prog 14 #[.pointer (some ⟨p,0,none⟩),.pointer (some ⟨g,0,none⟩),.agg c.cells.toArray] w fun e w'=>∃ y L',e=.returned (.tuple #[.agg y.cells.toArray,.int .i64 0])∧SpR R w' p f k rep ⟨s.now,s.floor,t,s.m ++ [((c.cl,c.sq),y)]⟩∧BkR Rb w' g L'∧Stamped L rep c t y L'∧Mod (fun k=>(R k)∨(Rb k)) w w':=by
 refine (Stamp_new h hbk hB hBb hd hco hsi hrt hml ht htl hrp hbl2).mono ?_
 rintro e w' ⟨rfl,h1,h2,h3⟩
 refine ⟨_,_,rfl,h1,h2,⟨?_,rfl,rfl,rfl,signF_le _ _ (Nat.le_refl _),fun k q h=>right_grow _ h⟩,h3⟩
 exact ⟨hrp,hco.1.1,hco.1.2.1,hco.2,(show t < U64 by omega),hrp,mkN_I64 _ _ (signF_le _ _ hbl2)⟩
end Go.Proofs.Ytbifincepglilaa

/- maps.Clone of names and stamps; stamp.Stamper.Clone's map. -/
namespace Go.Proofs.Ytbifincepglilaa
open Go Go.RowKit Go.Gv
theorem MapB.clone {w:World} {b:Nat} {l:NMap} (h:MapB w b l):∃ es clock,w.heap[b]? = some (.map es clock)∧MapB (w.alloc (.map es clock)) w.heap.size l:=by
 obtain ⟨⟨⟨es,clock,hb,he0⟩,h2,h3⟩,es1,clock1,hb1,hborn⟩:=h
 rw [hb] at hb1
 cases hb1
 exact ⟨es,clock,hb,⟨⟨es,clock,heap_alloc_new w _,he0⟩,h2,h3⟩,es,clock,heap_alloc_new w _,hborn⟩
set_option maxHeartbeats 2000000 in
theorem MClone_Q {w:World} {b:Nat} {l:NMap} (h:MapB w b l):Calls Try.prog 42 #[.map (some b)] w fun e w'=>∃ c,e=.returned (.map (some c))∧MapB w' c l∧New w w' c∧Mod (fun _=>False) w w':=by
 obtain ⟨es,clock,hb,hc⟩:=h.clone
 have hq:=fun w=>run_eql_map_nil_sl (P:=Try.prog) w 57 _ _ (some b) Try.underlying57
 go_enter Try.func42,Try.ntmps42
 go_wp2
 rw [run_callFunc_extern Try.func60 (by kernel_rfl) (by kernel_rfl) (by kernel_rfl) (e:=Extern.MapsClone.clone) (by kernel_rfl),run_maps_clone_sl w 57 hb]
 simp only [Result.andThen]
 rw [Oper.upon_value]
 go_wp2
 rw [run_typeAssert_map_sl _ 57 _ _ _ _ Try.underlying57]
 simp only [Result.andThen]
 rw [Oper.upon_value]
 go_wp2
 go_ret
 exact ⟨_,rfl,hc,⟨Nat.le_refl _,by simp⟩,(Mod.refl _ _).alloc _⟩
end Go.Proofs.Ytbifincepglilaa

/- Slices of things as arguments: whatever a reading gives of them; rows, calls, numbers, truths. -/
namespace Go.Proofs.Ytbifincepglilaa
open Go Go.RowKit Go.Gv Go.ChangeShapes Go.WideShapes Go.ChangeAt Go.Deep
/-- whatever reads as a T reads as one of A -/
def Reads {α:Type} (A:Rep α) (T:TypeId):Prop:=∀ (H:Type) (enc:TypeId × Value→H) (W:World) (fuel:Nat) (cs:List Value) (x:DataW H × List MemPlace),DataW.trod enc Try.prog W 0 (fun _=>true) true fuel T cs=some x→∃ a,A.rd (fun k=>k < W.heap.size) W cs a
theorem all_list {α:Type} {P:List Value→α→Prop}:∀ (css:List (List Value)),(∀ cs ∈ css,∃ a,P cs a)→∃ l:List α,l.length=css.length∧∀ (i:Nat) cs a,css[i]? = some cs→l[i]? = some a→P cs a
 | [],_=>⟨[],rfl,fun i cs a h=>by simp at h⟩
 | c :: r,h=>by
  obtain ⟨a,ha⟩:=h c (by simp)
  obtain ⟨l,h1,h2⟩:=all_list r fun cs hcs=>h cs (by simp [hcs])
  refine ⟨a :: l,by simp [h1],fun i cs b hi hb=>?_⟩
  cases i with
  | zero=>simp at hi hb;subst hi hb;exact ha
  | succ i=>simp at hi hb;exact h2 i cs b hi hb
theorem trod_slice {α:Type} {A:Rep α} {t e:TypeId} {H:Type} {enc:TypeId × Value→H} {W:World} {fuel:Nat} {v:Value} {x:DataW H × List MemPlace} (hr:Reads A e) (ht:Try.prog.underlying t=some (.slice e)) (hce:Try.prog.cellsOf e=A.sz)
 (h:DataW.trod enc Try.prog W 0 (fun _=>true) true fuel t [v]=some x):∃ l:List α,RdS A (fun k=>k < W.heap.size) W v l:=by
 haveI:Inhabited {cs:List Value // cs.length=A.sz}:=⟨⟨List.replicate A.sz undef,by simp⟩⟩
 have hsh:∃ ao n cap,v=.slice ao n cap∧n≤cap∧cap≤maxLen∧(ao=none→cap=0):=by
  rcases open_slice ht h with ⟨hcs,_⟩|⟨a,len,cap,m,n,D,Pl,hcs,_,hl,hm,hmm,_,hel⟩
  ·simp at hcs;subst hcs;exact ⟨none,0,0,rfl,Nat.le_refl _,Nat.zero_le _,fun _=>rfl⟩
  ·simp at hcs;subst hcs;simp only [if_true] at hmm;subst hmm;exact ⟨some a,len,_,rfl,hl,hm,fun h=>by cases h⟩
 obtain ⟨raws,h1,h2⟩:=trod_list (fun a:{cs:List Value // cs.length=A.sz}=>a.1) (fun a=>∃ y,A.rd (fun k=>k < W.heap.size) W a.1 y) ht hce A.pos (fun a=>a.2)
  (fun fuel cs x hx=>by obtain ⟨a,ha⟩:=hr H enc W fuel cs x hx;exact ⟨⟨cs,A.len ha⟩,rfl,a,ha⟩) h
 obtain ⟨l,hl,hP⟩:=all_list (P:=fun cs a=>A.rd (fun k=>k < W.heap.size) W cs a) (raws.map (·.1)) (fun cs hcs=>by obtain ⟨a,ha,rfl⟩:=List.mem_map.1 hcs;exact h2 a ha)
 have hl':l.length=raws.length:=by simpa using hl
 refine ⟨l,raws.map (·.1),by simp [hl'],hP,?_,?_⟩
 ·have hcl:∀ cs ∈ raws.map (·.1),cs.length=A.sz:=fun cs hcs=>by obtain ⟨a,_,rfl⟩:=List.mem_map.1 hcs;exact a.2
  have hfl:=flat_len hcl
  rcases h1 with ⟨rfl,ao,cap,rfl⟩|⟨g,o,cap,hg,rfl,h0,hc,hm,hcell⟩
  ·obtain ⟨ao',n',cap',e',g1,g2,g3⟩:=hsh
   cases e'
   obtain rfl:l=[]:=List.eq_nil_of_length_eq_zero (by simpa using hl')
   exact Rd.zero _ _ _ _ g2 g3
  ·rw [hl']
   refine Rd.mk hc hm (by rw [hfl];simp) fun j u hu=>?_
   have hj:=(List.getElem?_eq_some_iff.1 hu).1
   rw [hfl] at hj
   simp only [List.length_map] at hj
   have hq:j / A.sz < raws.length:=Nat.div_lt_of_lt_mul (by rw [Nat.mul_comm];exact hj)
   have hmod:=Nat.mod_lt j A.pos
   have hdm:=Nat.div_add_mod j A.sz
   have hgt:=flat_get hcl (j / A.sz) raws[j / A.sz].1 (by simp [List.getElem?_eq_getElem hq]) (j % A.sz) (raws[j / A.sz].1[j % A.sz]'(by rw [raws[j / A.sz].2];exact hmod)) (List.getElem?_eq_getElem _)
   rw [show j / A.sz * A.sz+j % A.sz=j by rw [Nat.mul_comm];exact hdm] at hgt
   rw [hgt] at hu
   have:=hcell (j / A.sz) hq (j % A.sz) u (by rw [List.getElem?_eq_getElem (by rw [raws[j / A.sz].2];exact hmod)];exact hu)
   rw [show o+j / A.sz * A.sz+j % A.sz=o+j by rw [Nat.add_assoc,Nat.mul_comm,hdm]] at this
   exact this
 ·intro h0 g hg
  rcases h1 with ⟨rfl,ao,cap,rfl⟩|⟨g',o,cap,hg',rfl,_⟩
  ·simp at hl';rw [hl'] at h0;simp at h0
  ·simp [Value.ownBlock] at hg;subst hg;exact hg'
theorem slice_arg {α:Type} {A:Rep α} {t e:TypeId} (hr:Reads A e) (ht:Try.prog.underlying t=some (.slice e)) (hce:Try.prog.cellsOf e=A.sz) {H:Type} {enc:TypeId × Value→H} {W:World} {v:Value} {d:DataW H} {p:List MemPlace}
 (h:DataW.Trod enc Try.prog W 0 (fun _=>true) true t v d p) {base:Nat} (hv:Value.okWide Try.prog W .any base t v):∃ l:List α,RdS A (fun k=>k < W.heap.size) W v l:=by
 obtain ⟨a0,len0,cap0,rfl⟩:=okWide_slice ht hv
 obtain ⟨fuel,hf⟩:=h
 exact trod_slice hr ht hce hf
theorem RdR_keepY {R:Nat→Prop} {N:Nat} {w w':World} {v:Value} {bs:List Int} (h:RdR R N w v bs) (hk:∀ p u,R p.block→w.cell? p=some u→w'.cell? p=some u):RdR R N w' v bs:=
 ⟨⟨h.1.1,h.1.2.keepc fun h0 g hg p u hp hc=>hk p u (hp▸h.2.1 h0 g hg) hc⟩,h.2⟩
theorem RdR_tightY {R:Nat→Prop} {N:Nat} {w:World} {v:Value} {bs:List Int} (h:RdR R N w v bs):RdR (fun k=>R k∧k < w.heap.size) N w v bs:=
 ⟨h.1,fun h0 g hg=>⟨h.2.1 h0 g hg,h.1.2.lt (by decide) h0 hg⟩,h.2.2⟩
/-- a call of a log's play -/
structure Ac where
 d:Int
 n:Int
 b:List Int
def Ac.OK (a:Ac):Prop:=(-9223372036854775808≤a.d∧a.d≤9223372036854775807)∧(-9223372036854775808≤a.n∧a.n≤9223372036854775807)
end Go.Proofs.Ytbifincepglilaa

/- A call of the stamper's play, as an argument; a map of stamps that is a law's own. -/
namespace Go.Proofs.Ytbifincepglilaa
open Go Go.RowKit Go.Gv Go.ChangeShapes Go.WideShapes Go.ChangeAt Go.Deep
structure Sa where
 d:Int
 x:Int
 t:Nat
 cl:Int
 sq:Int
 b:List Int
def Sa.OK (a:Sa):Prop:=(-9223372036854775808≤a.d∧a.d≤9223372036854775807)∧(-9223372036854775808≤a.x∧a.x≤9223372036854775807)∧a.t < U64∧(-9223372036854775808≤a.cl∧a.cl≤9223372036854775807)∧(-9223372036854775808≤a.sq∧a.sq≤9223372036854775807)
def Sa.cells (a:Sa) (v:Value):List Value:=[.int .i64 a.d,.int .i64 a.x,.int .u64 (a.t:Nat),.int .i64 a.cl,.int .i64 a.sq,v]
def SaR:Rep Sa where
 sz:=6
 pos:=by decide
 rd R w cs a:=∃ v,cs=a.cells v∧a.OK∧RdR R a.b.length w v a.b
 len h:=by obtain ⟨v,rfl,_⟩:=h;rfl
 one h:=by
  obtain ⟨v,rfl,_,h0⟩:=h
  obtain ⟨_,_,e⟩:=h0.shape
  subst e
  intro u hu
  simp only [Sa.cells,List.mem_cons,List.not_mem_nil,or_false] at hu
  rcases hu with rfl|rfl|rfl|rfl|rfl|rfl<;>rfl
 keep h hk:=by obtain ⟨v,rfl,ho,h0⟩:=h;exact ⟨v,rfl,ho,RdR_keepY h0 hk⟩
 wid h hs:=by obtain ⟨v,rfl,ho,h0⟩:=h;exact ⟨v,rfl,ho,h0.widen hs (Nat.le_refl _)⟩
 tight h:=by obtain ⟨v,rfl,ho,h0⟩:=h;exact ⟨v,rfl,ho,RdR_tightY h0⟩
theorem reads_sa:Reads SaR 59:=by
 intro H enc W fuel cs x h
 obtain ⟨xs,n,_,rfl,hl,hn,hf⟩:=DataW.trod_struct Try.underlying59 h
 rw [show Try.prog.cellsOf 59=6 from by kernel_rfl] at hl
 have f0:DataW.trod enc Try.prog W 0 (fun _=>true) true n 3 ((cs.drop 0).take (Try.prog.cellsOf 3))=xs[0]?:=hf 0 _ rfl
 have f1:DataW.trod enc Try.prog W 0 (fun _=>true) true n 3 ((cs.drop 1).take (Try.prog.cellsOf 3))=xs[1]?:=hf 1 _ rfl
 have f2:DataW.trod enc Try.prog W 0 (fun _=>true) true n 45 ((cs.drop 2).take (Try.prog.cellsOf 45))=xs[2]?:=hf 2 _ rfl
 have f3:DataW.trod enc Try.prog W 0 (fun _=>true) true n 30 ((cs.drop 3).take (Try.prog.cellsOf 30))=xs[3]?:=hf 3 _ rfl
 have f4:DataW.trod enc Try.prog W 0 (fun _=>true) true n 38 ((cs.drop 5).take (Try.prog.cellsOf 38))=xs[4]?:=hf 4 _ rfl
 have hxs:xs.length=5:=hn
 rw [List.getElem?_eq_getElem (by omega)] at f0 f1 f2 f3 f4
 rw [show Try.prog.cellsOf 3=1 from by kernel_rfl] at f0 f1
 rw [show Try.prog.cellsOf 45=1 from by kernel_rfl] at f2
 rw [show Try.prog.cellsOf 30=2 from by kernel_rfl] at f3
 rw [show Try.prog.cellsOf 38=1 from by kernel_rfl] at f4
 match cs,hl with
 | [c0,c1,c2,c3,c4,c5],_=>
  simp only [List.drop_zero,List.drop_succ_cons,List.take_succ_cons,List.take_zero] at f0 f1 f2 f3 f4
  obtain ⟨q0,e0,_,w0⟩:=DataW.trod_int Try.underlying3 f0
  obtain ⟨q1,e1,_,w1⟩:=DataW.trod_int Try.underlying3 f1
  obtain ⟨q2,e2,_,w2⟩:=DataW.trod_int Try.underlying45 f2
  obtain ⟨ys,m,_,_,hl3,hn3,hf3⟩:=DataW.trod_struct Try.underlying30 f3
  have g0:DataW.trod enc Try.prog W 0 (fun _=>true) true m 3 (([c3,c4].drop 0).take (Try.prog.cellsOf 3))=ys[0]?:=hf3 0 _ rfl
  have g1:DataW.trod enc Try.prog W 0 (fun _=>true) true m 3 (([c3,c4].drop 1).take (Try.prog.cellsOf 3))=ys[1]?:=hf3 1 _ rfl
  have hys:ys.length=2:=hn3
  rw [List.getElem?_eq_getElem (by omega)] at g0 g1
  rw [show Try.prog.cellsOf 3=1 from by kernel_rfl] at g0 g1
  simp only [List.drop_zero,List.drop_succ_cons,List.take_succ_cons,List.take_zero] at g0 g1
  obtain ⟨q3,e3,_,w3⟩:=DataW.trod_int Try.underlying3 g0
  obtain ⟨q4,e4,_,w4⟩:=DataW.trod_int Try.underlying3 g1
  obtain ⟨b5,r5⟩:=trod_bytes f4
  obtain ⟨k2,hk2,hu2⟩:=u64_nat w2
  simp at e0 e1 e2 e3 e4
  subst e0 e1 e2 e3 e4 hk2
  exact ⟨⟨q0,q1,k2,q3,q4,b5⟩,c5,rfl,⟨i64_bd w0,i64_bd w1,hu2,i64_bd w3,i64_bd w4⟩,r5⟩
theorem SpR.bd {R:Nat→Prop} {w:World} {p:Nat} {f k rep:Int} {s:SS} (h:SpR R w p f k rep s):s.now < U64∧s.floor+1 < U64∧s.last+1 < U64:=by
 obtain ⟨b,-,-,-,-,-,h1,h2,h3,-⟩:=h
 exact ⟨h1,h2,h3⟩
theorem SpR.oks {R:Nat→Prop} {w:World} {p:Nat} {f k rep:Int} {s:SS} (h:SpR R w p f k rep s):∀ q ∈ s.m,q.2.OK:=by
 obtain ⟨b,-,-,-,-,-,-,-,-,h4⟩:=h
 exact h4
abbrev GmI (w:World) (b:Nat) (l:NMap):Prop:=MapIs w b nmV St.val NmK l
theorem ex_lenM {w:World} {a:Act} {o:Oper} {x:Operand} {b:Nat} {l:NMap} (ho:o.op=.call { callee:=.builtin .len,args:=#[x],argTypes:=#[57] }) (hx:a.eval x=.map (some b)) (h:GmI w b l):(execOp a.eval o).run Try.prog w=.ok (.value (.int .i64 ((l.length:Nat):Int))) w:=by
 have hl:=h.len Try.underlying57 o.type
 unfold execOp
 simp [ho,resolve,invoke,builtin,hx,hl,Result.andThen]
end Go.Proofs.Ytbifincepglilaa
