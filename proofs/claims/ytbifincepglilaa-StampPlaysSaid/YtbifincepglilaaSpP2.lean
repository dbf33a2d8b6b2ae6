/- Texts that are built one behind the other: XCode2, XCode3, XCode1, XCode4, XKeep2, XCodeW, XPlain1, XReg, XLift, XFits, XIdx, XArith, XQ2, XQ4, XQ5, XS, XRef1, XJoin, XQ3, XDisk, XDisk2, XDisk3, XDisk4, XActs, XLoc, XPlain2, XWalP, XVa0, XVq, XBl, XSha1, XSha2, XSha3, XSha4, XOwV, XNums. No condition. -/
import Derived.Test.YtbifincepglilaaSpP1
import Derived.Laws.Cover3
import Derived.Deep.DeepMust
import Derived.Laws.CopyOwn
import Derived.OpenShut
import Derived.ProofKit
import Derived.ChangeOld
import Derived.Deep.Slices
import Derived.Laws.Small
import Derived.Lib.ConvBytes
import Derived.Deep.RegionHeld3
import Derived.IntWalk
import Derived.Deep.Cut
import Derived.Deep.CutBlock
set_option maxRecDepth 100000
set_option linter.unusedVariables false
open List renaming setIfInBounds_toArray → sIB, set_cons_zero → sCZ, set_cons_succ → sCS
/- code.Reader: what each of its methods reads, and what is left. -/
namespace Go.Proofs.Ytbifincepglilaa
open Go Go.RowKit Go.Gv
/-! ### what a reader answers: its state is 'none' once it has failed, else the bytes that are left -/
def decGo:Nat→Nat→List Int→Option (Nat × List Int)
 | _,_,[]=>none
 | i,acc,c :: cs=>
  if i=9∧1 < c then none
  else if c < 128 then (if c=0∧0 < i then none else some (acc+c.toNat * 2 ^ (7 * i),cs))
  else decGo (i+1) (acc+(c.toNat - 128) * 2 ^ (7 * i)) cs
abbrev RSt:=Option (List Int)
def rNum:RSt→Nat × RSt
 | none=>(0,none)
 | some bs=>match decGo 0 0 bs with
  | some (n,r)=>(n,some r)
  | none=>(0,none)
def rTake (n:Nat):RSt→List Int × RSt
 | none=>([],none)
 | some bs=>if bs.length < n then ([],none) else (bs.take n,some (bs.drop n))
def rInt (most:Int) (s:RSt):Nat × RSt:=
 if (rNum s).2.isNone∨most < 0∨most < (rNum s).1 then (0,none) else rNum s
def rRow (most:Int) (s:RSt):List Int × RSt:=rTake (rInt most s).1 (rInt most s).2
def rHash (s:RSt):List Int × RSt:=
 match rTake 32 s with
 | (_,none)=>(List.replicate 32 0,none)
 | (b,some r)=>(b,some r)
/-- a reader: its bytes, whether it has failed -/
def Rr (T:TypeId) (w:World) (r:Nat) (v:Value) (s:RSt):Prop:=Cs w r #[v,.bool s.isNone] T∧RdB w v (s.getD [])∧Apart v (s.getD []).length (fun k=>k=r)
/-- what has become of a reader: its slice lies where it lay -/
def RrTo (T:TypeId) (w:World) (r:Nat) (v:Value) (s:RSt) (w':World):Prop:=
 ∃ v',Rr T w' r v' s∧Mod (fun k=>k=r) w w'∧(0 < (s.getD []).length→v'.ownBlock=v.ownBlock)
theorem Rr.mod {T:TypeId} {S:Nat→Prop} {w w':World} {r:Nat} {v:Value} {s:RSt} (h:Rr T w r v s) (hm:Mod S w w') (hr:¬ S r) (hv:Apart v (s.getD []).length S):Rr T w' r v s:=
 ⟨h.1.mod hm hr,h.2.1.mod hm hv,h.2.2⟩
theorem RrTo.trans {T:TypeId} {w w1 w2:World} {r:Nat} {v v1:Value} {s1 s2:RSt} (hm:Mod (fun k=>k=r) w w1) (hb:0 < (s1.getD []).length→v1.ownBlock=v.ownBlock)
 (h:RrTo T w1 r v1 s2 w2) (hl:(s2.getD []).length≤(s1.getD []).length):RrTo T w r v s2 w2:=by
 obtain ⟨v2,h1,h2,h3⟩:=h
 exact ⟨v2,h1,hm.trans h2 (fun _ _ h=>h),fun h=>(h3 h).trans (hb (by omega))⟩
end Go.Proofs.Ytbifincepglilaa

/- code.Reader.Num: the next number. -/
namespace Go.Proofs.Ytbifincepglilaa
open Go Go.RowKit Go.Gv
theorem rNum_none {l:List Int} (h:decGo 0 0 l=none):rNum (some l)=(0,none):=by simp [rNum,h]
theorem rNum_some {l:List Int} {n:Nat} {r:List Int} (h:decGo 0 0 l=some (n,r)):rNum (some l)=(n,some r):=by simp [rNum,h]
/-- an array of 32 bytes, as a value -/
def hv (h:List Int):Value:=.agg (h.map bv).toArray
theorem Bj:(Try.prog.info? 32).map (·.size)=some 32:=by kernel_rfl
end Go.Proofs.Ytbifincepglilaa

/- code.Writer: what each of its methods does to the bytes written. -/
namespace Go.Proofs.Ytbifincepglilaa
open Go Go.RowKit Go.Gv
/-- seven binary digits a byte, the lowest first -/
def encN (n:Nat):List Int:=if n < 128 then [(n:Int)] else ((n:Int) % 128+128) :: encN (n / 128)
termination_by n
decreasing_by omega
theorem encN_lt {n:Nat} (h:n < 128):encN n=[(n:Int)]:=by rw [encN,if_pos h]
theorem encN_ge {n:Nat} (h:128≤n):encN n=((n:Int) % 128+128) :: encN (n / 128):=by rw [encN,if_neg (by omega)]
theorem encN_len (k:Nat):∀ n,n < 128 ^ (k+1)→1≤(encN n).length∧(encN n).length≤k+1:=by
 induction k with
 | zero=>intro n hn;rw [encN_lt (by omega)];simp
 | succ k ih=>
  intro n hn
  by_cases h:n < 128
  ·rw [encN_lt h];simp
  ·rw [encN_ge (by omega)]
   have:=ih (n / 128) (by rw [Nat.pow_succ] at hn;omega)
   simp only [List.length_cons];omega
theorem encN_pos (n:Nat):1≤(encN n).length:=by
 by_cases h:n < 128
 ·rw [encN_lt h];simp
 ·rw [encN_ge (by omega)];simp
theorem encN_len10 {n:Nat} (h:n < U64):1≤(encN n).length∧(encN n).length≤10:=
 encN_len 9 n (Nat.lt_of_lt_of_le h (by unfold U64;decide))
theorem or128 (m:Nat):bits .or .u8 ((m:Int) % 256) 128=(m:Int) % 128+128:=by
 have e:((m:Int) % 256)=((m % 256:Nat):Int):=by omega
 have h:=u8_or_nat (m % 256) 128 (by omega) (by omega)
 rw [e]
 refine h.trans ?_
 have d:∀ x,x < 256→x ||| 128=x % 128+128:=by decide
 rw [d _ (by omega),Nat.mod_mod_of_dvd _ (by decide)];omega
def Wr (w:World) (b:Nat) (v:Value) (bs:List Int):Prop:=Cs w b #[v] 118∧OwnB w v bs
def WrTo (w:World) (b:Nat) (v:Value) (bs:List Int) (w':World):Prop:=
 ∃ v',Wr w' b v' bs∧Mod (fun k=>k=b∨some k=v.ownBlock) w w'∧(v'.ownBlock=v.ownBlock∨∃ k,v'.ownBlock=some k∧w.heap.size≤k)
theorem Wr.mod {S:Nat→Prop} {w w':World} {b:Nat} {v:Value} {bs:List Int} (h:Wr w b v bs) (hm:Mod S w w') (hb:¬ S b) (hv:∀ g,v.ownBlock=some g→¬ S g):Wr w' b v bs:=
 ⟨h.1.mod hm hb,OwnB.mod h.2 hm hv⟩
theorem WrTo.refl {w:World} {b:Nat} {v:Value} {bs:List Int} (h:Wr w b v bs):WrTo w b v bs w:=⟨v,h,Mod.refl _ _,.inl rfl⟩
theorem WrTo.trans {w w1 w2:World} {b:Nat} {v v1:Value} {bs2:List Int} (hm:Mod (fun k=>k=b∨some k=v.ownBlock) w w1)
 (hf:v1.ownBlock=v.ownBlock∨∃ k,v1.ownBlock=some k∧w.heap.size≤k) (h:WrTo w1 b v1 bs2 w2):WrTo w b v bs2 w2:=by
 obtain ⟨v',h1,h2,h3⟩:=h
 refine ⟨v',h1,hm.trans h2 ?_,?_⟩
 ·intro i hi hS
  rcases hS with hS|hS
  ·exact .inl hS
  ·rcases hf with hf|⟨k,hf,hk⟩
   ·exact .inr (hS.trans hf)
   ·rw [hf] at hS;simp at hS;omega
 ·rcases h3 with h3|⟨k,h3,hk⟩
  ·rw [h3];exact hf
  ·exact .inr ⟨k,h3,Nat.le_trans hm.size hk⟩
/-- the store of what an append gave into the writer -/
theorem Wr_step {w w1:World} {b:Nat} {v:Value} {bs:List Int} {v1:Value} (hW:Wr w b v bs) (wx:World) (hx:Mod (fun _=>False) w wx) (new:List Int)
 (h:AppB wx v (bs ++ new) v1 w1) (hv:v.ownBlock≠some b) :
 w1.cell? ⟨b,0,none⟩=some v∧w1.frozen? ⟨b,0,none⟩=false∧WrTo w b v (bs ++ new) (w1.setCell ⟨b,0,none⟩ v1):=by
 obtain ⟨hc,ho⟩:=hW
 obtain ⟨h1,h2,h3⟩:=h
 have hb:¬ (some b=v.ownBlock):=fun e=>hv e.symm
 have hc1:Cs w1 b #[v] 118:=(hc.mod hx id).mod h2 hb
 refine ⟨by rw [hc1.cell];rfl,hc1.frozen 0,v1,⟨hc1.set 0 v1,?_⟩,?_,?_⟩
 ·refine Own.other h1 ?_ _
  intro g hg e
  subst e
  rcases h3 with h3|⟨k,h3,hk⟩
  ·rw [h3] at hg;exact hv hg
  ·rw [h3] at hg;simp at hg;subst hg;have:=hc.lt;have:=hx.size;omega
 ·exact ((hx.mono (fun _ _ h=>h.elim)).trans h2 (fun i _ h=>.inr h)).setCell (fun _=>.inl rfl) _
 ·rcases h3 with h3|⟨k,h3,hk⟩
  ·exact .inl h3
  ·exact .inr ⟨k,h3,Nat.le_trans hx.size hk⟩
theorem Wr_ne {w:World} {b:Nat} {v:Value} {bs:List Int} (hW:Wr w b v bs):v.ownBlock≠some b:=by
 obtain ⟨hc,_,_,⟨rfl,_⟩|⟨g,cap,cur,rfl,hg,_⟩⟩:=hW
 ·simp [Value.ownBlock]
 ·simp only [Value.ownBlock,ne_eq,Option.some.injEq]
  intro e
  subst e
  unfold Cs at hc hg
  rw [hc] at hg
  simp at hg
theorem Num_any (b n:Nat) (v:Value) (bs:List Int) (w:World) (hW:Wr w b v bs) (hn:n < U64) (hl:bs.length+10≤Room) :
 Calls Try.prog 54 #[.pointer (some ⟨b,0,none⟩),.int .u64 n] w fun e w'=>e=.returned (.pointer (some ⟨b,0,none⟩))∧WrTo w b v (bs ++ encN n) w':=by
 have hen:=encN_len10 hn
 clear hn
 go_enter Try.func54,Try.ntmps54
 go_wp2
 go_loopw [1] (fun t wr=>∃ (m:Nat) (bs':List Int),t=.int .u64 m∧m≤n∧bs' ++ encN m=bs ++ encN n∧WrTo w b v bs' wr) (fun t _=>(intOf t).toNat)
 case atStart=>exact ⟨n,bs,rfl,Nat.le_refl _,rfl,.refl hW⟩
 case round=>
  obtain ⟨m,bs',rfl,hm,hbs,v',hW',hmod,hfr⟩:=hrel
  have hlen:bs'.length+(encN m).length=bs.length+(encN n).length:=by have:=congrArg List.length hbs;simpa using this
  have hcell:wr.cell? ⟨b,0,none⟩=some v':=(hW'.1.cell 0).trans rfl
  have hlt:=hW'.1.lt
  have hpos:=encN_pos m
  have hroom:bs'.length+1≤Room:=by omega
  have Hne:=Lib.hid (Wr_ne hW')
  have Hbs:=Lib.hid hbs
  have Hfr:=Lib.hid hfr
  have Hm:=Lib.hid hmod
  have Hr:=Lib.hid hroom
  clear hbs hfr hmod hlen hl hen hroom hpos
  by_cases h128:(128:Int)≤m
  ·have hor:=or128 m
   go_wp2_with (at_builtin;refine wpList_appB rfl (.tmp 11) (.tmp 15) rfl rfl (hW'.2.alloc _) (new:=[(m:Int) % 128+128]) rfl (RdB_one _ (by omega) (by omega) _) Hr.out ?_)
   intro ao cap w1 happ
   obtain ⟨hc1,hf1,hWT⟩:=Wr_step hW' _ ((Mod.refl _ _).alloc _) [(m:Int) % 128+128] happ Hne.out
   have HWT:=Lib.hid hWT
   clear hWT happ hor
   go_wp2
   go_roundw
   case rel=>exact ⟨m / 128,_,by go_num,by omega,by have:=Hbs.out;rw [encN_ge (by omega)] at this;simpa using this,WrTo.trans Hm.out Hfr.out HWT.out⟩
   case measure=>simp [intOf];omega
  ·go_wp2_with (at_builtin;refine wpList_appB rfl (.tmp 25) (.tmp 28) rfl rfl (hW'.2.alloc _) (new:=[(m:Int)]) rfl (RdB_one _ (by omega) (by omega) _) Hr.out ?_)
   intro ao cap w1 happ
   obtain ⟨hc1,hf1,hWT⟩:=Wr_step hW' _ ((Mod.refl _ _).alloc _) [(m:Int)] happ Hne.out
   have HWT:=Lib.hid hWT
   clear hWT happ
   go_wp2
   go_ret
   refine ⟨rfl,?_⟩
   have hb:=Hbs.out
   rw [encN_lt (by omega)] at hb
   rw [← hb]
   exact WrTo.trans Hm.out Hfr.out HWT.out
theorem encN_bytes:∀ n,Bytes (encN n):=by
 intro n
 induction n using Nat.strongRecOn with
 | _ n ih=>
  by_cases h:n < 128
  ·rw [encN_lt h];exact Bytes.one (by omega) (by omega)
  ·rw [encN_ge (by omega)]
   intro x hx
   rcases List.mem_cons.1 hx with rfl|hx
   ·omega
   ·exact ih (n / 128) (by omega) x hx
/-- a number from 0 on -/
def encI (n:Int):List Int:=encN (max 0 n).toNat
theorem WInt_any (b:Nat) (n:Int) (v:Value) (bs:List Int) (w:World) (hW:Wr w b v bs) (hn:-9223372036854775808≤n∧n≤9223372036854775807) (hl:bs.length+10≤Room) :
 Calls Try.prog 45 #[.pointer (some ⟨b,0,none⟩),.int .i64 n] w fun e w'=>e=.returned (.pointer (some ⟨b,0,none⟩))∧WrTo w b v (bs ++ encI n) w':=by
 have hU:(max 0 n).toNat < U64:=by unfold U64;omega
 have key:=Num_any b (max 0 n).toNat v bs w hW hU hl
 have Hl:=Lib.hid hl
 clear hU hl key
 by_cases h0:0 < n
 ·obtain ⟨k,rfl⟩:=Int.eq_ofNat_of_zero_le (Int.le_of_lt h0)
  have ek:(max 0 (k:Int)).toNat=k:=by omega
  unfold encI
  rw [ek]
  clear ek
  go_enter Try.func45,Try.ntmps45
  go_wp2_with (go_at_call 54;go_must (refine (Num_any b k v bs _ hW (by unfold U64;omega) Hl.out).mono ?_);rintro e w' ⟨rfl,hWT⟩;have HW:=Lib.hid hWT;clear hWT)
  go_ret
  exact ⟨rfl,HW.out⟩
 ·have ek:(max 0 n).toNat=0:=by omega
  unfold encI
  rw [ek]
  clear ek
  go_enter Try.func45,Try.ntmps45
  go_wp2_with (go_at_call 54;go_must (refine (Num_any b 0 v bs _ hW (by unfold U64;omega) Hl.out).mono ?_);rintro e w' ⟨rfl,hWT⟩;have HW:=Lib.hid hWT;clear hWT)
  go_ret
  exact ⟨rfl,HW.out⟩
theorem encI_len (n:Int) (hn:n≤9223372036854775807):1≤(encI n).length∧(encI n).length≤10:=encN_len10 (by unfold U64;omega)
theorem encI_bytes (n:Int):Bytes (encI n):=encN_bytes _
theorem encI_nat (n:Nat):encI n=encN n:=by unfold encI;congr 1
theorem NewWriter_any (w:World) :
 Calls Try.prog 43 #[] w fun e w'=>e=.returned (.pointer (some ⟨w.heap.size,0,none⟩))∧Wr w' w.heap.size (.slice none 0 0) []∧Mod (fun _=>False) w w':=by
 go_enter Try.func43,Try.ntmps43
 go_wp2
 go_ret
 exact ⟨rfl,⟨Cs.new _ _ _,OwnB.nil _⟩,(Mod.refl _ _).alloc _⟩
/-- the bytes written, in new memory -/
theorem WBytes_any (b:Nat) (v:Value) (bs:List Int) (w:World) (hW:Wr w b v bs) (hl:bs.length≤Room) :
 Calls Try.prog 48 #[.pointer (some ⟨b,0,none⟩)] w fun e w'=>∃ ao cap,e=.returned (.slice ao bs.length cap)∧OwnB w' (.slice ao bs.length cap) bs∧Fresh w (.slice ao bs.length cap)∧Mod (fun _=>False) w w':=by
 have hcell:w.cell? ⟨b,0,none⟩=some v:=(hW.1.cell 0).trans rfl
 have Hl:=Lib.hid (show ([]:List Int).length+bs.length≤Room by simpa using hl)
 clear hl
 go_enter Try.func48,Try.ntmps48
 go_wp2_with (at_builtin;refine wpList_appB rfl (.const (.slice none 0 0)) (.tmp 6) rfl rfl (OwnB.nil _) (new:=bs) rfl hW.2.rd Hl.out ?_)
 intro ao cap w1 happ
 have HA:=Lib.hid happ
 clear happ
 go_wp2
 go_ret
 obtain ⟨h1,h2,h3⟩:=HA.out
 simp only [List.length_nil,Nat.zero_add] at *
 refine ⟨ao,cap,rfl,h1,?_,h2.mono (fun k _ hk=>by simp [Value.ownBlock] at hk)⟩
 intro g hg
 rcases h3 with h3|⟨k,h3,hk⟩
 ·rw [h3] at hg;cases hg
 ·rw [h3] at hg;simp at hg;omega
theorem WRow_any (b:Nat) (v:Value) (bs:List Int) (ao:Option Addr) (cap:Nat) (cs:List Int) (w:World) (hW:Wr w b v bs) (hr:RdB w (.slice ao cs.length cap) cs)
 (hs:Apart (.slice ao cs.length cap) cs.length (fun k=>k=b∨some k=v.ownBlock)) (hl:bs.length+cs.length+10≤Room) :
 Calls Try.prog 44 #[.pointer (some ⟨b,0,none⟩),.slice ao cs.length cap] w fun e w'=>e=.returned (.pointer (some ⟨b,0,none⟩))∧WrTo w b v (bs ++ (encN cs.length ++ cs)) w':=by
 have hR:cs.length < 9223372036854775807:=by unfold Room at hl;omega
 have HR:=Lib.hid hR
 have h10:=encN_len10 (n:=cs.length) (by unfold U64;omega)
 have Hl:=Lib.hid (show (bs ++ encN cs.length).length+cs.length≤Room by simp;omega)
 have Hl2:=Lib.hid (show bs.length+10≤Room by omega)
 have Hs:=Lib.hid hs
 clear hs hl hR h10
 go_enter Try.func44,Try.ntmps44
 go_wp2_with (first
  | (go_at_call 45;go_must (refine (WInt_any b cs.length v bs _ hW (by have:=HR.out;omega) Hl2.out).mono ?_);rintro e w1 ⟨rfl,v1,hW1,hm1,hf1⟩;have hcell:w1.cell? ⟨b,0,none⟩=some v1:=(hW1.1.cell 0).trans rfl;rw [encI_nat] at hW1;have hr1:RdB w1 (.slice ao cs.length cap) cs:=hr.mod hm1 Hs.out;have HM1:=Lib.hid hm1;have HF1:=Lib.hid hf1;clear hm1 hf1)
  | (at_builtin;go_must (refine wpList_appB rfl (.tmp 13) (.tmp 14) rfl rfl hW1.2 (new:=cs) rfl hr1 Hl.out ?_)))
 intro ao1 cap1 w2 happ
 rw [← List.append_assoc] at happ
 obtain ⟨hc1,hf1,hWT⟩:=Wr_step hW1 w1 (Mod.refl _ _) cs happ (Wr_ne hW1)
 have HWT:=Lib.hid hWT
 clear hWT happ hr1 hr hW1 hW
 go_wp2
 go_ret
 refine ⟨rfl,?_⟩
 rw [← List.append_assoc]
 exact WrTo.trans HM1.out HF1.out HWT.out
end Go.Proofs.Ytbifincepglilaa

/- code.Writer.Hash: 32 bytes behind what is written. -/
namespace Go.Proofs.Ytbifincepglilaa
open Go Go.RowKit Go.Gv
theorem WHash_any (b:Nat) (v:Value) (bs h:List Int) (w:World) (hW:Wr w b v bs) (hh:h.length=32) (hB:Bytes h) (hl:bs.length+32≤Room) :
 Calls Try.prog 47 #[.pointer (some ⟨b,0,none⟩),hv h] w fun e w'=>e=.returned (.pointer (some ⟨b,0,none⟩))∧WrTo w b v (bs ++ h) w':=by
 have hlt:=hW.1.lt
 obtain ⟨w1,e1,hW1,hc1,hm1⟩:∃ w1,w.alloc (.cells (h.map bv).toArray 32)=w1∧Wr w1 b v bs∧Cs w1 w.heap.size (h.map bv).toArray 32∧Mod (fun _=>False) w w1:=
  ⟨_,rfl,hW.mod ((Mod.refl _ _).alloc _) id (fun _ _=>id),Cs.new _ _ _,(Mod.refl _ _).alloc _⟩
 have hcell:w1.cell? ⟨b,0,none⟩=some v:=(hW1.1.cell 0).trans rfl
 have hrd:RdB w1 (.slice (some ⟨w.heap.size,0,none⟩) 32 32) h:=⟨hB,by
  rw [hh]
  exact Rd.mk (Nat.le_refl _) (by rw [Bk];omega) (by simp [hh]) (fun j u hu=>by rw [Nat.zero_add,hc1.cell];simpa using hu)⟩
 have Hroom:=Lib.hid (show bs.length+h.length≤Room by omega)
 have HW1:=Lib.hid hW1
 have HRD:=Lib.hid hrd
 have HM1:=Lib.hid hm1
 have E1:=Lib.hid e1
 have HH:=Lib.hid hh
 clear hW hc1 hrd hm1 hh hB hl e1 hW1
 unfold hv
 go_enter Try.func47,Try.ntmps47
 go_wp2_with fail
 rw [E1.out]
 go_region_law (refine step_appB rfl (.tmp 9) (.tmp 10) rfl rfl (OwnB.drew HW1.out.2) (new:=h) rfl HRD.out.drew Hroom.out ?_;intro ao cap w2 happ;obtain ⟨hc2,hf2,hWT⟩:=Wr_step HW1.out _ ((Mod.refl _ _).drew) h happ (Wr_ne HW1.out);have HWT:=Lib.hid hWT;clear hWT happ)
 go_wp2
 go_ret
 refine ⟨rfl,?_⟩
 exact WrTo.trans (HM1.out.mono (fun _ _ h=>h.elim)) (.inl rfl) HWT.out
end Go.Proofs.Ytbifincepglilaa

/- Package gavelkeep: bytes that are lent, that are intact, that are spoilt. -/
namespace Go.Proofs.Ytbifincepglilaa
open Go Go.RowKit Go.Gv
def lendc (bs:List Int) (k:Nat):List Int:=bs ++ (List.replicate k 85 ++ List.replicate (3 - k) 0)
/-- bytes that are lent: three more lie behind them -/
def Lent (w:World) (v:Value) (bs:List Int):Prop:=∃ g,v=.slice (some ⟨g,0,none⟩) bs.length (bs.length+3)∧Cs w g ((lendc bs 3).map bv).toArray 5
end Go.Proofs.Ytbifincepglilaa

/- gavellaw01: the document's own example. -/
namespace Go.Proofs.Ytbifincepglilaa
open Go Go.RowKit Go.Gv
end Go.Proofs.Ytbifincepglilaa

/- The plain law of numbers and rows as bytes: what is written is read. -/
namespace Go.Proofs.Ytbifincepglilaa
open Go Go.RowKit Go.Gv
theorem pow128 (i:Nat):2 ^ (7 * (i+1))=128 * 2 ^ (7 * i):=by rw [Nat.mul_add,Nat.pow_add,Nat.mul_comm]
theorem dec_enc (rest:List Int):∀ (m i acc:Nat),(i=0∨1≤m)→m * 2 ^ (7 * i) < U64→i≤9→decGo i acc (encN m ++ rest)=some (acc+m * 2 ^ (7 * i),rest):=by
 intro m
 induction m using Nat.strongRecOn with
 | _ m ih=>
  intro i acc h1 h2 h3
  by_cases hm:m < 128
  ·rw [encN_lt hm]
   simp only [List.cons_append,List.nil_append,decGo]
   have n1:¬ (i=9∧(1:Int) < m):=by
    rintro ⟨rfl,h⟩
    unfold U64 at h2
    simp only [Nat.reduceMul,Nat.reducePow] at h2
    omega
   rw [if_neg n1,if_pos (by omega),if_neg (by omega)]
   simp
  ·rw [encN_ge (by omega)]
   simp only [List.cons_append,decGo]
   have hp:=pow128 i
   have hle:128 * 2 ^ (7 * i)≤m * 2 ^ (7 * i):=Nat.mul_le_mul_right _ (by omega)
   have hi:i≤8:=by
    rcases Nat.lt_or_ge i 9 with h|h
    ·omega
    ·obtain rfl:i=9:=by omega
     unfold U64 at h2
     simp only [Nat.reduceMul,Nat.reducePow] at h2 hle
     omega
   have hdm:(m / 128) * 2 ^ (7 * (i+1))+(m % 128) * 2 ^ (7 * i)=m * 2 ^ (7 * i):=by
    rw [hp,← Nat.mul_assoc,← Nat.add_mul]
    congr 1
    omega
   rw [if_neg (by omega),if_neg (by omega)]
   have e:((m:Int) % 128+128).toNat - 128=m % 128:=by omega
   rw [e,ih (m / 128) (by omega) (i+1) _ (.inr (by omega)) (by omega) (by omega)]
   congr 2
   omega
theorem rNum_enc {m:Nat} (hm:m < U64) (rest:List Int):rNum (some (encN m ++ rest))=(m,some rest):=by
 have:=dec_enc rest m 0 0 (.inl rfl) (by simpa using hm) (by omega)
 simp [rNum,this]
theorem rTake_app {n:Nat} {a:List Int} (h:a.length=n) (rest:List Int):rTake n (some (a ++ rest))=(a,some rest):=by
 subst h
 simp [rTake]
@[simp] theorem rNum_none':rNum none=(0,none):=rfl
@[simp] theorem rInt_none (most:Int):rInt most none=(0,none):=by simp [rInt]
@[simp] theorem rTake_none (n:Nat):rTake n none=([],none):=rfl
@[simp] theorem rRow_none (most:Int):rRow most none=([],none):=by simp [rRow]
@[simp] theorem rHash_none:rHash none=(List.replicate 32 0,none):=rfl
end Go.Proofs.Ytbifincepglilaa

/- The contracts once more, each object with the blocks in which it lives (R): so that what one call does to one object leaves the others. -/
namespace Go.Proofs.Ytbifincepglilaa
open Go Go.RowKit Go.Gv
/-- a list of bytes (at most N) that is only read; its block, where it has one that matters, is in R -/
def RdR (R:Nat→Prop) (N:Nat) (w:World) (v:Value) (bs:List Int):Prop:=RdB w v bs∧(0 < bs.length→∀ g,v.ownBlock=some g→R g)∧bs.length≤N
/-- a list of bytes that may be appended to, spoilt -/
def OwR (R:Nat→Prop) (N:Nat) (w:World) (v:Value) (bs:List Int):Prop:=OwnB w v bs∧(∀ g,v.ownBlock=some g→R g)∧bs.length≤N
def WrR (R:Nat→Prop) (N:Nat) (w:World) (b:Nat) (bs:List Int):Prop:=∃ v,Wr w b v bs∧R b∧(∀ g,v.ownBlock=some g→R g)∧bs.length≤N
def RrR (T:TypeId) (R:Nat→Prop) (w:World) (r:Nat) (s:RSt):Prop:=∃ v,Rr T w r v s∧R r∧(0 < (s.getD []).length→∀ g,v.ownBlock=some g→R g)
section
variable {R R' S:Nat→Prop} {N M:Nat} {w w':World} {v:Value} {bs:List Int} {b r:Nat} {s:RSt} {T:TypeId}
theorem RdR.mod (h:RdR R N w v bs) (hm:Mod S w w') (hs:∀ k,R k→S k→False):RdR R N w' v bs:=⟨h.1.mod hm (fun h0 g hg hS=>hs g (h.2.1 h0 g hg) hS),h.2⟩
theorem RdR.widen (h:RdR R N w v bs) (hs:∀ k,R k→R' k) (hM:N≤M):RdR R' M w v bs:=⟨h.1,fun h0 g hg=>hs g (h.2.1 h0 g hg),Nat.le_trans h.2.2 hM⟩
theorem OwR.mod (h:OwR R N w v bs) (hm:Mod S w w') (hs:∀ k,R k→S k→False):OwR R N w' v bs:=⟨OwnB.mod h.1 hm (fun g hg hS=>hs g (h.2.1 g hg) hS),h.2⟩
theorem OwR.widen (h:OwR R N w v bs) (hs:∀ k,R k→R' k) (hM:N≤M):OwR R' M w v bs:=⟨h.1,fun g hg=>hs g (h.2.1 g hg),Nat.le_trans h.2.2 hM⟩
theorem OwR.rd (h:OwR R N w v bs):RdR R N w v bs:=⟨h.1.rd,fun _=>h.2.1,h.2.2⟩
theorem WrR.mod (h:WrR R N w b bs) (hm:Mod S w w') (hs:∀ k,R k→S k→False):WrR R N w' b bs:=by
 obtain ⟨v,h1,h2,h3,h4⟩:=h
 exact ⟨v,h1.mod hm (hs b h2) (fun g hg=>hs g (h3 g hg)),h2,h3,h4⟩
theorem WrR.widen (h:WrR R N w b bs) (hs:∀ k,R k→R' k) (hM:N≤M):WrR R' M w b bs:=by
 obtain ⟨v,h1,h2,h3,h4⟩:=h
 exact ⟨v,h1,hs b h2,fun g hg=>hs g (h3 g hg),Nat.le_trans h4 hM⟩
theorem RrR.mod (h:RrR T R w r s) (hm:Mod S w w') (hs:∀ k,R k→S k→False):RrR T R w' r s:=by
 obtain ⟨v,h1,h2,h3⟩:=h
 exact ⟨v,h1.mod hm (hs r h2) (fun h0 g hg=>hs g (h3 h0 g hg)),h2,h3⟩
theorem RrR.widen (h:RrR T R w r s) (hs:∀ k,R k→R' k):RrR T R' w r s:=by
 obtain ⟨v,h1,h2,h3⟩:=h
 exact ⟨v,h1,hs r h2,fun h0 g hg=>hs g (h3 h0 g hg)⟩
theorem RdR.len {ao:Option Addr} {n cap:Nat} (h:RdR R N w (.slice ao n cap) bs):n=bs.length:=h.1.len.1
theorem RdR.shape (h:RdR R N w v bs):∃ ao cap,v=.slice ao bs.length cap:=by obtain ⟨ao,cap,e,_⟩:=h.1.shape;exact ⟨ao,cap,e⟩
theorem OwR.shape (h:OwR R N w v bs):∃ ao cap,v=.slice ao bs.length cap:=h.rd.shape
end
/-- what is new in w' -/
abbrev New (w w':World) (k:Nat):Prop:=w.heap.size≤k∧k < w'.heap.size
theorem OwR_of {w w':World} {v:Value} {bs:List Int} (N:Nat) (h:OwnB w' v bs) (hf:Fresh w v) (hN:bs.length≤N):OwR (New w w') N w' v bs:=⟨h,fun g hg=>⟨hf g hg,Own.lt h hg⟩,hN⟩
theorem Cut_R {R:Nat→Prop} {N:Nat} {v:Value} {bs:List Int} (n:Nat) {w:World} (hr:RdR R N w v bs) (hn:n≤1000000) :
 Calls Try.prog 20 #[v,.int .i64 n] w fun e w'=>∃ v',e=.returned v'∧OwR (New w w') n w' v' (bs.take n)∧Mod (fun _=>False) w w':=by
 obtain ⟨ao,cap,rfl⟩:=hr.shape
 exact (Cut_any ao _ cap bs n w hr.1 hn).mono fun e w' ⟨ao',cap',he,ho,hf,hm⟩=>⟨_,he,OwR_of n ho hf (by simp;omega),hm⟩
theorem NewWriter_R (w:World) :
 Calls Try.prog 43 #[] w fun e w'=>∃ b,e=.returned (.pointer (some ⟨b,0,none⟩))∧WrR (New w w') 0 w' b []∧Mod (fun _=>False) w w':=
 (NewWriter_any w).mono fun _ _ ⟨he,hW,hm⟩=>⟨_,he,⟨_,hW,⟨Nat.le_refl _,hW.1.lt⟩,(fun g hg=>by cases hg),Nat.le_refl _⟩,hm⟩
theorem WrTo_R {R:Nat→Prop} {w w':World} {b:Nat} {v:Value} {bs:List Int} (N:Nat) (hb:R b) (hv:∀ g,v.ownBlock=some g→R g) (h:WrTo w b v bs w') (hN:bs.length≤N) :
 WrR (fun k=>R k∨New w w' k) N w' b bs∧Mod R w w':=by
 obtain ⟨v',h1,h2,h3⟩:=h
 refine ⟨⟨v',h1,.inl hb,fun g hg=>?_,hN⟩,h2.mono (fun k _ hk=>?_)⟩
 ·rcases h3 with h3|⟨k,h3,hk⟩
  ·exact .inl (hv g (h3▸hg))
  ·rw [h3] at hg
   obtain rfl:k=g:=by simpa using hg
   exact .inr ⟨hk,Own.lt h1.2 h3⟩
 ·rcases hk with rfl|hk
  ·exact hb
  ·exact hv k hk.symm
theorem WInt_R {R:Nat→Prop} {N b:Nat} {n:Int} {bs:List Int} {w:World} (hW:WrR R N w b bs) (hn:-9223372036854775808≤n∧n≤9223372036854775807) (hl:N≤1000000) :
 Calls Try.prog 45 #[.pointer (some ⟨b,0,none⟩),.int .i64 n] w fun e w'=>e=.returned (.pointer (some ⟨b,0,none⟩))∧WrR (fun k=>R k∨New w w' k) (N+10) w' b (bs ++ encI n)∧Mod R w w':=by
 obtain ⟨v,h1,h2,h3,h4⟩:=hW
 exact (WInt_any b n v bs w h1 hn (by unfold Room;omega)).mono fun _ _ ⟨he,h⟩=>⟨he,WrTo_R _ h2 h3 h (by have:=encI_len n hn.2;simp;omega)⟩
theorem WRow_R {R R':Nat→Prop} {N M b:Nat} {bs:List Int} {v2:Value} {cs:List Int} {w:World} (hW:WrR R N w b bs) (hr:RdR R' M w v2 cs) (hs:∀ k,R' k→R k→False) (hl:N+M≤1000000) :
 Calls Try.prog 44 #[.pointer (some ⟨b,0,none⟩),v2] w fun e w'=>e=.returned (.pointer (some ⟨b,0,none⟩))∧WrR (fun k=>R k∨New w w' k) (N+M+10) w' b (bs ++ (encN cs.length ++ cs))∧Mod R w w':=by
 obtain ⟨v,h1,h2,h3,h4⟩:=hW
 obtain ⟨ao,cap,rfl⟩:=hr.shape
 have h5:=hr.2.2
 refine (WRow_any b v bs ao cap cs w h1 hr.1 ?_ (by unfold Room;omega)).mono fun _ _ ⟨he,h⟩=>⟨he,WrTo_R _ h2 h3 h (by have:=encN_len10 (n:=cs.length) (by unfold U64;omega);simp;omega)⟩
 intro h0 g hg hk
 rcases hk with rfl|hk
 ·exact hs _ (hr.2.1 h0 _ hg) h2
 ·exact hs _ (hr.2.1 h0 _ hg) (h3 g hk.symm)
theorem WHash_R {R:Nat→Prop} {N b:Nat} {bs h:List Int} {w:World} (hW:WrR R N w b bs) (hh:h.length=32) (hB:Bytes h) (hl:N≤1000000) :
 Calls Try.prog 47 #[.pointer (some ⟨b,0,none⟩),hv h] w fun e w'=>e=.returned (.pointer (some ⟨b,0,none⟩))∧WrR (fun k=>R k∨New w w' k) (N+32) w' b (bs ++ h)∧Mod R w w':=by
 obtain ⟨v,h1,h2,h3,h4⟩:=hW
 exact (WHash_any b v bs h w h1 hh hB (by unfold Room;omega)).mono fun _ _ ⟨he,h⟩=>⟨he,WrTo_R _ h2 h3 h (by simp;omega)⟩
theorem WBytes_R {R:Nat→Prop} {N b:Nat} {bs:List Int} {w:World} (hW:WrR R N w b bs) (hl:N≤1000000) :
 Calls Try.prog 48 #[.pointer (some ⟨b,0,none⟩)] w fun e w'=>∃ v',e=.returned v'∧OwR (New w w') N w' v' bs∧Mod (fun _=>False) w w':=by
 obtain ⟨v,h1,h2,h3,h4⟩:=hW
 exact (WBytes_any b v bs w h1 (by unfold Room;omega)).mono fun e w' ⟨ao',cap',he,ho,hf,hm⟩=>⟨_,he,OwR_of N ho hf h4,hm⟩
/-- append of bytes, with the blocks -/
theorem wpList_appR {w:World} {ops:Array Oper} {rest:List Oper} {o:Oper} {a:Act} {Q:Exit→Act→World→Prop} (hgd:o.guard=none) (s x:Operand)
 (ho:o.op=.call { callee:=.builtin .append,args:=#[s,x],argTypes:=#[38,38] })
 {R R':Nat→Prop} {N M:Nat} {v:Value} {bs:List Int} (hs:a.eval s=v) (hown:OwR R N w v bs) {xv:Value} {new:List Int} (hx:a.eval x=xv) (hrd:RdR R' M w xv new)
 (hroom:N+M≤1000000)
 (h:∀ ao cap w',OwR (fun k=>R k∨New w w' k) (N+M) w' (.slice ao (bs.length+new.length) cap) (bs ++ new)→Mod R w w'→wpList Try.prog ops Q rest (a.put o.dst (.slice ao (bs.length+new.length) cap)) w'):wpList Try.prog ops Q (o :: rest) a w:=
 wpList_appB hgd s x ho hs hown.1 hx hrd.1 (by have:=hown.2.2;have:=hrd.2.2;unfold Room;omega) fun ao cap w' ⟨h1,h2,h3⟩=>h ao cap w' ⟨h1,(fun g hg=>by
  rcases h3 with h3|⟨k,h3,hk⟩
  ·exact .inl (hown.2.1 g (h3▸hg))
  ·rw [h3] at hg
   obtain rfl:k=g:=by simpa using hg
   exact .inr ⟨hk,Own.lt h1 h3⟩),by have:=hown.2.2;have:=hrd.2.2;simp;omega⟩ (h2.mono (fun k _ hk=>hown.2.1 k hk.symm))
end Go.Proofs.Ytbifincepglilaa

/- From a reading of the arguments to what the walks take: numbers, slices of bytes. -/
namespace Go.Proofs.Ytbifincepglilaa
open Go Go.RowKit Go.Gv Go.ChangeShapes Go.WideShapes Go.ChangeAt
theorem u64_nat {a:Int} (h:(Lit.int .u64 a).wf=true):∃ n:Nat,a=n∧n < U64:=by
 have:=bounds_u64 h
 exact ⟨a.toNat,by omega,by unfold U64;omega⟩
theorem i64_bd {a:Int} (h:(Lit.int .i64 a).wf=true):-9223372036854775808≤a∧a≤9223372036854775807:=bounds_i64 h
end Go.Proofs.Ytbifincepglilaa

/- From readings of arguments to typed lists: slices of structs, arrays of bytes. -/
namespace Go.Proofs.Ytbifincepglilaa
open Go Go.RowKit Go.Gv Go.ChangeShapes Go.WideShapes Go.ChangeAt Go.Deep
/-- the slice v is the list l, each element s cells -/
def RdE {α:Type} (s:Nat) (cells:α→List Value) (R:Nat→Prop) (w:World) (v:Value) (l:List α):Prop:=
 (l=[]∧∃ ao cap,v=.slice ao 0 cap)∨
 ∃ g o cap,R g∧v=.slice (some ⟨g,o,none⟩) l.length cap∧0 < l.length∧l.length≤cap∧cap≤maxLen∧∀ i (h:i < l.length),∀ j u,(cells l[i])[j]? = some u→w.cell? ⟨g,o+i * s+j,none⟩=some u
theorem RdE.mod {α:Type} {s:Nat} {cells:α→List Value} {R S:Nat→Prop} {w w':World} {v:Value} {l:List α} (h:RdE s cells R w v l) (hm:Mod S w w') (hs:∀ k,R k→S k→False):RdE s cells R w' v l:=by
 rcases h with h|⟨g,o,cap,h1,h2,h3,h4,h5,h6⟩
 ·exact .inl h
 ·exact .inr ⟨g,o,cap,h1,h2,h3,h4,h5,fun i hi j u hu=>hm.cell (h6 i hi j u hu) (hs g h1)⟩
section
variable {H:Type} {enc:TypeId × Value→H} {W:World}
theorem trod_bytes {fuel:Nat} {v:Value} {x:DataW H × List MemPlace} (h:DataW.trod enc Try.prog W 0 (fun _=>true) true fuel 38 [v]=some x):∃ bs,RdR (fun k=>k < W.heap.size) bs.length W v bs:=by
 rcases open_ints Try.underlying38 Try.underlying5 (by kernel_rfl) h with ⟨hcs,_⟩|⟨x,len0,cap0,zs,hcs,_,hl,hm,hz,hx,hcell,hwz⟩
 ·simp at hcs;subst hcs
  exact ⟨[],RdB.nil _,fun h=>by simp at h,Nat.le_refl _⟩
 ·simp at hcs;subst hcs
  simp only [if_true] at hz
  have hbl:(zs.take len0).length=len0:=by simp;omega
  refine ⟨zs.take len0,⟨?_,?_⟩,?_,Nat.le_refl _⟩
  ·intro y hy
   have:=bounds_u8 (hwz y (List.mem_of_mem_take hy))
   omega
  ·rw [hbl]
   refine ⟨by simp;omega,some x,cap0,rfl,hl,hm,(fun h=>by cases h),?_⟩
   intro y hy j u hu
   cases hy
   simp only [List.getElem?_map,Option.map_eq_some_iff] at hu
   obtain ⟨q,hq,rfl⟩:=hu
   have hj:j < len0:=by have:=(List.getElem?_eq_some_iff.1 hq).1;omega
   rw [List.getElem?_take,if_pos hj] at hq
   have h0:=hcell 0 (by omega)
   refine ⟨by simpa [Addr.add] using World.cell?_spot h0,?_⟩
   rw [hcell j (by omega)]
   simp [List.getD,hq]
  ·intro h0 g hg
   rw [hbl] at h0
   simp [Value.ownBlock] at hg
   subst hg
   have h0:=World.block_lt_of_cell? _ _ (hcell 0 (by omega))
   simpa [Addr.add] using h0
/-- a slice whose elements are read one by one -/
theorem trod_list {α:Type} [Inhabited α] {t e:TypeId} {s fuel:Nat} (cells:α→List Value) (Ok:α→Prop) {v:Value} {x:DataW H × List MemPlace} (ht:Try.prog.underlying t=some (.slice e)) (hce:Try.prog.cellsOf e=s) (hs:0 < s) (hlen:∀ a,(cells a).length=s)
 (he:∀ fuel cs x,DataW.trod enc Try.prog W 0 (fun _=>true) true fuel e cs=some x→∃ a,cs=cells a∧Ok a)
 (h:DataW.trod enc Try.prog W 0 (fun _=>true) true fuel t [v]=some x):∃ l:List α,RdE s cells (fun k=>k < W.heap.size) W v l∧∀ a ∈ l,Ok a:=by
 rcases open_slice ht h with ⟨hcs,_⟩|⟨a,len,cap,m,n,D,Pl,hcs,_,hl,hm,hmm,_,hel⟩
 ·simp at hcs;subst hcs
  exact ⟨[],.inl ⟨rfl,_,_,rfl⟩,fun a ha=>by cases ha⟩
 ·simp at hcs;subst hcs
  simp only [if_true] at hmm
  subst hmm
  rcases Nat.eq_zero_or_pos len with rfl|hpos
  ·exact ⟨[],.inl ⟨rfl,_,_,rfl⟩,fun a ha=>by cases ha⟩
  have key:∀ i,i < len→∃ b:α,W.cells? 0 (a.add (i * s)) s=some (cells b)∧Ok b:=by
   intro i hi
   obtain ⟨cs',h1,h2⟩:=hel i (by omega)
   rw [hce] at h1
   obtain ⟨b,rfl,hb⟩:=he _ _ _ h2
   exact ⟨b,h1,hb⟩
  obtain ⟨f,hf⟩:=choose_lt key
  have cell:∀ i,i < len→∀ j u,(cells (f i))[j]? = some u→W.cell? ((a.add (i * s)).add j)=some u:=by
   intro i hi j u hu
   obtain ⟨_,hl2,hc2⟩:=World.cells?_some (hf i hi).1
   have hj:=(List.getElem?_eq_some_iff.1 hu).1
   rw [hc2 j (by omega),hu]
  have h00:0 < (cells (f 0)).length:=by rw [hlen];exact hs
  have c00:=cell 0 hpos 0 _ (List.getElem?_eq_getElem h00)
  have ea:(a.add (0 * s)).add 0=a:=by simp [Addr.add]
  rw [ea] at c00
  have hspot:=World.cell?_spot c00
  have hblk:=World.block_lt_of_cell? _ _ c00
  obtain ⟨g,o,sp⟩:=a
  simp only at hspot hblk
  subst hspot
  refine ⟨(List.range len).map f,.inr ⟨g,o,m,hblk,by simp,by simpa using hpos,by simpa using hl,hm,?_⟩,?_⟩
  ·intro i hi j u hu
   simp only [List.length_map,List.length_range] at hi
   have:=cell i hi j u (by simpa using hu)
   rw [add_mk,add_mk] at this
   exact this
  ·intro b hb
   obtain ⟨i,hi,rfl⟩:=List.mem_map.1 hb
   exact (hf i (by simpa using hi)).2
end
end Go.Proofs.Ytbifincepglilaa

/- Elements of slices: their addresses, appending one that has many cells. No program here. -/
namespace Go.Gv
open Go Go.RowKit
section
variable {P:Program} {o:Oper} {a:Act} {w w':World}
theorem ex_idxS {T e:TypeId} {x y:Operand} {g off n cap i s:Nat} {k:IntKind} (ho:o.op=.indexAddr T x y) (hu:P.underlying T=some (.slice e)) (hs:(P.info? e).map (·.size)=some s) (hx:a.eval x=.slice (some ⟨g,off,none⟩) n cap) (hy:a.eval y=.int k (i:Int)) (hi:i < n) :
 (execOp a.eval o).run P w=.ok (.value (.pointer (some ⟨g,off+i * s,none⟩))) w:=by
 have hsz:(sizeOf e).run P w=.ok s w:=by
  cases hq:P.info? e with
  | none=>rw [hq] at hs;cases hs
  | some i=>rw [hq] at hs;simp [sizeOf,typeInfo,hq];exact Option.some.inj hs
 unfold execOp
 simp [ho,hx,hy,Instr.indexAt,asIntOf,run_underlying hu,hsz,hi,add_mk]
theorem ex_buildS1 {T e:TypeId} {y:Operand} {cs:List Value} {s:Nat} {zc:List Value} (ho:o.op=.buildSlice T 1 #[(0,y)]) (hu:P.underlying T=some (.slice e)) (hie:(P.info? e).map (fun i=>(i.size,i.zero))=some (s,some (.agg zc.toArray))) (hz:zc.length=s) (h0:0 < s) (hb:s≤1000) (hy:a.eval y=.agg cs.toArray) (hl:cs.length=s) :
 (execOp a.eval o).run P w=.ok (.value (.slice (some ⟨w.heap.size,0,none⟩) 1 1)) (w.alloc (.cells cs.toArray e)):=by
 cases hq:P.info? e with
 | none=>rw [hq] at hie;cases hie
 | some ie=>
  rw [hq] at hie
  have e0:=Option.some.inj hie
  have e1:ie.size=s:=congrArg Prod.fst e0
  have e2:ie.zero=some (.agg zc.toArray):=congrArg Prod.snd e0
  have hf:Instr.fill (fun i=>some (i * ie.size,ie.size)) ((Array.range (1 * ie.size)).map ((Value.agg zc.toArray).cells[· % (Value.agg zc.toArray).cells.size]!)) (#[((0:Nat),a.eval y)]:Array (Nat × Value)).toList=some cs.toArray:=by
   rw [hy,e1]
   unfold Instr.fill
   simp only
   have hsz:((Array.range (1 * s)).map ((Value.agg zc.toArray).cells[· % (Value.agg zc.toArray).cells.size]!)).size=s:=by simp
   rw [if_neg (by simp [Value.cells,hl])]
   unfold Instr.fill
   congr 1
   have:=foldl_lay (0 * s) cs ((Array.range (1 * s)).map ((Value.agg zc.toArray).cells[· % (Value.agg zc.toArray).cells.size]!)).toList (by simp [hl])
   simp only [Value.cells] at this ⊢
   simp only [Array.toArray_toList] at this
   rw [← Array.toList_zipIdx] at this
   simp only [Array.foldl_toList] at this
   rw [this]
   simp [hl]
  have hr:=run_buildSlice (P:=P) w T e 1 (#[((0:Nat),a.eval y)]:Array (Nat × Value)) cs.toArray ie (.agg zc.toArray) hu hq e2 (by rw [e1];omega) (by rw [e1];omega) hf
  unfold execOp
  simp only [ho,Sem.run_bind,List.map_toArray,List.map_cons,List.map_nil,hr,Result.andThen_ok,Sem.run_pure]
theorem ex_append {t:TypeId} {x y:Operand} {vx vy v:Value} (ho:o.op=.call { callee:=.builtin .append,args:=#[x,y],argTypes:=#[t,t] }) (hx:a.eval x=vx) (hy:a.eval y=vy) (hr:(Builtin.append_ #[t,t] o.type #[vx,vy]).run P w=.ok v w'):(execOp a.eval o).run P w=.ok (.value v) w':=by
 unfold execOp
 simp only [ho,resolve,invoke,builtin,Sem.run_bind,Sem.run_pure,Result.andThen_ok,List.map_toArray,List.map_cons,List.map_nil,hx,hy,hr]
end
end Go.Gv

/- Arithmetic of single operations; elements of arrays. No program here. -/
namespace Go.Gv
open Go Go.RowKit
section
variable {P:Program} {o:Oper} {a:Act} {w w':World} {t:TypeId} {k:IntKind}
theorem run_xor_i (x y:Int):(binOp .xor t (.int k x) (.int k y)).run P w=.ok (.int k (bits .xor k x y)) w:=by simp [binOp,Op.intBits,bits]
theorem run_and_i (x y:Int):(binOp .and t (.int k x) (.int k y)).run P w=.ok (.int k (bits .and k x y)) w:=by simp [binOp,Op.intBits,bits]
theorem run_or_i (x y:Int):(binOp .or t (.int k x) (.int k y)).run P w=.ok (.int k (bits .or k x y)) w:=by simp [binOp,Op.intBits,bits]
theorem run_mul_i (x y:Int):(binOp .mul t (.int k x) (.int k y)).run P w=.ok (.int k (k.wrap (x * y))) w:=by simp [binOp,Op.intArith]
theorem run_shr_n (n:Nat) (x:Int) (hn:n≤k.bits):(binOp .shr t (.int k x) (.int .u64 (n:Int))).run P w=.ok (.int k (x / 2 ^ n)) w:=by
 simp [binOp,Op.shift,Nat.min_eq_left hn]
 rw [if_neg (by omega),Int.fdiv_eq_ediv_of_nonneg _ (Int.le_of_lt (Int.pow_pos (show (0:Int) < 2 by decide)))]
theorem run_shl_n (n:Nat) (x:Int) (hn:n≤k.bits):(binOp .shl t (.int k x) (.int .u64 (n:Int))).run P w=.ok (.int k (k.wrap (x * 2 ^ n))) w:=by
 simp [binOp,Op.shift,Nat.min_eq_left hn]
 intro h
 omega
theorem Bp {T e:TypeId} {x y:Operand} {g off i s n:Nat} {k:IntKind} (ho:o.op=.indexAddr T x y) (hu:P.underlying T=some (.array n e)) (hn:1 < n) (hs:(P.info? e).map (·.size)=some s) (hx:a.eval x=.pointer (some ⟨g,off,none⟩)) (hy:a.eval y=.int k (i:Int)) (hi:i < n) :
 (execOp a.eval o).run P w=.ok (.value (.pointer (some ⟨g,off+i * s,none⟩))) w:=by
 have hsz:(sizeOf e).run P w=.ok s w:=by
  cases hq:P.info? e with
  | none=>rw [hq] at hs;cases hs
  | some i=>rw [hq] at hs;simp [sizeOf,typeInfo,hq];exact Option.some.inj hs
 unfold execOp
 simp [ho,hx,hy,Instr.indexAt,asIntOf,run_underlying hu,hsz,hi,add_mk,Instr.sureAddr]
theorem ex_sliceLo {T e:TypeId} {x y:Operand} {g off n cap l:Nat} {k:IntKind} (ho:o.op=.slice T x (some y) none none) (hu:P.underlying T=some (.slice e)) (hs:(P.info? e).map (·.size)=some 1) (hx:a.eval x=.slice (some ⟨g,off,none⟩) n cap) (hy:a.eval y=.int k (l:Int)) (hl:l≤n) (hc:l < cap) :
 (execOp a.eval o).run P w=.ok (.value (.slice (some ⟨g,off+l,none⟩) (n - l) (cap - l))) w:=by
 have hsz:(sizeOf e).run P w=.ok 1 w:=by
  cases hq:P.info? e with
  | none=>rw [hq] at hs;cases hs
  | some i=>rw [hq] at hs;simp [sizeOf,typeInfo,hq];exact Option.some.inj hs
 have hne:¬ cap=l:=by omega
 unfold execOp
 simp [ho,hx,hy,Instr.sliceAt,Instr.slice,Instr.sliceBounds,Instr.sliceBound,asIntOf,run_underlying hu,hsz,hl,add_mk,hne]
theorem ex_buildC {t:TypeId} {ps:Array (Nat × Operand)} {parts:List (Nat × Value)} {r:Array Value} (ho:o.op=.build t ps) (hp:(ps.map fun (i,x)=>(i,a.eval x)).toList=parts) (h:P.built t parts=some r):(execOp a.eval o).run P w=.ok (.value (.agg r)) w:=by
 have hr:=run_build (P:=P) w t (ps.map fun (i,x)=>(i,a.eval x)) r (by rw [hp];exact h)
 unfold execOp
 simp only [ho,Sem.run_bind,hr,Result.andThen_ok,Sem.run_pure]
theorem ex_convI {src dst:TypeId} {x:Operand} {k k':IntKind} {n:Int} (ho:o.op=.convert src dst x) (hs:(P.underlying src).isSome=true) (hd:P.underlying dst=some (.int k')) (hx:a.eval x=.int k n):(execOp a.eval o).run P w=.ok (.value (.int k' (k'.wrap n))) w:=by
 unfold execOp
 cases hq:P.underlying src with
 | none=>rw [hq] at hs;cases hs
 | some d=>simp [ho,hx,convert,run_underlying hd,run_underlying hq,Conv.intToInt]
theorem ex_notx {T:TypeId} {x:Operand} {k:IntKind} {n:Int} (ho:o.op=.unOp .xor T x) (hx:a.eval x=.int k n):(execOp a.eval o).run P w=.ok (.value (.int k (bits .xor k (if k.signed=true then -1 else k.max) n))) w:=by
 unfold execOp
 simp [ho,hx,Op.unary,bits,Op.intBits]
end
end Go.Gv

/- Single operations for wp_region_Q: calls of function values, parts of results, slices' rows, appends of things. No program here. -/
namespace Go.Gv
open Go Go.RowKit
section
variable {P:Program} {ops:Array Oper} {Q:Exit→Act→World→Prop} {i:Nat} {o:Oper} {a:Act} {w:World} {KQ:Value→World→Prop}
theorem A9 {x:Operand} {k:Nat} {vs:Array Value} {v:Value} (ho:o.op=.extract x k) (hx:a.eval x=.tuple vs) (hv:vs[k]? = some v):(execOp a.eval o).run P w=.ok (.value v) w:=by
 unfold execOp
 simp [ho,hx,Instr.extract,hv]
theorem Av {op:BinOp} {t u:TypeId} {x y:Operand} {vx vy v v':Value} (ho:o.op=.binOp op t x y u) (hx:a.eval x=vx) (hy:a.eval y=vy) (hg:(eqGuard op t x y vx vy).run P w=.ok () w) (hr:(binOp op t vx vy).run P w=.ok v w) (he:v=v'):(execOp a.eval o).run P w=.ok (.value v') w:=by
 subst he;exact A7 ho hx hy hg hr
theorem ex_pickE {c x y:Operand} {b:Bool} {vx vy v:Value} (ho:o.op=.pick c x y) (hc:a.eval c=.bool b) (hx:a.eval x=vx) (hy:a.eval y=vy) (he:(if b then vx else vy)=v):(execOp a.eval o).run P w=.ok (.value v) w:=by
 subst he;exact A5 ho hc hx hy
theorem ex_min {x y:Operand} {ts:Array TypeId} {k k':IntKind} {m n r:Int} (ho:o.op=.call { callee:=.builtin .min,args:=#[x,y],argTypes:=ts }) (hx:a.eval x=.int k m) (hy:a.eval y=.int k' n) (he:(if n < m then n else m)=r):(execOp a.eval o).run P w=.ok (.value (.int k r)) w:=by
 subst he
 unfold execOp
 simp [ho,resolve,invoke,builtin,hx,hy,run_min_int2,Result.andThen]
theorem add_zero (a:Addr):a.add 0=a:=by
 unfold Addr.add
 split<;>simp_all
/-- one of the chain appends things -/
theorem qc_appS {α:Type} {A:Rep α} {e t:TypeId} {R E R2:Nat→Prop} {v xv:Value} {l new:List α} {s x:Operand} (ho:ops[i]? = some o) (hw:Region.wanted o (yielded ops a.tmps)=true) (hop:o.op=.call { callee:=.builtin .append,args:=#[s,x],argTypes:=#[t,t] }) (z:Value) (bytes:Nat)
 (ht:P.underlying t=some (.slice e)) (hinfo:(P.info? e).map (fun i=>(i.zero,i.size,i.bytes))=some (some z,A.sz,bytes)) (hzs:z.cells.size=A.sz) (hzE:∀ u ∈ z.cells.toList,u.oneCell'=true)
 (hs:a.eval s=v) (hx:a.eval x=xv) (hown:OwS A e R E w v l) (hrd:RdS A R2 w xv new) (hd:∀ k,R2 k→R k→False) (hbytes:(l.length+new.length) * bytes≤140737488355328) (h63:l.length+new.length≤maxLen)
 (h:∀ ao cap w',OwS A e (fun k=>R k∨(w.heap.size≤k∧k < w'.heap.size)) (fun k=>E k∨R2 k) w' (.slice ao (l.length+new.length) cap) (l ++ new)→Mod R w w'→KQ (.slice ao (l.length+new.length) cap) w'):wpOp P ops Q i (fun a' w'=>∃ v,a'=a.put o.dst v∧KQ v w') a w:=by
 obtain ⟨ao,cap,w',hr,h1,h2⟩:=run_appS (P:=P) w t o.type e z bytes ht hinfo hzs hzE hown hrd (fun k hk he=>by obtain ⟨_,_,_,_,h5⟩:=hown;exact hd k hk (h5 k he)) hbytes h63
 exact qc_run ho hw (ex_append hop hs hx hr) (h ao cap w' h1 h2)
/-- one of the chain makes a row of one thing -/
theorem qc_buildS {e t:TypeId} {y:Operand} {cs zc:List Value} {sz:Nat} (ho:ops[i]? = some o) (hw:Region.wanted o (yielded ops a.tmps)=true) (hop:o.op=.buildSlice t 1 #[(0,y)]) (hu:P.underlying t=some (.slice e)) (hie:(P.info? e).map (fun i=>(i.size,i.zero))=some (sz,some (.agg zc.toArray))) (hz:zc.length=sz) (h0:0 < sz) (hb:sz≤1000) (hy:a.eval y=.agg cs.toArray) (hl:cs.length=sz)
 (h:∀ w',Cs w' w.heap.size cs.toArray e→Mod (fun _=>False) w w'→KQ (.slice (some ⟨w.heap.size,0,none⟩) 1 1) w'):wpOp P ops Q i (fun a' w'=>∃ v,a'=a.put o.dst v∧KQ v w') a w:=
 qc_run ho hw (ex_buildS1 hop hu hie hz h0 hb hy hl) (h _ (Cs.new _ _ _) ((Mod.refl _ _).alloc _))
end
end Go.Gv

/- Short forms for printed walks: facts carried over a whole chain at once, single operations, regions without new variables. No program here. -/
namespace Go.Gv
open Go Go.RowKit
theorem hid {p:Prop} (h:p):Hid p:=h
/-- a chain's steps, told at once: S: what of old they may turn -/
theorem Mod.new {S:Nat→Prop} {w a:World} (h:Mod (fun j=>w.heap.size≤j) w a):Mod S w a:=h.mono fun k hk h=>absurd hk (Nat.not_lt.2 h)
theorem Mod.goR {S R:Nat→Prop} {w a c:World} (h:Mod S w a) (hr:Mod (fun j=>w.heap.size≤j∧R j) a c):Mod S w c:=
 h.trans hr fun k hk h=>absurd hk (Nat.not_lt.2 h.1)
theorem Mod.goM {S T R:Nat→Prop} {w a b c:World} (h:Mod S w a) (hm:Mod T a b) (hr:Mod (fun j=>w.heap.size≤j∧R j) b c) (hs:∀ k,k < w.heap.size→T k→S k):Mod S w c:=
 (h.trans hm hs).goR hr
theorem Mod.go {S R:Nat→Prop} {w a b c:World} (h:Mod S w a) (hm:Mod (fun _=>False) a b) (hr:Mod (fun j=>w.heap.size≤j∧R j) b c):Mod S w c:=
 h.goM hm hr fun _ _ h=>h.elim
theorem Mod.old {w a:World} (h:Mod (fun j=>(j < w.heap.size∧False)∨w.heap.size≤j) w a):Mod (fun j=>w.heap.size≤j) w a:=h.mono fun _ _ h=>h.elim (fun h=>h.2.elim) (fun h=>h)
theorem chv {v x:Value} (h:some v=some x):x=v:=(Option.some.inj h).symm
theorem list_eta {vs:List Value} {n:Nat} (hl:vs.length=n):vs=(List.range n).map fun i=>vs.getD i undef:=by
 subst hl
 refine List.ext_getElem? fun i=>?_
 rcases Nat.lt_or_ge i vs.length with h|h
 ·simp [List.getD_eq_getElem?_getD,h]
 ·simp [h]
theorem getq {vs:List Value} {n p:Nat} (hl:vs.length=n) (h:p < n):vs[p]? = some (vs.getD p undef):=by
 subst hl
 simp [List.getD_eq_getElem?_getD,h]
theorem getv {vs:List Value} {p:Nat} {v:Value} (h:vs[p]? = some v):vs.getD p undef=v:=by
 rw [List.getD_eq_getElem?_getD,h]
 rfl
section
variable {β:Type} {f:Operand→β}
theorem args0:(#[]:Array Operand).map f=#[]:=by simp
theorem Ca {x1:Operand} {a1:β} (h1:f x1=a1):#[x1].map f=#[a1]:=by rw [← h1];simp
theorem args2 {x1 x2:Operand} {a1 a2:β} (h1:f x1=a1) (h2:f x2=a2):#[x1,x2].map f=#[a1,a2]:=by rw [← h1,← h2];simp
theorem args3 {x1 x2 x3:Operand} {a1 a2 a3:β} (h1:f x1=a1) (h2:f x2=a2) (h3:f x3=a3):#[x1,x2,x3].map f=#[a1,a2,a3]:=by rw [← h1,← h2,← h3];simp
theorem args4 {x1 x2 x3 x4:Operand} {a1 a2 a3 a4:β} (h1:f x1=a1) (h2:f x2=a2) (h3:f x3=a3) (h4:f x4=a4):#[x1,x2,x3,x4].map f=#[a1,a2,a3,a4]:=by rw [← h1,← h2,← h3,← h4];simp
end
section
variable {P:Program} {ops:Array Oper} {Q:Exit→Act→World→Prop} {a0:Act} {w0:World} {n:Nat} {ss:List Nat} {S0:Nat→Prop} {SS:Nat→Nat→Prop} {l:List QPred} {c:List Nat} {al:List QRow} {i:Nat} {o:Oper}
/-- what is known where an operation beside the chain stands -/
structure StE (ops:Array Oper) (a0:Act) (w0:World) (n:Nat) (ss:List Nat) (S0:Nat→Prop) (SS:Nat→Nat→Prop) (l:List QPred) (c:List Nat) (i:Nat) (o:Oper) (Z:Nat→Prop) (t:List Value) (a:Act) (w:World):Prop where
 inZ:∀ j,Z j→w0.heap.size≤j∧j < w.heap.size
 m:Mod (fun j=>(j < w0.heap.size∧S0 j)∨w0.heap.size≤j) w0 w
 m0:Mod (fun j=>(j < w0.heap.size∧∃ k,k < t.length∧SS k j)∨w0.heap.size≤j) w0 w
 out:∀ t,t ∉ ss→a.eval (.tmp t)=a0.eval (.tmp t)
 sz:∀ s,s < n→s < a.tmps.size
 on:∀ e ∈ o.after,Region.binds .any e=true→∀ s,(ops[e.on]?).bind (·.dst)=some s→(l.getD e.on qa) Z t (a.eval (.tmp s)) w
 ub:∀ k q,c[k]? = some q→(clo ops ops.size (B1 ops q)).contains i=true→t.length≤k
 pre:∀ j s,(ops[j]?).bind (·.dst)=some s→(clo ops ops.size (B1 ops j)).contains i=true→a.eval (.tmp s)=a0.eval (.tmp s)
theorem StE.v {Z:Nat→Prop} {t:List Value} {a:Act} {w:World} (E:StE ops a0 w0 n ss S0 SS l c i o Z t a w) {k:Nat} {v:Value} (h:a0.eval (.tmp k)=v) (hk:k ∉ ss:=by decide):a.eval (.tmp k)=v:=(E.out k hk).trans h
theorem StE.e {Z:Nat→Prop} {t:List Value} {a:Act} {w:World} (E:StE ops a0 w0 n ss S0 SS l c i o Z t a w) (k:Nat) (g:Ground) {s:Nat} (h:(⟨k,g⟩:Edge) ∈ o.after:=by simp) (hb:Region.binds .any ⟨k,g⟩=true:=by rfl) (hs:(ops[k]?).bind (·.dst)=some s:=by rfl):(l.getD k qa) Z t (a.eval (.tmp s)) w:=E.on ⟨k,g⟩ h hb s hs
theorem StE.d {Z:Nat→Prop} {t:List Value} {a:Act} {w:World} (E:StE ops a0 w0 n ss S0 SS l c i o Z t a w) (k:Nat) {s:Nat} (h:(⟨k,.data⟩:Edge) ∈ o.after:=by simp) (hs:(ops[k]?).bind (·.dst)=some s:=by rfl):(l.getD k qa) Z t (a.eval (.tmp s)) w:=E.on ⟨k,.data⟩ h rfl s hs
/-- where one of the chain stands -/
structure ChE (ops:Array Oper) (a0:Act) (n:Nat) (ss:List Nat) (B:Nat) (l:List QPred) (i:Nat) (o:Oper) (Y:Nat→Prop) (Z:Nat→Prop) (t:List Value) (a:Act) (w:World):Prop where
 YZ:∀ j,Y j→Z j
 inZ:∀ j,Z j→B≤j∧j < w.heap.size
 out:∀ t,t ∉ ss→a.eval (.tmp t)=a0.eval (.tmp t)
 sz:∀ s,s < n→s < a.tmps.size
 on:∀ e ∈ o.after,Region.binds .any e=true→∀ s,(ops[e.on]?).bind (·.dst)=some s→(l.getD e.on qa) Z t (a.eval (.tmp s)) w
 pre:∀ j s,(ops[j]?).bind (·.dst)=some s→(clo ops ops.size (B1 ops j)).contains i=true→a.eval (.tmp s)=a0.eval (.tmp s)
theorem ChE.v {B:Nat} {Y Z:Nat→Prop} {t:List Value} {a:Act} {w:World} (E:ChE ops a0 n ss B l i o Y Z t a w) {k:Nat} {v:Value} (h:a0.eval (.tmp k)=v) (hk:k ∉ ss:=by decide):a.eval (.tmp k)=v:=(E.out k hk).trans h
theorem ChE.e {B:Nat} {Y Z:Nat→Prop} {t:List Value} {a:Act} {w:World} (E:ChE ops a0 n ss B l i o Y Z t a w) (k:Nat) (g:Ground) {s:Nat} (h:(⟨k,g⟩:Edge) ∈ o.after:=by simp) (hb:Region.binds .any ⟨k,g⟩=true:=by rfl) (hs:(ops[k]?).bind (·.dst)=some s:=by rfl):(l.getD k qa) Z t (a.eval (.tmp s)) w:=E.on ⟨k,g⟩ h hb s hs
theorem ChE.d {B:Nat} {Y Z:Nat→Prop} {t:List Value} {a:Act} {w:World} (E:ChE ops a0 n ss B l i o Y Z t a w) (k:Nat) {s:Nat} (h:(⟨k,.data⟩:Edge) ∈ o.after:=by simp) (hs:(ops[k]?).bind (·.dst)=some s:=by rfl):(l.getD k qa) Z t (a.eval (.tmp s)) w:=E.on ⟨k,.data⟩ h rfl s hs
theorem QChain.go {B:Nat} {Y:Nat→Prop} {k:Nat} {t:List Value} {w:World} (h:∀ Z a,ChE ops a0 n ss B l i o Y Z t a w→wpOp P ops Q i (fun a' w'=>∃ v,a'=a.put o.dst v∧QPost P ops Q a0 n ss B S0 SS l al i c k Y t w v w') a w) (ho:ops[i]? = some o:=by rfl):QChain P ops Q a0 n ss B S0 SS l al (i :: c) k Y t w:=
 QChain.cons ho fun Z a h1 h2 h3 h4 h5 h6=>h Z a ⟨h1,h2,h3,h4,h5,h6⟩
/-- an answer of the chain's, with what it reads in blocks of its own -/
def qx (j B:Nat) (S0:Nat→Prop) (F:(Nat→Prop)→World→Value→Prop):QPred:=fun Z t v w=>t[j]? = some v∧qr B S0 F Z t v w
theorem stq {v:Value} (hs:∀ {Z:Nat→Prop} {t:List Value} {a:Act} {w:World},StE ops a0 w0 n ss S0 SS l c i o Z t a w→(execOp a.eval o).run P w=.ok (.value v) w) (ho:ops[i]? = some o:=by rfl) (hg:o.guard=none:=by rfl) (hv:l.getD i qa=qi v:=by rfl)
 (h:c.contains i=false:=by rfl) (h0:al.find? (fun r=>r.a == i)=none:=by rfl) (h1:al.find? (fun r=>r.s == i)=none:=by rfl):StepQ P ops Q a0 w0 n ss S0 SS l c al i o:=
 Ag h h0 h1 fun Z t a w k1 k2 k3 k4 k5 k6 k7 k8=>Aq ho (Ab hg) (hs ⟨k1,k2,k3,k4,k5,k6,k7,k8⟩) QE.refl (by rw [hv];rfl)
def gw (vs:List Value) (i:Nat):Value:=vs.getD i undef
theorem Bh {vs:List Value} {n:Nat} (hl:vs.length=n):vs=(List.range n).map fun i=>gw vs i:=list_eta hl
theorem fvi {Z:Nat→Prop} {t:List Value} {w:World} {vs:List Value} {m:Nat} {x:Value} (hV:∀ p v,vs[p]? = some v→(l.getD p qa) Z t v w) (hl:vs.length=m) (p:Nat) (hp:p < m:=by decide) (he:l.getD p qa=qi x:=by rfl):gw vs p=x:=by
 have h:=hV p _ (getq hl hp)
 rw [he] at h
 exact h
theorem fvc {Z:Nat→Prop} {t:List Value} {w:World} {vs:List Value} {m k:Nat} {x:Value} (hV:∀ p v,vs[p]? = some v→(l.getD p qa) Z t v w) (hl:vs.length=m) (p:Nat) (hp:p < m:=by decide) (he:l.getD p qa=qv k:=by rfl) (hx:t[k]? = some x:=by rfl):gw vs p=x:=by
 have h:=hV p _ (getq hl hp)
 rw [he] at h
 exact (Option.some.inj (hx.symm.trans h)).symm
/-- a region without new variables -/
theorem B0 {d:Bool} {id:Nat} (n:Nat) (hn:a0.tmps.size=n) (ss:List Nat)
 (S0:Nat→Prop) (SS:Nat→Nat→Prop) (hSS:∀ k j,SS k j→S0 j) (l:List QPred) (stable:AllQ w0.heap.size S0 l) (c:List Nat)
 (step:Each (StepQ P ops Q a0 w0 n ss S0 SS l c []) 0 ops.toList)
 (start:∀ w1,Mod (fun j=>w0.heap.size≤j) w0 w1→QChain P ops Q a0 n ss w0.heap.size S0 SS l [] c 0 (fun _=>False) [] w1)
 (hm:P.follows .mixedOrders=true:=by kernel_rfl) (hac:backward ops=true:=by kernel_rfl) (hss:okSlots ops n ss=true:=by kernel_rfl) (hnd:ss.Nodup:=by decide) (hlk:linked ops c=true:=by kernel_rfl) (hcn:c.Nodup:=by decide) (hcs:(c.all fun i=>decide (i < ops.size))=true:=by kernel_rfl):(Code.region id ops d).wp P Q a0 w0:=
 wp_region_Q n hn hm hac ss hss hnd S0 SS hSS l stable c hlk hcn hcs [] rfl (fun r hr=>by cases hr) (fun r hr=>by cases hr) (fun r hr=>by cases hr) step start
/-- one that turns nothing of old -/
theorem Az {d:Bool} {id:Nat} (n:Nat) (hn:a0.tmps.size=n) (ss:List Nat) (l:List QPred) (stable:AllQ w0.heap.size (fun _=>False) l) (c:List Nat)
 (step:Each (StepQ P ops Q a0 w0 n ss (fun _=>False) (fun _ _=>False) l c []) 0 ops.toList)
 (start:∀ w1,Mod (fun j=>w0.heap.size≤j) w0 w1→QChain P ops Q a0 n ss w0.heap.size (fun _=>False) (fun _ _=>False) l [] c 0 (fun _=>False) [] w1)
 (hm:P.follows .mixedOrders=true:=by kernel_rfl) (hac:backward ops=true:=by kernel_rfl) (hss:okSlots ops n ss=true:=by kernel_rfl) (hnd:ss.Nodup:=by decide) (hlk:linked ops c=true:=by kernel_rfl) (hcn:c.Nodup:=by decide) (hcs:(c.all fun i=>decide (i < ops.size))=true:=by kernel_rfl):(Code.region id ops d).wp P Q a0 w0:=
 B0 n hn ss _ _ (fun _ _ h=>h) l stable c step start hm hac hss hnd hlk hcn hcs
theorem Ax {KQ:Value→World→Prop} {a:Act} {w:World} {F:FuncId} {xs:Array Operand} {ts:Array TypeId} {args:Array Value} {post:Ending→World→Prop} {fn:Func} (ho:ops[i]? = some o) (hw:Region.wanted o (yielded ops a.tmps)=true) (hop:o.op=.call { callee:=.value (.func F),args:=xs,argTypes:=ts })
 (hf:P.funcs[F]? = some fn) (ha:xs.map a.eval=args) (hcl:Calls P F args w post) (hp:∀ e w',post e w'→∃ v,e=.returned v∧KQ v w') (hn:(fn.name == "runtime.NumGoroutine")=false:=by kernel_rfl) (hb:fn.body.isNone=false:=by kernel_rfl):wpOp P ops Q i (fun a' w'=>∃ v,a'=a.put o.dst v∧KQ v w') a w:=
 qc_call ho hw (by rw [A8 hop hf hn hb,ha]) hcl hp
theorem qe_callF {B:Nat} {Z:Nat→Prop} {t:List Value} {a:Act} {w:World} {F:FuncId} {xs:Array Operand} {ts:Array TypeId} {args:Array Value} {post:Ending→World→Prop} {fn:Func} (ho:ops[i]? = some o) (hw:Region.wanted o (yielded ops a.tmps)=true) (hop:o.op=.call { callee:=.value (.func F),args:=xs,argTypes:=ts })
 (hf:P.funcs[F]? = some fn) (ha:xs.map a.eval=args) (hcl:Calls P F args w post) (hp:∀ e w',post e w'→∃ v,e=.returned v∧QE B Z w w'∧(l.getD i qa) Z t v w') (hn:(fn.name == "runtime.NumGoroutine")=false:=by kernel_rfl) (hb:fn.body.isNone=false:=by kernel_rfl):wpOp P ops Q i (QJ B l Z i o t a w) a w:=
 qe_call ho hw (by rw [A8 hop hf hn hb,ha]) hcl hp
end
end Go.Gv

/- Answers of the chain of which more is known than what they are: new variables that are written whole with them. No program here. -/
namespace Go.Gv
open Go Go.RowKit
end Go.Gv

/- A region that keeps its order, told operation by operation. No program here. -/
namespace Go.Gv
open Go Go.RowKit
theorem putAll_snoc:∀ (ss:List Nat) (t:List Value) (a:Act) (s:Nat) (v:Value),ss[t.length]? = some s→(Ar a ss t).put (some s) v=Ar a ss (t ++ [v])
 | [],t,a,s,v,h=>by simp at h
 | s :: ss,[],a,s',v,h=>by
  simp only [List.length_nil,List.getElem?_cons_zero,Option.some.injEq] at h
  subst h
  cases ss<;>rfl
 | s :: ss,u :: t,a,s',v,h=>by
  simp only [List.length_cons,List.getElem?_cons_succ] at h
  simp only [List.cons_append,Ar]
  exact putAll_snoc ss t _ s' v h
theorem putAll_take:∀ (ss:List Nat) (t:List Value) (a:Act),Ar a ss t=Ar a (ss.take t.length) t
 | [],t,a=>by simp
 | s :: ss,[],a=>rfl
 | s :: ss,u :: t,a=>by
  simp only [List.length_cons,List.take_succ_cons,Ar]
  exact putAll_take ss t _
theorem putAll_at:∀ (ss:List Nat) (t:List Value) (a:Act) (p s:Nat) (v:Value),ss.Nodup→ss[p]? = some s→t[p]? = some v→s < a.tmps.size→(Ar a ss t).tmps[s]? = some v
 | [],t,a,p,s,v,hn,h,hv,hs=>by simp at h
 | s :: ss,[],a,p,s',v,hn,h,hv,hs=>by simp at hv
 | s :: ss,u :: t,a,0,s',v,hn,h,hv,hs=>by
  simp only [List.getElem?_cons_zero,Option.some.injEq] at h hv
  subst h hv
  simp only [Ar]
  rw [putAll_out ss t _ s (List.nodup_cons.1 hn).1,put_tmps]
  simp [hs]
 | s :: ss,u :: t,a,p+1,s',v,hn,h,hv,hs=>by
  simp only [List.getElem?_cons_succ] at h hv
  simp only [Ar]
  exact putAll_at ss t _ p s' v (List.nodup_cons.1 hn).2 h hv (by simpa [put_tmps] using hs)
/-- what is known of the frame where an operation stands: t: the answers of those ahead of it, the last one first -/
structure SqE (a0:Act) (n:Nat) (ss:List Nat) (t:List Value) (a:Act):Prop where
 out:∀ s:Nat,s ∉ ss→a.eval (.tmp s)=a0.eval (.tmp s)
 sz:∀ s:Nat,s < n→s < a.tmps.size
 on:∀ (k p s:Nat) (v:Value),ss[k]? = some s→t[p]? = some v→p+k+1=t.length→s < n→a.eval (.tmp s)=v
 yet:∀ (k s:Nat),t.length≤k→ss[k]? = some s→a.eval (.tmp s)=a0.eval (.tmp s)
section
variable {P:Program} {ops:Array Oper} {Q:Exit→Act→World→Prop} {a0:Act} {n:Nat} {ss:List Nat} {c:List Nat} {i:Nat} {o:Oper} {t:List Value} {w w':World} {a:Act}
theorem SqE.v (E:SqE a0 n ss t a) {k:Nat} {v:Value} (h:a0.eval (.tmp k)=v) (hk:k ∉ ss:=by decide):a.eval (.tmp k)=v:=(E.out k hk).trans h
theorem SqE.y (E:SqE a0 n ss t a) (k:Nat) {s:Nat} {v:Value} (h:a0.eval (.tmp s)=v) (hs:ss[k]? = some s:=by rfl) (hk:Nat.ble t.length k=true:=by rfl):a.eval (.tmp s)=v:=(E.yet k s (Nat.le_of_ble_eq_true hk) hs).trans h
theorem SqE.d (E:SqE a0 n ss t a) (k p:Nat) {s:Nat} {v:Value} (hs:ss[k]? = some s:=by rfl) (hv:t[p]? = some v:=by rfl) (hp:p+k+1=t.length:=by rfl) (hn:s < n:=by decide):a.eval (.tmp s)=v:=E.on k p s v hs hv hp hn
theorem SqE.q (E:SqE a0 n ss t a) (k p:Nat) {s:Nat} {v x:Value} {b:Bool} (h:(b=true→v=x)∧(b=false→v=undef)) (hs:ss[k]? = some s:=by rfl) (hv:t[p]? = some v:=by rfl) (hp:p+k+1=t.length:=by rfl) (hn:s < n:=by decide):(b=true→a.eval (.tmp s)=x)∧(b=false→a.eval (.tmp s)=undef):=by
 rw [E.on k p s v hs hv hp hn]
 exact h
def QSeq (P:Program) (ops:Array Oper) (Q:Exit→Act→World→Prop) (a0:Act) (n:Nat) (ss:List Nat):List Nat→List Value→World→Prop
 | [],t,w=>Q .normal (Ar a0 ss t.reverse) w
 | i :: c,t,w=>∀ a,SqE a0 n ss t a→wpOp P ops Q i (fun a' w'=>∃ o v,ops[i]? = some o∧a'=a.put o.dst v∧QSeq P ops Q a0 n ss c (v :: t) w') a w
theorem QSeq.go (h:∀ a,SqE a0 n ss t a→wpOp P ops Q i (fun a' w'=>∃ v,a'=a.put o.dst v∧QSeq P ops Q a0 n ss c (v :: t) w') a w) (ho:ops[i]? = some o:=by rfl):QSeq P ops Q a0 n ss (i :: c) t w:=
 fun a E=>wpOp_mono (fun a' w' ⟨v,e,hq⟩=>⟨o,v,ho,e,hq⟩) (h a E)
theorem QSeq.nil {t':List Value} (e:t.reverse=t') (h:Q .normal (Ar a0 ss t') w):QSeq P ops Q a0 n ss [] t w:=by subst e;exact h
theorem QSeq.pure {v':Value} (ho:ops[i]? = some o) (v:Value) (hs:∀ {a},SqE a0 n ss t a→(execOp a.eval o).run P w=.ok (.value v') w) (h:QSeq P ops Q a0 n ss c (v :: t) w) (hg:o.guard=none:=by rfl) (hv:v'=v:=by rfl):QSeq P ops Q a0 n ss (i :: c) t w:=
 QSeq.go (fun a E=>qc_run ho (Ab hg) (hv▸hs E) h) ho
theorem QSeq.pureG {v':Value} (ho:ops[i]? = some o) (v:Value) (hw:∀ {a},SqE a0 n ss t a→Region.wanted o (yielded ops a.tmps)=true) (hs:∀ {a},SqE a0 n ss t a→(execOp a.eval o).run P w=.ok (.value v') w) (h:QSeq P ops Q a0 n ss c (v :: t) w) (hv:v'=v:=by rfl):QSeq P ops Q a0 n ss (i :: c) t w:=
 QSeq.go (fun a E=>qc_run ho (hw E) (hv▸hs E) h) ho
theorem QSeq.skip (ho:ops[i]? = some o) (hw:∀ {a},SqE a0 n ss t a→Region.wanted o (yielded ops a.tmps)=false) (h:QSeq P ops Q a0 n ss c (undef :: t) w):QSeq P ops Q a0 n ss (i :: c) t w:=by
 refine QSeq.go (fun a E=>?_) ho
 unfold wpOp
 rw [ho]
 simp only [hw E]
 exact ⟨undef,rfl,h⟩
/-- one that a test may leave out -/
theorem QSeq.may {b:Bool} {x':Value} (ho:ops[i]? = some o) (x:Value) (hw:∀ {a},SqE a0 n ss t a→Region.wanted o (yielded ops a.tmps)=b) (hs:∀ {a},SqE a0 n ss t a→b=true→(execOp a.eval o).run P w=.ok (.value x') w)
 (h:∀ v,((b=true→v=x)∧(b=false→v=undef))→QSeq P ops Q a0 n ss c (v :: t) w) (hv:x'=x:=by rfl):QSeq P ops Q a0 n ss (i :: c) t w:=by
 cases b with
 | false=>exact QSeq.skip ho hw (h undef ⟨(fun e=>by cases e),fun _=>rfl⟩)
 | true=>exact QSeq.pureG ho x hw (fun E=>hs E rfl) (h x ⟨fun _=>rfl,fun e=>by cases e⟩) hv
theorem wp_region_S {id:Nat} (n:Nat) (hn:a0.tmps.size=n) (ss:List Nat) (c:List Nat) (h:QSeq P ops Q a0 n ss c [] w) (hc:c=List.range ops.size:=by kernel_rfl) (hss:okSlots ops n ss=true:=by kernel_rfl) (hnd:ss.Nodup:=by decide):(Code.region id ops false).wp P Q a0 w:=by
 subst hc
 refine wp_region ?_
 have key:∀ (m i:Nat) (t:List Value) (w:World),i+m=ops.size→t.length=i→QSeq P ops Q a0 n ss (List.range' i m) t w→wpOps P ops Q (List.range' i m) (Ar a0 ss t.reverse) w:=by
  intro m
  induction m with
  | zero=>intro i t w _ _ h;exact h
  | succ m ih=>
   intro i t w him hti h
   rw [List.range'_succ] at h ⊢
   rw [wpOps_cons]
   refine wpOp_mono ?_ (h (Ar a0 ss t.reverse) ⟨fun s hs=>eval_out _ _ _ _ hs,fun s hs=>by rw [putAll_size,hn];exact hs,fun k p s v hk hv hp hsn=>?_,fun k s hk hks=>?_⟩)
   ·rintro a' w' ⟨o,v,ho,rfl,hq⟩
    obtain ⟨s,hs,hds⟩:=okSlots_at hss ho
    have e:(Ar a0 ss t.reverse).put o.dst v=Ar a0 ss (v :: t).reverse:=by
     have e1:=putAll_snoc ss t.reverse a0 s v (by rw [List.length_reverse,hti];exact hs)
     rw [List.reverse_cons]
     rcases hds with ⟨h1,h2⟩|⟨h1,h2⟩
     ·rw [h1];exact e1
     ·rw [h1,← e1,put_far _ (by rw [putAll_size,hn];exact h2)];rfl
    rw [e]
    exact ih (i+1) (v :: t) w' (by omega) (by simp [hti]) hq
   ·have hv':t.reverse[k]? = some v:=by
     rw [List.getElem?_reverse (by omega),show t.length - 1 - k=p by omega]
     exact hv
    have:=putAll_at ss t.reverse a0 k s v hnd hk hv' (by rw [hn];exact hsn)
    simp only [Act.eval,Array.getD_eq_getD_getElem?]
    rw [this]
    rfl
   ·rw [putAll_take]
    refine eval_out _ _ _ _ fun hm=>?_
    obtain ⟨j,hj,e⟩:=List.getElem_of_mem hm
    rw [List.getElem_take] at e
    have hj2:j < t.length:=by rw [List.length_take,List.length_reverse] at hj;omega
    have hj3:ss[j]? = some s:=by rw [← e];exact List.getElem?_eq_getElem _
    have:=(List.getElem?_inj (List.getElem?_eq_some_iff.1 hj3).1 hnd).1 (hj3.trans hks.symm)
    omega
 rw [List.range_eq_range'] at h ⊢
 have hk:=key ops.size 0 [] w (by omega) rfl h
 rw [show Ar a0 ss ([]:List Value).reverse=a0 by cases ss<;>rfl] at hk
 exact hk
/-- a new variable, with what is in it -/
theorem qc_box {KQ:Value→World→Prop} {ty:TypeId} {x:Operand} (ho:ops[i]? = some o) (hw:Region.wanted o (yielded ops a.tmps)=true) (hop:o.op=.box ty x) {vs:List Value} (hx:(a.eval x).cells=vs.toArray)
 (h:∀ w',Cs w' w.heap.size vs.toArray ty→Mod (fun _=>False) w w'→KQ (.pointer (some ⟨w.heap.size,0,none⟩)) w'):wpOp P ops Q i (fun a' w'=>∃ v,a'=a.put o.dst v∧KQ v w') a w:=by
 have hr:(execOp a.eval o).run P w=.ok (.value (.pointer (some ⟨w.heap.size,0,none⟩))) (w.alloc (.cells vs.toArray ty)):=by
  unfold execOp
  simp [hop,Instr.box,newVar,newRow,hx]
 exact qc_run ho hw hr (h _ (Cs.new _ _ _) ((Mod.refl _ _).alloc _))
theorem Cc (b:Bool):(b == true)=b:=by cases b<;>rfl
theorem Mod.goS {S S' T:Nat→Prop} {w a b:World} (h:Mod S w a) (hm:Mod T a b) (hS:∀ k,S k→S' k) (hT:∀ k,k < w.heap.size→T k→S' k):Mod S' w b:=(h.mono (fun k _ h=>hS k h)).trans hm hT
theorem Mod.goE {S:Nat→Prop} {w a b:World} (h:Mod S w a) (hm:Mod (fun _=>False) a b):Mod S w b:=h.trans hm (fun _ _ h=>h.elim)
theorem ev {a1 a0:Act} (h:Hid (a1=a0)) (k:Nat) {v:Value} (e:a1.tmps.toList[k]? = some v):a0.eval (.tmp k)=v:=by
 have h:=h.out
 subst h
 simp only [Act.eval,Array.getD_eq_getD_getElem?]
 rw [← Array.getElem?_toList,e]
 rfl
theorem Al {id:Nat} {a1:Act} (n:Nat) (ss:List Nat) (c:List Nat) (h:∀ a0,Hid (a1=a0)→QSeq P ops Q a0 n ss c [] w) (hn:a1.tmps.size=n:=by rfl) (hc:c=List.range ops.size:=by kernel_rfl) (hss:okSlots ops n ss=true:=by kernel_rfl) (hnd:ss.Nodup:=by decide):(Code.region id ops false).wp P Q a1 w:=
 wp_region_S n hn ss c (h a1 rfl) hc hss hnd
theorem Cs.eqv {g:Nat} {a b:Array Value} {T:TypeId} (h:Cs w g a T) (e:a=b):Cs w g b T:=e▸h
theorem one1 {v:Value} (h:v.oneCell'=true:=by rfl):∀ u ∈ [v],u.oneCell'=true:=by
 intro u hu
 rw [List.mem_singleton] at hu
 rw [hu]
 exact h
theorem ec {x:Operand} {v:Value} {vs:List Value} (h:a.eval x=v) (e:v.cells=vs.toArray:=by rfl):(a.eval x).cells=vs.toArray:=by rw [h];exact e
theorem sB {R:Nat→Prop} {m b:Nat} (hb:Hid (∀ k,R k→k < m)) (h:m≤b:=by omega):∀ k,R k→k=b→False:=fun k h1 h2=>by have:=hb.out k h1;omega
theorem pz:(∀ a ss,Ar a ss []=a)∧(∀ a s ss v vs,Ar a (s :: ss) (v :: vs)=Ar (a.put (some s) v) ss vs):=⟨fun a ss=>by cases ss<;>rfl,fun _ _ _ _ _=>rfl⟩
theorem QSeq.call {F:FuncId} {xs:Array Operand} {ts:Array TypeId} {args:Array Value} {post:Ending→World→Prop} {fn:Func} (ho:ops[i]? = some o) (hop:o.op=.call { callee:=.value (.func F),args:=xs,argTypes:=ts }) (hf:P.funcs[F]? = some fn)
 (hcl:Calls P F args w post) (ha:∀ {a},SqE a0 n ss t a→xs.map a.eval=args) (hp:∀ e w',post e w'→∃ v,e=.returned v∧QSeq P ops Q a0 n ss c (v :: t) w') (hg:o.guard=none:=by rfl) (hn:(fn.name == "runtime.NumGoroutine")=false:=by kernel_rfl) (hb:fn.body.isNone=false:=by kernel_rfl):QSeq P ops Q a0 n ss (i :: c) t w:=
 QSeq.go (fun a E=>Ax ho (Ab hg) hop hf (ha E) hcl hp hn hb) ho
end
end Go.Gv

/- gavelref01: numbers and rows as bytes. -/
namespace Go.Proofs.Ytbifincepglilaa
open Go Go.RowKit Go.Gv
/-- the blocks of what an append gave: those before, or new ones since w -/
theorem AppB.trans {w0 w w':World} {v v':Value} {bs:List Int} (h:AppB w v bs v' w') (hm:Mod (fun _=>False) w0 w) (hf:Fresh w0 v):Mod (fun _=>False) w0 w'∧Fresh w0 v':=by
 obtain ⟨h1,h2,h3⟩:=h
 refine ⟨hm.trans h2 (fun i hi hk=>by have:=hf i hk.symm;omega),fun g hg=>?_⟩
 rcases h3 with h3|⟨k,h3,hk⟩
 ·exact hf g (h3▸hg)
 ·rw [h3] at hg
  obtain rfl:k=g:=by simpa using hg
  exact Nat.le_trans hm.size hk
theorem RefNum_any (n:Nat) (hn:n < U64) (w:World) :
 Calls Try.prog 74 #[.int .u64 n] w fun e w'=>∃ v',e=.returned v'∧OwnB w' v' (encN n)∧Fresh w v'∧Mod (fun _=>False) w w':=by
 have hen:=encN_len10 hn
 have HN:=Lib.hid hn
 clear hn
 go_enter Try.func74,Try.ntmps74
 go_wp2
 go_loopw [0,3] (fun t o wr=>∃ (m:Nat) (bs':List Int) (ao:Option Addr) (cap:Nat),t=.int .u64 m∧m≤n∧bs' ++ encN m=encN n∧o=.slice ao bs'.length cap∧OwnB wr (.slice ao bs'.length cap) bs'∧Fresh w (.slice ao bs'.length cap)∧Mod (fun _=>False) w wr) (fun t _ _=>(intOf t).toNat)
 case atStart=>exact ⟨n,[],none,0,rfl,Nat.le_refl _,rfl,rfl,OwnB.nil _,(fun g hg=>by cases hg),Mod.refl _ _⟩
 case round=>
  obtain ⟨m,bs',ao,cap,rfl,hm,hbs,rfl,ho,hfr,hmod⟩:=hrel
  have hlen:bs'.length+(encN m).length=(encN n).length:=by have:=congrArg List.length hbs;simpa using this
  have hpos:=encN_pos m
  have hroom:bs'.length+1≤Room:=by unfold Room;omega
  have Hbs:=Lib.hid hbs
  have Hfr:=Lib.hid hfr
  have Hm:=Lib.hid hmod
  have Hr:=Lib.hid hroom
  have HO:=Lib.hid ho
  clear hbs hfr hmod hlen hroom hpos hen ho
  have hdv:IntKind.u64.wrap ((m:Int) / 128)=(m:Int) / 128:=by
   have:=HN.out
   unfold U64 at this
   simp only [IntKind.wrap,IntKind.bits,IntKind.signed];simp;omega
  by_cases h128:(128:Int)≤m
  ·go_wp2_with (at_builtin;go_must (refine wpList_appB rfl (.tmp 6) (.tmp 11) rfl rfl (HO.out.alloc _) (new:=[(m:Int) % 128+128]) rfl (RdB_one _ (by omega) (by omega) _) Hr.out ?_))
   intro ao1 cap1 w1 happ
   have hT:=AppB.trans happ (Hm.out.alloc _) Hfr.out
   have HT:=Lib.hid hT
   have HO1:=Lib.hid happ.1
   clear hT happ
   go_wp2
   go_roundw
   case rel=>exact ⟨m / 128,bs' ++ [(m:Int) % 128+128],ao1,cap1,by go_num,by omega,by have:=Hbs.out;rw [encN_ge (by omega)] at this;simpa using this,by simp,by simpa using HO1.out,by simpa using HT.out.2,HT.out.1⟩
   case measure=>simp [intOf];omega
  ·go_wp2_with (at_builtin;go_must (refine wpList_appB rfl (.tmp 15) (.tmp 18) rfl rfl (HO.out.alloc _) (new:=[(m:Int)]) rfl (RdB_one _ (by omega) (by omega) _) Hr.out ?_))
   intro ao1 cap1 w1 happ
   have hT:=AppB.trans happ (Hm.out.alloc _) Hfr.out
   have HT:=Lib.hid hT
   have HO1:=Lib.hid happ.1
   clear hT happ
   go_wp2
   go_ret
   have hb:=Hbs.out
   rw [encN_lt (by omega)] at hb
   rw [← hb]
   exact ⟨_,rfl,HO1.out,HT.out.2,HT.out.1⟩
theorem RefNum_R (n:Nat) (hn:n < U64) (w:World) :
 Calls Try.prog 74 #[.int .u64 n] w fun e w'=>∃ v',e=.returned v'∧OwR (New w w') 10 w' v' (encN n)∧Mod (fun _=>False) w w':=
 (RefNum_any n hn w).mono fun _ _ ⟨v',he,ho,hf,hm⟩=>⟨v',he,OwR_of 10 ho hf (encN_len10 hn).2,hm⟩
theorem RefInt_R (n:Int) (hn:-9223372036854775808≤n∧n≤9223372036854775807) (w:World) :
 Calls Try.prog 66 #[.int .i64 n] w fun e w'=>∃ v',e=.returned v'∧OwR (New w w') 10 w' v' (encI n)∧Mod (fun _=>False) w w':=by
 by_cases h0:0≤n
 ·obtain ⟨k,rfl⟩:=Int.eq_ofNat_of_zero_le h0
  rw [encI_nat]
  have K:=Lib.hid (RefNum_R k (by unfold U64;omega))
  go_enter Try.func66,Try.ntmps66
  go_wp2_with (go_at_call 74;go_must (refine (K.out _).mono ?_);rintro e w' ⟨v',rfl,h1,h2⟩;have H1:=Lib.hid h1;have H2:=Lib.hid h2;clear h1 h2)
  go_ret
  exact ⟨v',rfl,H1.out,H2.out⟩
 ·have e:encI n=encN 0:=by unfold encI;congr 1;omega
  rw [e]
  have K:=Lib.hid (RefNum_R 0 (by unfold U64;omega))
  clear e
  go_enter Try.func66,Try.ntmps66
  go_wp2_with (go_at_call 74;go_must (refine (K.out _).mono ?_);rintro e w' ⟨v',rfl,h1,h2⟩;have H1:=Lib.hid h1;have H2:=Lib.hid h2;clear h1 h2)
  go_ret
  exact ⟨v',rfl,H1.out,H2.out⟩
theorem RefRow_R {R:Nat→Prop} {N:Nat} {v:Value} {bs:List Int} {w:World} (hr:RdR R N w v bs) (hN:N≤900000) :
 Calls Try.prog 65 #[v] w fun e w'=>∃ v',e=.returned v'∧OwR (New w w') (N+10) w' v' (encN bs.length ++ bs)∧Mod (fun _=>False) w w':=by
 obtain ⟨ao,cap,rfl⟩:=hr.shape
 have K:=Lib.hid (RefInt_R bs.length (by have:=hr.2.2;omega))
 have HR:=Lib.hid hr
 have HL:=Lib.hid (show bs.length < U64 by have:=hr.2.2;unfold U64;omega)
 clear hr
 go_enter Try.func65,Try.ntmps65
 go_wp2_with (first
  | (go_at_call 66;go_must (refine (K.out _).mono ?_);rintro e w1 ⟨v1,rfl,h1,h2⟩;rw [encI_nat] at h1;have z1:=h2.size;have H1:=Lib.hid h1;have H2:=Lib.hid h2;have HR1:=Lib.hid (HR.out.mod h2 (fun _ _ h=>h));clear h1 h2)
  | (at_builtin;go_must (refine wpList_appR rfl (.tmp 5) (.tmp 6) rfl rfl H1.out rfl HR1.out (by omega) ?_)))
 intro ao2 cap2 w2 ho hm
 have z2:=hm.size
 have HO:=Lib.hid ho
 have HM:=Lib.hid hm
 clear ho hm
 go_wp2
 go_ret
 exact ⟨_,rfl,HO.out.widen (fun k h=>by unfold New at *; omega) (by omega),H2.out.trans HM.out (fun i hi h=>by unfold New at h;omega)⟩
end Go.Proofs.Ytbifincepglilaa

/- gavelref01.join: bytes, one behind the other; a region that joins what calls answer. -/
namespace Go.Gv
open Go Go.RowKit
section
variable {P:Program} {o:Oper} {a:Act} {w w':World}
/-- a row of slices is made -/
theorem ex_buildSl {ts T:TypeId} {n:Nat} {parts:Array (Nat × Operand)} (ho:o.op=.buildSlice ts n parts) (hu:P.underlying ts=some (.slice T)) (hie:(P.info? T).map (fun i=>(i.size,i.zero))=some (1,some (.slice none 0 0))) (hn:n≠0∧n≤1000) {C:Array Value}
 (hf:Instr.fill (fun i=>some (i * 1,1)) ((Array.range (n * 1)).map (#[Value.slice none 0 0][· % 1]!)) (parts.map fun (i,x)=>(i,a.eval x)).toList=some C) :
 (execOp a.eval o).run P w=.ok (.value (.slice (some ⟨w.heap.size,0,none⟩) n n)) (w.alloc (.cells C T)):=by
 cases hq:P.info? T with
 | none=>rw [hq] at hie;cases hie
 | some ie=>
  rw [hq] at hie
  have e:=Option.some.inj hie
  have e1:ie.size=1:=congrArg Prod.fst e
  have e2:ie.zero=some (.slice none 0 0):=congrArg Prod.snd e
  have hr:=run_buildSlice (P:=P) w ts T n (parts.map fun (i,x)=>(i,a.eval x)) C ie (.slice none 0 0) hu hq e2 (by rw [e1];omega) (by rw [e1];omega) (by rw [e1];exact hf)
  unfold execOp
  simp only [ho,Sem.run_bind,hr,Result.andThen_ok,Sem.run_pure]
end
/-- marks turn no cell -/
theorem Marked.cell {B:Nat} {T8:TypeId} {w w':World} (hm:Marked B T8 w w') {p:Addr} {u:Value} (h:w.cell? p=some u):w'.cell? p=some u:=by
 have hlt:=World.block_lt_of_cell? _ _ h
 rcases hm.block p.block hlt with h1|⟨-,C,m,h1,h2⟩
 ·exact (World.cell?_of_block h1).trans h
 ·unfold World.cell? at h ⊢
  rw [h1] at h
  rw [h2]
  exact h
theorem Rd.cells {s n:Nat} {w w':World} {v:Value} {cs:List Value} (h:Rd s w v n cs) (hc:∀ p u,w.cell? p=some u→w'.cell? p=some u):Rd s w' v n cs:=by
 obtain ⟨hl,ao,cap,rfl,h1,h2,h3,h4⟩:=h
 exact ⟨hl,ao,cap,rfl,h1,h2,h3,fun x hx j u hu=>⟨(h4 x hx j u hu).1,hc _ _ (h4 x hx j u hu).2⟩⟩
theorem Rd.old {s n:Nat} {w:World} {v:Value} {cs:List Value} (hs:0 < s) (h:Rd s w v n cs) (h0:0 < n):∀ g,v.ownBlock=some g→g < w.heap.size:=by
 rcases h.form hs with ⟨rfl,_⟩|⟨g,o,cap,_,rfl,_,_,hl,hc⟩
 ·omega
 ·intro g' hg
  have e:g=g':=by simpa [Value.ownBlock] using hg
  subst e
  have hlt:0 < cs.length:=by rw [hl];exact Nat.mul_pos h0 hs
  exact World.block_lt_of_cell? _ _ (hc 0 _ (List.getElem?_eq_getElem hlt))
end Go.Gv
namespace Go.Proofs.Ytbifincepglilaa
open Go Go.RowKit Go.Gv
theorem RdB.cells {w w':World} {v:Value} {bs:List Int} (h:RdB w v bs) (hc:∀ p u,w.cell? p=some u→w'.cell? p=some u):RdB w' v bs:=⟨h.1,h.2.cells hc⟩
/-- rows of bytes: the outer list, and each row where it lies -/
structure RdJ (w:World) (v:Value) (rs:List (Value × List Int)):Prop where
 o:Rd 1 w v rs.length (rs.map (·.1))
 f:∀ p ∈ rs,RdB w p.1 p.2
theorem RdJ.cells {w w':World} {v:Value} {rs:List (Value × List Int)} (h:RdJ w v rs) (hc:∀ p u,w.cell? p=some u→w'.cell? p=some u):RdJ w' v rs:=⟨h.o.cells hc,fun p hp=>(h.f p hp).cells hc⟩
theorem RdJ.shape {w:World} {v:Value} {rs:List (Value × List Int)} (h:RdJ w v rs):∃ ao cap,v=.slice ao rs.length cap:=by
 obtain ⟨_,ao,cap,e,_⟩:=h.o
 exact ⟨ao,cap,e⟩
theorem RdJ.at {w:World} {ao:Option Addr} {n cap:Nat} {rs:List (Value × List Int)} (h:RdJ w (.slice ao n cap) rs) {i:Nat} (hi:i < rs.length) :
 ∃ g o,ao=some ⟨g,o,none⟩∧g < w.heap.size∧w.cell? ⟨g,o+i,none⟩=some rs[i].1:=by
 rcases h.o.form (by decide) with ⟨h0,_⟩|⟨g,o,cap',h0,hv,h1,h2,hl,hc⟩
 ·omega
 ·simp only [Value.slice.injEq] at hv
  obtain ⟨rfl,rfl,rfl⟩:=hv
  exact ⟨g,o,rfl,h.o.old (by decide) h0 g rfl,hc i _ (by simp [List.getElem?_eq_getElem hi])⟩
/-- a new outer list -/
theorem RdJ.new {w:World} {e:TypeId} {rs:List (Value × List Int)} (h:∀ p ∈ rs,RdB w p.1 p.2) (hl:rs.length≤1000) {C:Array Value} (hC:C=(rs.map (·.1)).toArray) {n:Nat} (hn:n=rs.length):RdJ (w.alloc (.cells C e)) (.slice (some ⟨w.heap.size,0,none⟩) n n) rs:=by
 subst hC
 subst hn
 refine ⟨Rd.mk (Nat.le_refl _) (by rw [Bk];omega) (by simp) fun j y hy=>?_,fun p hp=>(h p hp).alloc _⟩
 rw [Nat.zero_add,(Cs.new w _ e).cell]
 simpa using hy
def flat (rs:List (Value × List Int)):List Int:=(rs.map (·.2)).flatten
theorem flat_take (rs:List (Value × List Int)) (i:Nat) (h:i < rs.length):flat (rs.take (i+1))=flat (rs.take i) ++ rs[i].2:=by
 unfold flat
 rw [List.take_succ_eq_append_getElem h,List.map_append,List.flatten_append]
 simp
theorem flat_le (rs:List (Value × List Int)) (i:Nat):(flat (rs.take i)).length≤(flat rs).length:=by
 conv=>rhs;rw [← List.take_append_drop i rs]
 unfold flat
 rw [List.map_append,List.flatten_append,List.length_append]
 omega
set_option maxHeartbeats 4000000 in
theorem Join_any (v:Value) (rs:List (Value × List Int)) (w:World) (h:RdJ w v rs) (hn:rs.length≤1000) (hl:(flat rs).length≤900000) :
 Calls Try.prog 64 #[v] w fun e w'=>∃ v',e=.returned v'∧OwR (New w w') (flat rs).length w' v' (flat rs)∧Mod (fun _=>False) w w':=by
 have HR1:=Lib.hid h
 have HFL:=Lib.hid hl
 obtain ⟨ao,cap,rfl⟩:=h.shape
 clear h hl
 go_enter Try.func64,Try.ntmps64
 go_wp2
 go_loopw [3,7] (fun t3 t7 wr=>∃ (i:Nat),t7=.int .i64 i∧i≤rs.length∧OwR (fun k=>w.heap.size≤k) (flat (rs.take i)).length wr t3 (flat (rs.take i))∧Mod (fun k=>w.heap.size≤k) w wr) (fun _ t7 _=>rs.length - (intOf t7).toNat)
 case atStart=>exact ⟨0,rfl,by omega,⟨OwnB.nil _,(fun g hg=>by cases hg),Nat.le_refl _⟩,Mod.refl _ _⟩
 case round=>
  obtain ⟨wi,rfl⟩:∃ x,x=wr:=⟨_,rfl⟩
  obtain ⟨i,rfl,hi,hB,hm⟩:=hrel
  have KB:=Lib.hid hB
  have KM:=Lib.hid hm
  have zi:=hm.size
  clear hB hm
  by_cases hlt:i < rs.length
  ·obtain ⟨g,o,rfl,hg,hcell0⟩:=HR1.out.at hlt
   have hcell:wi.cell? ⟨g,o+i,none⟩=some rs[i].1:=KM.out.cell hcell0 (by show ¬ w.heap.size≤g;omega)
   have hrb:RdB w rs[i].1 rs[i].2:=HR1.out.f rs[i] (List.getElem_mem hlt)
   have HRW:=Lib.hid (show RdR (fun k=>k < w.heap.size) rs[i].2.length wi rs[i].1 rs[i].2 from RdR.mod ⟨hrb,hrb.block_lt,Nat.le_refl _⟩ KM.out (fun k h1 h2=>by omega))
   have HT:=Lib.hid (flat_take rs i hlt)
   have hle:=flat_le rs (i+1)
   have hle2:=HFL.out
   rw [HT.out,List.length_append] at hle
   obtain ⟨q,hq⟩:∃ q,q=rs[i]:=⟨_,rfl⟩
   rw [← hq] at hcell HRW HT hle
   clear hcell0 hrb hq
   obtain ⟨vi,bi⟩:=q
   obtain ⟨ai,ci,rfl⟩:∃ ai ci,vi=.slice ai bi.length ci:=HRW.out.shape
   dsimp only at hcell HRW HT hle
   obtain ⟨ab,cb,rfl⟩:=KB.out.shape
   go_wp2_with (at_builtin;go_must (refine wpList_appR rfl (.tmp 10) (.tmp 14) rfl rfl KB.out rfl HRW.out (by omega) ?_))
   intro ao5 cap5 w5 ho5 hm5
   have KB5:=Lib.hid (show OwR (fun k=>w.heap.size≤k) (flat (rs.take (i+1))).length w5 _ (flat (rs.take (i+1))) from by
    rw [HT.out]
    exact ho5.widen (R':=fun k=>w.heap.size≤k) (fun k h=>by unfold New at h;omega) (by rw [List.length_append];exact Nat.le_refl _))
   have KM5:=Lib.hid (KM.out.trans hm5 (fun k _ h=>h))
   clear ho5 hm5 KB KM HT HRW hcell hle hle2
   go_wp2
   go_roundw
   case rel=>exact ⟨i+1,by go_num,by omega,KB5.out,KM5.out⟩
   case measure=>first|(simp [intOf];done)|(simp [intOf];omega)
  ·obtain rfl:i=rs.length:=by omega
   have hb:=KB.out
   rw [List.take_length] at hb
   have HB:=Lib.hid hb
   obtain ⟨ab,cb,rfl⟩:=KB.out.shape
   clear hb KB
   go_wp2
   go_ret
   exact ⟨_,rfl,⟨HB.out.1,(fun g hg=>⟨HB.out.2.1 g hg,Own.lt HB.out.1 hg⟩),Nat.le_refl _⟩,KM.out.mono (fun k hk h=>by omega)⟩
/-- what a call answered, as bytes, as long as the chain has not begun -/
def rdP (bs:List Int):GPred:=fun t v w=>t.length=0→RdB w v bs
def rowsP (bss:List (List Int)):GPred:=fun t v w=>t.length=0→∃ rs,rs.map (·.2)=bss∧RdJ w v rs
theorem stillM_cell {B K k:Nat} {w w':World} (h:StillM B 5 K k w w') {p:Addr} {u:Value} (hc:w.cell? p=some u):w'.cell? p=some u:=by
 rcases h with h|⟨-,h⟩
 ·exact h.cell hc (fun h=>h)
 ·exact h.cell hc
theorem rdP_stable {S:Nat→Nat→Prop} {B K:Nat} {bs:List Int}:StableG S (StillM B 5 K) (rdP bs):=
 ⟨fun t v w w' h hr h0=>(h h0).cells (fun p u hu=>stillM_cell hr hu),fun t u v w w' h hm h0=>by simp at h0⟩
theorem rowsP_stable {S:Nat→Nat→Prop} {B K:Nat} {bss:List (List Int)}:StableG S (StillM B 5 K) (rowsP bss):=
 ⟨fun t v w w' h hr h0=>by obtain ⟨rs,h1,h2⟩:=h h0;exact ⟨rs,h1,h2.cells (fun p u hu=>stillM_cell hr hu)⟩,fun t u v w w' h hm h0=>by simp at h0⟩
theorem Join_P (v:Value) (bss:List (List Int)) (w:World) {t:List Value} (h:rowsP bss t v w) (h0:t.length=0) (hn:bss.length≤1000) (hl:bss.flatten.length≤900000) :
 Calls Try.prog 64 #[v] w fun e w'=>∃ v',e=.returned v'∧OwR (New w w') bss.flatten.length w' v' bss.flatten∧Mod (fun _=>False) w w':=by
 obtain ⟨rs,rfl,hj⟩:=h h0
 exact Join_any v rs w hj (by simpa using hn) hl
theorem litG.rd {B K:Nat} {bs:List Int} {t:List Value} {v:Value} {w:World} (h:litG B 5 K (bs.map bv).toArray t v w) (hk:t.length≤K) (hb:Bytes bs) (hl:bs.length≤1000000):RdB w v bs:=by
 obtain ⟨g,rfl,-,m,-,h4⟩:=h hk
 have e:(bs.map bv).toArray.size=bs.length:=by simp
 rw [e]
 refine ⟨hb,Rd.mk (Nat.le_refl _) (by rw [Bk];omega) (by simp) fun j y hy=>?_⟩
 rw [Nat.zero_add]
 simp only [World.cell?,h4]
 simpa using hy
theorem stillM_T2 {B:Nat} {T8:TypeId} {K:Nat} {w0:World} {T:Nat→Prop} (hT:∀ j,B≤j→T j):∀ k w w',Mod T w0 w→StillM B T8 K k w w'→Mod T w0 w':=by
 intro k w w' hm h
 rcases h with h|⟨-,h⟩
 ·exact hm.trans h (fun _ _ h=>h.elim)
 ·refine ⟨h.os.trans hm.os,h.tape.trans hm.tape,h.output.trans hm.output,Nat.le_trans hm.size h.size,fun j hj hn=>?_⟩
  rcases h.block j (Nat.lt_of_lt_of_le hj hm.size) with h1|⟨h1,-⟩
  ·exact h1.trans (hm.block j hj hn)
  ·exact absurd (hT j h1) hn
theorem StillM.obj {B K k:Nat} {w w':World} (h:StillM B 5 K k w w') {g:Nat} {c:Array Value} {e:TypeId} (hc:Cs w g c e) (he:e≠5):Cs w' g c e:=by
 rcases h with h|⟨-,h⟩
 ·exact hc.mod h (fun h=>h)
 ·rcases h.block g hc.lt with h1|⟨-,C,m,h1,-⟩
  ·exact h1.trans hc
  ·unfold Cs at hc
   rw [hc] at h1
   cases h1
   exact absurd rfl he
/-- an array's slice -/
theorem ex_sliceArr {P:Program} {o:Oper} {a:Act} {w:World} {T e:TypeId} {x:Operand} {g off n:Nat} (ho:o.op=.slice T x none none none) (hu:P.underlying T=some (.array n e)) (hs:(P.info? e).map (·.size)=some 1) (hx:a.eval x=.pointer (some ⟨g,off,none⟩)) (hn:0 < n) :
 (execOp a.eval o).run P w=.ok (.value (.slice (some ⟨g,off,none⟩) n n)) w:=by
 have hsz:(sizeOf e).run P w=.ok 1 w:=by
  cases hq:P.info? e with
  | none=>rw [hq] at hs;cases hs
  | some i=>rw [hq] at hs;simp [sizeOf,typeInfo,hq];exact Option.some.inj hs
 unfold execOp
 have h0:¬ n=0:=by omega
 simp [ho,hx,Instr.sliceAt,Instr.slice,Instr.sliceBounds,asIntOf,run_underlying hu,hsz,add_mk,Instr.sureAddr,h0]
end Go.Proofs.Ytbifincepglilaa

/- Bytes in regions told step by step: appends, rows of rows, strings as bytes, writers' ends. -/
namespace Go.Proofs.Ytbifincepglilaa
open Go Go.RowKit Go.Gv
section
variable {ops:Array Oper} {Q:Exit→Act→World→Prop} {i:Nat} {o:Oper} {a:Act} {w:World} {KQ:Value→World→Prop} {B:Nat} {S0 Z:Nat→Prop} {t:List Value} {l:List QPred}
/-- one of the chain makes a row of rows -/
theorem qc_rows {ts:TypeId} {n:Nat} {parts:Array (Nat × Operand)} (ho:ops[i]? = some o) (hw:Region.wanted o (yielded ops a.tmps)=true) (hop:o.op=.buildSlice ts n parts) (hu:Try.prog.underlying ts=some (.slice 38)) (hn:n≠0∧n≤1000) {C:Array Value}
 (hf:Instr.fill (fun i=>some (i * 1,1)) ((Array.range (n * 1)).map (#[Value.slice none 0 0][· % 1]!)) (parts.map fun (i,x)=>(i,a.eval x)).toList=some C)
 (h:∀ w',Cs w' w.heap.size C 38→Mod (fun _=>False) w w'→KQ (.slice (some ⟨w.heap.size,0,none⟩) n n) w'):wpOp Try.prog ops Q i (fun a' w'=>∃ v,a'=a.put o.dst v∧KQ v w') a w:=
 qc_run ho hw (ex_buildSl hop hu (by kernel_rfl) hn hf) (h _ (Cs.new _ _ _) ((Mod.refl _ _).alloc _))
theorem Join_Q {g n:Nat} {C:Array Value} {e:TypeId} (hc:Cs w g C e) (rs:List (Value × List Int)) (hC:C=(rs.map (·.1)).toArray) (hn:n=rs.length) (h:∀ p ∈ rs,RdB w p.1 p.2) (hl2:rs.length≤1000) {bs:List Int} (hb:flat rs=bs) (hl:bs.length≤900000) :
 Calls Try.prog 64 #[.slice (some ⟨g,0,none⟩) n n] w fun e w'=>∃ v',e=.returned v'∧OwR (New w w') 900000 w' v' bs∧Mod (fun _=>False) w w':=by
 subst hb
 have hj:RdJ w (.slice (some ⟨g,0,none⟩) n n) rs:=by
  refine ⟨?_,h⟩
  subst hn
  refine Rd.mk (Nat.le_refl _) (by rw [Bk];omega) (by simp) fun j y hy=>?_
  rw [Nat.zero_add,hc.cell,hC]
  simpa using hy
 exact (Join_any _ rs w hj hl2 hl).mono fun e w' ⟨v',he,ho,hm⟩=>⟨v',he,ho.widen (fun _ h=>h) hl,hm⟩
theorem ql.rd {bs:List Int} {v:Value} (hb:Bytes bs) (h:ql B 5 (bs.map bv).toArray Z t v w) (hl:bs.length≤1000000):∃ R:Nat→Prop,(∀ j,R j→B≤j∧¬ Z j∧j < w.heap.size)∧RdR R bs.length w v bs:=by
 obtain ⟨g,rfl,hB,hZ,m,h4⟩:=h
 have e:(bs.map bv).toArray.size=bs.length:=by simp
 refine ⟨fun k=>k=g,fun j hj=>by subst hj;exact ⟨hB,hZ,(Array.getElem?_eq_some_iff.1 h4).1⟩,⟨hb,?_⟩,fun _ k hk=>by cases hk;rfl,Nat.le_refl _⟩
 rw [e]
 refine Rd.mk (Nat.le_refl _) (by rw [Bk];omega) (by simp) fun j y hy=>?_
 rw [Nat.zero_add]
 simp only [World.cell?,h4]
 simpa using hy
/-- a string's bytes -/
def bytesOf (s:ByteArray):List Int:=s.data.toList.map fun b=>(b.toNat:Int)
theorem bytesOf_len (s:ByteArray):(bytesOf s).length=s.size:=by unfold bytesOf;rw [List.length_map];rfl
theorem bytesOf_ok (s:ByteArray):Bytes (bytesOf s):=by
 intro x hx
 obtain ⟨b,-,rfl⟩:=List.mem_map.1 hx
 have:=b.toNat_lt
 omega
theorem str_bytes (w:World) (s:ByteArray) (hs:s.size≤1000000):∃ cap w',(convert 9 38 (.string s)).run Try.prog w=.ok (.slice (some ⟨w.heap.size,0,none⟩) s.size cap) w'∧RdR (fun k=>k=w.heap.size) 1000000 w' (.slice (some ⟨w.heap.size,0,none⟩) s.size cap) (bytesOf s)∧Mod (fun _=>False) w w'∧w'.heap.size=w.heap.size+1:=by
 refine ⟨_,_,Lib.run_convert_string_bytes (P:=Try.prog) w _ _ 5 s Try.underlying9 Try.underlying38 Try.underlying5,⟨⟨bytesOf_ok s,?_⟩,(fun _ g hg=>by cases hg;rfl),by rw [bytesOf_len];exact hs⟩,⟨rfl,rfl,rfl,by rw [Lib.bytesWorld_size];omega,fun k hk _=>Lib.bytesWorld_at_old w _ s k hk⟩,Lib.bytesWorld_size w _ s⟩
 rw [bytesOf_len]
 refine Rd.mk (grownCap_ge w s.size 0 _) (grownCap_le_maxLen w s.size 0 _ (by rw [Bk];omega)) (by rw [List.length_map,bytesOf_len,Nat.mul_one]) fun j u hu=>?_
 rw [Nat.zero_add]
 have hj:j < s.size:=by have:=(List.getElem?_eq_some_iff.1 hu).1;rwa [List.length_map,bytesOf_len] at this
 rw [Lib.bytesWorld_cell w _ s j hj,← hu]
 simp only [bytesOf,List.map_map,List.getElem?_map]
 have hj2:j < s.data.toList.length:=by rw [Array.length_toList];exact hj
 rw [List.getElem?_eq_getElem hj2]
 simp only [Option.map_some,Function.comp,List.getD,List.getElem?_eq_getElem hj2,Option.getD_some]
theorem ex_convW {P:Program} {o:Oper} {a:Act} {w w':World} {src dst:TypeId} {x:Operand} {u v:Value} (ho:o.op=.convert src dst x) (hx:a.eval x=u) (hr:(convert src dst u).run P w=.ok v w'):(execOp a.eval o).run P w=.ok (.value v) w':=by
 unfold execOp;simp [ho,hx,hr]
/-- beside the chain a string is made bytes -/
theorem qe_strB {x:Operand} {s:ByteArray} (ho:ops[i]? = some o) (hw:Region.wanted o (yielded ops a.tmps)=true) (hop:o.op=.convert 9 38 x) (hx:a.eval x=.string s) (hs:s.size≤1000000) (hB:B≤w.heap.size) (hZ:∀ j,Z j→j < w.heap.size)
 (hv:∀ v w',qr B S0 (fun R w v=>RdR R 1000000 w v (bytesOf s)) Z t v w'→(l.getD i qa) Z t v w'):wpOp Try.prog ops Q i (QJ B l Z i o t a w) a w:=by
 obtain ⟨cap,w',hr,h1,h2,h3⟩:=str_bytes w s hs
 refine Aq ho hw (ex_convW hop hx hr) (QE.still h2) (hv _ _ ⟨fun k=>k=w.heap.size,fun j hj=>?_,h1⟩)
 subst hj
 exact ⟨by omega,fun h=>by omega,fun h=>by have:=hZ _ h.2;omega⟩
theorem rdR_cells {bs:List Int} {N:Nat}:∀ R w w' v,RdR R N w v bs→(∀ p u,R p.block→w.cell? p=some u→w'.cell? p=some u)→RdR R N w' v bs:=
 fun R w w' v h hk=>⟨⟨h.1.1,h.1.2.keepc fun h0 g hg p u hp hc=>hk p u (hp▸h.2.1 h0 g hg) hc⟩,h.2⟩
theorem NewWriter_Q (w:World):Calls Try.prog 43 #[] w fun e w'=>∃ b,e=.returned (.pointer (some ⟨b,0,none⟩))∧WrR (New w w') 900000 w' b []∧Mod (fun _=>False) w w':=
 (NewWriter_R w).mono fun e w' ⟨b,he,h,hm⟩=>⟨b,he,h.widen (fun _ h=>h) (by omega),hm⟩
theorem WBytes_Q {R:Nat→Prop} {b:Nat} {bs:List Int} {w:World} (hW:WrR R 900000 w b bs) :
 Calls Try.prog 48 #[.pointer (some ⟨b,0,none⟩)] w fun e w'=>∃ v',e=.returned v'∧OwR (New w w') 900000 w' v' bs∧Mod (fun _=>False) w w':=WBytes_R hW (by omega)
end
end Go.Proofs.Ytbifincepglilaa

/- disk.Disk: each method, as a function of what the disk holds. -/
namespace Go.Proofs.Ytbifincepglilaa
open Go Go.RowKit Go.Gv
structure DS where
 b:List Int
 sy:Nat
 fu:Nat
 lit:Bool
 dead:Bool
def dZero:DS:=⟨[],0,0,false,false⟩
def dEnds (s:DS):Bool:=s.dead || (s.lit && decide (s.fu=0))
def dStep (s:DS):DS:=⟨s.b,s.sy,if !dEnds s && s.lit then s.fu - 1 else s.fu,s.lit,dEnds s⟩
def dAppend (s:DS) (cs:List Int):DS:=if (dStep s).dead then dStep s else { dStep s with b:=s.b ++ cs }
def dSync (s:DS):DS:=if (dStep s).dead then dStep s else { dStep s with sy:=s.b.length }
def dErr (s:DS):Int:=if (dStep s).dead then 9 else 0
section
variable {R R' S:Nat→Prop} {N M:Nat} {w w':World} {p:Nat} {s s':DS} {v:Value}
end
section
variable {R R':Nat→Prop} {N M p:Nat} {s:DS} {w:World}
end
end Go.Proofs.Ytbifincepglilaa

/- disk.Disk: what is read of it; Fuse, Crash. -/
namespace Go.Proofs.Ytbifincepglilaa
open Go Go.RowKit Go.Gv
section
variable {R R':Nat→Prop} {N M p:Nat} {s:DS} {w:World}
end
end Go.Proofs.Ytbifincepglilaa

/- disk.Disk: Crash, Cut. -/
namespace Go.Proofs.Ytbifincepglilaa
open Go Go.RowKit Go.Gv
section
variable {R R':Nat→Prop} {N M p:Nat} {s:DS} {w:World}
end
end Go.Proofs.Ytbifincepglilaa

/- disk.Disk: Cut, where the disk does not end. -/
namespace Go.Proofs.Ytbifincepglilaa
open Go Go.RowKit Go.Gv
section
variable {R R':Nat→Prop} {N M p:Nat} {s:DS} {w:World}
end
end Go.Proofs.Ytbifincepglilaa

/- gavellaw01.Act: a call, as an argument holds it. -/
namespace Go.Proofs.Ytbifincepglilaa
open Go Go.RowKit Go.Gv Go.ChangeShapes Go.WideShapes Go.ChangeAt Go.Deep
structure Act01 where
 Do:Int
 N:Int
 U:Nat
 VB:Value
 B:List Int
 H:List Int
instance:Inhabited Act01:=⟨⟨0,0,0,.slice none 0 0,[],List.replicate 32 0⟩⟩
def Act01.tail (a:Act01):List Value:=(List.range 32).map fun i=>bv (a.H.getD i 0)
def Act01.cells (a:Act01):List Value:=.int .i64 a.Do :: .int .i64 a.N :: .int .u64 a.U :: a.VB :: a.tail
structure Act01.Ok (W:World) (a:Act01):Prop where
 d:-9223372036854775808≤a.Do∧a.Do≤9223372036854775807
 n:-9223372036854775808≤a.N∧a.N≤9223372036854775807
 u:a.U < U64
 b:RdR (fun k=>k < W.heap.size) a.B.length W a.VB a.B
 h:a.H.length=32
 hb:Bytes a.H
theorem Act01.len (a:Act01):a.cells.length=36:=by simp [Act01.cells,Act01.tail]
end Go.Proofs.Ytbifincepglilaa

/- Local copies of an Act; lent texts with their blocks. -/
namespace Go.Proofs.Ytbifincepglilaa
open Go Go.RowKit Go.Gv
section
variable {α:Type} {s:Nat} {cells:α→List Value} {R R' S:Nat→Prop} {w w':World} {v:Value} {l:List α}
theorem RdE.shape (h:RdE s cells R w v l):∃ ao cap,v=.slice ao l.length cap∧l.length≤maxLen:=by
 rcases h with ⟨rfl,ao,cap,rfl⟩|⟨g,o,cap,_,rfl,_,h1,h2,_⟩
 ·exact ⟨ao,cap,rfl,by simp⟩
 ·exact ⟨_,cap,rfl,by omega⟩
theorem RdE.at {ao:Option Addr} {n cap:Nat} (h:RdE s cells R w (.slice ao n cap) l) {i:Nat} (hi:i < l.length) :
 ∃ g o,ao=some ⟨g,o,none⟩∧∀ j u,(cells l[i])[j]? = some u→w.cell? ⟨g,o+i * s+j,none⟩=some u:=by
 rcases h with ⟨rfl,_⟩|⟨g,o,cap',_,e,_,_,_,h6⟩
 ·exact absurd hi (by simp)
 ·simp only [Value.slice.injEq] at e
  exact ⟨g,o,e.1,fun j u=>h6 i hi j u⟩
theorem RdE.widen (h:RdE s cells R w v l) (hs:∀ k,R k→R' k):RdE s cells R' w v l:=by
 rcases h with h|⟨g,o,cap,h1,h2⟩
 ·exact .inl h
 ·exact .inr ⟨g,o,cap,hs g h1,h2⟩
end
section
variable {R R' S:Nat→Prop} {w w':World} {g:Nat} {a:Act01}
end
theorem Act01.one {W:World} {a:Act01} (h:a.Ok W):∀ u ∈ a.cells,u.oneCell'=true:=by
 intro u hu
 obtain ⟨ao,cap,e⟩:=h.b.shape
 simp only [Act01.cells,Act01.tail,List.mem_cons,List.mem_map] at hu
 rcases hu with rfl|rfl|rfl|rfl|⟨i,_,rfl⟩
 ·rfl
 ·rfl
 ·rfl
 ·rw [e];rfl
 ·rfl
/-- a lent text with its block -/
def LentR (R:Nat→Prop) (N:Nat) (w:World) (v:Value) (bs:List Int):Prop:=Lent w v bs∧(∀ g,v.ownBlock=some g→R g)∧Bytes bs∧bs.length≤N∧N≤1000000
section
variable {R R' S:Nat→Prop} {N M:Nat} {w w':World} {v:Value} {bs:List Int}
theorem LentR.mod (h:LentR R N w v bs) (hm:Mod S w w') (hs:∀ k,R k→S k→False):LentR R N w' v bs:=by
 obtain ⟨⟨g,rfl,hc⟩,h2,h3⟩:=h
 exact ⟨⟨g,rfl,hc.mod hm (hs g (h2 g rfl))⟩,h2,h3⟩
theorem LentR.widen (h:LentR R N w v bs) (hs:∀ k,R k→R' k) (_hM:N≤N):LentR R' N w v bs:=⟨h.1,fun g hg=>hs g (h.2.1 g hg),h.2.2⟩
theorem LentR.rd (h:LentR R N w v bs):RdR R N w v bs:=by
 obtain ⟨⟨g,rfl,hc⟩,h2,h3,h4,h5⟩:=h
 refine ⟨⟨h3,?_⟩,fun _=>h2,h4⟩
 refine Rd.mk (by omega) (by rw [Bk];omega) (by simp) fun j u hu=>?_
 rw [Nat.zero_add,hc.cell]
 have hj:j < bs.length:=by have:=(List.getElem?_eq_some_iff.1 hu).1;simpa using this
 simp only [List.getElem?_map,List.getElem?_toArray] at hu ⊢
 rw [← hu]
 congr 1
 unfold lendc
 rw [List.getElem?_append_left hj]
end
end Go.Proofs.Ytbifincepglilaa

/- What calls write, what is read of it, what is read of a strict beginning of it. -/
namespace Go.Proofs.Ytbifincepglilaa
open Go Go.RowKit Go.Gv
theorem RdR.upto {R:Nat→Prop} {N:Nat} {w:World} {ao:Option Addr} {n cap:Nat} {bs:List Int} (h:RdR R N w (.slice ao n cap) bs) (k:Nat) (hk:k≤bs.length):RdR R N w (.slice ao k cap) (bs.take k):=by
 refine ⟨h.1.upto k hk,fun h0 g hg=>h.2.1 (by simp at h0;omega) g (by cases ao<;>simp_all [Value.ownBlock]),by have:=h.2.2;simp;omega⟩
/-- the state of a reader that has less than all of `full` ahead -/
def SP (s:RSt) (full:List Int):Prop:=s=none∨∃ t,s=some t∧t <+: full∧t.length < full.length
theorem SP.nil {s:RSt} (h:SP s []):s=none:=by
 rcases h with h|⟨t,_,_,h⟩
 ·exact h
 ·simp at h
theorem SP.cut {t a rest:List Int} (h1:t <+: a ++ rest) (h2:t.length < (a ++ rest).length):(t <+: a∧t.length < a.length)∨∃ t',t=a ++ t'∧SP (some t') rest:=by
 rcases Nat.lt_or_ge t.length a.length with h|h
 ·exact .inl ⟨List.prefix_of_prefix_length_le h1 (List.prefix_append a rest) (by omega),h⟩
 ·obtain ⟨t',rfl⟩:=List.prefix_of_prefix_length_le (List.prefix_append a rest) h1 h
  refine .inr ⟨t',rfl,.inr ⟨t',rfl,(List.prefix_append_right_inj a).1 h1,by simpa using h2⟩⟩
theorem dec_pre:∀ (m i acc:Nat) (t:List Int),t <+: encN m→t.length < (encN m).length→decGo i acc t=none:=by
 intro m
 induction m using Nat.strongRecOn with
 | _ m ih=>
  intro i acc t h1 h2
  by_cases hm:m < 128
  ·rw [encN_lt hm] at h2
   obtain rfl:t=[]:=List.eq_nil_of_length_eq_zero (by simpa using h2)
   rfl
  ·rw [encN_ge (by omega)] at h1 h2
   cases t with
   | nil=>rfl
   | cons c t=>
    obtain ⟨rfl,h1'⟩:=List.cons_prefix_cons.1 h1
    simp only [decGo]
    split
    ·rfl
    ·rw [if_neg (by omega)]
     exact ih (m / 128) (by omega) _ _ t h1' (by simpa using h2)
theorem SP.num {s:RSt} {n:Nat} {rest:List Int} (hn:n < U64) (h:SP s (encN n ++ rest)):SP (rNum s).2 rest∧((rNum s).2.isSome→(rNum s).1=n):=by
 rcases h with rfl|⟨t,rfl,h1,h2⟩
 ·exact ⟨.inl rfl,by simp⟩
 ·rcases SP.cut h1 h2 with ⟨h3,h4⟩|⟨t',rfl,h5⟩
  ·have:=dec_pre n 0 0 t h3 h4
   simp [rNum,this,SP]
  ·rw [rNum_enc hn]
   exact ⟨h5,fun _=>rfl⟩
theorem SP.int {s:RSt} {n:Nat} {rest:List Int} (most:Int) (hn:n < U64) (h:SP s (encN n ++ rest)):SP (rInt most s).2 rest∧((rInt most s).2.isSome→(rInt most s).1=n):=by
 have:=h.num hn
 unfold rInt
 split
 ·exact ⟨.inl rfl,by simp⟩
 ·exact this
theorem SP.take {s:RSt} {a rest:List Int} (h:SP s (a ++ rest)):SP (rTake a.length s).2 rest:=by
 rcases h with rfl|⟨t,rfl,h1,h2⟩
 ·exact .inl rfl
 ·rcases SP.cut h1 h2 with ⟨h3,h4⟩|⟨t',rfl,h5⟩
  ·simp [rTake,h4,SP]
  ·rw [rTake_app rfl];exact h5
theorem SP.row {s:RSt} {bs rest:List Int} (most:Int) (hb:bs.length < U64) (h:SP s (encN bs.length ++ bs ++ rest)):SP (rRow most s).2 rest:=by
 rw [List.append_assoc] at h
 have h1:=h.int most hb
 unfold rRow
 cases hs:(rInt most s).2 with
 | none=>exact .inl rfl
 | some u=>
  rw [h1.2 (by simp [hs]),← hs]
  exact h1.1.take
theorem SP.hash {s:RSt} {hh rest:List Int} (hl:hh.length=32) (h:SP s (hh ++ rest)):SP (rHash s).2 rest:=by
 have h1:=h.take
 rw [hl] at h1
 unfold rHash
 generalize rTake 32 s=q at *
 rcases q with ⟨b,_|x⟩
 ·exact .inl rfl
 ·exact h1
section
variable {nm:Int} {row:Nat} {a:Act01}
end
end Go.Proofs.Ytbifincepglilaa

/- What a log holds, in plain words: rows of bytes, one behind the other, and what of any bytes is whole. No program is walked here. -/
namespace Go.Proofs.Ytbifincepglilaa
open Go Go.RowKit Go.Gv
def encR (b:List Int):List Int:=encN b.length ++ b
def rowsE (rs:List (List Int)):List Int:=rs.flatMap encR
@[simp] theorem rowsE_nil:rowsE []=[]:=rfl
theorem rowsE_snoc (rs:List (List Int)) (b:List Int):rowsE (rs ++ [b])=rowsE rs ++ encR b:=by simp [rowsE]
theorem rowsE_cons (rs:List (List Int)) (b:List Int):rowsE (b :: rs)=encR b ++ rowsE rs:=rfl
theorem encR_pos (b:List Int):1≤(encR b).length:=by have:=encN_pos b.length;unfold encR;rw [List.length_append];omega
/-- nothing whole begins here -/
def Stuck (l:List Int):Prop:=l=[]∨(rRow 65536 (some l)).2=none
def Fit (rs:List (List Int)):Prop:=∀ b ∈ rs,b.length≤65536
def Parse (bs:List Int) (rs:List (List Int)):Prop:=Fit rs∧∃ rest,bs=rowsE rs ++ rest∧Stuck rest
theorem Fit.nil:Fit []:=fun b h=>by cases h
theorem Fit.snoc {rs:List (List Int)} {b:List Int} (h:Fit rs) (hb:b.length≤65536):Fit (rs ++ [b]):=by
 intro x hx
 rcases List.mem_append.1 hx with h1|h1
 ·exact h x h1
 ·simp at h1;subst h1;exact hb
theorem Parse.whole {rs:List (List Int)} (h:Fit rs):Parse (rowsE rs) rs:=⟨h,[],by simp,.inl rfl⟩
theorem Parse.pre {bs:List Int} {rs:List (List Int)} (h:Parse bs rs):rowsE rs=bs.take (rowsE rs).length∧(rowsE rs).length≤bs.length:=by
 obtain ⟨_,rest,e,_⟩:=h
 subst e
 exact ⟨by rw [List.take_append_of_le_length (Nat.le_refl _),List.take_length],by simp⟩
/-! ### what is read was written so -/
theorem dec_canW:∀ (l:List Int) (i acc n:Nat) (r:List Int),Bytes l→decGo i acc l=some (n,r)→∃ m,l=encN m ++ r∧n=acc+m * 2 ^ (7 * i)∧(0 < i→1≤m):=by
 intro l
 induction l with
 | nil=>intro i acc n r _ h;cases h
 | cons c cs ih=>
  intro i acc n r hb h
  have hc:=hb c (List.mem_cons_self ..)
  rw [decGo] at h
  by_cases h1:i=9∧1 < c
  ·rw [if_pos h1] at h;cases h
  ·rw [if_neg h1] at h
   by_cases h2:c < 128
   ·rw [if_pos h2] at h
    by_cases h3:c=0∧0 < i
    ·rw [if_pos h3] at h;cases h
    ·rw [if_neg h3] at h
     simp only [Option.some.injEq,Prod.mk.injEq] at h
     obtain ⟨rfl,rfl⟩:=h
     exact ⟨c.toNat,by rw [encN_lt (by omega),Int.toNat_of_nonneg hc.1];rfl,rfl,fun hi=>by omega⟩
   ·rw [if_neg h2] at h
    obtain ⟨m,e1,e2,e3⟩:=ih (i+1) _ n r (fun x hx=>hb x (List.mem_cons_of_mem _ hx)) h
    have e3:=e3 (by omega)
    refine ⟨(c.toNat - 128)+128 * m,?_,?_,fun _=>by omega⟩
    ·rw [encN_ge (by omega),show (c.toNat - 128+128 * m) / 128=m by omega,show (((c.toNat - 128+128 * m:Nat):Int) % 128+128)=c by omega,e1]
     rfl
    ·rw [e2,pow128,Nat.add_mul,Nat.add_assoc,Nat.mul_comm 128 m,Nat.mul_assoc m]
theorem rRow_can {l r:List Int} (hb:Bytes l) (h:(rRow 65536 (some l)).2=some r):l=encR (rRow 65536 (some l)).1 ++ r∧(rRow 65536 (some l)).1.length≤65536:=by
 unfold rRow rInt at h ⊢
 cases hd:decGo 0 0 l with
 | none=>
  rw [rNum_none hd] at h
  simp at h
 | some p=>
  obtain ⟨n,q⟩:=p
  rw [rNum_some hd] at h ⊢
  dsimp only at h ⊢
  obtain ⟨m,e1,e2,-⟩:=dec_canW l 0 0 n q hb hd
  have hm:n=m:=by rw [e2];simp
  subst hm
  by_cases hc:(some q).isNone=true∨(65536:Int) < 0∨(65536:Int) < (n:Int)
  ·rw [if_pos hc] at h
   simp at h
  ·rw [if_neg hc] at h ⊢
   simp only [rTake] at h ⊢
   by_cases hl:q.length < n
   ·rw [if_pos hl] at h;cases h
   ·rw [if_neg hl] at h ⊢
    simp only [Option.some.injEq] at h
    subst h
    have hn:(q.take n).length=n:=by rw [List.length_take];omega
    refine ⟨?_,by show (q.take n).length≤65536;omega⟩
    show l=encN (q.take n).length ++ q.take n ++ q.drop n
    rw [hn,List.append_assoc,List.take_append_drop]
    exact e1
end Go.Proofs.Ytbifincepglilaa

/- Rows of bytes in slices that are appended to; a log (wal.Wal) as an object. -/
namespace Go.Proofs.Ytbifincepglilaa
open Go Go.RowKit Go.Gv
theorem RdR_keepW {R:Nat→Prop} {N:Nat} {w w':World} {v:Value} {bs:List Int} (h:RdR R N w v bs) (hk:∀ p u,R p.block→w.cell? p=some u→w'.cell? p=some u):RdR R N w' v bs:=
 ⟨⟨h.1.1,h.1.2.keepc fun h0 g hg p u hp hc=>hk p u (hp▸h.2.1 h0 g hg) hc⟩,h.2⟩
theorem RdR_tightW {R:Nat→Prop} {N:Nat} {w:World} {v:Value} {bs:List Int} (h:RdR R N w v bs):RdR (fun k=>R k∧k < w.heap.size) N w v bs:=
 ⟨h.1,fun h0 g hg=>⟨h.2.1 h0 g hg,h.1.2.lt (by decide) h0 hg⟩,h.2.2⟩
/-- a row of bytes -/
def RwR:Rep (List Int) where
 sz:=1
 pos:=by decide
 rd R w cs b:=∃ v,cs=[v]∧RdR R 100000 w v b
 len h:=by obtain ⟨v,rfl,_⟩:=h;rfl
 one h:=by
  obtain ⟨v,rfl,h0⟩:=h
  obtain ⟨_,_,e⟩:=h0.shape
  subst e
  intro u hu
  simp only [List.mem_cons,List.not_mem_nil,or_false] at hu
  subst hu;rfl
 keep h hk:=by obtain ⟨v,rfl,h0⟩:=h;exact ⟨v,rfl,RdR_keepW h0 hk⟩
 wid h hs:=by obtain ⟨v,rfl,h0⟩:=h;exact ⟨v,rfl,h0.widen hs (Nat.le_refl _)⟩
 tight h:=by obtain ⟨v,rfl,h0⟩:=h;exact ⟨v,rfl,RdR_tightW h0⟩
theorem RwR.mk {R:Nat→Prop} {N:Nat} {w:World} {v:Value} {b:List Int} (h:RdR R N w v b) (hN:b.length≤100000):RwR.rd R w [v] b:=⟨v,rfl,h.1,h.2.1,hN⟩
/-- its first things, as a slice that may be appended to; with all that is behind them cut off -/
theorem OwS.upto {α:Type} {A:Rep α} {e:TypeId} {R E:Nat→Prop} {w:World} {ao:Option Addr} {n cap:Nat} {l:List α} (h:OwS A e R E w (.slice ao n cap) l) (k c:Nat) (hk:k≤l.length) (hc:c=cap∨c=k):OwS A e R E w (.slice ao k c) (l.take k):=by
 obtain ⟨css,h1,h2,h3,h4⟩:=h
 have hcl:∀ cs ∈ css,cs.length=A.sz:=css_len h1 h2 (fun cs a h=>A.len h)
 have el:(l.take k).length=k:=by simp;omega
 have ef:(css.take k).flatten=css.flatten.take (k * A.sz):=by
  have h5:css.flatten=(css.take k).flatten ++ (css.drop k).flatten:=by rw [← List.flatten_append,List.take_append_drop]
  have h6:(css.take k).flatten.length=k * A.sz:=by rw [flat_len (fun x hx=>hcl x (List.mem_of_mem_take hx))];congr 1;simp;omega
  rw [h5,← h6,List.take_left]
 have hb:∀ g,(Value.slice ao k c).ownBlock=some g→(Value.slice ao n cap).ownBlock=some g:=fun g hg=>by cases ao<;>exact hg
 have hb2:∀ g,(Value.slice ao n cap).ownBlock≠some g→(Value.slice ao k c).ownBlock≠some g:=fun g hg he=>hg (hb g he)
 refine ⟨css.take k,by simp;omega,fun i cs a hi ha=>?_,?_,fun g hg=>h4 g (hb g hg)⟩
 ·rw [List.getElem?_take] at hi ha
  split at hi
  ·rename_i hik
   rw [if_pos hik] at ha
   exact A.wid (h2 i cs a hi ha) (fun q hq=>⟨hq.1,hb2 q hq.2⟩)
  ·cases hi
 ·rw [el,ef]
  obtain ⟨hl,hE,⟨hv,hn⟩|⟨g,cap',cur,hv,hg,q1,q2,q3,q4,q5⟩⟩:=h3
  ·simp only [Value.slice.injEq] at hv
   obtain ⟨rfl,rfl,rfl⟩:=hv
   obtain rfl:k=0:=by omega
   obtain rfl:c=0:=by omega
   exact ⟨by simp,(fun u hu=>by simp at hu),.inl ⟨rfl,rfl⟩⟩
  ·simp only [Value.slice.injEq] at hv
   obtain ⟨rfl,rfl,rfl⟩:=hv
   have hkm:k * A.sz≤l.length * A.sz:=Nat.mul_le_mul_right _ hk
   have hcm:c * A.sz≤cap * A.sz:=Nat.mul_le_mul_right _ (by omega)
   refine ⟨by rw [List.length_take];omega,fun u hu=>hE u (List.mem_of_mem_take hu),.inr ⟨g,c,cur,rfl,hg,by omega,by omega,by omega,?_,q5⟩⟩
   rw [← q4,List.take_take,Nat.min_eq_left hkm]
theorem OwS.lt {α:Type} {A:Rep α} {e:TypeId} {R E:Nat→Prop} {w:World} {v:Value} {l:List α} (h:OwS A e R E w v l) {g:Nat} (hg:v.ownBlock=some g):g < w.heap.size:=by
 obtain ⟨_,_,_,h3,_⟩:=h
 exact Own.lt h3 hg
section
variable {R R' S:Nat→Prop} {w w':World} {x p:Nat} {rs:List (List Int)}
end
end Go.Proofs.Ytbifincepglilaa

/- The contracts of disks and readers once more, each state told by its parts. -/
namespace Go.Proofs.Ytbifincepglilaa
open Go Go.RowKit Go.Gv
theorem run_eql_nil {P:Program} {tp te:TypeId} (a:Addr) (hp:P.underlying tp=some (.pointer te)) (hte:(P.info? te).isSome=true) (w:World) :
 (binOp .eql tp (.pointer (some a)) (.pointer none)).run P w=.ok (.bool false) w:=by
 obtain ⟨j,hj⟩:=Option.isSome_iff_exists.1 hte
 have h:∀ d:Nat,(Op.equalIn (d+1) tp (.pointer (some a)) (.pointer none)).run P w=.ok false w:=fun d=>by
  simp [Op.equalIn,run_underlying hp,sizeOf,typeInfo,hj]
 simp only [binOp]
 simp [Op.equal,Op.maxDepth,h 9999]
theorem run_neq_nil {P:Program} {tp te:TypeId} (a:Addr) (hp:P.underlying tp=some (.pointer te)) (hte:(P.info? te).isSome=true) (w:World) :
 (binOp .neq tp (.pointer (some a)) (.pointer none)).run P w=.ok (.bool true) w:=by
 obtain ⟨j,hj⟩:=Option.isSome_iff_exists.1 hte
 have h:∀ d:Nat,(Op.equalIn (d+1) tp (.pointer (some a)) (.pointer none)).run P w=.ok false w:=fun d=>by
  simp [Op.equalIn,run_underlying hp,sizeOf,typeInfo,hj]
 simp only [binOp]
 simp [Op.equal,Op.maxDepth,h 9999]
theorem guard_ptr {P:Program} (op:BinOp) (T:TypeId) (x y:Operand) (a b:Option Addr) (w:World):(eqGuard op T x y (.pointer a) (.pointer b)).run P w=.ok () w:=by
 unfold eqGuard
 cases op<;>simp
theorem ex_max {P:Program} {w:World} {a:Act} {o:Oper} {x y:Operand} {ts:Array TypeId} {k k':IntKind} {m n r:Int} (ho:o.op=.call { callee:=.builtin .max,args:=#[x,y],argTypes:=ts }) (hx:a.eval x=.int k m) (hy:a.eval y=.int k' n) (he:(if n > m then n else m)=r):(execOp a.eval o).run P w=.ok (.value (.int k r)) w:=by
 subst he
 unfold execOp
 simp [ho,resolve,invoke,builtin,hx,hy,run_max_int2,Result.andThen]
theorem i64_eq {a b:Int} (h:a=b) (h1:-9223372036854775808≤b) (h2:b≤9223372036854775807):IntKind.i64.wrap a=b:=by
 subst h
 exact IntWalk.i64_in _ ⟨h1,h2⟩
section
variable {R R':Nat→Prop} {N M p:Nat} {b:List Int} {sy fu:Nat} {lit dead:Bool} {w:World}
end
section
variable {R:Nat→Prop} {r:Nat} {w:World} {l b rest:List Int}
end
section
variable {R R':Nat→Prop} {N p:Nat} {s:DS} {w:World}
end
end Go.Proofs.Ytbifincepglilaa

/- Bytes that are written out: rows of one's own; a row that is marked. -/
namespace Go.Proofs.Ytbifincepglilaa
open Go Go.RowKit Go.Gv
section
variable {ops:Array Oper} {i:Nat} {o:Oper} {a:Act} {w:World}
end
end Go.Proofs.Ytbifincepglilaa

/- SHA-256 in plain words, as the program's own operations spell it; bits.RotateLeft32 and sha.word. -/
namespace Go.Proofs.Ytbifincepglilaa
open Go Go.RowKit Go.Gv
abbrev wv (x:Int):Value:=.int .u32 x
/-- a word turned to the right -/
def rr (n:Nat) (x:Int):Int:=bits .or .u32 (IntKind.u32.wrap (x * 2 ^ (32 - n))) (x / 2 ^ n)
def xr (a b:Int):Int:=bits .xor .u32 a b
def an (a b:Int):Int:=bits .and .u32 a b
def pl (a b:Int):Int:=(a+b) % 4294967296
def wordOf (a b c d:Int):Int:=bits .or .u32 (bits .or .u32 (bits .or .u32 (a % 4294967296 * 16777216 % 4294967296) (b % 4294967296 * 65536 % 4294967296)) (c % 4294967296 * 256 % 4294967296)) (d % 4294967296)
theorem RL_7 (x:Int) (w:World):Calls Try.prog 71 #[wv x,.int .i64 (-7)] w fun e w'=>e=.returned (wv (rr 7 x))∧w=w':=by
 have hr:rr 7 x=bits .or .u32 (IntKind.u32.wrap (x * 33554432)) (x / 128):=rfl
 have HR:=Lib.hid hr
 clear hr
 have hs:bits .and .u64 (IntKind.u64.wrap (-7)) 31=25:=by decide +kernel
 go_enter Try.func71,Try.ntmps71
 go_wp2
 go_ret
 exact ⟨Cb (by rw [HR.out];rfl),rfl⟩
theorem RL_18 (x:Int) (w:World):Calls Try.prog 71 #[wv x,.int .i64 (-18)] w fun e w'=>e=.returned (wv (rr 18 x))∧w=w':=by
 have hr:rr 18 x=bits .or .u32 (IntKind.u32.wrap (x * 16384)) (x / 262144):=rfl
 have HR:=Lib.hid hr
 clear hr
 have hs:bits .and .u64 (IntKind.u64.wrap (-18)) 31=14:=by decide +kernel
 go_enter Try.func71,Try.ntmps71
 go_wp2
 go_ret
 exact ⟨Cb (by rw [HR.out];rfl),rfl⟩
theorem RL_17 (x:Int) (w:World):Calls Try.prog 71 #[wv x,.int .i64 (-17)] w fun e w'=>e=.returned (wv (rr 17 x))∧w=w':=by
 have hr:rr 17 x=bits .or .u32 (IntKind.u32.wrap (x * 32768)) (x / 131072):=rfl
 have HR:=Lib.hid hr
 clear hr
 have hs:bits .and .u64 (IntKind.u64.wrap (-17)) 31=15:=by decide +kernel
 go_enter Try.func71,Try.ntmps71
 go_wp2
 go_ret
 exact ⟨Cb (by rw [HR.out];rfl),rfl⟩
theorem RL_19 (x:Int) (w:World):Calls Try.prog 71 #[wv x,.int .i64 (-19)] w fun e w'=>e=.returned (wv (rr 19 x))∧w=w':=by
 have hr:rr 19 x=bits .or .u32 (IntKind.u32.wrap (x * 8192)) (x / 524288):=rfl
 have HR:=Lib.hid hr
 clear hr
 have hs:bits .and .u64 (IntKind.u64.wrap (-19)) 31=13:=by decide +kernel
 go_enter Try.func71,Try.ntmps71
 go_wp2
 go_ret
 exact ⟨Cb (by rw [HR.out];rfl),rfl⟩
theorem RL_6 (x:Int) (w:World):Calls Try.prog 71 #[wv x,.int .i64 (-6)] w fun e w'=>e=.returned (wv (rr 6 x))∧w=w':=by
 have hr:rr 6 x=bits .or .u32 (IntKind.u32.wrap (x * 67108864)) (x / 64):=rfl
 have HR:=Lib.hid hr
 clear hr
 have hs:bits .and .u64 (IntKind.u64.wrap (-6)) 31=26:=by decide +kernel
 go_enter Try.func71,Try.ntmps71
 go_wp2
 go_ret
 exact ⟨Cb (by rw [HR.out];rfl),rfl⟩
theorem RL_11 (x:Int) (w:World):Calls Try.prog 71 #[wv x,.int .i64 (-11)] w fun e w'=>e=.returned (wv (rr 11 x))∧w=w':=by
 have hr:rr 11 x=bits .or .u32 (IntKind.u32.wrap (x * 2097152)) (x / 2048):=rfl
 have HR:=Lib.hid hr
 clear hr
 have hs:bits .and .u64 (IntKind.u64.wrap (-11)) 31=21:=by decide +kernel
 go_enter Try.func71,Try.ntmps71
 go_wp2
 go_ret
 exact ⟨Cb (by rw [HR.out];rfl),rfl⟩
theorem RL_25 (x:Int) (w:World):Calls Try.prog 71 #[wv x,.int .i64 (-25)] w fun e w'=>e=.returned (wv (rr 25 x))∧w=w':=by
 have hr:rr 25 x=bits .or .u32 (IntKind.u32.wrap (x * 128)) (x / 33554432):=rfl
 have HR:=Lib.hid hr
 clear hr
 have hs:bits .and .u64 (IntKind.u64.wrap (-25)) 31=7:=by decide +kernel
 go_enter Try.func71,Try.ntmps71
 go_wp2
 go_ret
 exact ⟨Cb (by rw [HR.out];rfl),rfl⟩
theorem RL_2 (x:Int) (w:World):Calls Try.prog 71 #[wv x,.int .i64 (-2)] w fun e w'=>e=.returned (wv (rr 2 x))∧w=w':=by
 have hr:rr 2 x=bits .or .u32 (IntKind.u32.wrap (x * 1073741824)) (x / 4):=rfl
 have HR:=Lib.hid hr
 clear hr
 have hs:bits .and .u64 (IntKind.u64.wrap (-2)) 31=30:=by decide +kernel
 go_enter Try.func71,Try.ntmps71
 go_wp2
 go_ret
 exact ⟨Cb (by rw [HR.out];rfl),rfl⟩
theorem RL_13 (x:Int) (w:World):Calls Try.prog 71 #[wv x,.int .i64 (-13)] w fun e w'=>e=.returned (wv (rr 13 x))∧w=w':=by
 have hr:rr 13 x=bits .or .u32 (IntKind.u32.wrap (x * 524288)) (x / 8192):=rfl
 have HR:=Lib.hid hr
 clear hr
 have hs:bits .and .u64 (IntKind.u64.wrap (-13)) 31=19:=by decide +kernel
 go_enter Try.func71,Try.ntmps71
 go_wp2
 go_ret
 exact ⟨Cb (by rw [HR.out];rfl),rfl⟩
theorem RL_22 (x:Int) (w:World):Calls Try.prog 71 #[wv x,.int .i64 (-22)] w fun e w'=>e=.returned (wv (rr 22 x))∧w=w':=by
 have hr:rr 22 x=bits .or .u32 (IntKind.u32.wrap (x * 1024)) (x / 4194304):=rfl
 have HR:=Lib.hid hr
 clear hr
 have hs:bits .and .u64 (IntKind.u64.wrap (-22)) 31=10:=by decide +kernel
 go_enter Try.func71,Try.ntmps71
 go_wp2
 go_ret
 exact ⟨Cb (by rw [HR.out];rfl),rfl⟩
theorem word_any (v:Value) (a b c d:Int) (bs:List Int) (w:World) (h:RdB w v (a :: b :: c :: d :: bs)) :
 Calls Try.prog 76 #[v] w fun e w'=>e=.returned (wv (wordOf a b c d))∧∃ n,w'=w.drewN n:=by
 obtain ⟨ao,cap,rfl,hc,hm⟩:=h.shape
 rcases h.form with ⟨h0,_⟩|⟨g,o,cap',_,hv,h1,h2,hcell⟩
 ·cases h0
 simp only [Value.slice.injEq] at hv
 obtain ⟨rfl,_,rfl⟩:=hv
 have c0:=hcell 0 (by simp)
 have c1:=hcell 1 (by simp)
 have c2:=hcell 2 (by simp)
 have c3:=hcell 3 (by simp)
 simp only [List.getElem_cons_zero,List.getElem_cons_succ,Nat.add_zero] at c0 c1 c2 c3
 have hw:wordOf a b c d=bits .or .u32 (bits .or .u32 (bits .or .u32 (a % 4294967296 * 16777216 % 4294967296) (b % 4294967296 * 65536 % 4294967296)) (c % 4294967296 * 256 % 4294967296)) (d % 4294967296):=rfl
 have HW:=Lib.hid hw
 simp only [List.length_cons] at hc ⊢
 generalize bs.length=n at *
 clear hw h hcell h1 h2 hm
 go_enter Try.func76,Try.ntmps76
 go_wp2
 go_quiet (fail)
 go_wp2
 go_ret
 exact ⟨Cb (by rw [HW.out]),⟨_,rfl⟩⟩
end Go.Proofs.Ytbifincepglilaa

/- sha.spread: a block as 64 words. -/
namespace Go.Proofs.Ytbifincepglilaa
open Go Go.RowKit Go.Gv
def wAt (bs:List Int) (i:Nat):Int:=wordOf (bs.getD (4 * i) 0) (bs.getD (4 * i+1) 0) (bs.getD (4 * i+2) 0) (bs.getD (4 * i+3) 0)
def w16 (bs:List Int) (i:Nat):List Int:=(List.range i).map (wAt bs) ++ List.replicate (64 - i) 0
def spVal (p x q y:Int):Int:=pl (pl (pl p (xr (xr (rr 7 x) (rr 18 x)) (x / 8))) q) (xr (xr (rr 17 y) (rr 19 y)) (y / 1024))
def spStep (ws:List Int) (j:Nat):List Int:=ws.set (j+16) (spVal (ws.getD j 0) (ws.getD (j+1) 0) (ws.getD (j+9) 0) (ws.getD (j+14) 0))
def spTo (bs:List Int) (j:Nat):List Int:=(List.range j).foldl spStep (w16 bs 16)
def spreadF (bs:List Int):List Int:=spTo bs 48
theorem w16_len (bs:List Int) (i:Nat) (h:i≤64):(w16 bs i).length=64:=by simp [w16];omega
theorem w16_succ (bs:List Int) (i:Nat) (h:i < 64):(w16 bs i).set i (wAt bs i)=w16 bs (i+1):=by
 unfold w16
 rw [List.set_append_right _ _ (by simp),List.length_map,List.length_range,Nat.sub_self,List.range_succ,List.map_append,List.append_assoc]
 congr 1
 obtain ⟨k,hk⟩:∃ k,64 - i=k+1:=⟨63 - i,by omega⟩
 rw [hk,show 64 - (i+1)=k by omega,List.replicate_succ]
 rfl
theorem spTo_succ (bs:List Int) (j:Nat):spTo bs (j+1)=spStep (spTo bs j) j:=by unfold spTo;rw [List.range_succ,List.foldl_append];rfl
theorem spTo_len (bs:List Int) (j:Nat):(spTo bs j).length=64:=by
 induction j with
 | zero=>exact w16_len bs 16 (by omega)
 | succ j ih=>rw [spTo_succ,spStep,List.length_set,ih]
theorem spreadF_len (bs:List Int):(spreadF bs).length=64:=spTo_len bs 48
theorem drop4 (bs:List Int) (i:Nat) (h:4 * i+4≤bs.length):bs.drop (4 * i)=bs.getD (4 * i) 0 :: bs.getD (4 * i+1) 0 :: bs.getD (4 * i+2) 0 :: bs.getD (4 * i+3) 0 :: bs.drop (4 * i+4):=by
 rw [List.drop_eq_getElem_cons (by omega),List.drop_eq_getElem_cons (by omega),List.drop_eq_getElem_cons (by omega),List.drop_eq_getElem_cons (by omega)]
 simp [List.getD,show 4 * i < bs.length by omega,show 4 * i+1 < bs.length by omega,show 4 * i+2 < bs.length by omega,show 4 * i+3 < bs.length by omega]
/-- an array of words in a block -/
def Ws (T:TypeId) (w:World) (g:Nat) (ws:List Int):Prop:=Cs w g (ws.map wv).toArray T
theorem Ws.cell {T:TypeId} {w:World} {g:Nat} {ws:List Int} (h:Ws T w g ws) {j:Nat} (hj:j < ws.length):w.cell? ⟨g,j,none⟩=some (wv (ws.getD j 0)):=by
 rw [Cs.cell h];simp [List.getD,List.getElem?_eq_getElem hj]
theorem Ws.mod {T:TypeId} {S:Nat→Prop} {w w':World} {g:Nat} {ws:List Int} (h:Ws T w g ws) (hm:Mod S w w') (hn:¬ S g):Ws T w' g ws:=Cs.mod h hm hn
theorem Ws.set {T:TypeId} {w:World} {g:Nat} {ws:List Int} (h:Ws T w g ws) (j:Nat) (x:Int):Ws T (w.setCell ⟨g,j,none⟩ (wv x)) g (ws.set j x):=by
 have:=Cs.set h j (wv x)
 unfold Ws
 simpa [List.map_set] using this
theorem Ws.frozen {T:TypeId} {w:World} {g:Nat} {ws:List Int} (h:Ws T w g ws) (j:Nat):w.frozen? ⟨g,j,none⟩=false:=Cs.frozen h j
theorem wv_one (ws:List Int):∀ u ∈ ws.map wv,u.oneCell'=true:=ints_oneCell .u32 ws
theorem size_a64:(Try.prog.info? 122).map (·.size)=some 64:=by kernel_rfl
theorem size_a8:(Try.prog.info? 120).map (·.size)=some 8:=by kernel_rfl
set_option maxHeartbeats 2000000 in
theorem spread_any (v:Value) (bs:List Int) (w:World) (h:RdB w v bs) (hbl:∀ g,v.ownBlock=some g→g < w.heap.size) (h64:64≤bs.length) :
 Calls Try.prog 70 #[v] w fun e w'=>e=.returned (.agg ((spreadF bs).map wv).toArray)∧Mod (fun _=>False) w w':=by
 obtain ⟨ao,cap,rfl,hc,hm⟩:=h.shape
 rw [Bk] at hm
 have HR:=Lib.hid h
 have HB:=Lib.hid hbl
 clear h hbl
 obtain ⟨zs,hzs⟩:∃ zs,zs=List.replicate 64 (0:Int):=⟨_,rfl⟩
 obtain ⟨F,hF⟩:∃ F,F=spreadF bs:=⟨_,rfl⟩
 rw [← hF]
 have HZ:=Lib.hid hzs
 have HFF:=Lib.hid hF
 clear hzs hF
 go_enter Try.func70,Try.ntmps70
 go_wp2
 go_loopw [10] (fun t10 wr=>∃ i:Nat,t10=.int .i64 i∧i≤16∧Ws 122 wr w.heap.size zs∧Ws 122 wr (w.heap.size+1) (w16 bs i)∧Mod (fun _=>False) w wr) (fun t10 _=>16 - (intOf t10).toNat)
 case atStart=>
  refine ⟨0,rfl,by omega,?_,?_,?_⟩
  ·rw [HZ.out];exact (Cs.new w _ _).alloc _
  ·have e:∀ o,(w.alloc o).heap.size=w.heap.size+1:=fun o=>by simp
   unfold Ws
   rw [← e (.cells (List.replicate 64 (wv 0)).toArray 122)]
   exact Cs.new _ _ _
  ·exact ((Mod.refl _ _).alloc _).alloc _
 case round=>
  obtain ⟨i,rfl,hi,hA,hB,hM⟩:=hrel
  have KA:=Lib.hid hA
  have KB:=Lib.hid hB
  have KM:=Lib.hid hM
  have z0:=hM.size
  have zb:=hB.lt
  clear hA hB hM
  by_cases hlt:i < 16
  ·have hcap:¬ cap=4 * i:=by omega
   have hle:4 * i≤bs.length:=by omega
   have hrd:=RdB.tail_in (HR.out.mod KM.out (fun _ g hg h=>h)) (4 * i) hle hcap
   rw [drop4 bs i (by omega)] at hrd
   have HRD:=Lib.hid hrd
   clear hrd
   go_wp2_with fail
   refine (word_any _ _ _ _ _ _ _ HRD.out).mono ?_
   rintro e w2 ⟨rfl,hd⟩
   have hm:=mod_of_drewN hd (fun _=>False)
   clear hd
   have KA2:=Lib.hid (KA.out.mod hm (fun h=>h))
   have KB2:=Lib.hid (KB.out.mod hm (fun h=>h))
   have KM2:=Lib.hid (KM.out.trans hm (fun _ _ h=>h))
   clear hm KA KB KM
   have hci:=KB2.out.cell (j:=i) (by rw [w16_len _ _ (by omega)];omega)
   have hfi:=KB2.out.frozen i
   obtain ⟨x,hx⟩:∃ x,x=wordOf (bs.getD (4 * i) 0) (bs.getD (4 * i+1) 0) (bs.getD (4 * i+2) 0) (bs.getD (4 * i+3) 0):=⟨_,rfl⟩
   rw [← hx]
   have HX:=Lib.hid hx
   clear hx
   go_wp2
   go_roundw
   case rel=>
    refine ⟨i+1,by go_num,by omega,KA2.out.other (by simp) _,?_,KM2.out.setCell (by first|(simp;done)|(simp;omega)) _⟩
    have:=KB2.out.set i x
    rw [HX.out,show wordOf (bs.getD (4 * i) 0) (bs.getD (4 * i+1) 0) (bs.getD (4 * i+2) 0) (bs.getD (4 * i+3) 0)=wAt bs i from rfl,w16_succ bs i (by omega)] at this
    rw [HX.out]
    exact this
   case measure=>first|(simp [intOf];done)|(simp [intOf];omega)
  ·obtain rfl:i=16:=by omega
   rw [show ((16:Nat):Int)=16 from rfl]
   go_wp2
   go_loopw [5] (fun t5 wr=>∃ j:Nat,t5=.int .i64 ((j+16:Nat):Int)∧j≤48∧Ws 122 wr w.heap.size zs∧Ws 122 wr (w.heap.size+1) (spTo bs j)∧Mod (fun _=>False) w wr) (fun t5 _=>64 - (intOf t5).toNat)
   case atStart=>exact ⟨0,rfl,by omega,KA.out,KB.out,KM.out⟩
   case round=>
    obtain ⟨wi,rfl⟩:∃ x,x=wr:=⟨_,rfl⟩
    obtain ⟨j,rfl,hj,hA,hB,hM⟩:=hrel
    have zz:=hM.size
    have zb2:=hB.lt
    clear KA KB KM
    have KA:=Lib.hid hA
    have KB:=Lib.hid hB
    have KM:=Lib.hid hM
    clear hA hB hM
    by_cases hlt2:j < 48
    ·have c1:=KB.out.cell (j:=j+1) (by rw [spTo_len];omega)
     have c14:=KB.out.cell (j:=j+14) (by rw [spTo_len];omega)
     obtain ⟨x,hx⟩:∃ x,x=(spTo bs j).getD (j+1) 0:=⟨_,rfl⟩
     obtain ⟨y,hy⟩:∃ y,y=(spTo bs j).getD (j+14) 0:=⟨_,rfl⟩
     rw [← hx] at c1
     rw [← hy] at c14
     have HX:=Lib.hid hx
     have HY:=Lib.hid hy
     clear hx hy
     go_wp2_with fail
     go_quiet (fail)
     clear c1 c14
     obtain ⟨w1,hw1⟩:∃ x,x=wi.drewN nq:=⟨_,rfl⟩
     have hm:=mod_of_drewN ⟨nq,hw1⟩ (fun _=>False)
     rw [← hw1]
     clear hw1
     have KA2:=Lib.hid (KA.out.mod hm (fun h=>h))
     have KB2:=Lib.hid (KB.out.mod hm (fun h=>h))
     have KM2:=Lib.hid (KM.out.trans hm (fun _ _ h=>h))
     have zz2:=hm.size
     clear hm KA KB KM
     go_wp2_with (first|(go_at_call 71;(with_reducible refine (RL_7 _ _).mono ?_);rintro e w' ⟨rfl,rfl⟩)|(go_at_call 71;(with_reducible refine (RL_18 _ _).mono ?_);rintro e w' ⟨rfl,rfl⟩)|(go_at_call 71;(with_reducible refine (RL_17 _ _).mono ?_);rintro e w' ⟨rfl,rfl⟩)|(go_at_call 71;(with_reducible refine (RL_19 _ _).mono ?_);rintro e w' ⟨rfl,rfl⟩))
     have c0:=KB2.out.cell (j:=j) (by rw [spTo_len];omega)
     have c9:=KB2.out.cell (j:=j+9) (by rw [spTo_len];omega)
     have c16:=KB2.out.cell (j:=j+16) (by rw [spTo_len];omega)
     have f16:=KB2.out.frozen (j+16)
     have b0:(0:Int)≤j:=by omega
     have b1:(j:Int) < 64:=by omega
     have b2:(0:Int)≤(j:Int)+9:=by omega
     have b3:(j:Int)+9 < 64:=by omega
     have b4:(0:Int)≤(j:Int)+16:=by omega
     have hw0:IntKind.i64.wrap (j:Int)=j:=IntWalk.i64_in _ (by omega)
     have hw9:IntKind.i64.wrap ((j:Int)+16 - 7)=(j:Int)+9:=by rw [IntWalk.i64_in _ (by omega)];omega
     have ht9:((j:Int)+9).toNat=j+9:=by omega
     have ht16:((j:Int)+16).toNat=j+16:=by omega
     obtain ⟨p,hp⟩:∃ p,p=(spTo bs j).getD j 0:=⟨_,rfl⟩
     obtain ⟨q,hq⟩:∃ q,q=(spTo bs j).getD (j+9) 0:=⟨_,rfl⟩
     rw [← hp] at c0
     rw [← hq] at c9
     have HP:=Lib.hid hp
     have HQ:=Lib.hid hq
     clear hp hq
     have hset:=KB2.out.set (j+16) (spVal p x q y)
     rw [HP.out,HX.out,HQ.out,HY.out] at hset
     have e:(spTo bs j).set (j+16) (spVal ((spTo bs j).getD j 0) ((spTo bs j).getD (j+1) 0) ((spTo bs j).getD (j+9) 0) ((spTo bs j).getD (j+14) 0))=spTo bs (j+1):=(spTo_succ bs j).symm
     rw [e] at hset
     rw [← HP.out,← HX.out,← HQ.out,← HY.out] at hset
     clear e
     have HSET:=Lib.hid hset
     have HVAL:=Lib.hid (show spVal p x q y=IntKind.u32.wrap (IntKind.u32.wrap (IntKind.u32.wrap (p+bits .xor .u32 (bits .xor .u32 (rr 7 x) (rr 18 x)) (x / 8))+q)+bits .xor .u32 (bits .xor .u32 (rr 17 y) (rr 19 y)) (y / 1024)) by simp only [spVal,pl,xr,IntKind.wrap_u32])
     clear hset
     go_region_law (fail)
     all_goals
      rw [← HVAL.out]
      go_wp2
      go_roundw
      case rel=>exact ⟨j+1,by go_num,by omega,KA2.out.other (p:=⟨w.heap.size+1,j+16,none⟩) (by simp) _,HSET.out,(KM2.out.setCell (p:=⟨w.heap.size+1,j+16,none⟩) (by first|(simp;done)|(simp;omega)) _).drew⟩
      case measure=>first|(simp [intOf];done)|(simp [intOf];omega)
    ·obtain rfl:j=48:=by omega
     have hFl:F.length=64:=by rw [HFF.out];exact spreadF_len bs
     have hzl:zs.length=64:=by rw [HZ.out];simp
     have hKB:Ws 122 wi (w.heap.size+1) F:=by rw [HFF.out];exact KB.out
     have hcell:∀ k u,(F.map wv)[k]? = some u→wi.cell? ⟨w.heap.size+1,0+k,none⟩=some u:=by
      intro k u hu
      rw [Nat.zero_add,Cs.cell hKB]
      simpa using hu
     have HCELL:=Lib.hid hcell
     have HS:=Lib.hid (show (Try.prog.info? 122).map (·.size)=some (F.map wv).length by rw [List.length_map,hFl];exact size_a64)
     have HF:=Lib.hid (show 0+(F.map wv).length≤(zs.map wv).toArray.size by simp [hFl,hzl])
     have HLY:=Lib.hid (A0 (zs.map wv).toArray (F.map wv) (by simp [hFl,hzl]))
     clear hcell hFl hzl hKB
     go_upto_region 14 with (fail)
     go_step
     refine wpList_loadA rfl 122 (.tmp 3) rfl Try.underlying122 rfl (g:=w.heap.size+1) (off:=0) (cs:=F.map wv) HS.out rfl HCELL.out ?_
     simp only [Act.put,sIB,sCZ,sCS]
     refine wpList_storeA rfl 122 (.tmp 2) (.tmp 64) rfl KA.out (vs:=F.map wv) HS.out (wv_one _) HF.out rfl rfl ?_
     intro w3 hc3 hm3
     rw [HLY.out] at hc3
     go_wp2
     refine bodyPost_ret (Br rfl _ _ w.heap.size (F.map wv) rfl (fun k u hu=>by rw [hc3.cell];simpa using hu) Try.underlying122 rfl HS.out) rfl ⟨rfl,KM.out.trans (hm3.mono (S':=fun k=>k=w.heap.size) (fun k _ hk=>hk)) (by intro k h1 h2;omega)⟩
end Go.Proofs.Ytbifincepglilaa

/- sha.mix: a block goes into the state. -/
namespace Go.Proofs.Ytbifincepglilaa
open Go Go.RowKit Go.Gv
theorem zero_of {P:Program} {T:TypeId} {z:Value} (h:(P.info? T).bind (·.zero)=some z):∃ info,P.info? T=some info∧info.zero=some z:=by
 cases hq:P.info? T with
 | none=>rw [hq] at h;cases h
 | some i=>rw [hq] at h;exact ⟨i,rfl,h⟩
theorem zero_a64:(Try.prog.info? 122).bind (·.zero)=some (.agg (Array.replicate 64 (wv 0))):=by kernel_rfl
theorem zero_a8:(Try.prog.info? 120).bind (·.zero)=some (.agg (Array.replicate 8 (wv 0))):=by kernel_rfl
theorem Bw {L:Nat→Bool} {i j:Nat} (h:j≠i):upd L i j=L j:=by simp [upd,h]
theorem upd_eq {L:Nat→Bool} {i:Nat}:upd L i i=true:=by simp [upd]
theorem repl_eq (n:Nat):(Value.agg (Array.replicate n (wv 0))).cells=((List.replicate n 0).map wv).toArray:=by
 simp only [Value.cells,List.map_replicate]
 rfl
/-- the walk of 'w, s := spread(b), h' -/
structure MixI (w0:World) (v:Value) (hs F z8 z64:List Int) (g3:Nat) (L:Nat→Bool) (vs:List Value) (w:World):Prop where
 mod:Mod (fun _=>False) w0 w
 b3:Ws 120 w g3 hs
 v0:L 0=true→vs[0]? = some v
 v1:L 1=true→vs[1]? = some (.agg (F.map wv).toArray)
 v2:L 2=true→vs[2]? = some (.agg (hs.map wv).toArray)
 v3:L 3=true→∃ g,vs[3]? = some (.pointer (some ⟨g,0,none⟩))∧w0.heap.size≤g∧Ws 122 w g (if L 5 then F else z64)
 v4:L 4=true→∃ g,vs[4]? = some (.pointer (some ⟨g,0,none⟩))∧w0.heap.size≤g∧Ws 120 w g (if L 6 then hs else z8)
 ne:vs[3]? = vs[4]?→L 3=true→L 4=true→False
 d5:L 5=true→L 3=true
 d6:L 6=true→L 4=true
theorem MixI.world {w0 w w':World} {v:Value} {hs F z8 z64:List Int} {g3:Nat} {L:Nat→Bool} {vs:List Value} (h:MixI w0 v hs F z8 z64 g3 L vs w) (hm:Mod (fun _=>False) w w'):MixI w0 v hs F z8 z64 g3 L vs w':=
 ⟨h.mod.trans hm (fun _ _ h=>h),h.b3.mod hm (fun h=>h),h.v0,h.v1,h.v2,
  fun hL=>by obtain ⟨g,h1,h2,h3⟩:=h.v3 hL;exact ⟨g,h1,h2,h3.mod hm (fun h=>h)⟩,
  fun hL=>by obtain ⟨g,h1,h2,h3⟩:=h.v4 hL;exact ⟨g,h1,h2,h3.mod hm (fun h=>h)⟩,h.ne,h.d5,h.d6⟩
/-- a value at a place below the pointers -/
theorem MixI.val {w0 w:World} {v:Value} {hs F z8 z64:List Int} {g3:Nat} {L:Nat→Bool} {vs:List Value} (h:MixI w0 v hs F z8 z64 g3 L vs w) (hl:vs.length=5) (i:Nat) (hi:i < 3) (x:Value)
 (hx:x=[v,.agg (F.map wv).toArray,.agg (hs.map wv).toArray].getD i undef):MixI w0 v hs F z8 z64 g3 (upd L i) (vs.set i x) w:=by
 subst hx
 have e:∀ k,k≠i→(vs.set i ([v,.agg (F.map wv).toArray,.agg (hs.map wv).toArray].getD i undef))[k]? = vs[k]?:=fun k hk=>List.getElem?_set_ne (Ne.symm hk)
 have e':(vs.set i ([v,.agg (F.map wv).toArray,.agg (hs.map wv).toArray].getD i undef))[i]? = some ([v,.agg (F.map wv).toArray,.agg (hs.map wv).toArray].getD i undef):=List.getElem?_set_self (by omega)
 refine ⟨h.mod,h.b3,fun hL=>?_,fun hL=>?_,fun hL=>?_,fun hL=>?_,fun hL=>?_,fun h1 h2 h3=>?_,fun h1=>?_,fun h1=>?_⟩
 ·by_cases hk:0=i
  ·subst hk;rw [e'];rfl
  ·rw [Bw hk] at hL;rw [e 0 hk];exact h.v0 hL
 ·by_cases hk:1=i
  ·subst hk;rw [e'];rfl
  ·rw [Bw hk] at hL;rw [e 1 hk];exact h.v1 hL
 ·by_cases hk:2=i
  ·subst hk;rw [e'];rfl
  ·rw [Bw hk] at hL;rw [e 2 hk];exact h.v2 hL
 ·rw [Bw (by omega)] at hL;rw [e 3 (by omega),Bw (show 5≠i by omega)];exact h.v3 hL
 ·rw [Bw (by omega)] at hL;rw [e 4 (by omega),Bw (show 6≠i by omega)];exact h.v4 hL
 ·rw [e 3 (by omega),e 4 (by omega)] at h1
  rw [Bw (by omega)] at h2 h3
  exact h.ne h1 h2 h3
 ·rw [Bw (by omega)] at h1 ⊢; exact h.d5 h1
 ·rw [Bw (by omega)] at h1 ⊢; exact h.d6 h1
theorem ptr_inj {g g':Nat} (h:Value.pointer (some ⟨g,0,none⟩)=Value.pointer (some ⟨g',0,none⟩)):g=g':=by simpa using h
section
variable {w0 w:World} {v:Value} {hs F z8 z64:List Int} {g3:Nat} {L:Nat→Bool} {vs:List Value}
theorem MixI.al3 (h:MixI w0 v hs F z8 z64 g3 L vs w) (hl:vs.length=5) (hL:L 3=false):MixI w0 v hs F z8 z64 g3 (upd L 3) (vs.set 3 (.pointer (some ⟨w.heap.size,0,none⟩))) (w.alloc (.cells (z64.map wv).toArray 122)):=by
 have h5:L 5=false:=by cases h5:L 5 with|false=>rfl|true=>rw [h.d5 h5] at hL;cases hL
 have hn:=h.world ((Mod.refl (fun _=>False) w).alloc (.cells (z64.map wv).toArray 122))
 have e:∀ k,k≠3→(vs.set 3 (.pointer (some ⟨w.heap.size,0,none⟩)))[k]? = vs[k]?:=fun k hk=>List.getElem?_set_ne (Ne.symm hk)
 have e':(vs.set 3 (.pointer (some ⟨w.heap.size,0,none⟩)))[3]? = some (.pointer (some ⟨w.heap.size,0,none⟩)):=List.getElem?_set_self (by omega)
 refine ⟨hn.mod,hn.b3,fun q=>?_,fun q=>?_,fun q=>?_,fun q=>?_,fun q=>?_,fun h1 h2 h3=>?_,fun q=>?_,fun q=>?_⟩
 ·rw [Bw (by omega)] at q;rw [e 0 (by omega)];exact hn.v0 q
 ·rw [Bw (by omega)] at q;rw [e 1 (by omega)];exact hn.v1 q
 ·rw [Bw (by omega)] at q;rw [e 2 (by omega)];exact hn.v2 q
 ·refine ⟨w.heap.size,e',h.mod.size,?_⟩
  rw [Bw (by omega),h5]
  exact Cs.new _ _ _
 ·rw [Bw (by omega)] at q;rw [e 4 (by omega),Bw (show 6≠3 by omega)];exact hn.v4 q
 ·rw [Bw (by omega)] at h3
  obtain ⟨g,a1,a2,a3⟩:=h.v4 h3
  rw [e',e 4 (by omega),a1] at h1
  have:=a3.lt
  have:=ptr_inj (Option.some.inj h1)
  omega
 ·exact upd_eq
 ·rw [Bw (by omega)] at q ⊢; exact h.d6 q
theorem MixI.al4 (h:MixI w0 v hs F z8 z64 g3 L vs w) (hl:vs.length=5) (hL:L 4=false):MixI w0 v hs F z8 z64 g3 (upd L 4) (vs.set 4 (.pointer (some ⟨w.heap.size,0,none⟩))) (w.alloc (.cells (z8.map wv).toArray 120)):=by
 have h5:L 6=false:=by cases h5:L 6 with|false=>rfl|true=>rw [h.d6 h5] at hL;cases hL
 have hn:=h.world ((Mod.refl (fun _=>False) w).alloc (.cells (z8.map wv).toArray 120))
 have e:∀ k,k≠4→(vs.set 4 (.pointer (some ⟨w.heap.size,0,none⟩)))[k]? = vs[k]?:=fun k hk=>List.getElem?_set_ne (Ne.symm hk)
 have e':(vs.set 4 (.pointer (some ⟨w.heap.size,0,none⟩)))[4]? = some (.pointer (some ⟨w.heap.size,0,none⟩)):=List.getElem?_set_self (by omega)
 refine ⟨hn.mod,hn.b3,fun q=>?_,fun q=>?_,fun q=>?_,fun q=>?_,fun q=>?_,fun h1 h2 h3=>?_,fun q=>?_,fun q=>?_⟩
 ·rw [Bw (by omega)] at q;rw [e 0 (by omega)];exact hn.v0 q
 ·rw [Bw (by omega)] at q;rw [e 1 (by omega)];exact hn.v1 q
 ·rw [Bw (by omega)] at q;rw [e 2 (by omega)];exact hn.v2 q
 ·rw [Bw (by omega)] at q;rw [e 3 (by omega),Bw (show 5≠4 by omega)];exact hn.v3 q
 ·refine ⟨w.heap.size,e',h.mod.size,?_⟩
  rw [Bw (by omega),h5]
  exact Cs.new _ _ _
 ·rw [Bw (by omega)] at h2
  obtain ⟨g,a1,a2,a3⟩:=h.v3 h2
  rw [e',e 3 (by omega),a1] at h1
  have:=a3.lt
  have:=ptr_inj (Option.some.inj h1)
  omega
 ·rw [Bw (by omega)] at q ⊢; exact h.d5 q
 ·exact upd_eq
theorem MixI.st (h:MixI w0 v hs F z8 z64 g3 L vs w) (h30:g3 < w0.heap.size) (i:Nat) (hi:i=5∨i=6) {w':World} {g:Nat} (hg:vs[i - 2]? = some (.pointer (some ⟨g,0,none⟩))) (hg0:w0.heap.size≤g) (hL3:L (i - 2)=true)
 (hm:Mod (fun k=>k=g) w w') (h5:i=5→Ws 122 w' g F) (h6:i=6→Ws 120 w' g hs):MixI w0 v hs F z8 z64 g3 (upd L i) vs w':=by
 refine ⟨h.mod.trans hm (fun k hk e=>by omega),h.b3.mod hm (by omega),fun q=>?_,fun q=>?_,fun q=>?_,fun q=>?_,fun q=>?_,fun h1 h2 h3=>?_,fun q=>?_,fun q=>?_⟩
 ·rw [Bw (by omega)] at q;exact h.v0 q
 ·rw [Bw (by omega)] at q;exact h.v1 q
 ·rw [Bw (by omega)] at q;exact h.v2 q
 ·rw [Bw (by omega)] at q
  obtain ⟨g',a1,a2,a3⟩:=h.v3 q
  refine ⟨g',a1,a2,?_⟩
  rcases hi with rfl|rfl
  ·rw [a1] at hg
   obtain rfl:=ptr_inj (Option.some.inj hg)
   rw [upd_eq]
   exact h5 rfl
  ·rw [Bw (by omega)]
   refine a3.mod hm (fun e=>?_)
   subst e
   exact h.ne (a1.trans hg.symm) q hL3
 ·rw [Bw (by omega)] at q
  obtain ⟨g',a1,a2,a3⟩:=h.v4 q
  refine ⟨g',a1,a2,?_⟩
  rcases hi with rfl|rfl
  ·rw [Bw (by omega)]
   refine a3.mod hm (fun e=>?_)
   subst e
   exact h.ne (hg.trans a1.symm) hL3 q
  ·rw [a1] at hg
   obtain rfl:=ptr_inj (Option.some.inj hg)
   rw [upd_eq]
   exact h6 rfl
 ·rw [Bw (by omega)] at h2 h3;exact h.ne h1 h2 h3
 ·rcases hi with rfl|rfl
  ·rw [Bw (by omega)];exact hL3
  ·rw [Bw (by omega)] at q ⊢; exact h.d5 q
 ·rcases hi with rfl|rfl
  ·rw [Bw (by omega)] at q ⊢; exact h.d6 q
  ·rw [Bw (by omega)];exact hL3
end
def mixT (s:List Int) (k x:Int):Int:=(s.getD 7 0+xr (xr (rr 6 (s.getD 4 0)) (rr 11 (s.getD 4 0))) (rr 25 (s.getD 4 0))+xr (an (s.getD 4 0) (s.getD 5 0)) (an (xr 4294967295 (s.getD 4 0)) (s.getD 6 0))+k+x) % 4294967296
def mixU (s:List Int):Int:=(xr (xr (rr 2 (s.getD 0 0)) (rr 13 (s.getD 0 0))) (rr 22 (s.getD 0 0))+xr (xr (an (s.getD 0 0) (s.getD 1 0)) (an (s.getD 0 0) (s.getD 2 0))) (an (s.getD 1 0) (s.getD 2 0))) % 4294967296
def mixStep (s:List Int) (k x:Int):List Int:=[pl (mixT s k x) (mixU s),s.getD 0 0,s.getD 1 0,s.getD 2 0,pl (s.getD 3 0) (mixT s k x),s.getD 4 0,s.getD 5 0,s.getD 6 0]
def mixTo (hs ks ws:List Int) (n:Nat):List Int:=(List.range n).foldl (fun s i=>mixStep s (ks.getD i 0) (ws.getD i 0)) hs
def addTo (hs s:List Int) (n:Nat):List Int:=(List.range n).foldl (fun h i=>h.set i (pl (h.getD i 0) (s.getD i 0))) hs
def mixF (hs ks bs:List Int):List Int:=addTo hs (mixTo hs ks (spreadF bs) 64) 8
/-- what stands in memory while a block is mixed -/
structure MixO (w0:World) (hs ks F z8 s:List Int) (g7 g8:Nat) (w:World):Prop where
 k3:Ws 120 w w0.heap.size hs
 k4:Ws 122 w (w0.heap.size+1) ks
 k6:Ws 120 w (w0.heap.size+1+1) z8
 k7:Ws 122 w g7 F
 k8:Ws 120 w g8 s
 m:Mod (fun _=>False) w0 w
theorem MixO.mod {w0 w w':World} {hs ks F z8 s:List Int} {g7 g8:Nat} (h:MixO w0 hs ks F z8 s g7 g8 w) (hm:Mod (fun _=>False) w w'):MixO w0 hs ks F z8 s g7 g8 w':=
 ⟨h.k3.mod hm (fun h=>h),h.k4.mod hm (fun h=>h),h.k6.mod hm (fun h=>h),h.k7.mod hm (fun h=>h),h.k8.mod hm (fun h=>h),h.m.trans hm (fun _ _ h=>h)⟩
/-- the state is written anew -/
theorem MixO.put {w0 w w':World} {hs ks F z8 s s':List Int} {g7 g8:Nat} (h:MixO w0 hs ks F z8 s g7 g8 w) (h8:w0.heap.size+3≤g8) (hne:g7≠g8) (hm:Mod (fun k=>k=g8) w w') (hs':Ws 120 w' g8 s'):MixO w0 hs ks F z8 s' g7 g8 w':=
 ⟨h.k3.mod hm (by omega),h.k4.mod hm (by omega),h.k6.mod hm (by omega),h.k7.mod hm hne,hs',h.m.trans hm (fun k hk e=>by omega)⟩
theorem MixO.put3 {w0 w w':World} {hs hs' ks F z8 s:List Int} {g7 g8:Nat} (h:MixO w0 hs ks F z8 s g7 g8 w) (h7:w0.heap.size+3≤g7) (h8:w0.heap.size+3≤g8) (hm:Mod (fun k=>k=w0.heap.size) w w') (hs3:Ws 120 w' w0.heap.size hs'):MixO w0 hs' ks F z8 s g7 g8 w':=
 ⟨hs3,h.k4.mod hm (by omega),h.k6.mod hm (by omega),h.k7.mod hm (by omega),h.k8.mod hm (by omega),h.m.trans hm (fun k hk e=>by omega)⟩
theorem mixTo_succ (hs ks ws:List Int) (n:Nat):mixTo hs ks ws (n+1)=mixStep (mixTo hs ks ws n) (ks.getD n 0) (ws.getD n 0):=by unfold mixTo;rw [List.range_succ,List.foldl_append];rfl
theorem mixTo_len (hs ks ws:List Int) (h:hs.length=8) (n:Nat):(mixTo hs ks ws n).length=8:=by
 cases n with
 | zero=>exact h
 | succ n=>rw [mixTo_succ];rfl
theorem addTo_succ (hs s:List Int) (n:Nat):addTo hs s (n+1)=(addTo hs s n).set n (pl ((addTo hs s n).getD n 0) (s.getD n 0)):=by unfold addTo;rw [List.range_succ,List.foldl_append];rfl
theorem addTo_len (hs s:List Int) (n:Nat):(addTo hs s n).length=hs.length:=by
 induction n with
 | zero=>rfl
 | succ n ih=>rw [addTo_succ,List.length_set,ih]
set_option maxHeartbeats 2000000 in
theorem mix_any (hs ks:List Int) (hl8:hs.length=8) (hl64:ks.length=64) (v:Value) (bs:List Int) (w:World) (h:RdB w v bs) (hbl:∀ g,v.ownBlock=some g→g < w.heap.size) (h64:64≤bs.length) :
 Calls Try.prog 62 #[.agg (hs.map wv).toArray,.agg (ks.map wv).toArray,v] w fun e w'=>e=.returned (.agg ((mixF hs ks bs).map wv).toArray)∧Mod (fun _=>False) w w':=by
 obtain ⟨F,hF⟩:∃ F,F=spreadF bs:=⟨_,rfl⟩
 obtain ⟨z8,hz8⟩:∃ z,z=List.replicate 8 (0:Int):=⟨_,rfl⟩
 obtain ⟨z64,hz64⟩:∃ z,z=List.replicate 64 (0:Int):=⟨_,rfl⟩
 have hFl:F.length=64:=by rw [hF];exact spreadF_len bs
 have hz8l:z8.length=8:=by rw [hz8];simp
 have hz64l:z64.length=64:=by rw [hz64];simp
 have HR:=Lib.hid h
 have HB:=Lib.hid hbl
 have HF:=Lib.hid hF
 have HZ8:=Lib.hid hz8
 have HZ64:=Lib.hid hz64
 have HL8:=Lib.hid hl8
 have HL64:=Lib.hid hl64
 have HFL:=Lib.hid hFl
 have HZ8L:=Lib.hid hz8l
 have HZ64L:=Lib.hid hz64l
 clear h hbl hF hz8 hz64 hl8 hl64 hFl hz8l hz64l
 go_enter Try.func62,Try.ntmps62
 go_wp2_with fail
 change Code.wp _ _ _ _ (((w.alloc (.cells (hs.map wv).toArray 120)).alloc (.cells (ks.map wv).toArray 122)).alloc (.cells ((List.replicate 8 0).map wv).toArray 120))
 obtain ⟨w1,hw1⟩:∃ x,x=(((w.alloc (.cells (hs.map wv).toArray 120)).alloc (.cells (ks.map wv).toArray 122)).alloc (.cells ((List.replicate 8 0).map wv).toArray 120)):=⟨_,rfl⟩
 have A3:Ws 120 w1 w.heap.size hs:=by rw [hw1];exact ((Cs.new w _ _).alloc _).alloc _
 have A4:Ws 122 w1 (w.heap.size+1) ks:=by
  rw [hw1,show w.heap.size+1=(w.alloc (.cells (hs.map wv).toArray 120)).heap.size by simp]
  exact (Cs.new _ _ _).alloc _
 have A6:Ws 120 w1 (w.heap.size+1+1) z8:=by
  rw [hw1,HZ8.out,show w.heap.size+1+1=((w.alloc (.cells (hs.map wv).toArray 120)).alloc (.cells (ks.map wv).toArray 122)).heap.size by simp]
  exact Cs.new _ _ _
 have hm1:Mod (fun _=>False) w w1:=by rw [hw1];exact (((Mod.refl _ _).alloc _).alloc _).alloc _
 have hs1:w1.heap.size=w.heap.size+3:=by rw [hw1];simp
 rw [← hw1]
 clear hw1
 have K3:=Lib.hid A3
 have K4:=Lib.hid A4
 have K6:=Lib.hid A6
 have KM:=Lib.hid hm1
 clear A3 A4 A6 hm1
 generalize ha0:Act.mk _ _=a0
 have e2:a0.eval (.tmp 2)=v:=by rw [← ha0];rfl
 have e3:a0.eval (.tmp 3)=.pointer (some ⟨w.heap.size,0,none⟩):=by rw [← ha0];rfl
 have hsz:a0.tmps.size=118:=by rw [← ha0];rfl
 have HA0:=Lib.hid ha0
 clear ha0
 refine wp_region_each (by kernel_rfl) (by kernel_rfl) [17,18,19,7,8] (MixI w1 v hs F z8 z64 w.heap.size) ?_ ⟨?_,?_,?_,?_,?_,?_,?_,trivial⟩ ?_
 ·exact ⟨(Mod.refl _ _).drew,K3.out,(fun h=>by cases h),(fun h=>by cases h),(fun h=>by cases h),(fun h=>by cases h),(fun h=>by cases h),(fun _ h=>by cases h),(fun h=>by cases h),(fun h=>by cases h)⟩
 ·intro L vs w' hL hd hl hI
  exact wpOp_run rfl rfl (Ah rfl (by rw [eval_out _ _ _ _ (by decide)];exact e2)) ⟨_,putAll_put _ _ _ 0 17 _ (by decide) hl rfl,by simpa using hl,hI.val hl 0 (by omega) _ rfl⟩
 ·intro L vs w' hL hd hl hI
  have h0:=hI.v0 (hd ⟨0,.data⟩ (by simp) rfl)
  have hm:=KM.out.trans hI.mod (fun _ _ h=>h)
  have hsp:=spread_any v bs w' (HR.out.mod hm (fun _ _ _ h=>h)) (fun g hg=>by have:=HB.out g hg;have:=hm.size;omega) h64
  refine wpOp_call (args:=#[v]) rfl rfl (by rw [A8 rfl Try.func70 (by kernel_rfl) (by kernel_rfl)];simp [eval_in a0 _ vs 0 17 v (by decide) hl rfl (by omega) h0]) hsp ?_
  rintro e w2 ⟨rfl,hm2⟩
  exact ⟨_,rfl,_,putAll_put _ _ _ 1 18 _ (by decide) hl rfl,by simpa using hl,(hI.world hm2).val hl 1 (by omega) _ (by rw [HF.out];rfl)⟩
 ·intro L vs w' hL hd hl hI
  exact wpOp_run rfl rfl (Ap rfl Try.underlying120 rfl (g:=w.heap.size) (off:=0) (cs:=hs.map wv) (by rw [List.length_map,HL8.out];exact size_a8) (by rw [eval_out _ _ _ _ (by decide)];exact e3) (fun j u hu=>by rw [Nat.zero_add,Cs.cell hI.b3];simpa using hu))
   ⟨_,putAll_put _ _ _ 2 19 _ (by decide) hl rfl,by simpa using hl,hI.val hl 2 (by omega) _ rfl⟩
 ·intro L vs w' hL hd hl hI
  obtain ⟨info,hi,hz⟩:=zero_of zero_a64
  have hal:=hI.al3 hl hL
  rw [HZ64.out,← repl_eq 64] at hal
  rw [← HZ64.out] at hal
  exact wpOp_run rfl rfl (ex_alloc rfl hi hz) ⟨_,putAll_put _ _ _ 3 7 _ (by decide) hl rfl,by simpa using hl,hal⟩
 ·intro L vs w' hL hd hl hI
  obtain ⟨info,hi,hz⟩:=zero_of zero_a8
  have hal:=hI.al4 hl hL
  rw [HZ8.out,← repl_eq 8] at hal
  rw [← HZ8.out] at hal
  exact wpOp_run rfl rfl (ex_alloc rfl hi hz) ⟨_,putAll_put _ _ _ 4 8 _ (by decide) hl rfl,by simpa using hl,hal⟩
 ·intro L vs w' hL hd hl hI
  have hL3:=hd ⟨3,.data⟩ (by simp) rfl
  have h1:=hI.v1 (hd ⟨1,.data⟩ (by simp) rfl)
  have h5f:L 5=false:=hL
  obtain ⟨g,a1,a2,a3⟩:=hI.v3 hL3
  rw [h5f] at a3
  refine wpOp_skip rfl rfl (Bx rfl a3 (off:=0) (vs:=F.map wv) (by rw [List.length_map,HFL.out];exact size_a64) (wv_one _) (by simp [HFL.out,HZ64L.out]) (eval_in a0 _ vs 3 7 _ (by decide) hl rfl (by omega) a1) (by rw [eval_in a0 _ vs 1 18 _ (by decide) hl rfl (by omega) h1];rfl)) ⟨vs,rfl,hl,?_⟩
  rw [A0 _ _ (by simp [HFL.out,HZ64L.out])]
  exact hI.st (by omega) 5 (Or.inl rfl) a1 a2 hL3 setRow_Mod (fun _=>setRow_Cs a3) (fun h=>by cases h)
 ·intro L vs w' hL hd hl hI
  have hL3:=hd ⟨4,.data⟩ (by simp) rfl
  have h1:=hI.v2 (hd ⟨2,.data⟩ (by simp) rfl)
  have h5f:L 6=false:=hL
  obtain ⟨g,a1,a2,a3⟩:=hI.v4 hL3
  rw [h5f] at a3
  refine wpOp_skip rfl rfl (Bx rfl a3 (off:=0) (vs:=hs.map wv) (by rw [List.length_map,HL8.out];exact size_a8) (wv_one _) (by simp [HL8.out,HZ8L.out]) (eval_in a0 _ vs 4 8 _ (by decide) hl rfl (by omega) a1) (by rw [eval_in a0 _ vs 2 19 _ (by decide) hl rfl (by omega) h1];rfl)) ⟨vs,rfl,hl,?_⟩
  rw [A0 _ _ (by simp [HL8.out,HZ8L.out])]
  exact hI.st (by omega) 6 (Or.inr rfl) a1 a2 hL3 setRow_Mod (fun h=>by cases h) (fun _=>setRow_Cs a3)
 intro L vs w2 hL hl hI
 obtain ⟨g7,a1,a2,a3⟩:=hI.v3 (hL 3 (by decide))
 obtain ⟨g8,b1,b2,b3⟩:=hI.v4 (hL 4 (by decide))
 have hne:g7≠g8:=fun e=>hI.ne (by rw [a1,b1,e]) (hL 3 (by decide)) (hL 4 (by decide))
 rw [if_pos (hL 5 (by decide))] at a3
 rw [if_pos (hL 6 (by decide))] at b3
 have hm:=hI.mod
 have K3':=Lib.hid (K3.out.mod hm (fun h=>h))
 have K4':=Lib.hid (K4.out.mod hm (fun h=>h))
 have K6':=Lib.hid (K6.out.mod hm (fun h=>h))
 have KM':=Lib.hid (KM.out.trans hm (fun _ _ h=>h))
 have K7:=Lib.hid a3
 have K8:=Lib.hid b3
 match vs,hl with
 | [u17,u18,u19,p7,p8],_=>
 obtain rfl:p7=_:=Option.some.inj a1
 obtain rfl:p8=_:=Option.some.inj b1
 have zg7:=a3.lt
 have zg8:=b3.lt
 clear K3 K4 K6 KM a3 b3 hI a1 b1 hL e2 e3 hsz hm
 have ha0:=HA0.out
 subst ha0
 clear HA0
 simp only [Ar,Act.put,sIB,sCZ,sCS]
 have hO:MixO w hs ks F z8 hs g7 g8 w2:=⟨K3'.out,K4'.out,K6'.out,K7.out,K8.out,KM'.out⟩
 have HO:=Lib.hid hO
 clear hO K3' K4' K6' K7 K8 KM'
 have hg7:w.heap.size+3≤g7:=by omega
 have hg8:w.heap.size+3≤g8:=by omega
 have HNE:=Lib.hid hne
 clear hne a2 b2
 go_wp2
 go_loopw [20] (fun t20 wr=>∃ (i:Nat),t20=.int .i64 i∧i≤64∧MixO w hs ks F z8 (mixTo hs ks F i) g7 g8 wr) (fun t20 _=>64 - (intOf t20).toNat)
 case atStart=>exact ⟨0,rfl,by omega,HO.out⟩
 case round=>
  obtain ⟨wi,rfl⟩:∃ x,x=wr:=⟨_,rfl⟩
  obtain ⟨i,rfl,hi,hO⟩:=hrel
  have hsl:=mixTo_len hs ks F HL8.out i
  have hsucc:=mixTo_succ hs ks F i
  obtain ⟨s,hs'⟩:∃ s,s=mixTo hs ks F i:=⟨_,rfl⟩
  rw [← hs'] at hO hsl hsucc
  have KO:=Lib.hid hO
  have HS:=Lib.hid hsucc
  have HSE:=Lib.hid hs'
  clear hO hsucc hs'
  by_cases hlt:i < 64
  ·match s,hsl with
   | [s0,s1,s2,s3,s4,s5,s6,s7],_=>
   obtain ⟨k,hk⟩:∃ k,k=ks.getD i 0:=⟨_,rfl⟩
   obtain ⟨x,hx⟩:∃ x,x=F.getD i 0:=⟨_,rfl⟩
   have HK:=Lib.hid hk
   have HX:=Lib.hid hx
   clear hk hx
   have c0:wi.cell? ⟨g8,0,none⟩=some (wv s0):=KO.out.k8.cell (j:=0) (by simp)
   have c4:wi.cell? ⟨g8,4,none⟩=some (wv s4):=KO.out.k8.cell (j:=4) (by simp)
   go_wp2_with fail
   go_quiet (fail)
   clear c0 c4
   obtain ⟨w3,hw3⟩:∃ x,x=wi.drewN nq:=⟨_,rfl⟩
   have KO2:=Lib.hid (KO.out.mod (mod_of_drewN ⟨nq,hw3⟩ (fun _=>False)))
   rw [← hw3]
   clear hw3 KO
   go_wp2_with (first|(go_at_call 71;(with_reducible refine (RL_6 _ _).mono ?_);rintro e w' ⟨rfl,rfl⟩)|(go_at_call 71;(with_reducible refine (RL_11 _ _).mono ?_);rintro e w' ⟨rfl,rfl⟩)|(go_at_call 71;(with_reducible refine (RL_25 _ _).mono ?_);rintro e w' ⟨rfl,rfl⟩))
   have hsg:(if IntKind.u32.signed=true then (-1:Int) else IntKind.u32.max)=4294967295:=rfl
   have c5:w3.cell? ⟨g8,5,none⟩=some (wv s5):=KO2.out.k8.cell (j:=5) (by simp)
   have c6:w3.cell? ⟨g8,6,none⟩=some (wv s6):=KO2.out.k8.cell (j:=6) (by simp)
   have c7:w3.cell? ⟨g8,7,none⟩=some (wv s7):=KO2.out.k8.cell (j:=7) (by simp)
   have ck:w3.cell? ⟨w.heap.size+1,i,none⟩=some (wv k):=by rw [HK.out];exact KO2.out.k4.cell (by rw [HL64.out];omega)
   have cx:w3.cell? ⟨g7,i,none⟩=some (wv x):=by rw [HX.out];exact KO2.out.k7.cell (by rw [HFL.out];omega)
   go_quiet (fail)
   clear c5 c6 c7 ck cx hsg
   obtain ⟨w4,hw4⟩:∃ x,x=w3.drewN nq:=⟨_,rfl⟩
   have KO3:=Lib.hid (KO2.out.mod (mod_of_drewN ⟨nq,hw4⟩ (fun _=>False)))
   rw [← hw4]
   clear hw4 KO2
   have c0:w4.cell? ⟨g8,0,none⟩=some (wv s0):=KO3.out.k8.cell (j:=0) (by simp)
   have c1:w4.cell? ⟨g8,1,none⟩=some (wv s1):=KO3.out.k8.cell (j:=1) (by simp)
   have c2:w4.cell? ⟨g8,2,none⟩=some (wv s2):=KO3.out.k8.cell (j:=2) (by simp)
   have c3:w4.cell? ⟨g8,3,none⟩=some (wv s3):=KO3.out.k8.cell (j:=3) (by simp)
   have c4:w4.cell? ⟨g8,4,none⟩=some (wv s4):=KO3.out.k8.cell (j:=4) (by simp)
   have c5:w4.cell? ⟨g8,5,none⟩=some (wv s5):=KO3.out.k8.cell (j:=5) (by simp)
   have c6:w4.cell? ⟨g8,6,none⟩=some (wv s6):=KO3.out.k8.cell (j:=6) (by simp)
   have HF8:=Lib.hid (show 0+((mixStep [s0,s1,s2,s3,s4,s5,s6,s7] k x).map wv).length≤([s0,s1,s2,s3,s4,s5,s6,s7].map wv).toArray.size by simp [mixStep])
   have HS8:=Lib.hid (show (Try.prog.info? 120).map (·.size)=some ((mixStep [s0,s1,s2,s3,s4,s5,s6,s7] k x).map wv).length from size_a8)
   have HLY:=Lib.hid (A0 ([s0,s1,s2,s3,s4,s5,s6,s7].map wv).toArray ((mixStep [s0,s1,s2,s3,s4,s5,s6,s7] k x).map wv) (by simp [mixStep]))
   go_upto_region 10 with (first|(go_at_call 71;(with_reducible refine (RL_2 _ _).mono ?_);rintro e w' ⟨rfl,rfl⟩)|(go_at_call 71;(with_reducible refine (RL_13 _ _).mono ?_);rintro e w' ⟨rfl,rfl⟩)|(go_at_call 71;(with_reducible refine (RL_22 _ _).mono ?_);rintro e w' ⟨rfl,rfl⟩))
   go_wp2_with ((with_reducible show wpList _ _ _ (Oper.mk none (Op.store 120 (.tmp 8) (.tmp 102)) _ _ _ _ :: _) _ _);refine wpList_storeA rfl 120 (.tmp 8) (.tmp 102) rfl KO3.out.k8 (off:=0) (vs:=(mixStep [s0,s1,s2,s3,s4,s5,s6,s7] k x).map wv) HS8.out (wv_one _) HF8.out rfl ?_ ?_)
   ·dsimp only [Act.eval]
    simp [Value.cells,mixStep,mixT,mixU,pl,xr,an]
    trace_state
   ·intro w5 hc5 hm5
    have hk8:Ws 120 w5 g8 (mixStep [s0,s1,s2,s3,s4,s5,s6,s7] k x):=by unfold Ws;rw [← HLY.out];exact hc5
    have KO5:=Lib.hid (KO3.out.put hg8 HNE.out hm5 hk8)
    clear hc5 hm5 hk8 KO3 c0 c1 c2 c3 c4 c5 c6
    go_wp2
    go_roundw
    case rel=>exact ⟨i+1,by go_num,by omega,by rw [HS.out,← HK.out,← HX.out];exact KO5.out⟩
    case measure=>first|(simp [intOf];done)|(simp [intOf];omega)
  ·obtain rfl:i=64:=by omega
   rw [HSE.out] at HS KO
   obtain ⟨S,hS⟩:∃ S,S=mixTo hs ks F 64:=⟨_,rfl⟩
   rw [← hS] at KO
   have hSl:S.length=8:=by rw [hS];exact mixTo_len hs ks F HL8.out 64
   have HSS:=Lib.hid hS
   have HSL:=Lib.hid hSl
   clear hS hSl HS HSE hsl
   rw [show ((64:Nat):Int)=64 from rfl]
   go_wp2
   go_loopw [104] (fun t104 wr=>∃ (i:Nat),t104=.int .i64 i∧i≤8∧MixO w (addTo hs S i) ks F z8 S g7 g8 wr) (fun t104 _=>8 - (intOf t104).toNat)
   case atStart=>exact ⟨0,rfl,by omega,KO.out⟩
   case round=>
    obtain ⟨wj,rfl⟩:∃ x,x=wr:=⟨_,rfl⟩
    obtain ⟨i,rfl,hi,hO⟩:=hrel
    clear KO
    have hsl:=addTo_len hs S i
    have hsucc:=addTo_succ hs S i
    obtain ⟨A,hA⟩:∃ A,A=addTo hs S i:=⟨_,rfl⟩
    rw [← hA] at hO hsl hsucc
    rw [HL8.out] at hsl
    have KO:=Lib.hid hO
    have HS:=Lib.hid hsucc
    have HAL:=Lib.hid hsl
    have HAA:=Lib.hid hA
    clear hO hsucc hsl hA
    by_cases hlt:i < 8
    ·obtain ⟨x,hx⟩:∃ x,x=A.getD i 0:=⟨_,rfl⟩
     obtain ⟨y,hy⟩:∃ y,y=S.getD i 0:=⟨_,rfl⟩
     have c3:wj.cell? ⟨w.heap.size,i,none⟩=some (wv x):=by rw [hx];exact KO.out.k3.cell (by rw [HAL.out];omega)
     have f3:=KO.out.k3.frozen i
     have c8:wj.cell? ⟨g8,i,none⟩=some (wv y):=by rw [hy];exact KO.out.k8.cell (by rw [HSL.out];omega)
     rw [← hx,← hy] at HS
     have HX:=Lib.hid hx
     have HY:=Lib.hid hy
     have hset:=KO.out.k3.set i (pl x y)
     have hm:Mod (fun k=>k=w.heap.size) wj (wj.setCell ⟨w.heap.size,i,none⟩ (wv (pl x y))):=Mod.setCell (Mod.refl (fun k=>k=w.heap.size) wj) (p:=⟨w.heap.size,i,none⟩) (fun _=>rfl) _
     have hko:=KO.out.put3 hg7 hg8 hm hset
     rw [← HS.out] at hko
     have KO2:=Lib.hid hko
     have HV:=Lib.hid (show pl x y=IntKind.u32.wrap (x+y) by simp only [pl,IntKind.wrap_u32])
     have b0:(0:Int)≤i:=by omega
     have b1:(i:Int) < 8:=by omega
     clear hx hy hset hm hko
     go_wp2_with fail
     go_region_law (fail)
     all_goals
      clear c3 f3 c8
      rw [← HV.out]
      go_wp2
      go_roundw
      case rel=>exact ⟨i+1,by go_num,by omega,KO2.out.mod ((Mod.refl (fun _=>False) _).drew)⟩
      case measure=>first|(simp [intOf];done)|(simp [intOf];omega)
    ·obtain rfl:i=8:=by omega
     have hR:A=mixF hs ks bs:=by rw [HAA.out,HSS.out,HF.out];rfl
     have HRR:=Lib.hid hR
     have HCELL:=Lib.hid (show ∀ k u,(A.map wv)[k]? = some u→wj.cell? ⟨w.heap.size,0+k,none⟩=some u by
      intro k u hu
      rw [Nat.zero_add,Cs.cell KO.out.k3]
      simpa using hu)
     have HSA:=Lib.hid (show (Try.prog.info? 120).map (·.size)=some (A.map wv).length by rw [List.length_map,HAL.out];exact size_a8)
     have HFA:=Lib.hid (show 0+(A.map wv).length≤(z8.map wv).toArray.size by simp [HAL.out,HZ8L.out])
     have HLY:=Lib.hid (A0 (z8.map wv).toArray (A.map wv) (by simp [HAL.out,HZ8L.out]))
     clear hR
     go_upto_region 17 with (fail)
     go_step
     refine wpList_loadA rfl 120 (.tmp 3) rfl Try.underlying120 rfl (g:=w.heap.size) (off:=0) (cs:=A.map wv) HSA.out rfl HCELL.out ?_
     simp only [Act.put,sIB,sCZ,sCS]
     refine wpList_storeA rfl 120 (.tmp 6) (.tmp 117) rfl KO.out.k6 (vs:=A.map wv) HSA.out (wv_one _) HFA.out rfl rfl ?_
     intro w5 hc5 hm5
     rw [HLY.out] at hc5
     go_wp2
     refine bodyPost_ret (Br rfl _ _ (w.heap.size+1+1) (A.map wv) rfl (fun k u hu=>by rw [hc5.cell];simpa using hu) Try.underlying120 rfl HSA.out) rfl ⟨by rw [HRR.out],KO.out.m.trans (hm5.mono (S':=fun k=>k=w.heap.size+1+1) (fun k _ hk=>hk)) (by intro k h1 h2;omega)⟩
end Go.Proofs.Ytbifincepglilaa

/- The rounds' numbers; an element of an array value; SHA-256 in plain words. -/
namespace Go.Proofs.Ytbifincepglilaa
open Go Go.RowKit Go.Gv
def K256:List Int:=[1116352408,1899447441,3049323471,3921009573,961987163,1508970993,2453635748,2870763221,3624381080,310598401,607225278,1426881987,1925078388,2162078206,2614888103,3248222580,3835390401,4022224774,264347078,604807628,770255983,1249150122,1555081692,1996064986,2554220882,2821834349,2952996808,3210313671,3336571891,3584528711,113926993,338241895,666307205,773529912,1294757372,1396182291,1695183700,1986661051,2177026350,2456956037,2730485921,2820302411,3259730800,3345764771,3516065817,3600352804,4094571909,275423344,430227734,506948616,659060556,883997877,958139571,1322822218,1537002063,1747873779,1955562222,2024104815,2227730452,2361852424,2428436474,2756734187,3204031479,3329325298]
def H256:List Int:=[1779033703,3144134277,1013904242,2773480762,1359893119,2600822924,528734635,1541459225]
theorem K256_len:K256.length=64:=by decide
theorem K256_arr:(K256.map wv).toArray=#[wv 1116352408,wv 1899447441,wv 3049323471,wv 3921009573,wv 961987163,wv 1508970993,wv 2453635748,wv 2870763221,wv 3624381080,wv 310598401,wv 607225278,wv 1426881987,wv 1925078388,wv 2162078206,wv 2614888103,wv 3248222580,wv 3835390401,wv 4022224774,wv 264347078,wv 604807628,wv 770255983,wv 1249150122,wv 1555081692,wv 1996064986,wv 2554220882,wv 2821834349,wv 2952996808,wv 3210313671,wv 3336571891,wv 3584528711,wv 113926993,wv 338241895,wv 666307205,wv 773529912,wv 1294757372,wv 1396182291,wv 1695183700,wv 1986661051,wv 2177026350,wv 2456956037,wv 2730485921,wv 2820302411,wv 3259730800,wv 3345764771,wv 3516065817,wv 3600352804,wv 4094571909,wv 275423344,wv 430227734,wv 506948616,wv 659060556,wv 883997877,wv 958139571,wv 1322822218,wv 1537002063,wv 1747873779,wv 1955562222,wv 2024104815,wv 2227730452,wv 2361852424,wv 2428436474,wv 2756734187,wv 3204031479,wv 3329325298]:=rfl
theorem zero64_arr:((List.replicate 64 0).map wv).toArray=Array.replicate 64 (wv 0):=by rw [List.map_replicate];rfl
set_option maxHeartbeats 4000000 in
theorem rounds_any (w:World):Calls Try.prog 61 #[] w fun e w'=>e=.returned (.agg (K256.map wv).toArray)∧Mod (fun _=>False) w w':=by
 obtain ⟨k,hk⟩:∃ k,k=K256:=⟨_,rfl⟩
 have hl:k.length=64:=by rw [hk];exact K256_len
 have ha:(k.map wv).toArray=#[wv 1116352408,wv 1899447441,wv 3049323471,wv 3921009573,wv 961987163,wv 1508970993,wv 2453635748,wv 2870763221,wv 3624381080,wv 310598401,wv 607225278,wv 1426881987,wv 1925078388,wv 2162078206,wv 2614888103,wv 3248222580,wv 3835390401,wv 4022224774,wv 264347078,wv 604807628,wv 770255983,wv 1249150122,wv 1555081692,wv 1996064986,wv 2554220882,wv 2821834349,wv 2952996808,wv 3210313671,wv 3336571891,wv 3584528711,wv 113926993,wv 338241895,wv 666307205,wv 773529912,wv 1294757372,wv 1396182291,wv 1695183700,wv 1986661051,wv 2177026350,wv 2456956037,wv 2730485921,wv 2820302411,wv 3259730800,wv 3345764771,wv 3516065817,wv 3600352804,wv 4094571909,wv 275423344,wv 430227734,wv 506948616,wv 659060556,wv 883997877,wv 958139571,wv 1322822218,wv 1537002063,wv 1747873779,wv 1955562222,wv 2024104815,wv 2227730452,wv 2361852424,wv 2428436474,wv 2756734187,wv 3204031479,wv 3329325298]:=by rw [hk];exact K256_arr
 obtain ⟨z,hz⟩:∃ z,z=List.replicate 64 (0:Int):=⟨_,rfl⟩
 have hzl:z.length=64:=by rw [hz];simp
 rw [← hk]
 have HS:=Lib.hid (show (Try.prog.info? 122).map (·.size)=some (k.map wv).length by rw [List.length_map,hl];exact size_a64)
 have HF:=Lib.hid (show 0+(k.map wv).length≤(z.map wv).toArray.size by simp [hl,hzl])
 have HLY:=Lib.hid (A0 (z.map wv).toArray (k.map wv) (by simp [hl,hzl]))
 have HK:=Lib.hid ha
 have HC:=Lib.hid (show Cs (w.alloc (.cells (Array.replicate 64 (wv 0)) 122)) w.heap.size (z.map wv).toArray 122 by rw [hz,zero64_arr];exact Cs.new _ _ _)
 clear hk hl ha hz hzl
 go_enter Try.func61,Try.ntmps61
 go_wp2_with ((with_reducible show wpList _ _ _ (Oper.mk none (Op.store 122 (.tmp 0) (.tmp 1)) _ _ _ _ :: _) _ _);go_must (refine wpList_storeA rfl 122 (.tmp 0) (.tmp 1) rfl HC.out (off:=0) (vs:=k.map wv) HS.out (wv_one _) HF.out rfl HK.out.symm ?_))
 intro w5 hc5 hm5
 rw [HLY.out] at hc5
 go_wp2
 refine bodyPost_ret (Br rfl _ _ w.heap.size (k.map wv) rfl (fun j u hu=>by rw [hc5.cell];simpa using hu) Try.underlying122 rfl HS.out) rfl ⟨rfl,((Mod.refl (fun _=>False) w).alloc _).trans (hm5.mono (S':=fun k=>k=w.heap.size) (fun k _ hk=>hk)) (by intro k h1 h2;omega)⟩
set_option maxHeartbeats 4000000 in
theorem ref_rounds_any (w:World):Calls Try.prog 72 #[] w fun e w'=>e=.returned (.agg (K256.map wv).toArray)∧Mod (fun _=>False) w w':=by
 obtain ⟨k,hk⟩:∃ k,k=K256:=⟨_,rfl⟩
 have hl:k.length=64:=by rw [hk];exact K256_len
 have ha:(k.map wv).toArray=#[wv 1116352408,wv 1899447441,wv 3049323471,wv 3921009573,wv 961987163,wv 1508970993,wv 2453635748,wv 2870763221,wv 3624381080,wv 310598401,wv 607225278,wv 1426881987,wv 1925078388,wv 2162078206,wv 2614888103,wv 3248222580,wv 3835390401,wv 4022224774,wv 264347078,wv 604807628,wv 770255983,wv 1249150122,wv 1555081692,wv 1996064986,wv 2554220882,wv 2821834349,wv 2952996808,wv 3210313671,wv 3336571891,wv 3584528711,wv 113926993,wv 338241895,wv 666307205,wv 773529912,wv 1294757372,wv 1396182291,wv 1695183700,wv 1986661051,wv 2177026350,wv 2456956037,wv 2730485921,wv 2820302411,wv 3259730800,wv 3345764771,wv 3516065817,wv 3600352804,wv 4094571909,wv 275423344,wv 430227734,wv 506948616,wv 659060556,wv 883997877,wv 958139571,wv 1322822218,wv 1537002063,wv 1747873779,wv 1955562222,wv 2024104815,wv 2227730452,wv 2361852424,wv 2428436474,wv 2756734187,wv 3204031479,wv 3329325298]:=by rw [hk];exact K256_arr
 obtain ⟨z,hz⟩:∃ z,z=List.replicate 64 (0:Int):=⟨_,rfl⟩
 have hzl:z.length=64:=by rw [hz];simp
 rw [← hk]
 have HS:=Lib.hid (show (Try.prog.info? 122).map (·.size)=some (k.map wv).length by rw [List.length_map,hl];exact size_a64)
 have HF:=Lib.hid (show 0+(k.map wv).length≤(z.map wv).toArray.size by simp [hl,hzl])
 have HLY:=Lib.hid (A0 (z.map wv).toArray (k.map wv) (by simp [hl,hzl]))
 have HK:=Lib.hid ha
 have HC:=Lib.hid (show Cs (w.alloc (.cells (Array.replicate 64 (wv 0)) 122)) w.heap.size (z.map wv).toArray 122 by rw [hz,zero64_arr];exact Cs.new _ _ _)
 clear hk hl ha hz hzl
 go_enter Try.func72,Try.ntmps72
 go_wp2_with ((with_reducible show wpList _ _ _ (Oper.mk none (Op.store 122 (.tmp 0) (.tmp 1)) _ _ _ _ :: _) _ _);go_must (refine wpList_storeA rfl 122 (.tmp 0) (.tmp 1) rfl HC.out (off:=0) (vs:=k.map wv) HS.out (wv_one _) HF.out rfl HK.out.symm ?_))
 intro w5 hc5 hm5
 rw [HLY.out] at hc5
 go_wp2
 refine bodyPost_ret (Br rfl _ _ w.heap.size (k.map wv) rfl (fun j u hu=>by rw [hc5.cell];simpa using hu) Try.underlying122 rfl HS.out) rfl ⟨rfl,((Mod.refl (fun _=>False) w).alloc _).trans (hm5.mono (S':=fun k=>k=w.heap.size) (fun k _ hk=>hk)) (by intro k h1 h2;omega)⟩
theorem wpList_idxA {P:Program} {ops:Array Oper} {rest:List Oper} {o:Oper} {a:Act} {w:World} {Q:Exit→Act→World→Prop} (hgd:o.guard=none) (ty:TypeId) (x y:Operand) (ho:o.op=.index ty x y)
 {e:TypeId} {n:Nat} {k:IntKind} (hu:P.underlying ty=some (.array n e)) (he:P.underlying e=some (.int k)) (hsz:(P.info? e).map (·.size)=some 1) (xs:List Int) (hl:xs.length=n) {j:IntKind} {i:Nat} (hi:i < n)
 (hx:a.eval x=.agg (xs.map (Value.int k)).toArray) (hy:a.eval y=.int j i)
 (h:wpList P ops Q rest (a.put o.dst (.int k (xs.getD i 0))) w):wpList P ops Q (o :: rest) a w:=by
 refine wpList_plain hgd fun K hK=>?_
 have hsz':(sizeOf e).run P w=.ok 1 w:=by
  cases hq:P.info? e with
  | none=>simp [hq] at hsz
  | some i=>
   have:i.size=1:=by simpa [hq] using hsz
   simp [sizeOf,typeInfo,hq,this]
 have hp:(part e (xs.map (Value.int k)).toArray (i * 1)).run P w=.ok (.int k (xs.getD i 0)) w:=by
  simp [part,isAgg,run_underlying he,List.getD,List.getElem?_eq_getElem (show i < xs.length by omega)]
 have hr:(Instr.index ty (.agg (xs.map (Value.int k)).toArray) (.int j i)).run P w=.ok (.int k (xs.getD i 0)) w:=by
  simp only [Instr.index,asIntOf,Sem.run_bind,Sem.run_pure,Result.andThen_ok,run_underlying hu]
  rw [if_pos (by omega)]
  simp only [Sem.run_bind,hsz',Result.andThen_ok,Int.toNat_natCast,hp]
 unfold Oper.wp execOp
 simp only [ho,hx,hy,Sem.run_bind,Sem.run_pure,Result.andThen_ok,hr]
 exact hK _ _ h
end Go.Proofs.Ytbifincepglilaa

/- Slices of one-cell values (numbers, slices) that are appended to; an Act's fields in the slice itself. -/
namespace Go.Proofs.Ytbifincepglilaa
open Go Go.RowKit Go.Gv
def OwV (e:TypeId) (R:Nat→Prop) (N:Nat) (w:World) (v:Value) (cs:List Value):Prop:=Own (fun u=>u.oneCell'=true) e 1 w v cs.length cs∧(∀ g,v.ownBlock=some g→R g)∧cs.length≤N
section
variable {e:TypeId} {R R' S:Nat→Prop} {N M:Nat} {w w':World} {v:Value} {cs:List Value}
theorem OwV.mod (h:OwV e R N w v cs) (hm:Mod S w w') (hs:∀ k,R k→S k→False):OwV e R N w' v cs:=⟨Own.mod h.1 hm (fun g hg hS=>hs g (h.2.1 g hg) hS),h.2⟩
theorem OwV.widen (h:OwV e R N w v cs) (hs:∀ k,R k→R' k) (hM:N≤M):OwV e R' M w v cs:=⟨h.1,fun g hg=>hs g (h.2.1 g hg),Nat.le_trans h.2.2 hM⟩
theorem OwV.nil (e:TypeId) (R:Nat→Prop) (w:World):OwV e R 0 w (.slice none 0 0) []:=⟨Own.nil _ _ _ _,(fun g hg=>by cases hg),Nat.le_refl _⟩
theorem OwV.shape (h:OwV e R N w v cs):∃ ao cap,v=.slice ao cs.length cap:=Own.shape h.1
theorem OwV.at {ao:Option Addr} {n cap:Nat} (h:OwV e R N w (.slice ao n cap) cs) {i:Nat} (hi:i < cs.length) :
 ∃ g,ao=some ⟨g,0,none⟩∧∀ j u,cs[j]? = some u→w.cell? ⟨g,j,none⟩=some u:=by
 obtain ⟨hl,_,⟨hv,hn⟩|⟨g,cap',cur,hv,hg,h1,h2,h3,h4,_⟩⟩:=h.1
 ·omega
 ·simp only [Value.slice.injEq] at hv
  refine ⟨g,hv.1,fun j u hu=>?_⟩
  rw [hg.cell]
  have hj:j < cs.length:=(List.getElem?_eq_some_iff.1 hu).1
  rw [← h4,List.getElem?_take,if_pos (by omega)] at hu
  simpa using hu
end
section
variable {R:Nat→Prop} {w:World} {g o n cap i:Nat} {l:List Act01} {a:Act01}
end
end Go.Proofs.Ytbifincepglilaa

/- How long a number is; a number that is written longer; a text whose last byte is turned. -/
namespace Go.Proofs.Ytbifincepglilaa
open Go Go.RowKit Go.Gv
theorem OwR.last {R:Nat→Prop} {N:Nat} {w:World} {v:Value} {ini:List Int} {d:Int} (h:OwR R N w v (ini ++ [d])) :
 ∃ g cap,v=.slice (some ⟨g,0,none⟩) (ini.length+1) cap∧R g∧g < w.heap.size∧w.cell? ⟨g,ini.length,none⟩=some (bv d)∧w.frozen? ⟨g,ini.length,none⟩=false∧
  ∀ y:Int,0≤y→y < 256→OwR R N (w.setCell ⟨g,ini.length,none⟩ (bv y)) v (ini ++ [y]):=by
 obtain ⟨h1,h2,h3⟩:=h
 have hby:=h1.bytes
 obtain ⟨hl,hE,⟨rfl,hn⟩|⟨g,cap,cur,rfl,hc,q1,q2,q3,q4,q5⟩⟩:=h1
 ·simp at hn
 ·have q3':cap≤cur.size:=by omega
  have hlen:(ini ++ [d]).length=ini.length+1:=by simp
  rw [hlen] at q1 q4 hl
  refine ⟨g,cap,by rw [hlen],h2 g rfl,hc.lt,?_,hc.frozen _,fun y h0 hy=>⟨?_,h2,by simpa using h3⟩⟩
  ·rw [hc.cell]
   have:cur.toList[ini.length]? = some (bv d):=by
    have e:(cur.toList.take ((ini.length+1) * 1))[ini.length]? = ((ini ++ [d]).map bv)[ini.length]?:=by rw [q4]
    rw [List.getElem?_take,if_pos (by omega)] at e
    rw [e];simp
   simpa using this
  ·refine ⟨by simp,?_,.inr ⟨g,cap,cur.setIfInBounds ini.length (bv y),by simp,hc.set ini.length (bv y),by simpa using q1,q2,by simpa using q3,?_,?_⟩⟩
   ·refine isB_all ?_
    intro x hx
    rcases List.mem_append.1 hx with h|h
    ·exact hby x (List.mem_append_left _ h)
    ·simp at h;subst h;exact ⟨h0,hy⟩
   ·rw [Array.toList_setIfInBounds]
    have e2:(ini ++ [y]).length * 1=(ini.length+1) * 1:=by simp
    rw [e2,List.take_set,q4,List.map_append,List.map_append]
    rw [List.set_append_right _ _ (by simp)]
    simp
   ·intro u hu
    rw [Array.toList_setIfInBounds] at hu
    rcases List.mem_or_eq_of_mem_set hu with h|h
    ·exact q5 u h
    ·exact ⟨y,h,h0,hy⟩
/-- s = append(s, x): one byte, built into a block of its own -/
theorem Bi {w:World} {e':TypeId} {y:Int} {ops:Array Oper} {rest:List Oper} {o:Oper} {a:Act} {Q:Exit→Act→World→Prop} (hgd:o.guard=none) (s x:Operand)
 (ho:o.op=.call { callee:=.builtin .append,args:=#[s,x],argTypes:=#[38,38] })
 {R:Nat→Prop} {N:Nat} {v:Value} {bs:List Int} (hs:a.eval s=v) (hown:OwR R N w v bs) (hx:a.eval x=.slice (some ⟨w.heap.size,0,none⟩) 1 1) (h0:0≤y) (h1:y < 256)
 (hroom:N+1≤1000000)
 (h:∀ ao cap w',OwR (fun k=>R k∨New w w' k) (N+1) w' (.slice ao (bs.length+1) cap) (bs ++ [y])→Mod R w w'→wpList Try.prog ops Q rest (a.put o.dst (.slice ao (bs.length+1) cap)) w') :
 wpList Try.prog ops Q (o :: rest) a (w.alloc (.cells #[bv y] e')):=by
 have hsz:(w.alloc (.cells #[bv y] e')).heap.size=w.heap.size+1:=by simp
 refine wpList_appR hgd s x ho hs (hown.mod (S:=fun _=>False) ((Mod.refl _ _).alloc _) (fun _ _ h=>h)) (xv:=.slice (some ⟨w.heap.size,0,none⟩) 1 1) (new:=[y]) (R':=fun _=>True) (M:=1) hx ⟨RdB_one w h0 h1 e',fun _ _ _=>trivial,Nat.le_refl _⟩ hroom ?_
 intro ao cap w' hq hm
 refine h ao cap w' (hq.widen (fun k hk=>?_) (Nat.le_refl _)) (((Mod.refl R w).alloc _).trans hm (fun _ _ h=>h))
 rcases hk with hk|hk
 ·exact .inl hk
 ·unfold New at hk ⊢; exact .inr ⟨by omega,hk.2⟩
end Go.Proofs.Ytbifincepglilaa
