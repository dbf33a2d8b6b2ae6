/- Texts that are built one behind the other: Xfam0, XBase, XMem, XInv, XInv2, XVal, XVal2, XMap, XOps. No condition. -/
import Derived.BigQuiet
import Derived.ChangeOld
import Derived.Deep.Cut
import Derived.Deep.CutBlock
import Derived.Deep.DeepMust
import Derived.Deep.QuietTactic
import Derived.Deep.RegionHeld3
import Derived.Deep.RegionLaw
import Derived.Deep.Slices
import Derived.DeepKeys4
import Derived.Great.BuildSlice
import Derived.Great.FillDense
import Derived.IntWalk
import Derived.LaidEqlPtr
import Derived.Laws.BytesArg
import Derived.Laws.CopyOwn
import Derived.Laws.CopyRow
import Derived.Laws.Cover3
import Derived.Laws.Entries
import Derived.Laws.Externs
import Derived.Laws.IdiomStrings
import Derived.Laws.Small
import Derived.Laws.StructEq
import Derived.Laws.Tables
import Derived.Lib.BytesEntry
import Derived.Lib.ConvBytes
import Derived.Lib.Hide
import Derived.Maps.Own
import Derived.OpenShut
import Derived.ProofKit
import Derived.Test.YtnaoeginonpicaaGreatRows
import Derived.WalkKit
set_option maxRecDepth 100000
set_option linter.unusedVariables false
open Go renaming Lib.hid→B8
open Go.Proofs renaming Tryz.underlying3→B9,Tryz.underlying61→C1,Tryz.underlying45→C7,Tryz.underlying43→D0,Tryz.underlying52→D2,Tryz.underlying47→D4,Tryz.underlying124→D7,Tryz.underlying25→D8,Tryz.underlying59→D9,Tryz.underlying30→E0,Tryz.func22→E3,Tryz.underlying127→E4,Tryz.underlying100→E5,Tryz.func67→E6,Tryz.underlying29→E7,Tryz.underlying4→E8,Tryz.func21→E9
open Nat renaming le_refl→C0,le_trans→C4
open List renaming append_assoc→C2,length_append→C3,map_cons→C5,map_nil→C6,map_toArray→C8,not_mem_nil→C9,mem_cons→D1,size_toArray→D3,length_nil→D5,length_cons→D6
open List renaming setIfInBounds_toArray → sIB, set_cons_zero → sCZ, set_cons_succ → sCS
namespace Go.Gv
open Go Go.RowKit
end Go.Gv
namespace Go.RowKit
theorem Hid.o {p:Prop} (h:Hid p):p:=h
end Go.RowKit
namespace Go.Gv
open Go Go.RowKit
abbrev zq0:List Value:=[.int .i64 0,.int .i64 0,.int .i64 0,.int .i64 0,.int .i64 0,.int .u8 0,.int .u8 0,.int .u8 0,.int .u8 0,.int .u8 0,.int .u8 0,.int .u8 0,.int .u8 0,.int .u8 0,.int .u8 0,.int .u8 0,.int .u8 0,.int .u8 0,.int .u8 0,.int .u8 0,.int .u8 0,.int .u8 0,.int .u8 0,.int .u8 0,.int .u8 0,.int .u8 0,.int .u8 0,.int .u8 0,.int .u8 0,.int .u8 0,.int .u8 0,.int .u8 0,.int .u8 0,.int .u8 0,.int .u8 0,.int .u8 0,.int .u8 0,.int .i64 0,.int .i64 0,.int .i64 0,.int .i64 0,.int .i64 0,.int .i64 0,.int .u8 0,.int .u8 0,.int .u8 0,.int .u8 0,.int .u8 0,.int .u8 0,.int .u8 0,.int .u8 0,.int .u8 0,.int .u8 0,.int .u8 0,.int .u8 0,.int .u8 0,.int .u8 0,.int .u8 0,.int .u8 0,.int .u8 0,.int .u8 0,.int .u8 0,.int .u8 0,.int .u8 0,.int .u8 0,.int .u8 0,.int .u8 0,.int .u8 0,.int .u8 0,.int .u8 0,.int .u8 0,.int .u8 0,.int .u8 0,.int .u8 0,.int .u8 0,.int .u64 0,.int .i64 0,.int .i64 0,.int .i64 0,.int .i64 0,.int .u8 0,.int .u8 0,.int .u8 0,.int .u8 0,.int .u8 0,.int .u8 0,.int .u8 0,.int .u8 0,.int .u8 0,.int .u8 0,.int .u8 0,.int .u8 0,.int .u8 0,.int .u8 0,.int .u8 0,.int .u8 0,.int .u8 0,.int .u8 0,.int .u8 0,.int .u8 0,.int .u8 0,.int .u8 0,.int .u8 0,.int .u8 0,.int .u8 0,.int .u8 0,.int .u8 0,.int .u8 0,.int .u8 0,.int .u8 0,.int .u8 0,.int .u8 0,.int .i64 0,.int .i64 0,.int .i64 0,.slice none 0 0,.int .i64 0,.int .i64 0,.int .i64 0,.int .u8 0,.int .u8 0,.int .u8 0,.int .u8 0,.int .u8 0,.int .u8 0,.int .u8 0,.int .u8 0,.int .u8 0,.int .u8 0,.int .u8 0,.int .u8 0,.int .u8 0,.int .u8 0,.int .u8 0,.int .u8 0,.int .u8 0,.int .u8 0,.int .u8 0,.int .u8 0,.int .u8 0,.int .u8 0,.int .u8 0,.int .u8 0,.int .u8 0,.int .u8 0,.int .u8 0,.int .u8 0,.int .u8 0,.int .u8 0,.int .u8 0,.int .u8 0,.int .u64 0,.int .i64 0,.int .i64 0,.int .i64 0,.int .i64 0,.int .u64 0,.int .i64 0,.int .i64 0,.int .u64 0,.slice none 0 0,.int .i64 0,.int .i64 0,.int .i64 0,.int .i64 0,.int .i64 0,.int .i64 0,.int .i64 0,.int .u64 0,.slice none 0 0,.slice none 0 0,.slice none 0 0,.int .i64 0,.int .i64 0,.int .i64 0,.int .i64 0,.int .i64 0,.int .i64 0,.int .u8 0,.int .u8 0,.int .u8 0,.int .u8 0,.int .u8 0,.int .u8 0,.int .u8 0,.int .u8 0,.int .u8 0,.int .u8 0,.int .u8 0,.int .u8 0,.int .u8 0,.int .u8 0,.int .u8 0,.int .u8 0,.int .u8 0,.int .u8 0,.int .u8 0,.int .u8 0,.int .u8 0,.int .u8 0,.int .u8 0,.int .u8 0,.int .u8 0,.int .u8 0,.int .u8 0,.int .u8 0,.int .u8 0,.int .u8 0,.int .u8 0,.int .u8 0,.int .i64 0,.int .i64 0,.int .i64 0,.int .i64 0,.int .i64 0,.int .u8 0,.int .u8 0,.int .u8 0,.int .u8 0,.int .u8 0,.int .u8 0,.int .u8 0,.int .u8 0,.int .u8 0,.int .u8 0,.int .u8 0,.int .u8 0,.int .u8 0,.int .u8 0,.int .u8 0,.int .u8 0,.int .u8 0,.int .u8 0,.int .u8 0,.int .u8 0,.int .u8 0,.int .u8 0,.int .u8 0,.int .u8 0,.int .u8 0,.int .u8 0,.int .u8 0,.int .u8 0,.int .u8 0,.int .u8 0,.int .u8 0,.int .u8 0,.int .u64 0,.int .i64 0,.slice none 0 0,.int .u8 0,.int .u8 0,.int .u8 0,.int .u8 0,.int .u8 0,.int .u8 0,.int .u8 0,.int .u8 0,.int .u8 0,.int .u8 0,.int .u8 0,.int .u8 0,.int .u8 0,.int .u8 0,.int .u8 0,.int .u8 0,.int .u8 0,.int .u8 0,.int .u8 0,.int .u8 0,.int .u8 0,.int .u8 0,.int .u8 0,.int .u8 0,.int .u8 0,.int .u8 0,.int .u8 0,.int .u8 0,.int .u8 0,.int .u8 0,.int .u8 0,.int .u8 0,.int .i64 0,.int .i64 0,.int .i64 0,.int .i64 0,.string ByteArray.empty,.int .i64 0,.int .i64 0,.int .i64 0,.int .u64 0,.slice none 0 0,.slice none 0 0,.slice none 0 0,.slice none 0 0]
abbrev zq1:List Value:=[.int .i64 0,.int .i64 0,.int .u8 0,.int .u8 0,.int .u8 0,.int .u8 0,.int .u8 0,.int .u8 0,.int .u8 0,.int .u8 0,.int .u8 0,.int .u8 0,.int .u8 0,.int .u8 0,.int .u8 0,.int .u8 0,.int .u8 0,.int .u8 0,.int .u8 0,.int .u8 0,.int .u8 0,.int .u8 0,.int .u8 0,.int .u8 0,.int .u8 0,.int .u8 0,.int .u8 0,.int .u8 0,.int .u8 0,.int .u8 0,.int .u8 0,.int .u8 0,.int .u8 0,.int .u8 0,.int .i64 0,.int .i64 0,.int .i64 0,.slice none 0 0]
abbrev zq2:List Value:=[.int .i64 0,.slice none 0 0,.int .u8 0,.int .u8 0,.int .u8 0,.int .u8 0,.int .u8 0,.int .u8 0,.int .u8 0,.int .u8 0,.int .u8 0,.int .u8 0,.int .u8 0,.int .u8 0,.int .u8 0,.int .u8 0,.int .u8 0,.int .u8 0,.int .u8 0,.int .u8 0,.int .u8 0,.int .u8 0,.int .u8 0,.int .u8 0,.int .u8 0,.int .u8 0,.int .u8 0,.int .u8 0,.int .u8 0,.int .u8 0,.int .u8 0,.int .u8 0,.int .u8 0,.int .u8 0]
abbrev zq3:List Value:=[.int .i64 0,.int .i64 0,.int .i64 0,.int .u8 0,.int .u8 0,.int .u8 0,.int .u8 0,.int .u8 0,.int .u8 0,.int .u8 0,.int .u8 0,.int .u8 0,.int .u8 0,.int .u8 0,.int .u8 0,.int .u8 0,.int .u8 0,.int .u8 0,.int .u8 0,.int .u8 0,.int .u8 0,.int .u8 0,.int .u8 0,.int .u8 0,.int .u8 0,.int .u8 0,.int .u8 0,.int .u8 0,.int .u8 0,.int .u8 0,.int .u8 0,.int .u8 0,.int .u8 0,.int .u8 0,.int .u8 0,.int .u64 0,.int .i64 0,.int .i64 0]
abbrev zq4:List Value:=[.int .i64 0,.int .i64 0,.int .i64 0,.int .i64 0,.int .u8 0,.int .u8 0,.int .u8 0,.int .u8 0,.int .u8 0,.int .u8 0,.int .u8 0,.int .u8 0,.int .u8 0,.int .u8 0,.int .u8 0,.int .u8 0,.int .u8 0,.int .u8 0,.int .u8 0,.int .u8 0,.int .u8 0,.int .u8 0,.int .u8 0,.int .u8 0,.int .u8 0,.int .u8 0,.int .u8 0,.int .u8 0,.int .u8 0,.int .u8 0,.int .u8 0,.int .u8 0,.int .u8 0,.int .u8 0,.int .u8 0,.int .u8 0,.int .i64 0,.int .i64 0]
abbrev zq5:List Value:=[.int .u8 0,.int .u8 0,.int .u8 0,.int .u8 0,.int .u8 0,.int .u8 0,.int .u8 0,.int .u8 0,.int .u8 0,.int .u8 0,.int .u8 0,.int .u8 0,.int .u8 0,.int .u8 0,.int .u8 0,.int .u8 0,.int .u8 0,.int .u8 0,.int .u8 0,.int .u8 0,.int .u8 0,.int .u8 0,.int .u8 0,.int .u8 0,.int .u8 0,.int .u8 0,.int .u8 0,.int .u8 0,.int .u8 0,.int .u8 0,.int .u8 0,.int .u8 0]
abbrev zq6:List Value:=[.int .i64 0,.int .i64 0,.int .u8 0,.int .u8 0,.int .u8 0,.int .u8 0,.int .u8 0,.int .u8 0,.int .u8 0,.int .u8 0,.int .u8 0,.int .u8 0,.int .u8 0,.int .u8 0,.int .u8 0,.int .u8 0,.int .u8 0,.int .u8 0,.int .u8 0,.int .u8 0,.int .u8 0,.int .u8 0,.int .u8 0,.int .u8 0,.int .u8 0,.int .u8 0,.int .u8 0,.int .u8 0,.int .u8 0,.int .u8 0,.int .u8 0,.int .u8 0,.int .u8 0,.int .u8 0,.int .i64 0,.int .i64 0,.int .i64 0]
abbrev zq7:List Value:=[.int .i64 0,.int .i64 0,.int .u8 0,.int .u8 0,.int .u8 0,.int .u8 0,.int .u8 0,.int .u8 0,.int .u8 0,.int .u8 0,.int .u8 0,.int .u8 0,.int .u8 0,.int .u8 0,.int .u8 0,.int .u8 0,.int .u8 0,.int .u8 0,.int .u8 0,.int .u8 0,.int .u8 0,.int .u8 0,.int .u8 0,.int .u8 0,.int .u8 0,.int .u8 0,.int .u8 0,.int .u8 0,.int .u8 0,.int .u8 0,.int .u8 0,.int .u8 0,.int .u8 0,.int .u8 0,.int .u64 0]
abbrev zq8:List Value:=[.int .i64 0,.int .u64 0,.slice none 0 0,.slice none 0 0,.slice none 0 0]
abbrev zq9:List Value:=[.int .i64 0,.int .i64 0,.int .u64 0,.slice none 0 0,.int .i64 0,.int .i64 0]
abbrev zq10:List Value:=[.int .i64 0,.int .i64 0,.int .i64 0,.int .i64 0,.int .i64 0,.int .u64 0,.slice none 0 0,.slice none 0 0,.slice none 0 0,.int .i64 0,.int .i64 0]
abbrev zq11:List Value:=[.int .i64 0,.int .i64 0,.int .i64 0,.int .u64 0,.slice none 0 0,.slice none 0 0,.slice none 0 0,.slice none 0 0]
abbrev zq12:List Value:=[.int .i64 0,.int .i64 0,.int .i64 0,.int .i64 0]
theorem aA {P:Prop} (h:P:=by intro k h1 h2;rcases h2 with h2|h2<;>first|omega|(have hb:=HBT.o k h1;omega)|(have hb:=HBR.o k h2;omega)|exact HDJ.o k h1 h2|exact HDJ.o k h2 h1|(have hb:=HBT.o k h1;have hb2:=HBR.o k h2;omega)):P:=h
theorem aB {P:Prop} (h:P:=by intro k h1 h2;rcases h1 with h1|h1<;>first|omega|(have hb:=HBT.o k h1;omega)):P:=h
theorem aC {P:Prop} (h:P:=by intro k h1 h2;rcases h2 with h2|h2<;>first|exact h2|omega|(have hb:=HBR.o k h2;omega)):P:=h
theorem aD {P:Prop} (h:P:=by intro k h1 h2;omega):P:=h
theorem aE {P:Prop} (h:P:=by kernel_rfl):P:=h
theorem aF {P:Prop} (h:P:=by have:=HL.o;simp only [C3] at this ⊢; omega):P:=h
theorem aG {P:Prop} (h:P:=by intro h2;omega):P:=h
theorem aH {P:Prop} (h:P:=by intro h2;first|omega|(have hb:=HBR.o _ h2;omega)):P:=h
theorem aI {P:Prop} (h:P:=by intro k h1;rcases h1 with h1|h1<;>first|exact Or.inl h1|(right;omega)):P:=h
theorem aJ {P:Prop} (h:P:=by intro k h1 h2;first|omega|(have hb:=HBT.o k h1;omega)|(have hb:=HBR.o k h2;omega)|exact HDJ.o k h1 h2|exact HDJ.o k h2 h1|(have hb:=HBT.o k h1;have hb2:=HBR.o k h2;omega)):P:=h
theorem aK {P:Prop} (h:P:=by intro k h1;have hb:=HBR.o k h1;omega):P:=h
theorem aL {P:Prop} (h:P:=by omega):P:=h
theorem aM {P:Prop} (h:P:=by decide):P:=h
theorem aN {P:Prop} (h:P:=by intro h2;rcases h2 with ⟨h0,h2⟩|h2<;>first|omega|(have hb:=HBR.o _ h2;omega)):P:=h
theorem aO {P:Prop} (h:P:=by intro k h1 h2;have hb:=HBR.o k h1;omega):P:=h
theorem aP {P:Prop} (h:P:=by intro k h1;simp only [or_assoc] at h1 ⊢; exact h1):P:=h
theorem aQ {P:Prop} (h:P:=by intro k h0 h2;exact h2):P:=h
theorem aR {P:Prop} (h:P:=by intro k h0 h2;exact Or.inr (h2)):P:=h
theorem aS {P:Prop} (h:P:=by intro k h0 h2;first|omega|exact Or.inl h2|exact Or.inr (Or.inl h2)|exact Or.inr (Or.inr (h2))):P:=h
theorem aT {P:Prop} (h:P:=by intro k h1 h2;have hb:=HBR.o k h2;omega):P:=h
theorem aU {P:Prop} (h:P:=by intro k h1;have hb:=HBT.o k h1;omega):P:=h
theorem aV {P:Prop} (h:P:=by intro h2;rcases h2 with h2|h2<;>first|omega|(have hb:=HBR.o _ h2;omega)|exact HNB2.o h2):P:=h
theorem aW {P:Prop} (h:P:=by intro k hk h;first|omega|exact Or.inl ⟨(by have hb:=HBR.o k h;omega),Or.inl ⟨rfl,h⟩⟩):P:=h
theorem aX {P:Prop} (h:P:=by intro h2;first|omega|(have hb:=HBR.o _ h2;omega)|exact HNB2.o h2):P:=h
theorem aY {P:Prop} (h:P:=by intro k h1 h2;(first|omega|(simp only [vc'] at *;omega))):P:=h
theorem aZ {P:Prop} (h:P:=by have hb:=HBR.o k h;omega):P:=h
theorem bA {P:Prop} (h:P:=by simp):P:=h
theorem bB {P:Prop} (h:P:=by intro k h1;omega):P:=h
theorem bC {P:Prop} (h:P:=by exact Bn (ns:=[1,2,32,1,2]) rfl [(0,.int .i64 (gI s).1),(1,.agg #[.int .i64 (gSig (gI s).2).1.1,.int .i64 (gSig (gI s).2).1.2]),(2,hv (A6 (gSig (gI s).2).2).1),(3,.int .u64 ((rNum (A6 (gSig (gI s).2).2).2).1:Nat)),(4,.agg #[.int .i64 (gSig (rNum (A6 (gSig (gI s).2).2).2).2).1.1,.int .i64 (gSig (rNum (A6 (gSig (gI s).2).2).2).2).1.2])] [[.int .i64 0],[.int .i64 0,.int .i64 0],zq5,[.int .u64 0],[.int .i64 0,.int .i64 0]] rfl ⟨rfl,rfl,(szv (by rw [List.length_map];exact rHash_l _)),rfl,rfl,trivial⟩):P:=h
theorem bD {P:Prop} (h:P:=by intro k h1;rcases h1 with h1|(h1|h1)<;>first|omega|exact h1.elim|exact Or.inl h1|exact Or.inr (Or.inl h1)|exact Or.inr (Or.inr (h1))):P:=h
theorem bE {P:Prop} (h:P:=by intro k h1 h2;rcases h2 with h2|h2<;>first|omega|(have hb:=HBR.o k h2;omega)):P:=h
theorem bF {P:Prop} (h:P:=by intro k h1;first|omega|exact h1.elim|exact Or.inl h1|exact Or.inr (h1)):P:=h
theorem bG {P:Prop} (h:P:=by intro k h1 h2;rcases h1 with h1|h1|h1<;>first|omega|(have hb:=HBR.o k h1;omega)):P:=h
theorem bH {P:Prop} (h:P:=by intro k h1 h2;rcases h1 with h1|h1<;>first|omega|(have hb:=HBR.o k h1;omega)):P:=h
theorem bI {P:Prop} (h:P:=by intro h2;have hu:=hub 3 7 rfl (by kernel_rfl);rcases h2 with ⟨h0,kk,hk,h2⟩|h2<;>first|omega|(rcases h2 with ⟨hkk,h2⟩|⟨hkk,h2⟩|⟨hkk,h2⟩<;>first|omega|(have hb:=HBR.o _ h2;omega))):P:=h
theorem bJ {P:Prop} (h:P:=by intro k h1 h2;rcases h2 with h2|h2|h2<;>first|exact h2|omega|(have hb:=HBR.o k h2;omega)):P:=h
theorem bK {P:Prop} (h:P:=by intro k j h;(try dsimp only at h ⊢);rcases h with ⟨-,h⟩|⟨-,h⟩|⟨-,h⟩;(exact Or.inl (h));(exact Or.inr (Or.inl (h)));(exact Or.inr (Or.inr (h)))):P:=h
theorem bL {P:Prop} (h:P:=by have:=HL.o;simp only [C3] at this ⊢; (first|omega|(simp only [vc'] at *;omega))):P:=h
theorem bM {P:Prop} (h:P:=by intro h2;rcases h2 with h2|h2<;>first|omega|(have hb:=HBR.o _ h2;omega)):P:=h
theorem bN {P:Prop} (h:P:=by intro k h1;have hb:=HBT.o k h1;(try have:=hm.size);omega):P:=h
theorem bO {P:Prop} (h:P:=by intro k h1;have hb:=HBR.o k h1;(try have:=hm.size);omega):P:=h
theorem bP {P:Prop} (h:P:=by intro h2;rcases h2 with h2|h2|h2<;>first|omega|(have hb:=HBR.o _ h2;omega)):P:=h
theorem bQ {P:Prop} (h:P:=by intro k h1 h2;rcases h2 with h2|h2|h2<;>first|omega|(have hb:=HBR.o k h2;omega)):P:=h
theorem bR {P:Prop} (h:P:=by intro k h1 h2;first|omega|(have hb:=HBR.o k h1;omega)|(have hb:=HBT.o k h2;omega)|exact HDJ.o k h1 h2|exact HDJ.o k h2 h1|(have hb:=HBR.o k h1;have hb2:=HBT.o k h2;omega)):P:=h
theorem bS {P:Prop} (h:P:=by rw [hlz];exact Nat.le_of_eq (Nat.zero_add _)):P:=h
theorem bT {P:Prop} (h:P:=by intro k h1 h2;rcases h1 with h1|h1|h1|h1<;>first|omega|(have hb:=HBR.o k h1;omega)):P:=h
theorem bU {P:Prop} (h:P:=by have:=HL.o;simp only [listB,C3] at this ⊢; omega):P:=h
theorem bV {P:Prop} (h:P:=by first|exact Or.inr rfl|exact Or.inr (Or.inr rfl)|(right;omega)|(right;right;omega)):P:=h
theorem bW {P:Prop} (h:P:=by simp only [C8,C5,C6,show act.eval (.tmp 4)=.int .i64 (gI s).1 from (E.d 1 8),show act.eval (.tmp 6)=.agg #[.int .i64 (gSig (gI s).2).1.1,.int .i64 (gSig (gI s).2).1.2] from (E.d 3 6),show act.eval (.tmp 8)=hv (A6 (gSig (gI s).2).2).1 from (E.d 5 4),show act.eval (.tmp 10)=.int .u64 ((rNum (A6 (gSig (gI s).2).2).2).1:Nat) from (E.d 7 2),show act.eval (.tmp 12)=.agg #[.int .i64 (gSig (rNum (A6 (gSig (gI s).2).2).2).2).1.1,.int .i64 (gSig (rNum (A6 (gSig (gI s).2).2).2).2).1.2] from (E.d 9 0)];try rfl):P:=h
theorem bX {P:Prop} (h:P:=by intro k hk h;rcases h with h|h<;>first|omega|exact Or.inl ⟨(by have hb:=HBR.o k h;omega),Or.inr (Or.inl ⟨rfl,h⟩)⟩):P:=h
theorem bY {P:Prop} (h:P:=by intro k h0 h2;rcases h2 with h2|h2<;>first|omega|exact h2):P:=h
theorem bZ {P:Prop} (h:P:=by intro b h1;rcases h1 with h1|h1|h1<;>first|omega|exact h1.elim):P:=h
theorem cA {P:Prop} (h:P:=by intro k h1 h2;rcases h1 with h1|h1|h1|h1<;>first|omega|(have hb:=HBR.o k h1;omega)|(have hb:=HBT.o k h2;omega)|exact HDJ.o k h1 h2|exact HDJ.o k h2 h1|(have hb:=HBR.o k h1;have hb2:=HBT.o k h2;omega)):P:=h
theorem cB {P:Prop} (h:P:=by intro k h1 h2;rcases h2 with h2|h2|h2<;>first|omega|(have hb:=HBT.o k h1;omega)|(have hb:=HBR.o k h2;omega)|exact HDJ.o k h1 h2|exact HDJ.o k h2 h1|(have hb:=HBT.o k h1;have hb2:=HBR.o k h2;omega)):P:=h
theorem cC {P:Prop} (h:P:=by intro k h1 h2;rcases h1 with h1|h1<;>first|omega|(have hb:=HBR.o k h1;omega)|(have hb:=HBT.o k h2;omega)|exact HDJ.o k h1 h2|exact HDJ.o k h2 h1|(have hb:=HBR.o k h1;have hb2:=HBT.o k h2;omega)):P:=h
theorem cD {P:Prop} (h:P:=by rw [HSZ.o];kernel_rfl):P:=h
theorem cE {P:Prop} (h:P:=by rw [show ((gOp s).1.cells (Value.slice ao_row (rRow 256 (gI s).2).1.length cap_row)).length=_ from (op_len2 _ _ (gOp_OK HBY.o).2.1)];kernel_rfl):P:=h
theorem cF {P:Prop} (h:P:=by simpa using hb0):P:=h
theorem cG {P:Prop} (h:P:=by intro k hk h;omega):P:=h
theorem cH {P:Prop} (h:P:=by intro h2;(first|omega|(simp only [vc'] at *;omega))):P:=h
theorem cI {P:Prop} (h:P:=by intro k h1 h2;have hb:=HBT.o k h1;omega):P:=h
theorem cJ {P:Prop} (h:P:=by intro k h1;rcases h1 with (h1|h1)|(h1|h1|h1)<;>first|omega|exact h1.elim|exact Or.inl h1|exact Or.inr (Or.inl h1)|exact Or.inr (Or.inr (Or.inl h1))|exact Or.inr (Or.inr (Or.inr (h1)))):P:=h
theorem cK {P:Prop} (h:P:=by intro k h1;(try dsimp only at h1 ⊢);(try simp only [false_or] at h1);omega):P:=h
theorem cL {P:Prop} (h:P:=by intro k j h;(try dsimp only at h ⊢);rcases h with ⟨-,h⟩|⟨-,h⟩;(exact h);(exact h)):P:=h
theorem cM {P:Prop} (h:P:=by intro h2;first|(first|omega|(simp only [vc'] at *;omega))|(have hb:=HBR.o _ h2;(first|omega|(simp only [vc'] at *;omega)))):P:=h
theorem cN {P:Prop} (h:P:=by intro k hk h;rcases h with h|h<;>first|omega|exact Or.inl ⟨(by have hb:=HBR.o k h;omega),Or.inr (⟨rfl,h⟩)⟩):P:=h
theorem cO {P:Prop} (h:P:=by exact (Bn (ns:=[1,1,32]) rfl [(0,.int .i64 (gI s).1),(1,.slice ao_row (rRow 256 (gI s).2).1.length cap_row),(2,hv (A6 (rRow 256 (gI s).2).2).1)] [[.int .i64 0],[.slice none 0 0],zq5] rfl ⟨rfl,rfl,(szv (by rw [List.length_map];exact rHash_l _)),trivial⟩).trans (congrArg some (show ([_] ++ ([_] ++ (_ ++ [])):List Value)=_ by rw [List.append_nil];rfl))):P:=h
theorem cP {P:Prop} (h:P:=by rw [D3,Bb,HLN.o];show 212+1≤295;decide):P:=h
theorem cQ {P:Prop} (h:P:=by intro k h0 h2;omega):P:=h
theorem cR {P:Prop} (h:P:=by first|exact hlt|exact hlt2):P:=h
theorem cS {P:Prop} (h:P:=by intro b h1;omega):P:=h
theorem cT {P:Prop} (h:P:=by intro k h1;rcases h1 with h1|h1|h1|h1<;>first|omega|exact h1.elim|exact Or.inl h1|exact Or.inr (h1)):P:=h
theorem cU {P:Prop} (h:P:=by intro k h1 h2;rcases h2 with h2|h2|h2|h2<;>first|exact h2|omega|(have hb:=HBR.o k h2;omega)):P:=h
theorem cV {P:Prop} (h:P:=by intro k h1;(try dsimp only at h1 ⊢);omega):P:=h
theorem cW {P:Prop} (h:P:=by intro k h1 h2;first|exact h2|omega):P:=h
theorem cX {P:Prop} (h:P:=by intro b h1;(try dsimp only at h1 ⊢);omega):P:=h
theorem cY {P:Prop} (h:P:=by intro k h1;(try dsimp only at h1 ⊢);rcases h1 with h1|h1<;>first|exact Or.inl h1|(right;omega)):P:=h
theorem cZ {P:Prop} (h:P:=by rw [List.take_succ_eq_append_getElem hlt1,List.map_append,List.flatten_append];simp [C2]):P:=h
theorem dA {P:Prop} (h:P:=by intro h2;rcases h2 with h2|h2<;>first|(first|omega|(simp only [vc'] at *;omega))|(have hb:=HBR.o _ h2;(first|omega|(simp only [vc'] at *;omega)))):P:=h
theorem dB {P:Prop} (h:P:=by rw [List.length_map];exact rHash_l _):P:=h
theorem dC {P:Prop} (h:P:=by intro k h1 h2;rcases h2 with h2|h2|h2<;>first|omega|(have hb:=HBR.o k h2;omega)|exact HNB2.o (h2▸h1)|exact HNB2.o (h1▸h2)):P:=h
theorem dD {P:Prop} (h:P:=by intro h2;have hu:=hub 4 15 rfl (by kernel_rfl);rcases h2 with ⟨h0,kk,hk,h2⟩|h2<;>omega):P:=h
theorem dE {P:Prop} (h:P:=by intro h2;rcases h2 with ⟨h0,h2|h2⟩|h2<;>first|omega|(have hb:=HBR.o _ h2;omega)):P:=h
theorem dF {P:Prop} (h:P:=by simpa using hl):P:=h
theorem dG {P:Prop} (h:P:=by exact (Bn (ns:=mgN) rfl [(0,.int .i64 (gI (some bs)).1),(1,.int .i64 (gI (gI (some bs)).2).1),(2,.int .i64 (gI (gI (gI (some bs)).2).2).1)] (zMg.segs (zCe.cells zS) (zPm.cells zS) (zPr.cells zS zS zS) (zOp.cells zS) (zDc.cells zS zS zS zS)) rfl ⟨rfl,rfl,rfl,trivial⟩).trans rfl):P:=h
theorem dH {P:Prop} (h:P:=by intro k h1;rcases h1 with h1|h1|h1|h1<;>first|omega|(have hb:=HBR.o k h1;omega)):P:=h
theorem dI {P:Prop} (h:P:=by rw [hlz];kernel_rfl):P:=h
theorem dJ {P:Prop} (h:P:=by simp only [C8,C5,C6,show act.eval (.tmp 4)=.int .i64 (gI s).1 from (E.d 1 4),show act.eval (.tmp 6)=.slice ao_row (rRow 256 (gI s).2).1.length cap_row from (E.d 3 2),show act.eval (.tmp 8)=hv (A6 (rRow 256 (gI s).2).2).1 from (E.d 5 0)];try rfl):P:=h
theorem dK {P:Prop} (h:P:=by intro k h0 h2;rcases h2 with h2|h2|h2<;>first|omega|exact h2):P:=h
theorem dL {P:Prop} (h:P:=by intro k hk h;rcases h with h|h|h<;>first|omega|exact Or.inl ⟨(by have hb:=HBR.o k h;omega),Or.inr (Or.inr (⟨rfl,h⟩))⟩):P:=h
theorem dM {P:Prop} (h:P:=by intro k h1;rcases h1 with h1|h1<;>first|omega|exact h1.elim|exact Or.inl h1|exact Or.inr (Or.inl h1)|exact Or.inr (Or.inr (h1))):P:=h
theorem dN {P:Prop} (h:P:=by first|exact Or.inr rfl|exact Or.inr (Or.inr rfl)|(right;omega)):P:=h
theorem dO {P:Prop} (h:P:=by intro u hu;simp only [Pm.cells,D1,C9,or_false] at hu;rcases hu with rfl|rfl|rfl|rfl|rfl|rfl<;>rfl):P:=h
theorem dP {P:Prop} (h:P:=by have h:=eqb_iff.1 HB.o.symm;rw [HX1.o,HX2.o] at h;exact h):P:=h
theorem dQ {P:Prop} (h:P:=by intro k h1;rcases h1 with h1|h1|h1|h1<;>first|exact Or.inl h1|(right;omega)):P:=h
theorem dR {P:Prop} (h:P:=by rw [Ax];omega):P:=h
theorem dS {P:Prop} (h:P:=by intro u hu;simp only [Ba.cells,D1,C9,or_false] at hu;rcases hu with rfl|rfl|rfl|rfl|rfl<;>rfl):P:=h
theorem dT {P:Prop} (h:P:=by intro k h1;rcases h1 with h1|h1<;>first|omega|(have hb:=HBR.o k h1;omega)):P:=h
theorem dU {P:Prop} (h:P:=by intro k h1;rcases h1 with h1|h1|h1<;>first|exact Or.inl h1|(right;omega)):P:=h
theorem dV {P:Prop} (h:P:=by rw [show ((gSt s).1.cells).length=_ from (St.len (gSt_OK HBY.o))];kernel_rfl):P:=h
theorem dW {P:Prop} (h:P:=by intro k j h;(try dsimp only at h ⊢);rcases h with ⟨-,h⟩|⟨-,h⟩|⟨-,h⟩;(exact h);(exact h);(exact h)):P:=h
theorem dX {P:Prop} (h:P:=by intro k h1 h2;rcases h1 with h1|h1|h1|h1|h1<;>first|omega|(have hb:=HBR.o k h1;omega)|(have hb:=HBT.o k h2;omega)|exact HDJ.o k h1 h2|exact HDJ.o k h2 h1|(have hb:=HBR.o k h1;have hb2:=HBT.o k h2;omega)):P:=h
theorem dY {P:Prop} (h:P:=by rw [KK.o];rfl):P:=h
theorem dZ {P:Prop} (h:P:=by intro k h1 h2;rcases h1 with h1|h1|h1<;>first|omega|(have hb:=HBR.o k h1;omega)|(have hb:=HBT.o k h2;omega)|exact HDJ.o k h1 h2|exact HDJ.o k h2 h1|(have hb:=HBR.o k h1;have hb2:=HBT.o k h2;omega)):P:=h
theorem eA {P:Prop} (h:P:=by rw [hb];rfl):P:=h
theorem eB {P:Prop} (h:P:=by intro k h1 h2;rcases h2 with h2|h2|h2|h2|h2<;>first|exact h2|omega|(have hb:=HBR.o k h2;omega)):P:=h
theorem eC {P:Prop} (h:P:=by rw [HSZ.o];show 0+295≤295;decide):P:=h
theorem eD {P:Prop} (h:P:=by (first|omega|(simp only [ve'] at *;omega))):P:=h
theorem eE {P:Prop} (h:P:=by rw [HCL1.o];kernel_rfl):P:=h
theorem eF {P:Prop} (h:P:=by rw [List.take_succ_eq_append_getElem hlt,List.map_append,List.flatten_append];simp [C2]):P:=h
theorem eG {P:Prop} (h:P:=by rw [D3,Bb,(show (Mg.segs ({ x with ix:=(gI s).1 }:Mg) c5 c10 c11 c15 c18).map List.length=mgN from HLN.o)];show 213+_≤295;rw [En.len (gEn_OK (gI_suf.bytes HBY.o))];decide):P:=h
theorem eH {P:Prop} (h:P:=by rw [List.length_map];exact HOK.o.h.1):P:=h
theorem eI {P:Prop} (h:P:=by intro k h1;rcases h1 with h1|h1|h1|h1|h1<;>first|omega|(have hb:=HBR.o k h1;omega)):P:=h
theorem eJ {P:Prop} (h:P:=by intro k h1 h2;rcases h2 with h2|h2<;>first|exact h2|(first|omega|(simp only [vf',vj',vk',vm',vn'] at *;omega))|(have hb:=HBR.o k h2;(first|omega|(simp only [vf',vj',vk',vm',vn'] at *;omega)))):P:=h
theorem eK {P:Prop} (h:P:=by rw [hlz];rfl):P:=h
theorem eL {P:Prop} (h:P:=by intro k h0 h2;first|omega|exact Or.inl h2|exact Or.inr (h2)):P:=h
theorem eM {P:Prop} (h:P:=by have hb:=HBR.o k h;(first|omega|(simp only [vc'] at *;omega))):P:=h
theorem eN {P:Prop} (h:P:=by simp only [C8,C5,C6,show act.eval (.tmp 4)=.int .i64 (gI s).1 from (E.d 1 2),show act.eval (.tmp 6)=.int .i64 (gI (gI s).2).1 from (E.d 3 0)];try rfl):P:=h
theorem eO {P:Prop} (h:P:=by intro k h1 h2;rcases h1 with h1|h1|h1<;>first|omega|(have hb:=HBT.o k h1;omega)):P:=h
theorem eP {P:Prop} (h:P:=by rw [show st.isNone=false by cases st with|none=>exact absurd rfl HN.o|some _=>rfl]):P:=h
theorem eQ {P:Prop} (h:P:=by rw [D3,Bb,(show (Mg.segs ({ x with ep:=(gI s).1,rn:=(gI (gI s).2).1 }:Mg) c5 c10 c11 c15 c18).map List.length=mgN from HLN.o)];show 156+1≤295;decide):P:=h
theorem eR {P:Prop} (h:P:=by intro k h1;rcases h1 with h1|h1|h1<;>first|omega|(have hb:=HBR.o k h1;omega)):P:=h
theorem eS {P:Prop} (h:P:=by rw [HCL.o];kernel_rfl):P:=h
theorem eT {P:Prop} (h:P:=by show 0+295≤295;decide):P:=h
theorem eU {P:Prop} (h:P:=by intro h2;rcases h2 with ⟨h0,h2|h2|h2⟩|h2<;>first|(first|omega|(simp only [vc'] at *;omega))|(have hb:=HBR.o _ h2;(first|omega|(simp only [vc'] at *;omega)))):P:=h
theorem eV {P:Prop} (h:P:=by (first|omega|(simp only [vb'] at *;omega))):P:=h
theorem eW {P:Prop} (h:P:=by rw [HKA1.o];simp only [D6,D5];rw [Ax];omega):P:=h
theorem eX {P:Prop} (h:P:=by intro u hu;simp only [Pr.cells,D1,C9,or_false] at hu;rcases hu with rfl|rfl|rfl|rfl|rfl|rfl|rfl|rfl|rfl|rfl|rfl<;>rfl):P:=h
theorem eY {P:Prop} (h:P:=by intro k h1 h2;rcases h1 with h1|h1|h1<;>first|(first|omega|(simp only [vc'] at *;omega))|(have hb:=HBR.o k h1;(first|omega|(simp only [vc'] at *;omega)))):P:=h
theorem eZ {P:Prop} (h:P:=by intro h2;rcases h2 with ⟨h0,h2⟩|h2<;>first|(first|omega|(simp only [vc'] at *;omega))|(have hb:=HBR.o _ h2;(first|omega|(simp only [vc'] at *;omega)))):P:=h
theorem fA {P:Prop} (h:P:=by rw [D3,Bb,(show (Mg.segs ({ x with ix:=(gI s).1 }:Mg) c5 c10 c11 c15 c18).map List.length=mgN from HLN.o)];show 286+1≤295;decide):P:=h
theorem fB {P:Prop} (h:P:=by rw [D3,Bb,(show (Mg.segs ({ x with ep:=(gI s).1 }:Mg) c5 c10 c11 c15 c18).map List.length=mgN from HLN.o)];show 155+1≤295;decide):P:=h
theorem fD {P:Prop} (h:P:=by simp;omega):P:=h
theorem fE {P:Prop} (h:P:=by intro k j h;(try dsimp only at h ⊢);rcases h with ⟨-,h|h⟩|⟨-,h|h⟩;(exact Or.inl (h));(exact Or.inr (h));(exact Or.inl (h));(exact Or.inr (h))):P:=h
theorem fF {P:Prop} (h:P:=by intro k h1;first|exact Or.inl h1|(right;omega)):P:=h
theorem fG {P:Prop} (h:P:=by intro k h1;(try dsimp only at h1 ⊢);right;omega):P:=h
theorem fH {P:Prop} (h:P:=by simp only [C8,C5,C6,ea19,ea20];try rfl):P:=h
theorem fI {P:Prop} (h:P:=by rw [HCN.o];kernel_rfl):P:=h
theorem fJ {P:Prop} (h:P:=by rw [HCM.o];kernel_rfl):P:=h
theorem fK {P:Prop} (h:P:=by intro u hu;simp at hu;subst hu;rfl):P:=h
theorem fL {P:Prop} (h:P:=by intro u hu;simp only [Dc.cells,D1,C9,or_false] at hu;rcases hu with rfl|rfl|rfl|rfl|rfl|rfl|rfl|rfl<;>rfl):P:=h
theorem fM {P:Prop} (h:P:=by exact Bn (ns:=[1,1]) rfl [(0,.int .i64 (gI s).1),(1,.int .i64 (gI (gI s).2).1)] [[.int .i64 0],[.int .i64 0]] rfl ⟨rfl,rfl,trivial⟩):P:=h
theorem fN {P:Prop} (h:P:=by intro p hp;simp only [D1,C9,or_false] at hp;rcases hp with rfl|rfl<;>first|exact Hx9.o.rd.1|exact Hx10.o.rd.1):P:=h
theorem fO {P:Prop} (h:P:=by intro k hk h;rcases h with h|h|h<;>first|omega|exact Or.inl ⟨(by have hb:=HBR.o k h;omega),Or.inr (Or.inr (Or.inl ⟨rfl,h⟩))⟩):P:=h
theorem fP {P:Prop} (h:P:=by rw [show ((gCe s).1.cells (Value.slice ao_lSt (Av gSt (gCm s).2).1.length cap_lSt)).length=_ from (ce_len _ _ (gCm_OK HBY.o).2.1)];kernel_rfl):P:=h
theorem fQ {P:Prop} (h:P:=by intro p hp;simp only [D1,C9,or_false] at hp;rcases hp with rfl|rfl<;>first|exact Hx8.o.rd.1|exact Hx9.o.rd.1):P:=h
theorem fR {P:Prop} (h:P:=by intro k h1 h2;rcases h2 with h2|h2<;>first|omega|(have hb:=HBR.o k h2;omega)|exact HNB2.o (h2▸h1)|exact HNB2.o (h1▸h2)):P:=h
theorem fS {P:Prop} (h:P:=by rw [show ((gOp s).1.cells (Value.slice ao_row (rRow 256 (gI s).2).1.length cap_row)).length=_ from (op_len2 _ _ (gOp_OK HBY.o).2.1)];decide):P:=h
theorem fT {P:Prop} (h:P:=by rw [show ((gOp s).1.cells (Value.slice ao_row (rRow 256 (gI s).2).1.length cap_row)).length=_ from (op_len2 _ _ (gOp_OK HBY.o).2.1)];rfl):P:=h
theorem fU {P:Prop} (h:P:=by rw [List.length_map,List.length_take];omega):P:=h
theorem fV {P:Prop} (h:P:=by intro k hk h;rcases h with h|h|h<;>first|omega|exact Or.inl ⟨(by have hb:=HBR.o k h;omega),Or.inr (⟨rfl,Or.inl h⟩)⟩):P:=h
theorem fW {P:Prop} (h:P:=by unfold U64;omega):P:=h
theorem fX {P:Prop} (h:P:=by rw [HKA1.o];simp only [D6,D5];omega):P:=h
theorem fY {P:Prop} (h:P:=by rw [HCL2.o];kernel_rfl):P:=h
theorem fZ {P:Prop} (h:P:=by intro k hk h;rcases h with h|h<;>first|omega|exact Or.inl ⟨(by have hb:=HBR.o k h;omega),Or.inl ⟨rfl,Or.inl h⟩⟩):P:=h
theorem gA {P:Prop} (h:P:=by rw [St.len (gSt_OK HBY.o)];kernel_rfl):P:=h
theorem gB {P:Prop} (h:P:=by intro k h1 h2;rcases h2 with h2|h2|h2|h2|h2|h2<;>first|exact h2|omega|(have hb:=HBR.o k h2;omega)):P:=h
theorem gC {P:Prop} (h:P:=by rw [C3,Cm.len HOK.o.2.1];exact size_ce):P:=h
theorem gD {P:Prop} (h:P:=by (first|omega|(simp only [vf',vj',vk',vm',vn'] at *;omega))):P:=h
theorem gE {P:Prop} (h:P:=by rw [HCN.o];rfl):P:=h
theorem gF {P:Prop} (h:P:=by intro u hu;simp only [Tb.cells,D1,C9,or_false] at hu;rcases hu with rfl|rfl<;>rfl):P:=h
theorem gG {P:Prop} (h:P:=by intro u hu;simp at hu;rcases hu with rfl|rfl<;>rfl):P:=h
theorem gH {P:Prop} (h:P:=by intro k h1;rcases h1 with h1|h1|h1|h1|h1|h1<;>first|omega|(have hb:=HBR.o k h1;omega)):P:=h
theorem gJ {P:Prop} (h:P:=by intro k h1;first|omega|exact h1.elim|exact h1):P:=h
theorem gK {P:Prop} (h:P:=by intro k h1;rcases h1 with h1|h1<;>first|omega|exact h1.elim|exact Or.inl h1|exact Or.inr (h1)):P:=h
theorem gL {P:Prop} (h:P:=by rw [St.len (gSt_OK HBY.o)];rfl):P:=h
theorem gM {P:Prop} (h:P:=by intro k h1 h2;rcases h1 with h1|h1|h1|h1|h1<;>first|omega|(have hb:=HBR.o k h1;omega)):P:=h
theorem gN {P:Prop} (h:P:=by intro k h1;rcases h1 with h1|h1|h1|h1|h1|h1|h1<;>first|exact Or.inl h1|(right;omega)):P:=h
theorem gO {P:Prop} (h:P:=by rw [D3,Bb,HLN.o];show 3+_≤295;rw [Cm.len (gCm_OK HBY.o).2.1];decide):P:=h
theorem gP {P:Prop} (h:P:=by rw [List.length_map,HOK.o.h.1];exact size_hash):P:=h
theorem gQ {P:Prop} (h:P:=by unfold Room;omega):P:=h
theorem gR {P:Prop} (h:P:=by rw [show ((gCm s).1.cells).length=_ from (Cm.len (rHash_HK (gSig_suf.bytes HBY.o)).1)];kernel_rfl):P:=h
theorem gS {P:Prop} (h:P:=by rw [D3,Bb,HLN.o];show 174+_≤295;rw [Vt.len (gVt_OK HBY.o)];decide):P:=h
theorem gT {P:Prop} (h:P:=by rw [D3,Bb,HLN.o];show 116+_≤295;rw [St.len (gSt_OK HBY.o)];decide):P:=h
theorem gU {P:Prop} (h:P:=by assumption):P:=h
theorem gV {P:Prop} (h:P:=by rw [D3,Bb,HLN.o];show 40+_≤295;rw [St.len (gSt_OK HBY.o)];decide):P:=h
theorem gX {P:Prop} (h:P:=by rw [ce_len _ _ (gCm_OK HBY.o).2.1];kernel_rfl):P:=h
theorem gY {P:Prop} (h:P:=by intro k h1;rcases h1 with h1|h1|h1|h1|h1|h1<;>first|exact Or.inl h1|(right;omega)):P:=h
theorem gZ {P:Prop} (h:P:=by intro k h1 h2;have hb:=HBR.o k h2;(first|omega|(simp only [vf',vj',vk',vm',vn'] at *;omega))):P:=h
theorem hH {P:Prop} (h:P:=by intro k h0 h2;rcases h2 with h2|h2|h2<;>first|omega|exact Or.inl h2|exact Or.inr (h2)):P:=h
theorem hJ {P:Prop} (h:P:=by rw [HSZ.o];rfl):P:=h
theorem hO {P:Prop} (h:P:=by intro h2;rcases h2 with h2|h2|h2|h2<;>first|omega|(have hb:=HBR.o _ h2;omega)):P:=h
theorem hX {P:Prop} (h:P:=by intro k h1;rcases h1 with h1|h1|h1|h1|h1<;>first|exact Or.inl h1|(right;omega)):P:=h
theorem iA {P:Prop} (h:P:=by exact fun _ _ h=>h):P:=h
theorem iB {P:Prop} (h:P:=by exact fun _ _ h=>h.elim):P:=h
theorem iC {P:Prop} (h:P:=by exact fun _ h=>h.elim):P:=h
theorem iD {P:Prop} (h:P:=by exact fun _ h=>Or.inl h):P:=h
abbrev z'0:List Value:=[.int .i64 0,.int .i64 0,.int .i64 0,.int .u8 0,.int .u8 0,.int .u8 0,.int .u8 0,.int .u8 0,.int .u8 0,.int .u8 0,.int .u8 0,.int .u8 0,.int .u8 0,.int .u8 0,.int .u8 0,.int .u8 0,.int .u8 0,.int .u8 0,.int .u8 0,.int .u8 0,.int .u8 0,.int .u8 0,.int .u8 0,.int .u8 0,.int .u8 0,.int .u8 0,.int .u8 0,.int .u8 0,.int .u8 0,.int .u8 0,.int .u8 0,.int .u8 0,.int .u8 0,.int .u8 0,.int .u8 0,.int .u64 0,.int .i64 0,.int .i64 0]
abbrev z'1:Array Value:=#[.int .i64 0,.int .i64 0,.int .i64 0,.int .u8 0,.int .u8 0,.int .u8 0,.int .u8 0,.int .u8 0,.int .u8 0,.int .u8 0,.int .u8 0,.int .u8 0,.int .u8 0,.int .u8 0,.int .u8 0,.int .u8 0,.int .u8 0,.int .u8 0,.int .u8 0,.int .u8 0,.int .u8 0,.int .u8 0,.int .u8 0,.int .u8 0,.int .u8 0,.int .u8 0,.int .u8 0,.int .u8 0,.int .u8 0,.int .u8 0,.int .u8 0,.int .u8 0,.int .u8 0,.int .u8 0,.int .u8 0,.int .u64 0,.int .i64 0,.int .i64 0]
abbrev z'2:List Value:=[.int .i64 0,.int .i64 0,.int .u8 0,.int .u8 0,.int .u8 0,.int .u8 0,.int .u8 0,.int .u8 0,.int .u8 0,.int .u8 0,.int .u8 0,.int .u8 0,.int .u8 0,.int .u8 0,.int .u8 0,.int .u8 0,.int .u8 0,.int .u8 0,.int .u8 0,.int .u8 0,.int .u8 0,.int .u8 0,.int .u8 0,.int .u8 0,.int .u8 0,.int .u8 0,.int .u8 0,.int .u8 0,.int .u8 0,.int .u8 0,.int .u8 0,.int .u8 0,.int .u8 0,.int .u8 0,.int .i64 0,.int .i64 0,.int .i64 0,.slice none 0 0]
abbrev z'3:Array Value:=#[.int .i64 0,.int .i64 0,.int .u8 0,.int .u8 0,.int .u8 0,.int .u8 0,.int .u8 0,.int .u8 0,.int .u8 0,.int .u8 0,.int .u8 0,.int .u8 0,.int .u8 0,.int .u8 0,.int .u8 0,.int .u8 0,.int .u8 0,.int .u8 0,.int .u8 0,.int .u8 0,.int .u8 0,.int .u8 0,.int .u8 0,.int .u8 0,.int .u8 0,.int .u8 0,.int .u8 0,.int .u8 0,.int .u8 0,.int .u8 0,.int .u8 0,.int .u8 0,.int .u8 0,.int .u8 0,.int .i64 0,.int .i64 0,.int .i64 0,.slice none 0 0]
abbrev z'4:List Value:=[.int .i64 0,.int .i64 0,.int .i64 0,.int .i64 0,.int .u8 0,.int .u8 0,.int .u8 0,.int .u8 0,.int .u8 0,.int .u8 0,.int .u8 0,.int .u8 0,.int .u8 0,.int .u8 0,.int .u8 0,.int .u8 0,.int .u8 0,.int .u8 0,.int .u8 0,.int .u8 0,.int .u8 0,.int .u8 0,.int .u8 0,.int .u8 0,.int .u8 0,.int .u8 0,.int .u8 0,.int .u8 0,.int .u8 0,.int .u8 0,.int .u8 0,.int .u8 0,.int .u8 0,.int .u8 0,.int .u8 0,.int .u8 0,.int .i64 0,.int .i64 0]
abbrev z'5:Array Value:=#[.int .i64 0,.int .i64 0,.int .i64 0,.int .i64 0,.int .u8 0,.int .u8 0,.int .u8 0,.int .u8 0,.int .u8 0,.int .u8 0,.int .u8 0,.int .u8 0,.int .u8 0,.int .u8 0,.int .u8 0,.int .u8 0,.int .u8 0,.int .u8 0,.int .u8 0,.int .u8 0,.int .u8 0,.int .u8 0,.int .u8 0,.int .u8 0,.int .u8 0,.int .u8 0,.int .u8 0,.int .u8 0,.int .u8 0,.int .u8 0,.int .u8 0,.int .u8 0,.int .u8 0,.int .u8 0,.int .u8 0,.int .u8 0,.int .i64 0,.int .i64 0]
abbrev n'32:Nat:=32
abbrev n'80:Nat:=80
abbrev n'56:Nat:=56
abbrev z'9:Array Value:=#[.int .i64 0,.int .i64 0,.int .i64 0,.int .i64 0]
abbrev n'49:Nat:=49
abbrev n'27:Nat:=27
abbrev n'23:Nat:=23
abbrev n'37:Nat:=37
abbrev n'4:Nat:=4
abbrev z'15:List Value:=[.int .i64 0,.int .i64 0,.int .i64 0,.int .i64 0]
abbrev n'34:Nat:=34
abbrev z'17:List Value:=[.int .i64 0,.slice none 0 0,.int .u8 0,.int .u8 0,.int .u8 0,.int .u8 0,.int .u8 0,.int .u8 0,.int .u8 0,.int .u8 0,.int .u8 0,.int .u8 0,.int .u8 0,.int .u8 0,.int .u8 0,.int .u8 0,.int .u8 0,.int .u8 0,.int .u8 0,.int .u8 0,.int .u8 0,.int .u8 0,.int .u8 0,.int .u8 0,.int .u8 0,.int .u8 0,.int .u8 0,.int .u8 0,.int .u8 0,.int .u8 0,.int .u8 0,.int .u8 0,.int .u8 0,.int .u8 0]
abbrev z'18:Array Value:=#[.int .i64 0,.slice none 0 0,.int .u8 0,.int .u8 0,.int .u8 0,.int .u8 0,.int .u8 0,.int .u8 0,.int .u8 0,.int .u8 0,.int .u8 0,.int .u8 0,.int .u8 0,.int .u8 0,.int .u8 0,.int .u8 0,.int .u8 0,.int .u8 0,.int .u8 0,.int .u8 0,.int .u8 0,.int .u8 0,.int .u8 0,.int .u8 0,.int .u8 0,.int .u8 0,.int .u8 0,.int .u8 0,.int .u8 0,.int .u8 0,.int .u8 0,.int .u8 0,.int .u8 0,.int .u8 0]
abbrev n'6:Nat:=6
abbrev z'20:List Value:=[.int .i64 0,.int .i64 0,.int .u64 0,.slice none 0 0,.int .i64 0,.int .i64 0]
abbrev z'21:Array Value:=#[.int .i64 0,.int .i64 0,.int .u64 0,.slice none 0 0,.int .i64 0,.int .i64 0]
abbrev n'38:Nat:=38
abbrev n'35:Nat:=35
abbrev n'96:Nat:=96
abbrev n'54:Nat:=54
abbrev n'64:Nat:=64
abbrev n'40:Nat:=40
theorem fm1' {P:Prop} (h:P:=by
 intro R2 v l n w hs hB2 hn
 obtain ⟨css,k1,k2,⟨k3,ao,cap,rfl,hlc,hcm,k5,k6⟩,k7⟩:=id hs
 clear k1 k2 k3 k5 k6 k7
 rw [Ax] at hcm
 have HS:=B8 hs
 have HBT:=B8 hB2
 clear hs hB2
 clear css
 go_enter va',vb'
 go_upto_region 1 with (fail)
 have HM0:=hid (Mod.refl (fun _=>False) w)
 go_upto_region 1 with (fail)
 refine Ab 12 [5,6,7,8,9,10,11,4] [0,1,2,3,4,5,6,7] (fun a0 HA0=>?_)
 have c3:=ev HA0 0 rfl
 have c4:=ev HA0 1 rfl
 refine qmo rfl c3 ?_
 refine qmo rfl c3 ?_
 refine QSeq.pure rfl (.int .i64 l.length) (fun E=>A2 rfl (E.d 1 0) vc') ?_
 refine qmo rfl c4 ?_
 refine QSeq.pure rfl (.int .i64 ((min l.length n:Nat):Int)) (fun E=>ex_min (r:=((min l.length n:Nat):Int)) rfl (E.d 2 1) (E.d 3 0) (by split<;>omega)) ?_
 refine QSeq.pure rfl (.slice ao (min l.length n) cap) (fun E=>ex_sliceTo (i:=min l.length n) (s:=38) rfl vc' aE (E.d 0 4) (E.d 4 0) aL) ?_
 refine QSeq.call rfl rfl vd' (ve' _ _ (l.take (min l.length n)) _ (HS.o.upto (min l.length n) aL) aU fD) (fun E=>Ap (E.d 5 0)) ?_
 rintro e c6 ⟨v',rfl,qout,hm⟩
 refine ⟨_,rfl,?_⟩
 have c7:=hid (qout.widen (R':=(fun k=>(New w c6 k))) (E':=(fun k=>(R2 k))) (fun _ h=>h) (fun _ h=>h))
 have c9:=hm.size
 have c8:=hid (show Mod (fun _=>False) w c6 from hm)
 clear hm
 clear qout
 refine qas rfl 6 0 ?_
 refine qe ?_
 clear HA0 c3 c4 a0
 go_wp2
 go_ret
 have hq:=c7.out
 rw [show l.take (min l.length n)=l.take n by rw [Nat.min_comm,← List.take_take,List.take_length]] at hq
 exact ⟨v',rfl,hq.widen (by intro k h;omega) (fun _ h=>h),(HM0.o.trans c8.out iB)⟩):P:=h
theorem fm2' {P:Prop} (h:P:=by
 intro R R2 g bs v l w hW hB hs hB2 hD hl
 obtain ⟨ao,cap,rfl⟩:=hs.shape
 have hb64:l.length≤maxLen:=hs.bd
 rw [Ax] at hb64
 have HI64:=hid (show I64 (l.length:Int) by unfold I64;(first|omega|(simp only [vg',vh'] at *;omega)))
 have HW:=B8 hW
 have HS:=B8 hs
 have HBR:=B8 hB
 have HBT:=B8 hB2
 have HDJ:=B8 hD
 have HL:=B8 hl
 clear hW hB hs hB2 hD hl
 unfold listB at HL
 go_enter va',vb'
 go_upto_region 0 with (fail)
 have HM0:=hid (Mod.refl (fun k=>(R k)) w)
 go_upto_region 0 with (fail)
 refine Ab 23 [8,9,10,11] [0,1,2,3] (fun a0 HA0=>?_)
 have c3:=ev HA0 0 rfl
 have c7:=ev HA0 1 rfl
 refine qmo rfl c3 ?_
 refine qmo rfl c7 ?_
 refine QSeq.pure rfl (.int .i64 l.length) (fun E=>A2 rfl (E.d 1 0) vc') ?_
 refine QSeq.call rfl rfl E6 (B3 HW.o HI64.o (by have:=HL.o;simp only [C3] at this ⊢; (first|omega|(simp only [vg',vh'] at *;omega)))) (fun E=>Ar (E.d 0 2) (E.d 2 0)) ?_
 rintro e c4 ⟨rfl,qwr,hm⟩
 refine ⟨_,rfl,?_⟩
 have c8:=hid (qwr.widen (R':=(fun k=>(R k)∨(New w c4 k))) (fun _ h=>h) (C0 _))
 have j0:=hm.size
 have c9:=hid (show Mod (fun k=>(R k)) w c4 from hm)
 clear hm
 clear qwr HW
 refine qe ?_
 clear HA0 c3 c7 a0
 go_wp2
 go_loopw [14] (fun t wr=>∃ k:Nat,t=.int .i64 (k:Int)∧k≤l.length∧c4.heap.size≤wr.heap.size∧WrR (fun b=>R b∨(w.heap.size≤b∧b < wr.heap.size)) 900000 wr g (bs ++ (encI l.length ++ ((l.take k).map vd').flatten))∧RdS ve' R2 wr (.slice ao l.length cap) l∧Mod R w wr) (fun t _=>l.length - (intOf t).toNat)
 case atStart=>exact ⟨0,rfl,Nat.zero_le _,C0 _,by have hq:=(c8.out.widen (R':=(fun k=>R k∨(w.heap.size≤k∧k < c4.heap.size))) (by intro k h1;rcases h1 with h1|h1<;>first|exact Or.inl h1|(right;(first|omega|(simp only [vg',vh'] at *;omega)))) (C0 _));simpa only [List.take_zero,C6,List.flatten_nil,List.append_nil] using hq,(HS.o.mod c9.out (by intro k h1 h2;first|(first|omega|(simp only [vg',vh'] at *;omega))|(have hb:=HBT.o k h1;(first|omega|(simp only [vg',vh'] at *;omega)))|(have hb:=HBR.o k h2;(first|omega|(simp only [vg',vh'] at *;omega)))|exact HDJ.o k h1 h2|exact HDJ.o k h2 h1|(have hb:=HBT.o k h1;have hb2:=HBR.o k h2;(first|omega|(simp only [vg',vh'] at *;omega))))),(HM0.o.trans c9.out iA)⟩
 case round=>
  obtain ⟨k,rfl,hk,hz,hw,hs,hm⟩:=hrel
  have HW2:=B8 hw
  have HS2:=B8 hs
  have HM2:=B8 hm
  clear hw hs hm c8 HS HM0
  obtain ⟨wo,rfl⟩:∃ x,x=wr:=⟨_,rfl⟩
  by_cases hlt:k < l.length
  ·skip
   obtain ⟨g0,o0,cs,rfl,hrg,hrd,hcs⟩:=HS2.o.at hlt
   have hcl:cs.length=38:=ve'.len hrd
   have HCL:=B8 hcl
   have HAT:=hid (show CellsAt R2 wo g0 (o0+k * 38) cs from ⟨hrg,hcs⟩)
   have HRD:=B8 hrd
   have HOC:=hid (ve'.one hrd)
   clear hcl hcs hrd hrg
   have HE:Hid (bs ++ (encI l.length ++ ((l.take k).map vd').flatten) ++ vd' l[k]=bs ++ (encI l.length ++ ((l.take (k+1)).map vd').flatten)):=hid eF
   have HLk:=hid (show (bs ++ (encI l.length ++ ((l.take k).map vd').flatten) ++ vd' l[k]).length≤900000 by rw [HE.o];exact C4 (put_len _ _ _ _ _) HL.o)
   go_upto_region 3 with (fail)
   refine Ab 23 [16,17,7,26] [0,1,2,3] (fun a0 HA0=>?_)
   have d5:=ev HA0 12 rfl
   have d6:=ev HA0 14 rfl
   refine QSeq.pure rfl (.pointer (some ⟨g0,o0+k * 38,none⟩)) (fun E=>Bq (i:=k) (s:=38) rfl vc' aE (E.v d5) (E.v d6) (by (first|omega|(simp only [vg',vh'] at *;omega)))) ?_
   refine QSeq.pure rfl _ (fun E=>Ak rfl vf' rfl (off:=o0+k * 38) (cs:=cs) eS (E.d 0 0) (fun j u hu=>(HAT.o).2 j u hu)) ?_
   refine QSeq.go fun act E=>?_
   refine qc_alloc rfl (Aa rfl) rfl (z:=vg') aE ?_
   intro g9 qq hm
   have j3:=qq.lt
   have d7:=hid qq
   have j4:=hm.size
   have d8:=hid (show Mod (fun _=>False) wo g9 from hm)
   clear hm
   clear act E qq
   refine QSeq.go fun act E=>?_
   have hlz:(cs).length=List.length (vg':List Value):=(by rw [HCL.o];rfl)
   refine Am rfl (Aa rfl) rfl d7.out (off:=0) (vs:=cs) dI HOC.o bS (E.d 2 0) (ec (E.d 1 1)) ?_
   intro d9 qc0 hm
   have qq:=qc0.eqv (b:=(cs:List Value).toArray) (Aw vh' _ eK)
   clear qc0 hlz
   have i7:=hid qq
   have j5:=hm.size
   have i8:=hid hm
   have c6:=hid (AA (S':=(fun _=>False)) d8.out hm (fun _ h=>h) (by intro k h0 h2;(first|omega|(simp only [vg',vh'] at *;omega))))
   clear hm d8
   clear act E qq d7
   clear i8
   refine qe ?_
   clear HA0 d5 d6 a0
   go_upto_region 4 with (fail)
   refine Ab 23 [18,19,20,21] [0,1,2,3] (fun a0 HA0=>?_)
   have c3:=ev HA0 0 rfl
   have g5:=ev HA0 2 rfl
   have g6:=ev HA0 7 rfl
   refine qmo rfl g5 ?_
   refine qmo rfl c3 ?_
   refine QSeq.pure rfl _ (fun E=>Ak rfl vf' rfl (off:=0) (cs:=cs) eS (E.v g6) (Cs.whole i7.out)) ?_
   refine QSeq.go fun act E=>?_
   have ea19:act.eval (.tmp 19)=.pointer (some ⟨g,0,none⟩):=(E.d 1 1)
   have ea20:act.eval (.tmp 20)=.agg cs.toArray:=(E.d 2 0)
   refine qc_call (args:=#[.pointer (some ⟨g,0,none⟩),.agg cs.toArray]) rfl (Aa rfl) (by rw [ex_callV rfl (E.d 0 2) vi' aE aE];exact congrArg (fun z=>Result.ok (Next.enter _ z) _) fH) (vj' _ _ _ _ _ _ _ (HW2.o.mod c6.out iA) (by intro k h1;rcases h1 with h1|h1<;>first|(first|omega|(simp only [vg',vh'] at *;omega))|(have hb:=HBR.o k h1;(first|omega|(simp only [vg',vh'] at *;omega)))) (HRD.o.mod c6.out iA) (by intro k h1;have hb:=HBT.o k h1;(first|omega|(simp only [vg',vh'] at *;omega))) (by intro k h1 h2;rcases h1 with h1|h1<;>first|(first|omega|(simp only [vg',vh'] at *;omega))|(have hb:=HBR.o k h1;(first|omega|(simp only [vg',vh'] at *;omega)))|(have hb:=HBT.o k h2;(first|omega|(simp only [vg',vh'] at *;omega)))|exact HDJ.o k h1 h2|exact HDJ.o k h2 h1|(have hb:=HBR.o k h1;have hb2:=HBT.o k h2;(first|omega|(simp only [vg',vh'] at *;omega)))) HLk.o) ?_
   rintro e g7 ⟨rfl,qwr,hm⟩
   refine ⟨_,rfl,?_⟩
   have i9:=hid (qwr.widen (R':=(fun k=>(R k)∨(New w wo k)∨(New d9 g7 k))) aP (C0 _))
   have j6:=hm.size
   have g8:=hid (show Mod (fun k=>(R k)∨(New w wo k)) d9 g7 from hm)
   clear hm
   clear act E qwr HW2 ea19 ea20
   refine qe ?_
   clear HA0 c3 g5 g6 a0
   have hq:=i9.out
   rw [HE.o] at hq
   have HQ:=B8 hq
   clear hq
   go_wp2
   go_roundw
   case rel=>exact ⟨k+1,by go_num,by (first|omega|(simp only [vg',vh'] at *;omega)),by (first|omega|(simp only [vg',vh'] at *;omega)),(HQ.o.widen (by intro b h1;rcases h1 with h1|h1|h1<;>first|exact Or.inl h1|(right;(first|omega|(simp only [vg',vh'] at *;omega)))) (C0 _)),((HS2.o.mod c6.out iA).mod g8.out (by intro k h1 h2;rcases h2 with h2|h2<;>first|(first|omega|(simp only [vg',vh'] at *;omega))|(have hb:=HBT.o k h1;(first|omega|(simp only [vg',vh'] at *;omega)))|(have hb:=HBR.o k h2;(first|omega|(simp only [vg',vh'] at *;omega)))|exact HDJ.o k h1 h2|exact HDJ.o k h2 h1|(have hb:=HBT.o k h1;have hb2:=HBR.o k h2;(first|omega|(simp only [vg',vh'] at *;omega))))),((HM2.o.trans c6.out iB).trans g8.out (by intro k h1 h2;rcases h2 with h2|h2<;>first|exact h2|(first|omega|(simp only [vg',vh'] at *;omega))|(have hb:=HBR.o k h2;(first|omega|(simp only [vg',vh'] at *;omega)))))⟩
   case measure=>simp [intOf];(first|omega|(simp only [vg',vh'] at *;omega))
  ·have hkk:k=l.length:=by (first|omega|(simp only [vg',vh'] at *;omega))
   subst hkk
   go_wp2
   go_end0
   have hq:=HW2.o
   rw [List.take_length] at hq
   exact ⟨rfl,hq,HM2.o⟩):P:=h
theorem fm3' {P:Prop} (h:P:=by
 intro R r s w hR hB
 have HRD:=B8 hR
 have HBR:=B8 hB
 have HBY:=hid hR.bytes
 clear hR hB
 go_enter va',vb'
 go_upto_region 1 with (fail)
 obtain ⟨w1,hw1⟩:∃ zz,zz=(w.alloc (.cells #[.int .i64 0,.int .i64 0] 27)):=⟨_,rfl⟩
 change Code.wp _ _ _ _ (w.alloc (.cells #[.int .i64 0,.int .i64 0] 27))
 rw [← hw1]
 have HB2:=hid (show Cs w1 (w.heap.size) #[.int .i64 0,.int .i64 0] 27 by rw [hw1];exact Cs.new _ _ _)
 have hm:Mod (fun _=>False) w w1:=by rw [hw1];exact (Mod.refl _ _).alloc _
 have HM0:=hid (show Mod (fun k=>(R k)) w w1 from hm.mono iB)
 have hs1:w1.heap.size=w.heap.size+1:=by rw [hw1];simp
 have c6:=hid (HRD.o.mod hm iA)
 clear HRD
 clear hw1 hm
 go_upto_region 1 with (fail)
 refine Ab 8 [3,4,5,6,7,13] [0,1,2,3,4,5] (fun a0 HA0=>?_)
 have c3:=ev HA0 0 rfl
 have c7:=ev HA0 2 rfl
 refine qmo rfl c3 ?_
 refine QSeq.call rfl rfl vc' (vd' c6.out) (fun E=>Ar (E.d 0 0) rfl) ?_
 rintro e d7 ⟨rfl,qrd,hm⟩
 refine ⟨_,rfl,?_⟩
 have c8:=hid qrd
 have g6:=hm.size
 have c9:=hid (show Mod (fun k=>(R k)) w1 d7 from hm)
 clear hm
 clear qrd c6
 refine qmo rfl c3 ?_
 refine QSeq.call rfl rfl vc' (vd' c8.out) (fun E=>Ar (E.d 2 0) rfl) ?_
 rintro e g7 ⟨rfl,qrd,hm⟩
 refine ⟨_,rfl,?_⟩
 have d5:=hid qrd
 have g8:=hm.size
 have d8:=hid hm
 have c4:=hid (AA (S':=(fun k=>(R k))) c9.out hm (fun _ h=>h) aQ)
 clear hm c9
 clear qrd c8
 refine QSeq.go fun act E=>?_
 refine Bu rfl (Aa rfl) (v:=.agg #[.int .i64 (gSig s).1.1,.int .i64 (gSig s).1.2]) (Bo rfl (z:=[.int .i64 0,.int .i64 0]) (places:=[(0,1),(1,1)]) aE (parts:=[(0,.int .i64 (gI s).1),(1,.int .i64 (gI (gI s).2).1)]) eN (r:=[.int .i64 (gSig s).1.1,.int .i64 (gSig s).1.2]) fM) ?_
 clear act E
 refine QSeq.go fun act E=>?_
 refine Am rfl (Aa rfl) rfl (HB2.o.mod c4.out aH) (off:=0) (vs:=([.int .i64 (gSig s).1.1,.int .i64 (gSig s).1.2])) aE gG bA (E.v c7) (ec (E.d 4 0)) ?_
 intro g9 qc0 hm
 have qB2:=qc0.eqv (b:=(([.int .i64 (gSig s).1.1,.int .i64 (gSig s).1.2]):List Value).toArray) (Aw #[.int .i64 0,.int .i64 0] _ rfl)
 clear qc0
 have d9:=hid qB2
 have i7:=hm.size
 have d6:=hid hm
 have g5:=hid (AA (S':=(fun k=>(R k)∨(k=w.heap.size))) c4.out hm iD aR)
 clear hm c4
 clear act E qB2 HB2
 have Hx8:=hid (d5.out.mod d6.out (sB HBR))
 clear d5 d8 d6
 refine qe ?_
 clear HA0 c3 c7 a0
 go_wp2
 exact bodyPost_ret (A0 rfl _ _ w.heap.size ([.int .i64 (gSig s).1.1,.int .i64 (gSig s).1.2]) rfl (fun k u hu=>by rw [d9.out.cell];simpa using hu) Tryz.underlying27 rfl aE) rfl ⟨rfl,Hx8.o,(HM0.o.trans g5.out aC)⟩):P:=h
theorem fm4' {P:Prop} (h:P:=by
 intro R r s w hR hB
 have HRD:=B8 hR
 have HBR:=B8 hB
 have HBY:=hid hR.bytes
 clear hR hB
 go_enter va',vb'
 go_upto_region 1 with (fail)
 obtain ⟨w1,hw1⟩:∃ zz,zz=(w.alloc (.cells #[.int .i64 0,.int .i64 0] 23)):=⟨_,rfl⟩
 change Code.wp _ _ _ _ (w.alloc (.cells #[.int .i64 0,.int .i64 0] 23))
 rw [← hw1]
 have HB2:=hid (show Cs w1 (w.heap.size) #[.int .i64 0,.int .i64 0] 23 by rw [hw1];exact Cs.new _ _ _)
 have hm:Mod (fun _=>False) w w1:=by rw [hw1];exact (Mod.refl _ _).alloc _
 have HM0:=hid (show Mod (fun k=>(R k)) w w1 from hm.mono iB)
 have hs1:w1.heap.size=w.heap.size+1:=by rw [hw1];simp
 have c6:=hid (HRD.o.mod hm iA)
 clear HRD
 clear hw1 hm
 go_upto_region 1 with (fail)
 refine Ab 8 [3,4,5,6,7,13] [0,1,2,3,4,5] (fun a0 HA0=>?_)
 have c3:=ev HA0 0 rfl
 have c7:=ev HA0 2 rfl
 refine qmo rfl c3 ?_
 refine QSeq.call rfl rfl vc' (vd' c6.out) (fun E=>Ar (E.d 0 0) rfl) ?_
 rintro e d7 ⟨rfl,qrd,hm⟩
 refine ⟨_,rfl,?_⟩
 have c8:=hid qrd
 have g6:=hm.size
 have c9:=hid (show Mod (fun k=>(R k)) w1 d7 from hm)
 clear hm
 clear qrd c6
 refine qmo rfl c3 ?_
 refine QSeq.call rfl rfl vc' (vd' c8.out) (fun E=>Ar (E.d 2 0) rfl) ?_
 rintro e g7 ⟨rfl,qrd,hm⟩
 refine ⟨_,rfl,?_⟩
 have d5:=hid qrd
 have g8:=hm.size
 have d8:=hid hm
 have c4:=hid (AA (S':=(fun k=>(R k))) c9.out hm (fun _ h=>h) aQ)
 clear hm c9
 clear qrd c8
 refine QSeq.go fun act E=>?_
 refine Bu rfl (Aa rfl) (v:=.agg #[.int .i64 (gSig s).1.1,.int .i64 (gSig s).1.2]) (Bo rfl (z:=[.int .i64 0,.int .i64 0]) (places:=[(0,1),(1,1)]) aE (parts:=[(0,.int .i64 (gI s).1),(1,.int .i64 (gI (gI s).2).1)]) eN (r:=[.int .i64 (gSig s).1.1,.int .i64 (gSig s).1.2]) fM) ?_
 clear act E
 refine QSeq.go fun act E=>?_
 refine Am rfl (Aa rfl) rfl (HB2.o.mod c4.out aH) (off:=0) (vs:=([.int .i64 (gSig s).1.1,.int .i64 (gSig s).1.2])) aE gG bA (E.v c7) (ec (E.d 4 0)) ?_
 intro g9 qc0 hm
 have qB2:=qc0.eqv (b:=(([.int .i64 (gSig s).1.1,.int .i64 (gSig s).1.2]):List Value).toArray) (Aw #[.int .i64 0,.int .i64 0] _ rfl)
 clear qc0
 have d9:=hid qB2
 have i7:=hm.size
 have d6:=hid hm
 have g5:=hid (AA (S':=(fun k=>(R k)∨(k=w.heap.size))) c4.out hm iD aR)
 clear hm c4
 clear act E qB2 HB2
 have Hx8:=hid (d5.out.mod d6.out (sB HBR))
 clear d5 d8 d6
 refine qe ?_
 clear HA0 c3 c7 a0
 go_wp2
 exact bodyPost_ret (A0 rfl _ _ w.heap.size ([.int .i64 (gSig s).1.1,.int .i64 (gSig s).1.2]) rfl (fun k u hu=>by rw [d9.out.cell];simpa using hu) Tryz.underlying23 rfl aE) rfl ⟨rfl,Hx8.o,(HM0.o.trans g5.out aC)⟩):P:=h
theorem fm5' {P:Prop} (h:P:=by
 intro R r s w hR hB
 have HRD:=B8 hR
 have HBR:=B8 hB
 have HBY:=hid hR.bytes
 clear hR hB
 go_enter va',vb'
 go_upto_region 1 with (fail)
 obtain ⟨w1,hw1⟩:∃ zz,zz=(w.alloc (.cells zq6.toArray 29)):=⟨_,rfl⟩
 change Code.wp _ _ _ _ (w.alloc (.cells zq6.toArray 29))
 rw [← hw1]
 have HB2:=hid (show Cs w1 (w.heap.size) zq6.toArray 29 by rw [hw1];exact Cs.new _ _ _)
 have hm:Mod (fun _=>False) w w1:=by rw [hw1];exact (Mod.refl _ _).alloc _
 have HM0:=hid (show Mod (fun k=>(R k)) w w1 from hm.mono iB)
 have hs1:w1.heap.size=w.heap.size+1:=by rw [hw1];simp
 have c6:=hid (HRD.o.mod hm iA)
 clear HRD
 clear hw1 hm
 go_upto_region 1 with (fail)
 refine Ab 12 [3,4,5,6,7,8,9,10,11,21] [0,1,2,3,4,5,6,7,8,9] (fun a0 HA0=>?_)
 have c3:=ev HA0 0 rfl
 have c7:=ev HA0 2 rfl
 refine qmo rfl c3 ?_
 refine QSeq.call rfl rfl vc' (vd' _ _ _ _ c6.out aK) (fun E=>Ap (E.d 0 0)) ?_
 rintro e g5 ⟨rfl,qrd,hm⟩
 refine ⟨_,rfl,?_⟩
 have c8:=hid qrd
 have i8:=hm.size
 have c9:=hid (show Mod (fun k=>(R k)) w1 g5 from hm)
 clear hm
 clear qrd c6
 refine qmo rfl c3 ?_
 refine QSeq.call rfl rfl ve' (vf' c8.out) (fun E=>Ap (E.d 2 0)) ?_
 rintro e i9 ⟨rfl,qrd,hm⟩
 refine ⟨_,rfl,?_⟩
 have d5:=hid qrd
 have j0:=hm.size
 have g6:=hid hm
 have d6:=hid (AA (S':=(fun k=>(R k))) c9.out hm (fun _ h=>h) aQ)
 clear hm c9
 clear qrd c8
 refine qmo rfl c3 ?_
 refine QSeq.call rfl rfl vg' (vh' d5.out) (fun E=>Ar (E.d 4 0) rfl) ?_
 rintro e j3 ⟨rfl,qrd,hm⟩
 refine ⟨_,rfl,?_⟩
 have d7:=hid qrd
 have j4:=hm.size
 have g7:=hid hm
 have d8:=hid (AA (S':=(fun k=>(R k))) d6.out hm (fun _ h=>h) aQ)
 clear hm d6
 clear qrd d5
 refine qmo rfl c3 ?_
 refine QSeq.call rfl rfl vi' (vj' _ _ _ _ d7.out aK) (fun E=>Ap (E.d 6 0)) ?_
 rintro e j5 ⟨rfl,qrd,hm⟩
 refine ⟨_,rfl,?_⟩
 have Hx8:=hid qrd
 have j6:=hm.size
 have g8:=hid hm
 have c4:=hid (AA (S':=(fun k=>(R k))) d8.out hm (fun _ h=>h) aQ)
 clear hm d8
 clear qrd d7
 refine QSeq.go fun act E=>?_
 refine Bu rfl (Aa rfl) (v:=.agg ((gCm s).1.cells:List Value).toArray) (Bo rfl (z:=zq6) (places:=[(0,2),(2,32),(34,1),(35,2)]) aE (parts:=[(0,.agg #[.int .i64 (gSig s).1.1,.int .i64 (gSig s).1.2]),(1,hv (A6 (gSig s).2).1),(2,.int .i64 (gI (A6 (gSig s).2).2).1),(3,.agg #[.int .i64 (gSig (gI (A6 (gSig s).2).2).2).1.1,.int .i64 (gSig (gI (A6 (gSig s).2).2).2).1.2])]) (by simp only [C8,C5,C6,show act.eval (.tmp 4)=.agg #[.int .i64 (gSig s).1.1,.int .i64 (gSig s).1.2] from (E.d 1 6),show act.eval (.tmp 6)=hv (A6 (gSig s).2).1 from (E.d 3 4),show act.eval (.tmp 8)=.int .i64 (gI (A6 (gSig s).2).2).1 from (E.d 5 2),show act.eval (.tmp 10)=.agg #[.int .i64 (gSig (gI (A6 (gSig s).2).2).2).1.1,.int .i64 (gSig (gI (A6 (gSig s).2).2).2).1.2] from (E.d 7 0)];try rfl) (r:=(gCm s).1.cells) (by exact Bn (ns:=[2,32,1,2]) rfl [(0,.agg #[.int .i64 (gSig s).1.1,.int .i64 (gSig s).1.2]),(1,hv (A6 (gSig s).2).1),(2,.int .i64 (gI (A6 (gSig s).2).2).1),(3,.agg #[.int .i64 (gSig (gI (A6 (gSig s).2).2).2).1.1,.int .i64 (gSig (gI (A6 (gSig s).2).2).2).1.2])] [[.int .i64 0,.int .i64 0],zq5,[.int .i64 0],[.int .i64 0,.int .i64 0]] rfl ⟨rfl,(szv dB),rfl,rfl,trivial⟩)) ?_
 clear act E
 refine QSeq.go fun act E=>?_
 refine Am rfl (Aa rfl) rfl (HB2.o.mod c4.out aH) (off:=0) (vs:=((gCm s).1.cells)) gR (Cm_one _) (by rw [show ((gCm s).1.cells).length=_ from (Cm.len (rHash_HK (gSig_suf.bytes HBY.o)).1)];decide) (E.v c7) (ec (E.d 8 0)) ?_
 intro j7 qc0 hm
 have qB2:=qc0.eqv (b:=(((gCm s).1.cells):List Value).toArray) (Aw _ _ (by rw [show ((gCm s).1.cells).length=_ from (Cm.len (rHash_HK (gSig_suf.bytes HBY.o)).1)];rfl))
 clear qc0
 have Hx10:=hid qB2
 have j8:=hm.size
 have d9:=hid hm
 have g9:=hid (AA (S':=(fun k=>(R k)∨(k=w.heap.size))) c4.out hm iD aR)
 clear hm c4
 clear act E qB2 HB2
 have i7:=hid (Hx8.o.mod d9.out (sB HBR))
 clear Hx8 g6 g7 g8 d9
 refine qe ?_
 clear HA0 c3 c7 a0
 go_wp2
 exact bodyPost_ret (A0 rfl _ _ w.heap.size ((gCm s).1.cells) rfl (fun k u hu=>by rw [Hx10.o.cell];simpa using hu) E7 rfl gR) rfl ⟨rfl,i7.out,(HM0.o.trans g9.out aC)⟩):P:=h
theorem fm6' {P:Prop} (h:P:=by
 intro R r s w hR hB
 have HRD:=B8 hR
 have HBR:=B8 hB
 have HBY:=hid hR.bytes
 clear hR hB
 go_enter va',vb'
 go_upto_region 1 with (fail)
 obtain ⟨w1,hw1⟩:∃ zz,zz=(w.alloc (.cells zq3.toArray 32)):=⟨_,rfl⟩
 change Code.wp _ _ _ _ (w.alloc (.cells zq3.toArray 32))
 rw [← hw1]
 have HB2:=hid (show Cs w1 (w.heap.size) zq3.toArray 32 by rw [hw1];exact Cs.new _ _ _)
 have hm:Mod (fun _=>False) w w1:=by rw [hw1];exact (Mod.refl _ _).alloc _
 have HM0:=hid (show Mod (fun k=>(R k)) w w1 from hm.mono iB)
 have hs1:w1.heap.size=w.heap.size+1:=by rw [hw1];simp
 have c6:=hid (HRD.o.mod hm iA)
 clear HRD
 clear hw1 hm
 go_upto_region 1 with (fail)
 refine Ab 14 [3,4,5,6,7,8,9,10,11,12,13,25] [0,1,2,3,4,5,6,7,8,9,10,11] (fun a0 HA0=>?_)
 have c3:=ev HA0 0 rfl
 have c7:=ev HA0 2 rfl
 refine qmo rfl c3 ?_
 refine QSeq.call rfl rfl vc' (vd' c6.out) (fun E=>Ar (E.d 0 0) rfl) ?_
 rintro e g6 ⟨rfl,qrd,hm⟩
 refine ⟨_,rfl,?_⟩
 have c8:=hid qrd
 have j3:=hm.size
 have c9:=hid (show Mod (fun k=>(R k)) w1 g6 from hm)
 clear hm
 clear qrd c6
 refine qmo rfl c3 ?_
 refine QSeq.call rfl rfl ve' (vf' _ _ _ _ c8.out aK) (fun E=>Ap (E.d 2 0)) ?_
 rintro e j4 ⟨rfl,qrd,hm⟩
 refine ⟨_,rfl,?_⟩
 have d5:=hid qrd
 have j5:=hm.size
 have g7:=hid hm
 have d6:=hid (AA (S':=(fun k=>(R k))) c9.out hm (fun _ h=>h) aQ)
 clear hm c9
 clear qrd c8
 refine qmo rfl c3 ?_
 refine QSeq.call rfl rfl vg' (vh' d5.out) (fun E=>Ap (E.d 4 0)) ?_
 rintro e j6 ⟨rfl,qrd,hm⟩
 refine ⟨_,rfl,?_⟩
 have d7:=hid qrd
 have j7:=hm.size
 have g8:=hid hm
 have d8:=hid (AA (S':=(fun k=>(R k))) d6.out hm (fun _ h=>h) aQ)
 clear hm d6
 clear qrd d5
 refine qmo rfl c3 ?_
 refine QSeq.call rfl rfl vi' (vj' d7.out) (fun E=>Ap (E.d 6 0)) ?_
 rintro e j8 ⟨rfl,qrd,hm⟩
 refine ⟨_,rfl,?_⟩
 have Hx8:=hid qrd
 have j9:=hm.size
 have g9:=hid hm
 have d9:=hid (AA (S':=(fun k=>(R k))) d8.out hm (fun _ h=>h) aQ)
 clear hm d8
 clear qrd d7
 refine qmo rfl c3 ?_
 refine QSeq.call rfl rfl vk' (vl' _ _ _ _ Hx8.o aK) (fun E=>Ap (E.d 8 0)) ?_
 rintro e l7 ⟨rfl,qrd,hm⟩
 refine ⟨_,rfl,?_⟩
 have Hx10:=hid qrd
 have l8:=hm.size
 have i7:=hid hm
 have c4:=hid (AA (S':=(fun k=>(R k))) d9.out hm (fun _ h=>h) aQ)
 clear hm d9
 clear qrd Hx8
 refine QSeq.go fun act E=>?_
 refine Bu rfl (Aa rfl) (v:=.agg ((gSt s).1.cells:List Value).toArray) (Bo rfl (z:=zq3) (places:=[(0,1),(1,2),(3,32),(35,1),(36,2)]) aE (parts:=[(0,.int .i64 (gI s).1),(1,.agg #[.int .i64 (gSig (gI s).2).1.1,.int .i64 (gSig (gI s).2).1.2]),(2,hv (A6 (gSig (gI s).2).2).1),(3,.int .u64 ((rNum (A6 (gSig (gI s).2).2).2).1:Nat)),(4,.agg #[.int .i64 (gSig (rNum (A6 (gSig (gI s).2).2).2).2).1.1,.int .i64 (gSig (rNum (A6 (gSig (gI s).2).2).2).2).1.2])]) bW (r:=(gSt s).1.cells) bC) ?_
 clear act E
 refine QSeq.go fun act E=>?_
 refine Am rfl (Aa rfl) rfl (HB2.o.mod c4.out aH) (off:=0) (vs:=((gSt s).1.cells)) dV (St.one _) (by rw [show ((gSt s).1.cells).length=_ from (St.len (gSt_OK HBY.o))];decide) (E.v c7) (ec (E.d 10 0)) ?_
 intro m7 qc0 hm
 have qB2:=qc0.eqv (b:=(((gSt s).1.cells):List Value).toArray) (Aw _ _ (by rw [show ((gSt s).1.cells).length=_ from (St.len (gSt_OK HBY.o))];rfl))
 clear qc0
 have i8:=hid qB2
 have m8:=hm.size
 have g5:=hid hm
 have i9:=hid (AA (S':=(fun k=>(R k)∨(k=w.heap.size))) c4.out hm iD aR)
 clear hm c4
 clear act E qB2 HB2
 have j0:=hid (Hx10.o.mod g5.out (sB HBR))
 clear Hx10 g7 g8 g9 i7 g5
 refine qe ?_
 clear HA0 c3 c7 a0
 go_wp2
 exact bodyPost_ret (A0 rfl _ _ w.heap.size ((gSt s).1.cells) rfl (fun k u hu=>by rw [i8.out.cell];simpa using hu) Tryz.underlying32 rfl dV) rfl ⟨rfl,j0.out,(HM0.o.trans i9.out aC)⟩):P:=h
theorem fm7' {P:Prop} (h:P:=by
 intro R r s w hR hB
 have HRD:=B8 hR
 have HBR:=B8 hB
 have HBY:=hid hR.bytes
 clear hR hB
 go_enter va',vb'
 go_upto_region 1 with (fail)
 obtain ⟨w1,hw1⟩:∃ zz,zz=(w.alloc (.cells zq12.toArray 56)):=⟨_,rfl⟩
 change Code.wp _ _ _ _ (w.alloc (.cells zq12.toArray 56))
 rw [← hw1]
 have HB2:=hid (show Cs w1 (w.heap.size) zq12.toArray 56 by rw [hw1];exact Cs.new _ _ _)
 have hm:Mod (fun _=>False) w w1:=by rw [hw1];exact (Mod.refl _ _).alloc _
 have HM0:=hid (show Mod (fun k=>(R k)) w w1 from hm.mono iB)
 have hs1:w1.heap.size=w.heap.size+1:=by rw [hw1];simp
 have c6:=hid (HRD.o.mod hm iA)
 clear HRD
 clear hw1 hm
 go_upto_region 1 with (fail)
 refine Ab 10 [3,4,5,6,7,8,9,17] [0,1,2,3,4,5,6,7] (fun a0 HA0=>?_)
 have c3:=ev HA0 0 rfl
 have c7:=ev HA0 2 rfl
 refine qmo rfl c3 ?_
 refine QSeq.call rfl rfl vc' (vd' c6.out) (fun E=>Ar (E.d 0 0) rfl) ?_
 rintro e d9 ⟨rfl,qrd,hm⟩
 refine ⟨_,rfl,?_⟩
 have c8:=hid qrd
 have g8:=hm.size
 have c9:=hid (show Mod (fun k=>(R k)) w1 d9 from hm)
 clear hm
 clear qrd c6
 refine qmo rfl c3 ?_
 refine QSeq.call rfl rfl vc' (vd' c8.out) (fun E=>Ar (E.d 2 0) rfl) ?_
 rintro e g9 ⟨rfl,qrd,hm⟩
 refine ⟨_,rfl,?_⟩
 have d5:=hid qrd
 have i7:=hm.size
 have g5:=hid hm
 have d6:=hid (AA (S':=(fun k=>(R k))) c9.out hm (fun _ h=>h) aQ)
 clear hm c9
 clear qrd c8
 refine qmo rfl c3 ?_
 refine QSeq.call rfl rfl ve' (vf' _ _ _ _ d5.out aK) (fun E=>Ap (E.d 4 0)) ?_
 rintro e i8 ⟨rfl,qrd,hm⟩
 refine ⟨_,rfl,?_⟩
 have d7:=hid qrd
 have i9:=hm.size
 have g6:=hid hm
 have c4:=hid (AA (S':=(fun k=>(R k))) d6.out hm (fun _ h=>h) aQ)
 clear hm d6
 clear qrd d5
 refine QSeq.go fun act E=>?_
 refine Bu rfl (Aa rfl) (v:=.agg ((gDn s).1.cells:List Value).toArray) (Bo rfl (z:=zq12) (places:=[(0,1),(1,1),(2,2)]) aE (parts:=[(0,.int .i64 (gI s).1),(1,.int .i64 (gI (gI s).2).1),(2,.agg #[.int .i64 (gSig (gI (gI s).2).2).1.1,.int .i64 (gSig (gI (gI s).2).2).1.2])]) (by simp only [C8,C5,C6,show act.eval (.tmp 4)=.int .i64 (gI s).1 from (E.d 1 4),show act.eval (.tmp 6)=.int .i64 (gI (gI s).2).1 from (E.d 3 2),show act.eval (.tmp 8)=.agg #[.int .i64 (gSig (gI (gI s).2).2).1.1,.int .i64 (gSig (gI (gI s).2).2).1.2] from (E.d 5 0)];try rfl) (r:=(gDn s).1.cells) (by exact Bn (ns:=[1,1,2]) rfl [(0,.int .i64 (gI s).1),(1,.int .i64 (gI (gI s).2).1),(2,.agg #[.int .i64 (gSig (gI (gI s).2).2).1.1,.int .i64 (gSig (gI (gI s).2).2).1.2])] [[.int .i64 0],[.int .i64 0],[.int .i64 0,.int .i64 0]] rfl ⟨rfl,rfl,rfl,trivial⟩)) ?_
 clear act E
 refine QSeq.go fun act E=>?_
 refine Am rfl (Aa rfl) rfl (HB2.o.mod c4.out aH) (off:=0) (vs:=((gDn s).1.cells)) (by rw [show ((gDn s).1.cells).length=_ from (Dn.len (gDn_OK HBY.o))];kernel_rfl) (Dn.one _) (by rw [show ((gDn s).1.cells).length=_ from (Dn.len (gDn_OK HBY.o))];decide) (E.v c7) (ec (E.d 6 0)) ?_
 intro j0 qc0 hm
 have qB2:=qc0.eqv (b:=(((gDn s).1.cells):List Value).toArray) (Aw _ _ (by rw [show ((gDn s).1.cells).length=_ from (Dn.len (gDn_OK HBY.o))];rfl))
 clear qc0
 have Hx8:=hid qB2
 have j3:=hm.size
 have d8:=hid hm
 have g7:=hid (AA (S':=(fun k=>(R k)∨(k=w.heap.size))) c4.out hm iD aR)
 clear hm c4
 clear act E qB2 HB2
 have Hx10:=hid (d7.out.mod d8.out (sB HBR))
 clear d7 g5 g6 d8
 refine qe ?_
 clear HA0 c3 c7 a0
 go_wp2
 exact bodyPost_ret (A0 rfl _ _ w.heap.size ((gDn s).1.cells) rfl (fun k u hu=>by rw [Hx8.o.cell];simpa using hu) Tryz.underlying56 rfl (by rw [show ((gDn s).1.cells).length=_ from (Dn.len (gDn_OK HBY.o))];kernel_rfl)) rfl ⟨rfl,Hx10.o,(HM0.o.trans g7.out aC)⟩):P:=h
theorem fm8' {P:Prop} (h:P:=by
 intro R r s w hR hB
 have HRD:=B8 hR
 have HBR:=B8 hB
 have HBY:=hid hR.bytes
 clear hR hB
 go_enter va',vb'
 go_upto_region 1 with (fail)
 obtain ⟨w1,hw1⟩:∃ zz,zz=(w.alloc (.cells zq4.toArray 49)):=⟨_,rfl⟩
 change Code.wp _ _ _ _ (w.alloc (.cells zq4.toArray 49))
 rw [← hw1]
 have HB2:=hid (show Cs w1 (w.heap.size) zq4.toArray 49 by rw [hw1];exact Cs.new _ _ _)
 have hm:Mod (fun _=>False) w w1:=by rw [hw1];exact (Mod.refl _ _).alloc _
 have HM0:=hid (show Mod (fun k=>(R k)) w w1 from hm.mono iB)
 have hs1:w1.heap.size=w.heap.size+1:=by rw [hw1];simp
 have c6:=hid (HRD.o.mod hm iA)
 clear HRD
 clear hw1 hm
 go_upto_region 1 with (fail)
 refine Ab 16 [3,4,5,6,7,8,9,10,11,12,13,14,15,29] [0,1,2,3,4,5,6,7,8,9,10,11,12,13] (fun a0 HA0=>?_)
 have c3:=ev HA0 0 rfl
 have c7:=ev HA0 2 rfl
 refine qmo rfl c3 ?_
 refine QSeq.call rfl rfl vc' (vd' c6.out) (fun E=>Ar (E.d 0 0) rfl) ?_
 rintro e g8 ⟨rfl,qrd,hm⟩
 refine ⟨_,rfl,?_⟩
 have c8:=hid qrd
 have j6:=hm.size
 have c9:=hid (show Mod (fun k=>(R k)) w1 g8 from hm)
 clear hm
 clear qrd c6
 refine qmo rfl c3 ?_
 refine QSeq.call rfl rfl vc' (vd' c8.out) (fun E=>Ar (E.d 2 0) rfl) ?_
 rintro e j7 ⟨rfl,qrd,hm⟩
 refine ⟨_,rfl,?_⟩
 have d5:=hid qrd
 have j8:=hm.size
 have g9:=hid hm
 have d6:=hid (AA (S':=(fun k=>(R k))) c9.out hm (fun _ h=>h) aQ)
 clear hm c9
 clear qrd c8
 refine qmo rfl c3 ?_
 refine QSeq.call rfl rfl vc' (vd' d5.out) (fun E=>Ar (E.d 4 0) rfl) ?_
 rintro e j9 ⟨rfl,qrd,hm⟩
 refine ⟨_,rfl,?_⟩
 have d7:=hid qrd
 have l7:=hm.size
 have i7:=hid hm
 have d8:=hid (AA (S':=(fun k=>(R k))) d6.out hm (fun _ h=>h) aQ)
 clear hm d6
 clear qrd d5
 refine qmo rfl c3 ?_
 refine QSeq.call rfl rfl vc' (vd' d7.out) (fun E=>Ar (E.d 6 0) rfl) ?_
 rintro e l8 ⟨rfl,qrd,hm⟩
 refine ⟨_,rfl,?_⟩
 have Hx8:=hid qrd
 have m7:=hm.size
 have i8:=hid hm
 have d9:=hid (AA (S':=(fun k=>(R k))) d8.out hm (fun _ h=>h) aQ)
 clear hm d8
 clear qrd d7
 refine qmo rfl c3 ?_
 refine QSeq.call rfl rfl ve' (vf' Hx8.o) (fun E=>Ap (E.d 8 0)) ?_
 rintro e m8 ⟨rfl,qrd,hm⟩
 refine ⟨_,rfl,?_⟩
 have Hx10:=hid qrd
 have m9:=hm.size
 have i9:=hid hm
 have g5:=hid (AA (S':=(fun k=>(R k))) d9.out hm (fun _ h=>h) aQ)
 clear hm d9
 clear qrd Hx8
 refine qmo rfl c3 ?_
 refine QSeq.call rfl rfl vg' (vh' _ _ _ _ Hx10.o aK) (fun E=>Ap (E.d 10 0)) ?_
 rintro e n5 ⟨rfl,qrd,hm⟩
 refine ⟨_,rfl,?_⟩
 have g6:=hid qrd
 have n6:=hm.size
 have j0:=hid hm
 have c4:=hid (AA (S':=(fun k=>(R k))) g5.out hm (fun _ h=>h) aQ)
 clear hm g5
 clear qrd Hx10
 refine QSeq.go fun act E=>?_
 refine Bu rfl (Aa rfl) (v:=.agg ((gVt s).1.cells:List Value).toArray) (Bo rfl (z:=zq4) (places:=[(0,1),(1,1),(2,1),(3,1),(4,32),(36,2)]) aE (parts:=[(0,.int .i64 (gI s).1),(1,.int .i64 (gI (gI s).2).1),(2,.int .i64 (gI (gI (gI s).2).2).1),(3,.int .i64 (gI (gI (gI (gI s).2).2).2).1),(4,hv (A6 (gI (gI (gI (gI s).2).2).2).2).1),(5,.agg #[.int .i64 (gSig (A6 (gI (gI (gI (gI s).2).2).2).2).2).1.1,.int .i64 (gSig (A6 (gI (gI (gI (gI s).2).2).2).2).2).1.2])]) (by simp only [C8,C5,C6,show act.eval (.tmp 4)=.int .i64 (gI s).1 from (E.d 1 10),show act.eval (.tmp 6)=.int .i64 (gI (gI s).2).1 from (E.d 3 8),show act.eval (.tmp 8)=.int .i64 (gI (gI (gI s).2).2).1 from (E.d 5 6),show act.eval (.tmp 10)=.int .i64 (gI (gI (gI (gI s).2).2).2).1 from (E.d 7 4),show act.eval (.tmp 12)=hv (A6 (gI (gI (gI (gI s).2).2).2).2).1 from (E.d 9 2),show act.eval (.tmp 14)=.agg #[.int .i64 (gSig (A6 (gI (gI (gI (gI s).2).2).2).2).2).1.1,.int .i64 (gSig (A6 (gI (gI (gI (gI s).2).2).2).2).2).1.2] from (E.d 11 0)];try rfl) (r:=(gVt s).1.cells) (by exact Bn (ns:=[1,1,1,1,32,2]) rfl [(0,.int .i64 (gI s).1),(1,.int .i64 (gI (gI s).2).1),(2,.int .i64 (gI (gI (gI s).2).2).1),(3,.int .i64 (gI (gI (gI (gI s).2).2).2).1),(4,hv (A6 (gI (gI (gI (gI s).2).2).2).2).1),(5,.agg #[.int .i64 (gSig (A6 (gI (gI (gI (gI s).2).2).2).2).2).1.1,.int .i64 (gSig (A6 (gI (gI (gI (gI s).2).2).2).2).2).1.2])] [[.int .i64 0],[.int .i64 0],[.int .i64 0],[.int .i64 0],zq5,[.int .i64 0,.int .i64 0]] rfl ⟨rfl,rfl,rfl,rfl,(szv dB),rfl,trivial⟩)) ?_
 clear act E
 refine QSeq.go fun act E=>?_
 refine Am rfl (Aa rfl) rfl (HB2.o.mod c4.out aH) (off:=0) (vs:=((gVt s).1.cells)) (by rw [show ((gVt s).1.cells).length=_ from (Vt.len (gVt_OK HBY.o))];kernel_rfl) (Vt.one _) (by rw [show ((gVt s).1.cells).length=_ from (Vt.len (gVt_OK HBY.o))];decide) (E.v c7) (ec (E.d 12 0)) ?_
 intro n7 qc0 hm
 have qB2:=qc0.eqv (b:=(((gVt s).1.cells):List Value).toArray) (Aw _ _ (by rw [show ((gVt s).1.cells).length=_ from (Vt.len (gVt_OK HBY.o))];rfl))
 clear qc0
 have j3:=hid qB2
 have n8:=hm.size
 have g7:=hid hm
 have j4:=hid (AA (S':=(fun k=>(R k)∨(k=w.heap.size))) c4.out hm iD aR)
 clear hm c4
 clear act E qB2 HB2
 have j5:=hid (g6.out.mod g7.out (sB HBR))
 clear g6 g9 i7 i8 i9 j0 g7
 refine qe ?_
 clear HA0 c3 c7 a0
 go_wp2
 exact bodyPost_ret (A0 rfl _ _ w.heap.size ((gVt s).1.cells) rfl (fun k u hu=>by rw [j3.out.cell];simpa using hu) Tryz.underlying49 rfl (by rw [show ((gVt s).1.cells).length=_ from (Vt.len (gVt_OK HBY.o))];kernel_rfl)) rfl ⟨rfl,j5.out,(HM0.o.trans j4.out aC)⟩):P:=h
theorem fm9' {P:Prop} (h:P:=by
 intro R R2 v v2 l m w hs ht hB hB2
 obtain ⟨ao,cap,rfl⟩:=hs.shape
 obtain ⟨bo,bcap,rfl⟩:=ht.shape
 have hlm:l.length≤maxLen:=hs.bd
 rw [Ax] at hlm
 have HS:=B8 hs
 have HT:=B8 ht
 have HBR:=B8 hB
 have HBT:=B8 hB2
 clear hs ht hB hB2
 go_enter va',vb'
 go_upto_region 1 with (fail)
 have HM0:=hid (Mod.refl (fun _=>False) w)
 by_cases hl:l.length=m.length
 rotate_left
 ·skip
  go_upto_region 1 with (fail)
  refine Ab 26 [6,7,8,9,10] [0,1,2,3,4] (fun a0 HA0=>?_)
  have c3:=ev HA0 0 rfl
  have c6:=ev HA0 1 rfl
  refine qmo rfl c3 ?_
  refine QSeq.pure rfl (.int .i64 l.length) (fun E=>A2 rfl (E.d 0 0) vc') ?_
  refine qmo rfl c6 ?_
  refine QSeq.pure rfl (.int .i64 m.length) (fun E=>A2 rfl (E.d 2 0) vc') ?_
  refine QSeq.pure rfl (.bool true) (fun E=>Aq rfl (E.d 1 2) (E.d 3 0) (Ai _ _ _ _ _ _) (run_neq_i _ _ _ B9) (congrArg Value.bool (ne_tt aL))) ?_
  refine qe ?_
  clear HA0 c3 c6 a0
  go_upto_region 2 with (fail)
  refine Ab 26 [4] [0] (fun a0 HA0=>?_)
  refine QSeq.pure rfl (.bool false) (fun E=>An rfl rfl) ?_
  refine qe ?_
  clear HA0 a0
  go_wp2
  go_ret
  exact ⟨Bw (eqb_ne fun e=>hl (by rw [e])).symm,HM0.o⟩
 ·skip
  go_upto_region 1 with (fail)
  refine Ab 26 [6,7,8,9,10] [0,1,2,3,4] (fun a0 HA0=>?_)
  have c3:=ev HA0 0 rfl
  have c6:=ev HA0 1 rfl
  refine qmo rfl c3 ?_
  refine QSeq.pure rfl (.int .i64 l.length) (fun E=>A2 rfl (E.d 0 0) vc') ?_
  refine qmo rfl c6 ?_
  refine QSeq.pure rfl (.int .i64 m.length) (fun E=>A2 rfl (E.d 2 0) vc') ?_
  refine QSeq.pure rfl (.bool false) (fun E=>Aq rfl (E.d 1 2) (E.d 3 0) (Ai _ _ _ _ _ _) (run_neq_i _ _ _ B9) (congrArg Value.bool (ne_ff aL))) ?_
  refine qe ?_
  clear HA0 c3 c6 a0
  go_upto_region 3 with (fail)
  refine Ab 26 [5] [0] (fun a0 HA0=>?_)
  refine QSeq.pure rfl (.int .i64 0) (fun E=>An rfl rfl) ?_
  refine qe ?_
  clear HA0 a0
  have HLE:=B8 hl
  clear hl
  go_wp2
  go_loopw [5] (fun ti wr=>∃ k:Nat,ti=.int .i64 (k:Int)∧k≤l.length∧l.take k=m.take k∧w.heap.size≤wr.heap.size∧RdS vd' R wr (.slice ao l.length cap) l∧RdS vd' R2 wr (.slice bo m.length bcap) m∧Mod (fun _=>False) w wr) (fun ti _=>l.length - (intOf ti).toNat)
  case atStart=>exact ⟨0,rfl,Nat.zero_le _,rfl,C0 _,HS.o,HT.o,HM0.o⟩
  case round=>
   obtain ⟨k,rfl,hk,htk,hz,hs,ht,hm⟩:=hrel
   obtain ⟨wl,rfl⟩:∃ x,x=wr:=⟨_,rfl⟩
   have HS2:=B8 hs
   have HT2:=B8 ht
   have HML:=B8 hm
   have HTK:=B8 htk
   clear hs ht hm htk HS HT HM0
   by_cases hlt:k < l.length
   ·have hlt2:k < m.length:=by have:=HLE.o;omega
    go_upto_region 4 with (fail)
    refine Ab 26 [11,12,13,14] [0,1,2,3] (fun a0 HA0=>?_)
    have c3:=ev HA0 0 rfl
    have c4:=ev HA0 5 rfl
    refine qmo rfl c4 ?_
    refine qmo rfl c3 ?_
    refine QSeq.pure rfl (.int .i64 l.length) (fun E=>A2 rfl (E.d 1 0) vc') ?_
    refine QSeq.pure rfl (.bool true) (fun E=>Aq rfl (E.d 0 2) (E.d 2 0) (Ai _ _ _ _ _ _) (A1 _ _ _ B9) (congrArg Value.bool (decide_eq_true aL))) ?_
    refine qe ?_
    clear HA0 c3 c4 a0
    have hat:=HS2.o.at hlt
    obtain ⟨g1,o1,c1,eao,hrg,hrd,hcs⟩:=hat
    subst eao
    obtain ⟨x,hx⟩:∃ z,z=l[k]:=⟨_,rfl⟩
    rw [← hx] at hrd
    have HX1:=B8 hx
    have hcl:c1.length=38:=vd'.len hrd
    have HCL1:=B8 hcl
    have HAT1:=hid (show CellsAt R wl g1 (o1+k * 38) c1 from ⟨hrg,hcs⟩)
    have HRD1:=B8 hrd
    clear hcl hcs hrd hrg hx
    have hat:=HT2.o.at hlt2
    obtain ⟨g2,o2,c2,eao,hrg,hrd,hcs⟩:=hat
    subst eao
    obtain ⟨y,hy⟩:∃ z,z=m[k]:=⟨_,rfl⟩
    rw [← hy] at hrd
    have HX2:=B8 hy
    have hcl:c2.length=38:=vd'.len hrd
    have HCL2:=B8 hcl
    have HAT2:=hid (show CellsAt R2 wl g2 (o2+k * 38) c2 from ⟨hrg,hcs⟩)
    have HRD2:=B8 hrd
    clear hcl hcs hrd hrg hy
    obtain ⟨b,hb⟩:∃ b,b=eqb x y:=⟨_,rfl⟩
    have HB:=B8 hb
    clear hb
    obtain ⟨rfl,hok1⟩:=HRD1.o
    obtain ⟨rfl,hok2⟩:=HRD2.o
    have HO1:=B8 hok1
    have HO2:=B8 hok2
    clear hok1 hok2
    clear HRD1
    clear HRD2
    go_upto_region 6 with (fail)
    generalize ha0:Act.mk _ _=a0
    have c3:a0.eval (.tmp 0)=.slice (some ⟨g1,o1,none⟩) l.length cap:=by rw [← ha0];rfl
    have c6:a0.eval (.tmp 1)=.slice (some ⟨g2,o2,none⟩) m.length bcap:=by rw [← ha0];rfl
    have c4:a0.eval (.tmp 5)=.int .i64 ((k:Nat):Int):=by rw [← ha0];rfl
    have hsz0:a0.tmps.size=26:=by rw [← ha0];rfl
    have HA0:=hid ha0
    clear ha0
    refine A7 26 hsz0 [17,18,19,20,21,22,23,24,25] [qi (.slice (some ⟨g1,o1,none⟩) l.length cap),qi (.int .i64 ((k:Nat):Int)),qi (.pointer (some ⟨g1,o1+k * 38,none⟩)),qi (.agg x.cells.toArray),qi (.slice (some ⟨g2,o2,none⟩) m.length bcap),qi (.int .i64 ((k:Nat):Int)),qi (.pointer (some ⟨g2,o2+k * 38,none⟩)),qi (.agg y.cells.toArray),qi (.bool (!b))] ⟨Ac,Ac,Ac,Ac,Ac,Ac,Ac,Ac,Ac,trivial⟩ [] ⟨?_,?_,?_,?_,?_,?_,?_,?_,?_,trivial⟩ ?_
    ·exact stq (fun E=>Al rfl (E.v c3))
    ·exact stq (fun E=>Al rfl (E.v c4))
    ·exact stq (fun E=>Bq (i:=k) (s:=38) rfl vc' aE (E.d 0) (E.d 1) cR)
    ·exact stq (fun E=>Ak rfl ve' rfl (off:=o1+k * 38) (cs:=x.cells) eE (E.d 2) (fun j u hu=>((HAT1.o.mod E.m.old aO)).2 j u hu))
    ·exact stq (fun E=>Al rfl (E.v c6))
    ·exact stq (fun E=>Al rfl (E.v c4))
    ·exact stq (fun E=>Bq (i:=k) (s:=38) rfl vc' aE (E.d 4) (E.d 5) cR)
    ·exact stq (fun E=>Ak rfl ve' rfl (off:=o2+k * 38) (cs:=y.cells) fY (E.d 6) (fun j u hu=>((HAT2.o.mod E.m.old cI)).2 j u hu))
    ·exact stq (fun E=>Aq rfl (E.d 3) (E.d 7) (agg_guardE _ _ _ _ _ _ aE _) (EqW.runN vf' (vg' HO1.o) (vg' HO2.o) (vh' HO1.o HO2.o) _) (congrArg (fun z=>Value.bool (!z)) HB.o.symm))
    intro c8 hr
    have c9:=hr.size
    have c7:=hid (hr.new (S:=(fun _=>False)))
    clear hr
    refine QChain.nil fun vs hl hzz hrows hne=>?_
    obtain ⟨Z,hYZ,hZb,hV⟩:=hzz
    have f0:=fvi hV hl 0
    have f1:=fvi hV hl 1
    have f4:=fvi hV hl 4
    have f5:=fvi hV hl 5
    have f8:=fvi hV hl 8
    rw [show vs=[gw vs 0,gw vs 1,gw vs 2,gw vs 3,gw vs 4,gw vs 5,gw vs 6,gw vs 7,gw vs 8] from (Bi hl).trans rfl]
    have ha0:=HA0.o
    subst ha0
    clear HA0 hV hYZ hZb hsz0 hrows hne c3 c6 c4
    simp only [Au,Act.put,sIB,sCZ,sCS,f0,f1,f4,f5,f8]
    clear hl f0 f1 f4 f5 f8
    cases b with
    | false=>
     go_upto_region 7 with (fail)
     refine Ab 26 [4] [0] (fun a0 HA0=>?_)
     refine QSeq.pure rfl (.bool false) (fun E=>An rfl rfl) ?_
     refine qe ?_
     clear HA0 a0
     go_wp2
     go_ret
     exact ⟨Bw (take_ne hlt hlt2 (fun e=>by have h:=HB.o;rw [HX1.o,HX2.o,e,eqb_rfl] at h;cases h)).symm,(HML.o.trans c7.out iB)⟩
    | true=>
     go_upto_region 5 with (fail)
     refine Ab 26 [15,16,5] [0,1,2] (fun a0 HA0=>?_)
     have c4:=ev HA0 5 rfl
     refine QSeq.pure rfl _ (fun E=>Al rfl (E.y 2 c4)) ?_
     refine QSeq.pure rfl (.int .i64 (((k:Nat):Int)+1)) (fun E=>Aq rfl (E.d 0 0) rfl (Ai _ _ _ _ _ _) (Bz _ _ B9) (congrArg (Value.int .i64) (IntWalk.i64_in _ aL))) ?_
     refine qas rfl 1 0 ?_
     refine qe ?_
     clear HA0 c4 a0
     go_wp2
     go_roundw
     case rel=>exact ⟨k+1,by go_num,by omega,take_succ2 hlt hlt2 HTK.o dP,by omega,(HS2.o.mod c7.out iA),(HT2.o.mod c7.out iA),(HML.o.trans c7.out iB)⟩
     case measure=>simp [intOf]<;>omega
   ·skip
    go_upto_region 4 with (fail)
    refine Ab 26 [11,12,13,14] [0,1,2,3] (fun a0 HA0=>?_)
    have c3:=ev HA0 0 rfl
    have c4:=ev HA0 5 rfl
    refine qmo rfl c4 ?_
    refine qmo rfl c3 ?_
    refine QSeq.pure rfl (.int .i64 l.length) (fun E=>A2 rfl (E.d 1 0) vc') ?_
    refine QSeq.pure rfl (.bool false) (fun E=>Aq rfl (E.d 0 2) (E.d 2 0) (Ai _ _ _ _ _ _) (A1 _ _ _ B9) (congrArg Value.bool (decide_eq_false aL))) ?_
    refine qe ?_
    clear HA0 c3 c4 a0
    go_upto_region 8 with (fail)
    refine Ab 26 [4] [0] (fun a0 HA0=>?_)
    refine QSeq.pure rfl (.bool true) (fun E=>An rfl rfl) ?_
    refine qe ?_
    clear HA0 a0
    go_wp2
    go_ret
    exact ⟨Bw (take_all aL (by have:=HLE.o;omega) HTK.o).symm,HML.o⟩):P:=h
theorem fm10' {P:Prop} (h:P:=by
 intro R2 v l w hs hB2 hl
 obtain ⟨ao,cap,rfl⟩:=hs.shape
 have HS:=B8 hs
 have HBT:=B8 hB2
 clear hs hB2
 go_enter va',vb'
 go_upto_region 1 with (fail)
 have HM0:=hid (Mod.refl (fun _=>False) w)
 go_upto_region 1 with (fail)
 refine Ab 5 [3,4,2] [0,1,2] (fun a0 HA0=>?_)
 have c3:=ev HA0 0 rfl
 refine qmo rfl c3 ?_
 refine QSeq.go fun act E=>?_
 refine qc_appS (A:=vc') (e:=vd') rfl (Aa rfl) rfl (.agg ve') vf' vg' vh' (by rfl) (of_decide_eq_true aE) rfl (E.d 0 0) (OwS.nil _ _ (fun _=>False) (fun _=>False) _) (HS.o) iA (by simp only [D5];(first|omega|(simp only [vd',ve',vf'] at *;omega))) (by simp only [D5];rw [Ax];(first|omega|(simp only [vd',ve',vf'] at *;omega))) ?_
 intro ao0 cap0 c4 qout hm
 have c6:=hid (qout.widen (R':=(fun k=>(New w c4 k))) (E':=(fun k=>(R2 k))) (fun _ h=>h.elim (fun h=>h.elim) (fun h=>h)) (by intro k h1;rcases h1 with h1|h1<;>first|(first|omega|(simp only [vd',ve',vf'] at *;omega))|exact h1.elim|exact h1))
 have c8:=hm.size
 have c7:=hid (show Mod (fun _=>False) w c4 from hm)
 clear hm
 clear act E qout
 refine qas rfl 1 0 ?_
 refine qe ?_
 clear HA0 c3 a0
 go_wp2
 go_ret
 have hq:=c6.out
 exact ⟨_,rfl,hq.widen (by intro k h;(first|omega|(simp only [vd',ve',vf'] at *;omega))) (by intro k h;exact h),(HM0.o.trans c7.out iB)⟩):P:=h
theorem fm11' {P:Prop} (h:P:=by
 have HW:=B8 hW
 have HBR:=B8 hB
 have HL:=hid (show (bs ++ (encI a ++ encI b)).length≤900000 from hl)
 have HA:=B8 ha
 have HB:=B8 hb
 clear hW hB hl ha hb
 change Calls _ _ #[.pointer (some ⟨g,0,none⟩),.agg #[.int .i64 a,.int .i64 b]] _ _
 go_enter va',vb'
 go_upto_region 1 with (fail)
 obtain ⟨w1,hw1⟩:∃ zz,zz=(w.alloc (.cells #[.int .i64 a,.int .i64 b] vc')):=⟨_,rfl⟩
 change Code.wp _ _ _ _ (w.alloc (.cells #[.int .i64 a,.int .i64 b] vc'))
 rw [← hw1]
 have HB3:=hid (show Cs w1 (w.heap.size) #[.int .i64 a,.int .i64 b] vc' by rw [hw1];exact Cs.new _ _ _)
 have hm:Mod (fun _=>False) w w1:=by rw [hw1];exact (Mod.refl _ _).alloc _
 have HM0:=hid (show Mod (fun k=>(R k)) w w1 from hm.mono iB)
 have hs1:w1.heap.size=w.heap.size+1:=by rw [hw1];simp
 have c4:=hid (HW.o.mod hm iA)
 clear HW
 clear hw1 hm
 go_upto_region 1 with (fail)
 generalize ha0:Act.mk _ _=a0
 have c6:a0.eval (.tmp 0)=.pointer (some ⟨g,0,none⟩):=by rw [← ha0];rfl
 have c3:a0.eval (.tmp 3)=.pointer (some ⟨w.heap.size,0,none⟩):=by rw [← ha0];rfl
 have hsz0:a0.tmps.size=11:=by rw [← ha0];rfl
 have HA0:=hid ha0
 clear ha0
 refine Bc 11 hsz0 [4,5,6,7,8,9,10] (fun k=>(R k)) (fun k j=>(k=0∧((R j)))∨(k=1∧((R j)))) cL [qi (.pointer (some ⟨g,0,none⟩)),qi (.pointer (some ⟨w.heap.size,0,none⟩)),qi (.int .i64 a),qi (.pointer (some ⟨g,0,none⟩)),qi (.pointer (some ⟨w.heap.size,1,none⟩)),qi (.int .i64 b),qi (.pointer (some ⟨g,0,none⟩))] ⟨Ac,Ac,Ac,Ac,Ac,Ac,Ac,trivial⟩ [3,6] ⟨?_,?_,?_,?_,?_,?_,?_,trivial⟩ ?_
 ·exact stq (fun E=>Al rfl (E.v c6))
 ·exact stq (fun E=>Ae rfl vd' rfl aE (E.v c3))
 ·exact stq (fun E=>Af rfl B9 rfl (E.d 1) (AC (HB3.o.mod E.m eZ) rfl))
 ·exact Ad rfl
 ·exact stq (fun E=>Ae rfl vd' rfl aE (E.v c3))
 ·exact stq (fun E=>Af rfl B9 rfl (E.d 4) (AC (HB3.o.mod E.m eZ) rfl))
 ·exact Ad rfl
 intro c7 hr
 have g8:=hr.size
 have c8:=hid (hr.new (S:=(fun k=>(R k))))
 have c9:=hid (c4.out.mod hr (by intro k h1 h2;have hb:=HBR.o k h1;(first|omega|(simp only [vc'] at *;omega))))
 clear c4
 clear hr
 refine QChain.go fun Z act E=>?_
 refine Aj (args:=#[.pointer (some ⟨g,0,none⟩),.int .i64 a]) rfl (Aa rfl) rfl E6 (Ar (E.d 0) (E.d 2)) (B3 c9.out HA.o bL) ?_
 rintro e d5 ⟨rfl,qwr,hm⟩
 have g9:=hm.size
 refine ⟨_,rfl,hm.mono (by intro k hk h;first|(first|omega|(simp only [vc'] at *;omega))|exact Or.inl ⟨eM,Or.inl ⟨rfl,h⟩⟩),(fun _=>rfl),?_⟩
 intro d8 hr
 have i7:=hr.size
 have d6:=hid ((qwr.widen (R':=(fun k=>(R k)∨(New c7 d5 k))) (fun _ h=>h) (C0 _)).mod hr (by intro k h1 h2;rcases h1 with h1|h1<;>first|(first|omega|(simp only [vc'] at *;omega))|(have hb:=HBR.o k h1;(first|omega|(simp only [vc'] at *;omega)))))
 have d7:=hid (c8.out.goM hm hr iA)
 clear c8 hm hr Z act E qwr c9
 refine QChain.go fun Z act E=>?_
 refine Aj (args:=#[.pointer (some ⟨g,0,none⟩),.int .i64 b]) rfl (Aa rfl) rfl E6 (Ar (E.d 3) (E.d 5)) (B3 d6.out HB.o bL) ?_
 rintro e d9 ⟨rfl,qwr,hm⟩
 have i8:=hm.size
 refine ⟨_,rfl,hm.mono (by intro k hk h;rcases h with h|h<;>first|(first|omega|(simp only [vc'] at *;omega))|exact Or.inl ⟨eM,Or.inr (⟨rfl,h⟩)⟩),(fun _=>rfl),?_⟩
 intro g5 hr
 have i9:=hr.size
 have g6:=hid ((qwr.widen (R':=(fun k=>(R k)∨(New c7 d5 k)∨(New d8 d9 k))) aP (C0 _)).mod hr eY)
 have g7:=hid (d7.out.goM hm hr (by intro k h0 h2;rcases h2 with h2|h2<;>first|(first|omega|(simp only [vc'] at *;omega))|exact h2))
 clear d7 hm hr Z act E qwr d6
 refine QChain.nil fun vs hl hzz hrows hne=>?_
 obtain ⟨Z,hYZ,hZb,hV⟩:=hzz
 have f0:=fvi hV hl 0
 have f3:=fvi hV hl 3
 have f6:=fvi hV hl 6
 rw [show vs=[gw vs 0,gw vs 1,gw vs 2,gw vs 3,gw vs 4,gw vs 5,gw vs 6] from (Bi hl).trans rfl]
 have ha0:=HA0.o
 subst ha0
 clear HA0 hV hYZ hZb hsz0 hrows hne c6 c3
 simp only [Au,Act.put,sIB,sCZ,sCS,f0,f3,f6]
 clear hl f0 f3 f6
 go_wp2
 go_end0
 have hq:=(g6.out.widen (R':=(fun k=>R k∨New w g5 k)) (by intro k h1;rcases h1 with h1|h1|h1<;>first|exact Or.inl h1|(right;(first|omega|(simp only [vc'] at *;omega)))) (C0 _))
 simp only [C2] at hq
 exact ⟨rfl,by simpa only [ve',C2] using hq,(HM0.o.trans g7.out iA)⟩):P:=h
theorem fm12' {P:Prop} (h:P:=by
 intro R R2 g bs cs x w hW hB hx hB2 hD hl
 obtain ⟨rfl,hok⟩:=hx
 have HW:=B8 hW
 have HBR:=B8 hB
 have HBT:=B8 hB2
 have HDJ:=B8 hD
 have HOK:=B8 hok
 have HL:=B8 hl
 clear hW hB hB2 hD hl hok
 unfold stB at HL
 go_enter va',vb'
 go_upto_region 1 with (fail)
 obtain ⟨w1,hw1⟩:∃ zz,zz=(w.alloc (.cells (x.cells:List Value).toArray vc')):=⟨_,rfl⟩
 change Code.wp _ _ _ _ (w.alloc (.cells (x.cells:List Value).toArray vc'))
 rw [← hw1]
 have HB3:=hid (show Cs w1 (w.heap.size) (x.cells:List Value).toArray vc' by rw [hw1];exact Cs.new _ _ _)
 have hm:Mod (fun _=>False) w w1:=by rw [hw1];exact (Mod.refl _ _).alloc _
 have HM0:=hid (show Mod (fun k=>(R k)) w w1 from hm.mono iB)
 have hs1:w1.heap.size=w.heap.size+1:=by rw [hw1];simp
 have g5:=hid (HW.o.mod hm iA)
 clear HW
 clear hw1 hm
 go_upto_region 1 with (fail)
 refine Ab 23 [4,5,6,7] [0,1,2,3] (fun a0 HA0=>?_)
 have c6:=ev HA0 0 rfl
 have c4:=ev HA0 3 rfl
 refine qmo rfl c6 ?_
 refine qfd rfl 0 vd' c4 ?_
 refine QSeq.pure rfl _ (fun E=>Af rfl B9 rfl (E.d 1 0) (AN HB3.o rfl)) ?_
 refine QSeq.call rfl rfl E6 (B3 g5.out HOK.o.rp bL) (fun E=>Ar (E.d 0 2) (E.d 2 0)) ?_
 rintro e c3 ⟨rfl,qwr,hm⟩
 refine ⟨_,rfl,?_⟩
 have g6:=hid (qwr.widen (R':=(fun k=>(R k)∨(New w1 c3 k))) (fun _ h=>h) (C0 _))
 have j4:=hm.size
 have c8:=hid (show Mod (fun k=>(R k)) w1 c3 from hm)
 clear hm
 clear qwr g5
 refine qe ?_
 clear HA0 c6 c4 a0
 go_upto_region 2 with (fail)
 refine Ab 23 [8,9,10,11] [0,1,2,3] (fun a0 HA0=>?_)
 have c6:=ev HA0 0 rfl
 have c4:=ev HA0 3 rfl
 refine qmo rfl c6 ?_
 refine qfd rfl 1 vd' c4 ?_
 refine QSeq.pure rfl _ (fun E=>Ak rfl Tryz.underlying23 rfl (off:=1) (cs:=[.int .i64 x.cl,.int .i64 x.sq]) aE (E.d 1 0) (Cs.preA (HB3.o.mod c8.out cM) rfl)) ?_
 refine QSeq.call rfl rfl Tryz.func129 (PutName_Q g6.out (by intro k h1;rcases h1 with h1|h1<;>first|(first|omega|(simp only [vc'] at *;omega))|(have hb:=HBR.o k h1;(first|omega|(simp only [vc'] at *;omega)))) HOK.o.cl HOK.o.sq bL) (fun E=>Ar (E.d 0 2) (E.d 2 0)) ?_
 rintro e c7 ⟨rfl,qwr,hm⟩
 refine ⟨_,rfl,?_⟩
 have g7:=hid (qwr.widen (R':=(fun k=>(R k)∨(New w1 c3 k)∨(New c3 c7 k))) aP (C0 _))
 have j5:=hm.size
 have c9:=hid (show Mod (fun k=>(R k)∨(New w1 c3 k)) c3 c7 from hm)
 clear hm
 clear qwr g6
 refine qe ?_
 clear HA0 c6 c4 a0
 go_upto_region 3 with (fail)
 generalize ha0:Act.mk _ _=a0
 have c6:a0.eval (.tmp 0)=.pointer (some ⟨g,0,none⟩):=by rw [← ha0];rfl
 have c4:a0.eval (.tmp 3)=.pointer (some ⟨w.heap.size,0,none⟩):=by rw [← ha0];rfl
 have hsz0:a0.tmps.size=23:=by rw [← ha0];rfl
 have HA0:=hid ha0
 clear ha0
 refine Bc 23 hsz0 [12,13,14,15,16,17,18] (fun k=>(R k)∨(New w1 c3 k)∨(New c3 c7 k)) (fun k j=>(k=0∧((R j)∨(New w1 c3 j)∨(New c3 c7 j)))∨(k=1∧((R j)∨(New w1 c3 j)∨(New c3 c7 j)))) (by intro k j h;(try dsimp only at h ⊢);rcases h with ⟨-,h|h|h⟩|⟨-,h|h|h⟩;(exact Or.inl (h));(exact Or.inr (Or.inl (h)));(exact Or.inr (Or.inr (h)));(exact Or.inl (h));(exact Or.inr (Or.inl (h)));(exact Or.inr (Or.inr (h)))) [qi (.pointer (some ⟨g,0,none⟩)),qi (.pointer (some ⟨w.heap.size,3,none⟩)),qi (hv x.h),qi (.pointer (some ⟨g,0,none⟩)),qi (.pointer (some ⟨w.heap.size,35,none⟩)),qi (.int .u64 (x.tm:Nat)),qi (.pointer (some ⟨g,0,none⟩))] ⟨Ac,Ac,Ac,Ac,Ac,Ac,Ac,trivial⟩ [3,6] ⟨?_,?_,?_,?_,?_,?_,?_,trivial⟩ ?_
 ·exact stq (fun E=>Al rfl (E.v c6))
 ·exact stq (fun E=>Ae rfl vd' rfl aE (E.v c4))
 ·exact stq (fun E=>Ak rfl D8 rfl (off:=3) (cs:=x.h.map bv) gP (E.d 1) (Cs.midA (((HB3.o.mod c8.out cM).mod c9.out dA).mod E.m eU) rfl))
 ·exact Ad rfl
 ·exact stq (fun E=>Ae rfl vd' rfl aE (E.v c4))
 ·exact stq (fun E=>Af rfl E0 rfl (E.d 4) (AL (m:=32) (k:=0) (((HB3.o.mod c8.out cM).mod c9.out dA).mod E.m eU) eH rfl rfl))
 ·exact Ad rfl
 intro d5 hr
 have j6:=hr.size
 have g8:=hid (hr.new (S:=(fun k=>(R k)∨(New w1 c3 k)∨(New c3 c7 k))))
 have g9:=hid (g7.out.mod hr eY)
 clear g7
 clear hr
 refine QChain.go fun Z act E=>?_
 refine Aj (args:=#[.pointer (some ⟨g,0,none⟩),hv x.h]) rfl (Aa rfl) rfl Tryz.func130 (Ar (E.d 0) (E.d 2)) (WHash_Q g9.out HOK.o.h bL) ?_
 rintro e d6 ⟨rfl,qwr,hm⟩
 have j7:=hm.size
 refine ⟨_,rfl,hm.mono (by intro k hk h;rcases h with h|h|h<;>first|(first|omega|(simp only [vc'] at *;omega))|exact Or.inl ⟨eM,Or.inl ⟨rfl,Or.inl h⟩⟩),(fun _=>rfl),?_⟩
 intro d7 hr
 have j8:=hr.size
 have Hx8:=hid ((qwr.widen (R':=(fun k=>(R k)∨(New w1 c3 k)∨(New c3 c7 k)∨(New d5 d6 k))) aP (C0 _)).mod hr (by intro k h1 h2;rcases h1 with h1|h1|h1|h1<;>first|(first|omega|(simp only [vc'] at *;omega))|(have hb:=HBR.o k h1;(first|omega|(simp only [vc'] at *;omega)))))
 have i7:=hid (g8.out.goM hm hr iA)
 clear g8 hm hr Z act E qwr g9
 refine QChain.go fun Z act E=>?_
 refine Aj (args:=#[.pointer (some ⟨g,0,none⟩),.int .u64 (x.tm:Nat)]) rfl (Aa rfl) rfl Tryz.func96 (Ar (E.d 3) (E.d 5)) (WNum_Q Hx8.o HOK.o.tm bL) ?_
 rintro e d8 ⟨rfl,qwr,hm⟩
 have j9:=hm.size
 refine ⟨_,rfl,hm.mono (by intro k hk h;rcases h with h|h|h|h<;>first|(first|omega|(simp only [vc'] at *;omega))|exact Or.inl ⟨eM,Or.inr (⟨rfl,Or.inl h⟩)⟩),(fun _=>rfl),?_⟩
 intro i8 hr
 have l7:=hr.size
 have Hx10:=hid ((qwr.widen (R':=(fun k=>(R k)∨(New w1 c3 k)∨(New c3 c7 k)∨(New d5 d6 k)∨(New d7 d8 k))) aP (C0 _)).mod hr (by intro k h1 h2;rcases h1 with h1|h1|h1|h1|h1<;>first|(first|omega|(simp only [vc'] at *;omega))|(have hb:=HBR.o k h1;(first|omega|(simp only [vc'] at *;omega)))))
 have i9:=hid (i7.out.goM hm hr (by intro k h0 h2;rcases h2 with h2|h2|h2|h2<;>first|(first|omega|(simp only [vc'] at *;omega))|exact Or.inl h2|exact Or.inr (Or.inl h2)|exact Or.inr (Or.inr (h2))))
 clear i7 hm hr Z act E qwr Hx8
 refine QChain.nil fun vs hl hzz hrows hne=>?_
 obtain ⟨Z,hYZ,hZb,hV⟩:=hzz
 have f0:=fvi hV hl 0
 have f3:=fvi hV hl 3
 have f6:=fvi hV hl 6
 rw [show vs=[gw vs 0,gw vs 1,gw vs 2,gw vs 3,gw vs 4,gw vs 5,gw vs 6] from (Bi hl).trans rfl]
 have ha0:=HA0.o
 subst ha0
 clear HA0 hV hYZ hZb hsz0 hrows hne c6 c4
 simp only [Au,Act.put,sIB,sCZ,sCS,f0,f3,f6]
 clear hl f0 f3 f6
 go_upto_region 4 with (fail)
 refine Ab 23 [19,20,21,22] [0,1,2,3] (fun a0 HA0=>?_)
 have c6:=ev HA0 0 rfl
 have c4:=ev HA0 3 rfl
 refine qmo rfl c6 ?_
 refine qfd rfl 36 vd' c4 ?_
 refine QSeq.pure rfl _ (fun E=>Ak rfl Tryz.underlying27 rfl (off:=36) (cs:=[.int .i64 x.sb,.int .i64 x.mr]) aE (E.d 1 0) (Cs.postA (m:=32) (k:=1) (((HB3.o.mod c8.out cM).mod c9.out dA).mod i9.out (by intro h2;rcases h2 with h2|h2|h2<;>first|(first|omega|(simp only [vc'] at *;omega))|(have hb:=HBR.o _ h2;(first|omega|(simp only [vc'] at *;omega))))) eH rfl rfl)) ?_
 refine QSeq.call rfl rfl Tryz.func131 (PutSig_Q Hx10.o (by intro k h1;rcases h1 with h1|h1|h1|h1|h1<;>first|(first|omega|(simp only [vc'] at *;omega))|(have hb:=HBR.o k h1;(first|omega|(simp only [vc'] at *;omega)))) HOK.o.sb HOK.o.mr bL) (fun E=>Ar (E.d 0 2) (E.d 2 0)) ?_
 rintro e d9 ⟨rfl,qwr,hm⟩
 refine ⟨_,rfl,?_⟩
 have j0:=hid (qwr.widen (R':=(fun k=>(R k)∨(New w1 c3 k)∨(New c3 c7 k)∨(New d5 d6 k)∨(New d7 d8 k)∨(New i8 d9 k))) aP (C0 _))
 have l8:=hm.size
 have j3:=hid (show Mod (fun k=>(R k)∨(New w1 c3 k)∨(New c3 c7 k)∨(New d5 d6 k)∨(New d7 d8 k)) i8 d9 from hm)
 clear hm
 clear qwr Hx10
 refine qe ?_
 clear HA0 c6 c4 a0
 go_wp2
 go_end0
 have hq:=(j0.out.widen (R':=(fun k=>R k∨New w d9 k)) (by intro k h1;rcases h1 with h1|h1|h1|h1|h1|h1<;>first|exact Or.inl h1|(right;(first|omega|(simp only [vc'] at *;omega)))) (C0 _))
 simp only [C2] at hq
 exact ⟨rfl,by simpa only [stB,C2] using hq,((((HM0.o.trans c8.out iA).trans c9.out (by intro k h1 h2;rcases h2 with h2|h2<;>first|exact h2|(first|omega|(simp only [vc'] at *;omega))|(have hb:=HBR.o k h2;(first|omega|(simp only [vc'] at *;omega))))).trans i9.out (by intro k h1 h2;rcases h2 with h2|h2|h2<;>first|exact h2|(first|omega|(simp only [vc'] at *;omega))|(have hb:=HBR.o k h2;(first|omega|(simp only [vc'] at *;omega))))).trans j3.out (by intro k h1 h2;rcases h2 with h2|h2|h2|h2|h2<;>first|exact h2|(first|omega|(simp only [vc'] at *;omega))|(have hb:=HBR.o k h2;(first|omega|(simp only [vc'] at *;omega)))))⟩):P:=h
theorem fm13' {P:Prop} (h:P:=by
 intro R R2 g bs v l w hW hB hs hB2 hD hl
 obtain ⟨ao,cap,rfl⟩:=hs.shape
 have hb64:l.length≤maxLen:=hs.bd
 rw [Ax] at hb64
 have HI64:=hid (show I64 (l.length:Int) by unfold I64;(first|omega|(simp only [vf',vh',vi'] at *;omega)))
 have HW:=B8 hW
 have HS:=B8 hs
 have HBR:=B8 hB
 have HBT:=B8 hB2
 have HDJ:=B8 hD
 have HL:=B8 hl
 clear hW hB hs hB2 hD hl
 unfold listB at HL
 go_enter va',vb'
 go_upto_region 0 with (fail)
 have HM0:=hid (Mod.refl (fun k=>(R k)) w)
 go_upto_region 0 with (fail)
 refine Ab 23 [8,9,10,11] [0,1,2,3] (fun a0 HA0=>?_)
 have c3:=ev HA0 0 rfl
 have c7:=ev HA0 1 rfl
 refine qmo rfl c3 ?_
 refine qmo rfl c7 ?_
 refine QSeq.pure rfl (.int .i64 l.length) (fun E=>A2 rfl (E.d 1 0) vc') ?_
 refine QSeq.call rfl rfl E6 (B3 HW.o HI64.o (by have:=HL.o;simp only [C3] at this ⊢; (first|omega|(simp only [vf',vh',vi'] at *;omega)))) (fun E=>Ar (E.d 0 2) (E.d 2 0)) ?_
 rintro e c4 ⟨rfl,qwr,hm⟩
 refine ⟨_,rfl,?_⟩
 have c8:=hid (qwr.widen (R':=(fun k=>(R k)∨(New w c4 k))) (fun _ h=>h) (C0 _))
 have j0:=hm.size
 have c9:=hid (show Mod (fun k=>(R k)) w c4 from hm)
 clear hm
 clear qwr HW
 refine qe ?_
 clear HA0 c3 c7 a0
 go_wp2
 go_loopw [14] (fun t wr=>∃ k:Nat,t=.int .i64 (k:Int)∧k≤l.length∧c4.heap.size≤wr.heap.size∧WrR (fun b=>R b∨(w.heap.size≤b∧b < wr.heap.size)) 900000 wr g (bs ++ (encI l.length ++ ((l.take k).map vd').flatten))∧RdS ve' R2 wr (.slice ao l.length cap) l∧Mod R w wr) (fun t _=>l.length - (intOf t).toNat)
 case atStart=>exact ⟨0,rfl,Nat.zero_le _,C0 _,by have hq:=(c8.out.widen (R':=(fun k=>R k∨(w.heap.size≤k∧k < c4.heap.size))) (by intro k h1;rcases h1 with h1|h1<;>first|exact Or.inl h1|(right;(first|omega|(simp only [vf',vh',vi'] at *;omega)))) (C0 _));simpa only [List.take_zero,C6,List.flatten_nil,List.append_nil] using hq,(HS.o.mod c9.out (by intro k h1 h2;first|(first|omega|(simp only [vf',vh',vi'] at *;omega))|(have hb:=HBT.o k h1;(first|omega|(simp only [vf',vh',vi'] at *;omega)))|(have hb:=HBR.o k h2;(first|omega|(simp only [vf',vh',vi'] at *;omega)))|exact HDJ.o k h1 h2|exact HDJ.o k h2 h1|(have hb:=HBT.o k h1;have hb2:=HBR.o k h2;(first|omega|(simp only [vf',vh',vi'] at *;omega))))),(HM0.o.trans c9.out iA)⟩
 case round=>
  obtain ⟨k,rfl,hk,hz,hw,hs,hm⟩:=hrel
  have HW2:=B8 hw
  have HS2:=B8 hs
  have HM2:=B8 hm
  clear hw hs hm c8 HS HM0
  obtain ⟨wo,rfl⟩:∃ x,x=wr:=⟨_,rfl⟩
  by_cases hlt:k < l.length
  ·skip
   obtain ⟨g0,o0,cs,rfl,hrg,hrd,hcs⟩:=HS2.o.at hlt
   have hcl:cs.length=vf':=ve'.len hrd
   have HCL:=B8 hcl
   have HAT:=hid (show CellsAt R2 wo g0 (o0+k * vf') cs from ⟨hrg,hcs⟩)
   have HRD:=B8 hrd
   have HOC:=hid (ve'.one hrd)
   clear hcl hcs hrd hrg
   have HE:Hid (bs ++ (encI l.length ++ ((l.take k).map vd').flatten) ++ vd' l[k]=bs ++ (encI l.length ++ ((l.take (k+1)).map vd').flatten)):=hid eF
   have HLk:=hid (show (bs ++ (encI l.length ++ ((l.take k).map vd').flatten) ++ vd' l[k]).length≤900000 by rw [HE.o];exact C4 (put_len _ _ _ _ _) HL.o)
   go_upto_region 3 with (fail)
   refine Ab 23 [16,17,7,26] [0,1,2,3] (fun a0 HA0=>?_)
   have d5:=ev HA0 12 rfl
   have d6:=ev HA0 14 rfl
   refine QSeq.pure rfl (.pointer (some ⟨g0,o0+k * vf',none⟩)) (fun E=>Bq (i:=k) (s:=vf') rfl vc' aE (E.v d5) (E.v d6) (by (first|omega|(simp only [vf',vh',vi'] at *;omega)))) ?_
   refine QSeq.pure rfl _ (fun E=>Ak rfl vg' rfl (off:=o0+k * vf') (cs:=cs) eS (E.d 0 0) (fun j u hu=>(HAT.o).2 j u hu)) ?_
   refine QSeq.go fun act E=>?_
   refine qc_alloc rfl (Aa rfl) rfl (z:=vh') aE ?_
   intro g9 qq hm
   have j3:=qq.lt
   have d7:=hid qq
   have j4:=hm.size
   have d8:=hid (show Mod (fun _=>False) wo g9 from hm)
   clear hm
   clear act E qq
   refine QSeq.go fun act E=>?_
   have hlz:(cs).length=List.length (vh':List Value):=(by rw [HCL.o];rfl)
   refine Am rfl (Aa rfl) rfl d7.out (off:=0) (vs:=cs) dI HOC.o bS (E.d 2 0) (ec (E.d 1 1)) ?_
   intro d9 qc0 hm
   have qq:=qc0.eqv (b:=(cs:List Value).toArray) (Aw vi' _ eK)
   clear qc0 hlz
   have i7:=hid qq
   have j5:=hm.size
   have i8:=hid hm
   have c6:=hid (AA (S':=(fun _=>False)) d8.out hm (fun _ h=>h) (by intro k h0 h2;(first|omega|(simp only [vf',vh',vi'] at *;omega))))
   clear hm d8
   clear act E qq d7
   clear i8
   refine qe ?_
   clear HA0 d5 d6 a0
   go_upto_region 4 with (fail)
   refine Ab 23 [18,19,20,21] [0,1,2,3] (fun a0 HA0=>?_)
   have c3:=ev HA0 0 rfl
   have g5:=ev HA0 2 rfl
   have g6:=ev HA0 7 rfl
   refine qmo rfl g5 ?_
   refine qmo rfl c3 ?_
   refine QSeq.pure rfl _ (fun E=>Ak rfl vg' rfl (off:=0) (cs:=cs) eS (E.v g6) (Cs.whole i7.out)) ?_
   refine QSeq.go fun act E=>?_
   have ea19:act.eval (.tmp 19)=.pointer (some ⟨g,0,none⟩):=(E.d 1 1)
   have ea20:act.eval (.tmp 20)=.agg cs.toArray:=(E.d 2 0)
   refine qc_call (args:=#[.pointer (some ⟨g,0,none⟩),.agg cs.toArray]) rfl (Aa rfl) (by rw [ex_callV rfl (E.d 0 2) vj' aE aE];exact congrArg (fun z=>Result.ok (Next.enter _ z) _) fH) (vk' _ _ _ _ _ _ _ (HW2.o.mod c6.out iA) (by intro k h1;rcases h1 with h1|h1<;>first|(first|omega|(simp only [vf',vh',vi'] at *;omega))|(have hb:=HBR.o k h1;(first|omega|(simp only [vf',vh',vi'] at *;omega)))) (HRD.o.mod c6.out iA) (by intro k h1;have hb:=HBT.o k h1;(first|omega|(simp only [vf',vh',vi'] at *;omega))) (by intro k h1 h2;rcases h1 with h1|h1<;>first|(first|omega|(simp only [vf',vh',vi'] at *;omega))|(have hb:=HBR.o k h1;(first|omega|(simp only [vf',vh',vi'] at *;omega)))|(have hb:=HBT.o k h2;(first|omega|(simp only [vf',vh',vi'] at *;omega)))|exact HDJ.o k h1 h2|exact HDJ.o k h2 h1|(have hb:=HBR.o k h1;have hb2:=HBT.o k h2;(first|omega|(simp only [vf',vh',vi'] at *;omega)))) HLk.o) ?_
   rintro e g7 ⟨rfl,qwr,hm⟩
   refine ⟨_,rfl,?_⟩
   have i9:=hid (qwr.widen (R':=(fun k=>(R k)∨(New w wo k)∨(New d9 g7 k))) aP (C0 _))
   have j6:=hm.size
   have g8:=hid (show Mod (fun k=>(R k)∨(New w wo k)) d9 g7 from hm)
   clear hm
   clear act E qwr HW2 ea19 ea20
   refine qe ?_
   clear HA0 c3 g5 g6 a0
   have hq:=i9.out
   rw [HE.o] at hq
   have HQ:=B8 hq
   clear hq
   go_wp2
   go_roundw
   case rel=>exact ⟨k+1,by go_num,by (first|omega|(simp only [vf',vh',vi'] at *;omega)),by (first|omega|(simp only [vf',vh',vi'] at *;omega)),(HQ.o.widen (by intro b h1;rcases h1 with h1|h1|h1<;>first|exact Or.inl h1|(right;(first|omega|(simp only [vf',vh',vi'] at *;omega)))) (C0 _)),((HS2.o.mod c6.out iA).mod g8.out (by intro k h1 h2;rcases h2 with h2|h2<;>first|(first|omega|(simp only [vf',vh',vi'] at *;omega))|(have hb:=HBT.o k h1;(first|omega|(simp only [vf',vh',vi'] at *;omega)))|(have hb:=HBR.o k h2;(first|omega|(simp only [vf',vh',vi'] at *;omega)))|exact HDJ.o k h1 h2|exact HDJ.o k h2 h1|(have hb:=HBT.o k h1;have hb2:=HBR.o k h2;(first|omega|(simp only [vf',vh',vi'] at *;omega))))),((HM2.o.trans c6.out iB).trans g8.out (by intro k h1 h2;rcases h2 with h2|h2<;>first|exact h2|(first|omega|(simp only [vf',vh',vi'] at *;omega))|(have hb:=HBR.o k h2;(first|omega|(simp only [vf',vh',vi'] at *;omega)))))⟩
   case measure=>simp [intOf];(first|omega|(simp only [vf',vh',vi'] at *;omega))
  ·have hkk:k=l.length:=by (first|omega|(simp only [vf',vh',vi'] at *;omega))
   subst hkk
   go_wp2
   go_end0
   have hq:=HW2.o
   rw [List.take_length] at hq
   exact ⟨rfl,hq,HM2.o⟩):P:=h
theorem fm14' {P:Prop} (h:P:=by
 have HA:=B8 ha
 have HB:=B8 hb
 have HL:=hid (show (encI a ++ encI b).length≤900000 by have:=encI_len a ha.2;have:=encI_len b hb.2;simp only [C3];(first|omega|(simp only [vc'] at *;omega)))
 clear ha hb
 change Calls _ _ #[.agg #[.int .i64 a,.int .i64 b]] _ _
 go_enter va',vb'
 go_upto_region 1 with (fail)
 obtain ⟨w1,hw1⟩:∃ zz,zz=(w.alloc (.cells #[.int .i64 a,.int .i64 b] vc')):=⟨_,rfl⟩
 change Code.wp _ _ _ _ (w.alloc (.cells #[.int .i64 a,.int .i64 b] vc'))
 rw [← hw1]
 have HB1:=hid (show Cs w1 (w.heap.size) #[.int .i64 a,.int .i64 b] vc' by rw [hw1];exact Cs.new _ _ _)
 have hm:Mod (fun _=>False) w w1:=by rw [hw1];exact (Mod.refl _ _).alloc _
 have HM0:=hid (show Mod (fun _=>False) w w1 from hm.mono iB)
 have hs1:w1.heap.size=w.heap.size+1:=by rw [hw1];simp
 clear hw1 hm
 go_upto_region 1 with (fail)
 generalize ha0:Act.mk _ _=a0
 have c8:a0.eval (.tmp 1)=.pointer (some ⟨w.heap.size,0,none⟩):=by rw [← ha0];rfl
 have hsz0:a0.tmps.size=11:=by rw [← ha0];rfl
 have HA0:=hid ha0
 clear ha0
 refine A7 11 hsz0 [3,4,5,6,7,8,9,10,2] [qi (.pointer (some ⟨w.heap.size,0,none⟩)),qi (.int .i64 a),qv 0,qi (.pointer (some ⟨w.heap.size,1,none⟩)),qi (.int .i64 b),qv 1,qv 2,qv 3,qv 3] ⟨Ac,Ac,Ah,Ac,Ac,Ah,Ah,Ah,Ah,trivial⟩ [2,5,6,7] ⟨?_,?_,?_,?_,?_,?_,?_,?_,?_,trivial⟩ ?_
 ·exact stq (fun E=>Ae rfl vd' rfl aE (E.v c8))
 ·exact stq (fun E=>Af rfl B9 rfl (E.d 0) (AC (HB1.o.mod E.m.old cH) rfl))
 ·exact Ad rfl
 ·exact stq (fun E=>Ae rfl vd' rfl aE (E.v c8))
 ·exact stq (fun E=>Af rfl B9 rfl (E.d 3) (AC (HB1.o.mod E.m.old cH) rfl))
 ·exact Ad rfl
 ·exact Ad rfl
 ·exact Ad rfl
 ·refine Ay rfl rfl rfl fun _ _ _ _ _ _ _ _ _ hd _ _=>?_
  have h7:=hd ⟨7,.data⟩ bA rfl _ rfl
  exact Bl rfl (Aa rfl) (An rfl rfl) QE.refl h7
 intro g8 hr
 have j6:=hr.size
 have d5:=hid (hr.new (S:=(fun _=>False)))
 clear hr
 refine QChain.go fun Z act E=>?_
 refine Aj (args:=#[.int .i64 a]) rfl (Aa rfl) rfl E3 (Ap (E.d 1)) (Bf _ HA.o _) ?_
 rintro e g9 ⟨v_a1,rfl,qa1,hm⟩
 obtain ⟨c3,c4,rfl⟩:=qa1.shape
 have j7:=hm.size
 refine ⟨_,rfl,hm.mono iB,(fun _=>rfl),?_⟩
 intro i7 hr
 have j8:=hr.size
 have d6:=hid ((qa1.widen (R':=(fun k=>(New g8 g9 k))) (fun _ h=>h) (C0 _)).mod hr aY)
 have d7:=hid (d5.out.go hm hr)
 clear d5 hm hr Z act E qa1
 refine QChain.go fun Z act E=>?_
 refine Aj (args:=#[.int .i64 b]) rfl (Aa rfl) rfl E3 (Ap (E.d 4)) (Bf _ HB.o _) ?_
 rintro e i8 ⟨v_a2,rfl,qa2,hm⟩
 obtain ⟨c6,c7,rfl⟩:=qa2.shape
 have j9:=hm.size
 refine ⟨_,rfl,hm.mono iB,(fun _=>rfl),?_⟩
 intro d8 hr
 have l7:=hr.size
 have d9:=hid ((qa2.widen (R':=(fun k=>(New i7 i8 k))) (fun _ h=>h) (C0 _)).mod hr aY)
 have hmr:=Mod.after hm hr
 have g5:=hid (d6.out.mod hmr aY)
 clear d6
 clear hmr
 have g6:=hid (d7.out.go hm hr)
 clear d7 hm hr Z act E qa2
 refine QChain.go fun Z act E=>?_
 have ea5:act.eval (.tmp 5)=.slice c3 ((encI a).length) c4:=(chv (v:=.slice c3 ((encI a).length) c4) (E.d 2))
 have ea8:act.eval (.tmp 8)=.slice c6 ((encI b).length) c7:=(chv (v:=.slice c6 ((encI b).length) c7) (E.d 5))
 refine Bv rfl (Aa rfl) rfl D7 aM (C:=#[.slice c3 ((encI a).length) c4,.slice c6 ((encI b).length) c7]) (by simp only [C8,C5,C6,ea5,ea8];kernel_rfl) ?_
 intro l8 qrow6 hm
 have m7:=qrow6.lt
 have m8:=hm.size
 refine ⟨hm.mono iB,(fun _=>rfl),?_⟩
 intro i9 hr
 have m9:=hr.size
 have c9:=hid (qrow6.mod hr cH)
 have hmr:=Mod.after hm hr
 have Hx8:=hid (g5.out.mod hmr aY)
 have Hx9:=hid (d9.out.mod hmr aY)
 clear g5 d9
 clear hmr
 have g7:=hid (g6.out.go hm hr)
 clear g6 hm hr Z act E qrow6 ea5 ea8
 refine QChain.go fun Z act E=>?_
 refine Aj (args:=#[.slice (some ⟨d8.heap.size,0,none⟩) 2 2]) rfl (Aa rfl) rfl E9 (Ap (chv (v:=.slice (some ⟨d8.heap.size,0,none⟩) 2 2) (E.d 6))) (Join_Q (n:=2)  c9.out [(.slice c3 ((encI a).length) c4,encI a),(.slice c6 ((encI b).length) c7,encI b)] rfl rfl fQ bA (show flat _=encI a ++ encI b from by simp only [flat,C5,C6,List.flatten_cons,List.flatten_nil,List.append_nil]) bL) ?_
 rintro e j0 ⟨v_join1,rfl,qjoin1,hm⟩
 have n5:=hm.size
 refine ⟨_,rfl,hm.mono iB,(fun _=>rfl),?_⟩
 intro j3 hr
 have n6:=hr.size
 have j4:=hid ((qjoin1.widen (R':=(fun k=>(New i9 j0 k))) (fun _ h=>h) (C0 _)).mod hr aY)
 have hmr:=Mod.after hm hr
 have n7:=hid (Hx8.o.mod hmr aY)
 have n8:=hid (Hx9.o.mod hmr aY)
 have o5:=hid (c9.out.mod hmr cH)
 clear Hx8 Hx9 c9
 clear hmr
 have j5:=hid (g7.out.go hm hr)
 clear g7 hm hr Z act E qjoin1
 refine QChain.nil fun vs hl hzz hrows hne=>?_
 obtain ⟨Z,hYZ,hZb,hV⟩:=hzz
 have f2:=fvc hV hl 2
 have f5:=fvc hV hl 5
 have f6:=fvc hV hl 6
 have f7:=fvc hV hl 7
 have f8:=fvc hV hl 8
 rw [show vs=[gw vs 0,gw vs 1,gw vs 2,gw vs 3,gw vs 4,gw vs 5,gw vs 6,gw vs 7,gw vs 8] from (Bi hl).trans rfl]
 have ha0:=HA0.o
 subst ha0
 clear HA0 hV hYZ hZb hsz0 hrows hne c8
 simp only [Au,Act.put,sIB,sCZ,sCS,f2,f5,f6,f7,f8]
 clear hl f2 f5 f6 f7 f8
 go_wp2
 go_ret
 exact ⟨v_join1,rfl,(j4.out.widen (R':=(fun k=>New w j3 k)) (by intro k h1;(first|omega|(simp only [vc'] at *;omega))) (C0 _)),(HM0.o.trans j5.out iB)⟩):P:=h
theorem fm15' {P:Prop} (h:P:=by
 intro R2 cs x w hx hB2 hl
 obtain ⟨rfl,hok⟩:=hx
 have HBT:=B8 hB2
 have HOK:=B8 hok
 have HL:=B8 hl
 clear hB2 hl hok
 unfold bareT at HL
 go_enter va',vb'
 go_upto_region 1 with (fail)
 obtain ⟨w1,hw1⟩:∃ zz,zz=(w.alloc (.cells (x.cells:List Value).toArray vc')):=⟨_,rfl⟩
 change Code.wp _ _ _ _ (w.alloc (.cells (x.cells:List Value).toArray vc'))
 rw [← hw1]
 have HB1:=hid (show Cs w1 (w.heap.size) (x.cells:List Value).toArray vc' by rw [hw1];exact Cs.new _ _ _)
 have hm:Mod (fun _=>False) w w1:=by rw [hw1];exact (Mod.refl _ _).alloc _
 have HM0:=hid (show Mod (fun _=>False) w w1 from hm.mono iB)
 have hs1:w1.heap.size=w.heap.size+1:=by rw [hw1];simp
 clear hw1 hm
 go_upto_region 1 with (fail)
 generalize ha0:Act.mk _ _=a0
 have c3:a0.eval (.tmp 1)=.pointer (some ⟨w.heap.size,0,none⟩):=by rw [← ha0];rfl
 have hsz0:a0.tmps.size=16:=by rw [← ha0];rfl
 have HA0:=hid ha0
 clear ha0
 refine A7 16 hsz0 [3,4,5,6,7,8,9,10,11,12,13,14,15,2] [qi (.pointer (some ⟨w.heap.size,0,none⟩)),qi (.int .i64 x.rp),qv 0,qi (.pointer (some ⟨w.heap.size,1,none⟩)),qi (.agg #[.int .i64 x.cl,.int .i64 x.sq]),qv 1,qi (.pointer (some ⟨w.heap.size,3,none⟩)),qi (.slice (some ⟨w.heap.size,3,none⟩) 32 32),qi (.pointer (some ⟨w.heap.size,35,none⟩)),qi (.int .u64 (x.tm:Nat)),qv 2,qv 3,qv 4,qv 4] ⟨Ac,Ac,Ah,Ac,Ac,Ah,Ac,Ac,Ac,Ac,Ah,Ah,Ah,Ah,trivial⟩ [2,5,10,11,12] ⟨?_,?_,?_,?_,?_,?_,?_,?_,?_,?_,?_,?_,?_,?_,trivial⟩ ?_
 ·exact stq (fun E=>Ae rfl vd' rfl aE (E.v c3))
 ·exact stq (fun E=>Af rfl B9 rfl (E.d 0) (AN (HB1.o.mod E.m.old cH) rfl))
 ·exact Ad rfl
 ·exact stq (fun E=>Ae rfl vd' rfl aE (E.v c3))
 ·exact stq (fun E=>Ak rfl Tryz.underlying23 rfl (off:=1) (cs:=[.int .i64 x.cl,.int .i64 x.sq]) aE (E.d 3) (Cs.preA (HB1.o.mod E.m.old cH) rfl))
 ·exact Ad rfl
 ·exact stq (fun E=>Ae rfl vd' rfl aE (E.v c3))
 ·exact stq (fun E=>ex_sliceArr rfl D8 aE (E.d 6) aM)
 ·exact stq (fun E=>Ae rfl vd' rfl aE (E.v c3))
 ·exact stq (fun E=>Af rfl E0 rfl (E.d 8) (AL (m:=32) (k:=0) (HB1.o.mod E.m.old cH) eH rfl rfl))
 ·exact Ad rfl
 ·exact Ad rfl
 ·exact Ad rfl
 ·refine Ay rfl rfl rfl fun _ _ _ _ _ _ _ _ _ hd _ _=>?_
  have h12:=hd ⟨12,.data⟩ bA rfl _ rfl
  exact Bl rfl (Aa rfl) (An rfl rfl) QE.refl h12
 intro j4 hr
 have n5:=hr.size
 have g6:=hid (hr.new (S:=(fun _=>False)))
 clear hr
 refine QChain.go fun Z act E=>?_
 refine Aj (args:=#[.int .i64 x.rp]) rfl (Aa rfl) rfl E3 (Ap (E.d 1)) (Bf _ HOK.o.rp _) ?_
 rintro e j5 ⟨v_a1,rfl,qa1,hm⟩
 obtain ⟨c4,c6,rfl⟩:=qa1.shape
 have n6:=hm.size
 refine ⟨_,rfl,hm.mono iB,(fun _=>rfl),?_⟩
 intro j6 hr
 have n7:=hr.size
 have g7:=hid ((qa1.widen (R':=(fun k=>(New j4 j5 k))) (fun _ h=>h) (C0 _)).mod hr aY)
 have g8:=hid (g6.out.go hm hr)
 clear g6 hm hr Z act E qa1
 refine QChain.go fun Z act E=>?_
 refine Aj (args:=#[.agg #[.int .i64 x.cl,.int .i64 x.sq]]) rfl (Aa rfl) rfl Tryz.func32 (Ap (E.d 4)) (RefName_Q HOK.o.cl HOK.o.sq _) ?_
 rintro e j7 ⟨v_a2,rfl,qa2,hm⟩
 obtain ⟨c7,c8,rfl⟩:=qa2.shape
 have n8:=hm.size
 refine ⟨_,rfl,hm.mono iB,(fun _=>rfl),?_⟩
 intro j8 hr
 have o5:=hr.size
 have g9:=hid ((qa2.widen (R':=(fun k=>(New j6 j7 k))) (fun _ h=>h) (C0 _)).mod hr aY)
 have hmr:=Mod.after hm hr
 have i7:=hid (g7.out.mod hmr aY)
 clear g7
 clear hmr
 have i8:=hid (g8.out.go hm hr)
 clear g8 hm hr Z act E qa2
 refine QChain.go fun Z act E=>?_
 refine Aj (args:=#[.int .u64 (x.tm:Nat)]) rfl (Aa rfl) rfl Tryz.func28 (Ap (E.d 9)) (RefNum_Q _ HOK.o.tm _) ?_
 rintro e j9 ⟨v_a3,rfl,qa3,hm⟩
 obtain ⟨c9,d5,rfl⟩:=qa3.shape
 have o6:=hm.size
 refine ⟨_,rfl,hm.mono iB,(fun _=>rfl),?_⟩
 intro i9 hr
 have o7:=hr.size
 have j0:=hid ((qa3.widen (R':=(fun k=>(New j8 j9 k))) (fun _ h=>h) (C0 _)).mod hr aY)
 have hmr:=Mod.after hm hr
 have Hx8:=hid (i7.out.mod hmr aY)
 have Hx9:=hid (g9.out.mod hmr aY)
 clear i7 g9
 clear hmr
 have j3:=hid (i8.out.go hm hr)
 clear i8 hm hr Z act E qa3
 refine QChain.go fun Z act E=>?_
 have ea5:act.eval (.tmp 5)=.slice c4 ((encI x.rp).length) c6:=(chv (v:=.slice c4 ((encI x.rp).length) c6) (E.d 2))
 have ea8:act.eval (.tmp 8)=.slice c7 ((nameB x.cl x.sq).length) c8:=(chv (v:=.slice c7 ((nameB x.cl x.sq).length) c8) (E.d 5))
 have ea10:act.eval (.tmp 10)=.slice (some ⟨w.heap.size,3,none⟩) 32 32:=(E.d 7)
 have ea13:act.eval (.tmp 13)=.slice c9 ((encN x.tm).length) d5:=(chv (v:=.slice c9 ((encN x.tm).length) d5) (E.d 10))
 refine Bv rfl (Aa rfl) rfl D7 aM (C:=#[.slice c4 ((encI x.rp).length) c6,.slice c7 ((nameB x.cl x.sq).length) c8,.slice (some ⟨w.heap.size,3,none⟩) 32 32,.slice c9 ((encN x.tm).length) d5]) (by simp only [C8,C5,C6,ea5,ea8,ea10,ea13];kernel_rfl) ?_
 intro o8 qrow11 hm
 have o9:=qrow11.lt
 have p5:=hm.size
 refine ⟨hm.mono iB,(fun _=>rfl),?_⟩
 intro l7 hr
 have p6:=hr.size
 have d6:=hid (qrow11.mod hr cH)
 have hmr:=Mod.after hm hr
 have d7:=hid (Hx8.o.mod hmr aY)
 have d8:=hid (Hx9.o.mod hmr aY)
 have d9:=hid (j0.out.mod hmr aY)
 clear Hx8 Hx9 j0
 clear hmr
 have g5:=hid (j3.out.go hm hr)
 clear j3 hm hr Z act E qrow11 ea5 ea8 ea10 ea13
 refine QChain.go fun Z act E=>?_
 refine Aj (args:=#[.slice (some ⟨i9.heap.size,0,none⟩) 4 4]) rfl (Aa rfl) rfl E9 (Ap (chv (v:=.slice (some ⟨i9.heap.size,0,none⟩) 4 4) (E.d 11))) (Join_Q (n:=4)  d6.out [(.slice c4 ((encI x.rp).length) c6,encI x.rp),(.slice c7 ((nameB x.cl x.sq).length) c8,nameB x.cl x.sq),(.slice (some ⟨w.heap.size,3,none⟩) 32 32,x.h),(.slice c9 ((encN x.tm).length) d5,encN x.tm)] rfl rfl (by intro p hp;simp only [D1,C9,or_false] at hp;rcases hp with rfl|rfl|rfl|rfl<;>first|exact d7.out.rd.1|exact d8.out.rd.1|exact RdB_arr3 (Cs.midA (HB1.o.mod g5.out (fun h=>h)) rfl) HOK.o.h|exact d9.out.rd.1) bA (show flat _=encI x.rp ++ (nameB x.cl x.sq ++ (x.h ++ encN x.tm)) from by simp only [flat,C5,C6,List.flatten_cons,List.flatten_nil,List.append_nil]) bL) ?_
 rintro e l8 ⟨v_join1,rfl,qjoin1,hm⟩
 have p7:=hm.size
 refine ⟨_,rfl,hm.mono iB,(fun _=>rfl),?_⟩
 intro m7 hr
 have p8:=hr.size
 have m8:=hid ((qjoin1.widen (R':=(fun k=>(New l7 l8 k))) (fun _ h=>h) (C0 _)).mod hr aY)
 have hmr:=Mod.after hm hr
 have p9:=hid (d7.out.mod hmr aY)
 have q6:=hid (d8.out.mod hmr aY)
 have q7:=hid (d9.out.mod hmr aY)
 have q8:=hid (d6.out.mod hmr cH)
 clear d7 d8 d9 d6
 clear hmr
 have m9:=hid (g5.out.go hm hr)
 clear g5 hm hr Z act E qjoin1
 refine QChain.nil fun vs hl hzz hrows hne=>?_
 obtain ⟨Z,hYZ,hZb,hV⟩:=hzz
 have f2:=fvc hV hl 2
 have f5:=fvc hV hl 5
 have f10:=fvc hV hl 10
 have f11:=fvc hV hl 11
 have f12:=fvc hV hl 12
 have f13:=fvc hV hl 13
 rw [show vs=[gw vs 0,gw vs 1,gw vs 2,gw vs 3,gw vs 4,gw vs 5,gw vs 6,gw vs 7,gw vs 8,gw vs 9,gw vs 10,gw vs 11,gw vs 12,gw vs 13] from (Bi hl).trans rfl]
 have ha0:=HA0.o
 subst ha0
 clear HA0 hV hYZ hZb hsz0 hrows hne c3
 simp only [Au,Act.put,sIB,sCZ,sCS,f2,f5,f10,f11,f12,f13]
 clear hl f2 f5 f10 f11 f12 f13
 go_wp2
 go_ret
 have hq:=(m8.out.widen (R':=(fun k=>New w m7 k)) (by intro k h1;(first|omega|(simp only [vc'] at *;omega))) (C0 _))
 (try simp only [C2] at hq)
 exact ⟨v_join1,rfl,by simpa only [bareT,C2] using hq,(HM0.o.trans m9.out iB)⟩):P:=h
theorem fm16' {P:Prop} (h:P:=by
 intro R r s w hR hB hl
 have HRD:=B8 hR
 have HBR:=B8 hB
 have HLN:=B8 hl
 clear hR hB hl
 go_enter va',vb'
 go_upto_region 2 with (fail)
 have HM0:=hid (Mod.refl (fun k=>(R k)) w)
 go_upto_region 2 with (fail)
 refine Ab 21 [6,7,8] [0,1,2] (fun a0 HA0=>?_)
 have c3:=ev HA0 0 rfl
 refine qmo rfl c3 ?_
 refine QSeq.call rfl rfl Tryz.func42 (RInt_R HRD.o aM) (fun E=>Ar (E.d 0 0) rfl) ?_
 rintro e g5 ⟨rfl,qrd,hm⟩
 refine ⟨_,rfl,?_⟩
 have i7:=hid qrd
 have j4:=hm.size
 have i8:=hid (show Mod (fun k=>(R k)) w g5 from hm)
 clear hm
 clear qrd HRD
 refine QSeq.pure rfl (.int .i64 0) (fun E=>Al rfl rfl) ?_
 refine qe ?_
 clear HA0 c3 a0
 obtain ⟨n,hn⟩:∃ n,n=(rInt 100 s).1:=⟨_,rfl⟩
 obtain ⟨s1,hs1⟩:∃ z,z=(rInt 100 s).2:=⟨_,rfl⟩
 have hn100:n≤100:=by have:=rInt_le 100 s;(first|omega|(simp only [vf',vj',vk',vm',vn'] at *;omega))
 have HLS:=hid (show (s1.getD []).length≤900000 by rw [hs1];exact C4 ((rInt_suf 100).len s) HLN.o)
 have HGL:=hid (show Av vc' s=B0 vc' n [] s1 by rw [hn,hs1];rfl)
 rw [← hn]
 have hq:=i7.out
 rw [← hs1] at hq
 have HR1:=B8 hq
 clear hq hn hs1 HLN
 go_wp2
 go_loopw [5,8] (fun ta ti wr=>∃ (k:Nat) (acc:List vd') (st:RSt),ti=.int .i64 (k:Int)∧k≤n∧acc.length=k∧(st.getD []).length≤900000∧B0 vc' (n - k) acc st=B0 vc' n [] s1∧g5.heap.size≤wr.heap.size∧OwS ve' vf' (fun b=>w.heap.size≤b∧b < wr.heap.size) (fun b=>w.heap.size≤b∧b < wr.heap.size) wr ta acc∧RrR 132 R wr r st∧Mod R w wr) (fun _ ti _=>n - (intOf ti).toNat)
 case atStart=>exact ⟨0,[],s1,rfl,Nat.zero_le _,rfl,HLS.o,rfl,C0 _,OwS.nil _ _ _ _ _,HR1.o,(HM0.o.trans i8.out iA)⟩
 case round=>
  obtain ⟨k,acc,st,rfl,hk,hka,hst,hg,hz,ha,hr,hm⟩:=hrel
  obtain ⟨wl,rfl⟩:∃ x,x=wr:=⟨_,rfl⟩
  obtain ⟨aol,capl,rfl⟩:=ha.shape
  have HAL:=B8 ha
  have HRL:=B8 hr
  have HML:=B8 hm
  have HST:=B8 hst
  have HG:=B8 hg
  have HKA:=B8 hka
  clear ha hr hm hst hg hka HR1 HM0
  by_cases hlt:k < n
  ·skip
   go_upto_region 3 with (fail)
   refine Ab 21 [9] [0] (fun a0 HA0=>?_)
   have c6:=ev HA0 7 rfl
   have c4:=ev HA0 8 rfl
   refine QSeq.pure rfl (.bool true) (fun E=>Aq rfl (E.v c4) (E.v c6) (Ai _ _ _ _ _ _) (A1 _ _ _ B9) (congrArg Value.bool (decide_eq_true gD))) ?_
   refine qe ?_
   clear HA0 c6 c4 a0
   obtain ⟨p,hp⟩:∃ p,p=vc' st:=⟨_,rfl⟩
   obtain ⟨x,st2⟩:=p
   have HP1:=hid (congrArg Prod.fst hp.symm)
   have HP2:=hid (congrArg Prod.snd hp.symm)
   clear hp
   dsimp only at HP1 HP2
   have HST2:=hid (show (st2.getD []).length≤900000 by rw [← HP2.o];exact C4 (vg'.len st) HST.o)
   have HGN:=hid (show B0 vc' (n - k) acc st=if st2=none then ([],none) else B0 vc' (n - (k+1)) (acc ++ [x]) st2 by rw [show n - k=(n - (k+1))+1 by (first|omega|(simp only [vf',vj',vk',vm',vn'] at *;omega))];show (if (vc' st).2=none then _ else _)=_;rw [HP2.o,HP1.o])
   go_upto_region 4 with (fail)
   refine Ab 21 [10,11,12,13,14,15,5] [0,1,2,3,4,5,6] (fun a0 HA0=>?_)
   have c3:=ev HA0 0 rfl
   have g6:=ev HA0 1 rfl
   have c7:=ev HA0 5 rfl
   refine QSeq.pure rfl _ (fun E=>Al rfl (E.y 6 c7)) ?_
   refine qmo rfl g6 ?_
   refine qmo rfl c3 ?_
   refine QSeq.go fun act E=>?_
   have ea12:act.eval (.tmp 12)=.pointer (some ⟨r,0,none⟩):=(E.d 2 0)
   refine qc_call (args:=#[.pointer (some ⟨r,0,none⟩)]) rfl (Aa rfl) (by rw [ex_callV rfl (E.d 1 1) vh' aE aE];exact congrArg (fun z=>Result.ok (Next.enter _ z) _) (by simp only [C8,C5,C6,ea12];try rfl)) ((vi').to HP1.o HP2.o HRL.o (by intro k h1;have hb:=HBR.o k h1;(first|omega|(simp only [vf',vj',vk',vm',vn'] at *;omega))) HST.o) ?_
   rintro e c8 ⟨cs,rfl,qel,qrd,hm⟩
   refine ⟨_,rfl,?_⟩
   have c9:=hid qel
   have g7:=hid qrd
   have j5:=hm.size
   have g8:=hid (show Mod (fun k=>(R k)) wl c8 from hm)
   clear hm
   clear act E qel qrd HRL ea12
   refine QSeq.go fun act E=>?_
   refine qc_buildS (e:=vf') (cs:=cs) (zc:=vj') (sz:=vk') rfl (Aa rfl) rfl vl' aE rfl aM aM (E.d 3 0) (ve'.len c9.out) ?_
   intro i9 qrow hm
   have j6:=qrow.lt
   have d7:=hid qrow
   have j7:=hm.size
   have d5:=hid hm
   have d8:=hid (g8.out.goE hm)
   clear hm g8
   clear act E qrow
   refine QSeq.go fun act E=>?_
   refine qc_appS (A:=ve') (e:=vf') rfl (Aa rfl) rfl (.agg vm') vn' vl' vo' (by rfl) (of_decide_eq_true aE) (E.d 0 4) (E.d 4 0) ((HAL.o.mod d8.out gZ gZ)) (AI (R:=(fun k=>(New wl c8 k)∨(k=c8.heap.size))) d7.out ((c9.out.mod d5.out iA).widen (by intro k h1;first|(first|omega|(simp only [vf',vj',vk',vm',vn'] at *;omega))|exact h1.elim|exact Or.inl h1|exact Or.inr (h1))) (by first|exact Or.inr rfl|exact Or.inr (Or.inr rfl)|(right;(first|omega|(simp only [vf',vj',vk',vm',vn'] at *;omega))))) (by intro k h1 h2;(first|omega|(simp only [vf',vj',vk',vm',vn'] at *;omega))) (by rw [HKA.o];simp only [D6,D5];(first|omega|(simp only [vf',vj',vk',vm',vn'] at *;omega))) (by rw [HKA.o];simp only [D6,D5];rw [Ax];(first|omega|(simp only [vf',vj',vk',vm',vn'] at *;omega))) ?_
   intro ao4 cap4 d9 qout hm
   have Hx8:=hid (qout.widen (R':=(fun k=>(New w wl k)∨(New i9 d9 k))) (E':=(fun k=>(New w wl k)∨(New wl c8 k)∨(k=c8.heap.size))) (fun _ h=>h) (by intro k h1;rcases h1 with h1|(h1|h1)<;>first|(first|omega|(simp only [vf',vj',vk',vm',vn'] at *;omega))|exact h1.elim|exact Or.inl h1|exact Or.inr (Or.inl h1)|exact Or.inr (Or.inr (h1))))
   have j8:=hm.size
   have d6:=hid hm
   have g9:=hid (AA (S':=(fun k=>(R k)∨(New w wl k))) d8.out hm iD aR)
   clear hm d8
   clear act E qout HAL
   refine qas rfl 5 0 ?_
   have Hx10:=hid ((g7.out.mod d5.out iA).mod d6.out (sN HBR))
   have j0:=hid ((c9.out.mod d5.out iA).mod d6.out (by intro k h1 h2;(first|omega|(simp only [vf',vj',vk',vm',vn'] at *;omega))))
   have j3:=hid (d7.out.mod d6.out (by intro h2;(first|omega|(simp only [vf',vj',vk',vm',vn'] at *;omega))))
   clear g7 c9 d7 d5 d6
   refine qe ?_
   clear HA0 c3 g6 c7 a0
   clear j0
   clear j3
   cases st2 with
   | none=>
    go_upto_region 5 with (fail)
    refine Ab 21 [16,17,18] [0,1,2] (fun a0 HA0=>?_)
    have c3:=ev HA0 0 rfl
    refine qmo rfl c3 ?_
    refine QSeq.go fun act E=>?_
    refine Aj (args:=#[.pointer (some ⟨r,0,none⟩)]) rfl (Aa rfl) rfl Tryz.func43 (Ap (E.d 0 0)) (OK_R Hx10.o) ?_
    rintro e w2 ⟨rfl,hw2⟩
    obtain rfl:d9=w2:=by first|exact hw2|exact hw2.symm
    refine ⟨_,rfl,?_⟩
    clear act E
    refine QSeq.pure rfl (.bool true) (fun E=>B1 rfl (E.d 1 0)) ?_
    refine qe ?_
    clear HA0 c3 a0
    go_upto_region 6 with (fail)
    refine Ab 21 [4] [0] (fun a0 HA0=>?_)
    refine QSeq.pure rfl (.slice none 0 0) (fun E=>An rfl rfl) ?_
    refine qe ?_
    clear HA0 a0
    go_wp2
    go_ret
    have hq:=HG.o
    rw [HGN.o,if_pos trivial] at hq
    have e:=HGL.o
    rw [← hq] at e
    refine ⟨_,rfl,?_,?_,(HML.o.trans g9.out eJ)⟩
    ·rw [e];exact RdS.nil _ _ _
    ·rw [e];exact Hx10.o
   | some l2=>
    go_upto_region 5 with (fail)
    refine Ab 21 [16,17,18] [0,1,2] (fun a0 HA0=>?_)
    have c3:=ev HA0 0 rfl
    refine qmo rfl c3 ?_
    refine QSeq.go fun act E=>?_
    refine Aj (args:=#[.pointer (some ⟨r,0,none⟩)]) rfl (Aa rfl) rfl Tryz.func43 (Ap (E.d 0 0)) (OK_R Hx10.o) ?_
    rintro e w2 ⟨rfl,hw2⟩
    obtain rfl:d9=w2:=by first|exact hw2|exact hw2.symm
    refine ⟨_,rfl,?_⟩
    clear act E
    refine QSeq.pure rfl (.bool false) (fun E=>B1 rfl (E.d 1 0)) ?_
    refine qe ?_
    clear HA0 c3 a0
    go_upto_region 7 with (fail)
    refine Ab 21 [19,8] [0,1] (fun a0 HA0=>?_)
    have c4:=ev HA0 8 rfl
    refine QSeq.pure rfl (.int .i64 (((k:Nat):Int)+1)) (fun E=>Aq rfl (E.y 1 c4) rfl (Ai _ _ _ _ _ _) (Bz _ _ B9) (congrArg (Value.int .i64) (IntWalk.i64_in _ gD))) ?_
    refine qmv rfl 0 0 ?_
    refine qe ?_
    clear HA0 c4 a0
    go_wp2
    go_roundw
    case rel=>exact ⟨k+1,acc ++ [x],some l2,by go_num,by (first|omega|(simp only [vf',vj',vk',vm',vn'] at *;omega)),by rw [C3,HKA.o];rfl,HST2.o,(by have hq:=HG.o;rw [HGN.o,if_neg bA] at hq;exact hq),by (first|omega|(simp only [vf',vj',vk',vm',vn'] at *;omega)),(Hx8.o.widen (by intro b h1;(first|omega|(simp only [vf',vj',vk',vm',vn'] at *;omega))) (by intro b h1;rcases h1 with h1|h1|h1<;>first|(first|omega|(simp only [vf',vj',vk',vm',vn'] at *;omega))|exact h1.elim)),Hx10.o,(HML.o.trans g9.out eJ)⟩
    case measure=>simp [intOf]<;>(first|omega|(simp only [vf',vj',vk',vm',vn'] at *;omega))
  ·obtain rfl:n=k:=by (first|omega|(simp only [vf',vj',vk',vm',vn'] at *;omega))
   go_upto_region 3 with (fail)
   refine Ab 21 [9] [0] (fun a0 HA0=>?_)
   have c6:=ev HA0 7 rfl
   have c4:=ev HA0 8 rfl
   refine QSeq.pure rfl (.bool false) (fun E=>Aq rfl (E.v c4) (E.v c6) (Ai _ _ _ _ _ _) (A1 _ _ _ B9) (congrArg Value.bool (decide_eq_false gD))) ?_
   refine qe ?_
   clear HA0 c6 c4 a0
   go_upto_region 8 with (fail)
   refine Ab 21 [20,4] [0,1] (fun a0 HA0=>?_)
   have c7:=ev HA0 5 rfl
   refine qmo rfl c7 ?_
   refine qas rfl 0 0 ?_
   refine qe ?_
   clear HA0 c7 a0
   go_wp2
   go_ret
   have hq:=HG.o
   rw [Nat.sub_self] at hq
   have e:=HGL.o
   rw [← hq] at e
   refine ⟨_,rfl,?_,?_,HML.o⟩
   ·rw [e];exact HAL.o.rd.widen (by intro b h1;(try dsimp only at h1 ⊢);(first|omega|(simp only [vf',vj',vk',vm',vn'] at *;omega)))
   ·rw [e];exact HRL.o):P:=h
theorem fm17' {P:Prop} (h:P:=by
 intro R R2 v v2 l m w hs ht hB hB2
 obtain ⟨ao,cap,rfl⟩:=hs.shape
 obtain ⟨bo,bcap,rfl⟩:=ht.shape
 have hlm:l.length≤maxLen:=hs.bd
 rw [Ax] at hlm
 have HS:=B8 hs
 have HT:=B8 ht
 have HBR:=B8 hB
 have HBT:=B8 hB2
 clear hs ht hB hB2
 go_enter va',vb'
 go_upto_region 1 with (fail)
 have HM0:=hid (Mod.refl (fun _=>False) w)
 by_cases hl:l.length=m.length
 rotate_left
 ·skip
  go_upto_region 1 with (fail)
  refine Ab 27 [6,7,8,9,10] [0,1,2,3,4] (fun a0 HA0=>?_)
  have c3:=ev HA0 0 rfl
  have c6:=ev HA0 1 rfl
  refine qmo rfl c3 ?_
  refine QSeq.pure rfl (.int .i64 l.length) (fun E=>A2 rfl (E.d 0 0) vc') ?_
  refine qmo rfl c6 ?_
  refine QSeq.pure rfl (.int .i64 m.length) (fun E=>A2 rfl (E.d 2 0) vc') ?_
  refine QSeq.pure rfl (.bool true) (fun E=>Aq rfl (E.d 1 2) (E.d 3 0) (Ai _ _ _ _ _ _) (run_neq_i _ _ _ B9) (congrArg Value.bool (ne_tt eD))) ?_
  refine qe ?_
  clear HA0 c3 c6 a0
  go_upto_region 2 with (fail)
  refine Ab 27 [4] [0] (fun a0 HA0=>?_)
  refine QSeq.pure rfl (.bool false) (fun E=>An rfl rfl) ?_
  refine qe ?_
  clear HA0 a0
  go_wp2
  go_ret
  exact ⟨Bw (eqb_ne fun e=>hl (by rw [e])).symm,HM0.o⟩
 ·skip
  go_upto_region 1 with (fail)
  refine Ab 27 [6,7,8,9,10] [0,1,2,3,4] (fun a0 HA0=>?_)
  have c3:=ev HA0 0 rfl
  have c6:=ev HA0 1 rfl
  refine qmo rfl c3 ?_
  refine QSeq.pure rfl (.int .i64 l.length) (fun E=>A2 rfl (E.d 0 0) vc') ?_
  refine qmo rfl c6 ?_
  refine QSeq.pure rfl (.int .i64 m.length) (fun E=>A2 rfl (E.d 2 0) vc') ?_
  refine QSeq.pure rfl (.bool false) (fun E=>Aq rfl (E.d 1 2) (E.d 3 0) (Ai _ _ _ _ _ _) (run_neq_i _ _ _ B9) (congrArg Value.bool (ne_ff eD))) ?_
  refine qe ?_
  clear HA0 c3 c6 a0
  go_upto_region 3 with (fail)
  refine Ab 27 [11,12,13] [0,1,2] (fun a0 HA0=>?_)
  have c3:=ev HA0 0 rfl
  refine qmo rfl c3 ?_
  refine QSeq.pure rfl (.int .i64 l.length) (fun E=>A2 rfl (E.d 0 0) vc') ?_
  refine QSeq.pure rfl (.int .i64 0) (fun E=>Al rfl rfl) ?_
  refine qe ?_
  clear HA0 c3 a0
  have HLE:=B8 hl
  clear hl
  go_wp2
  go_loopw [13,5] (fun ti t5 wr=>∃ k:Nat,ti=.int .i64 (k:Int)∧k≤l.length∧l.take k=m.take k∧w.heap.size≤wr.heap.size∧RdS vd' R wr (.slice ao l.length cap) l∧RdS vd' R2 wr (.slice bo m.length bcap) m∧Mod (fun _=>False) w wr) (fun ti t5 _=>l.length - (intOf ti).toNat)
  case atStart=>exact ⟨0,rfl,Nat.zero_le _,rfl,C0 _,HS.o,HT.o,HM0.o⟩
  case round=>
   obtain ⟨k,rfl,hk,htk,hz,hs,ht,hm⟩:=hrel
   obtain ⟨wl,rfl⟩:∃ x,x=wr:=⟨_,rfl⟩
   have HS2:=B8 hs
   have HT2:=B8 ht
   have HML:=B8 hm
   have HTK:=B8 htk
   clear hs ht hm htk HS HT HM0
   by_cases hlt:k < l.length
   ·have hlt2:k < m.length:=by have:=HLE.o;(first|omega|(simp only [ve'] at *;omega))
    go_upto_region 4 with (fail)
    refine Ab 27 [14] [0] (fun a0 HA0=>?_)
    have c7:=ev HA0 12 rfl
    have c4:=ev HA0 13 rfl
    refine QSeq.pure rfl (.bool true) (fun E=>Aq rfl (E.v c4) (E.v c7) (Ai _ _ _ _ _ _) (A1 _ _ _ B9) (congrArg Value.bool (decide_eq_true eD))) ?_
    refine qe ?_
    clear HA0 c7 c4 a0
    go_upto_region 5 with (fail)
    refine Ab 27 [15,5] [0,1] (fun a0 HA0=>?_)
    have c4:=ev HA0 13 rfl
    refine qmo rfl c4 ?_
    refine qas rfl 0 0 ?_
    refine qe ?_
    clear HA0 c4 a0
    have hat:=HS2.o.at hlt
    obtain ⟨g1,o1,c1,eao,hrg,hrd,hcs⟩:=hat
    subst eao
    obtain ⟨x,hx⟩:∃ z,z=l[k]:=⟨_,rfl⟩
    rw [← hx] at hrd
    have HX1:=B8 hx
    have hcl:c1.length=ve':=vd'.len hrd
    have HCL1:=B8 hcl
    have HAT1:=hid (show CellsAt R wl g1 (o1+k * ve') c1 from ⟨hrg,hcs⟩)
    have HRD1:=B8 hrd
    clear hcl hcs hrd hrg hx
    have hat:=HT2.o.at hlt2
    obtain ⟨g2,o2,c2,eao,hrg,hrd,hcs⟩:=hat
    subst eao
    obtain ⟨y,hy⟩:∃ z,z=m[k]:=⟨_,rfl⟩
    rw [← hy] at hrd
    have HX2:=B8 hy
    have hcl:c2.length=ve':=vd'.len hrd
    have HCL2:=B8 hcl
    have HAT2:=hid (show CellsAt R2 wl g2 (o2+k * ve') c2 from ⟨hrg,hcs⟩)
    have HRD2:=B8 hrd
    clear hcl hcs hrd hrg hy
    obtain ⟨b,hb⟩:∃ b,b=eqb x y:=⟨_,rfl⟩
    have HB:=B8 hb
    clear hb
    go_upto_region 6 with (fail)
    generalize ha0:Act.mk _ _=a0
    have c3:a0.eval (.tmp 0)=.slice (some ⟨g1,o1,none⟩) l.length cap:=by rw [← ha0];rfl
    have c6:a0.eval (.tmp 1)=.slice (some ⟨g2,o2,none⟩) m.length bcap:=by rw [← ha0];rfl
    have d5:a0.eval (.tmp 5)=.int .i64 ((k:Nat):Int):=by rw [← ha0];rfl
    have hsz0:a0.tmps.size=27:=by rw [← ha0];rfl
    have HA0:=hid ha0
    clear ha0
    refine A7 27 hsz0 [16,17,18,19,20,21,22,23,24,25] [qi (.slice (some ⟨g1,o1,none⟩) l.length cap),qi (.int .i64 ((k:Nat):Int)),qi (.pointer (some ⟨g1,o1+k * ve',none⟩)),qi (.agg c1.toArray),qi (.slice (some ⟨g2,o2,none⟩) m.length bcap),qi (.int .i64 ((k:Nat):Int)),qi (.pointer (some ⟨g2,o2+k * ve',none⟩)),qi (.agg c2.toArray),qi (.bool b),qi (.bool (!b))] ⟨Ac,Ac,Ac,Ac,Ac,Ac,Ac,Ac,Ac,Ac,trivial⟩ [8] ⟨?_,?_,?_,?_,?_,?_,?_,?_,?_,?_,trivial⟩ ?_
    ·exact stq (fun E=>Al rfl (E.v c3))
    ·exact stq (fun E=>Al rfl (E.v d5))
    ·exact stq (fun E=>Bq (i:=k) (s:=ve') rfl vc' aE (E.d 0) (E.d 1) cR)
    ·exact stq (fun E=>Ak rfl vf' rfl (off:=o1+k * ve') (cs:=c1) eE (E.d 2) (fun j u hu=>((HAT1.o.mod E.m.old (by intro k h1 h2;have hb:=HBR.o k h1;(first|omega|(simp only [ve'] at *;omega))))).2 j u hu))
    ·exact stq (fun E=>Al rfl (E.v c6))
    ·exact stq (fun E=>Al rfl (E.v d5))
    ·exact stq (fun E=>Bq (i:=k) (s:=ve') rfl vc' aE (E.d 4) (E.d 5) cR)
    ·exact stq (fun E=>Ak rfl vf' rfl (off:=o2+k * ve') (cs:=c2) fY (E.d 6) (fun j u hu=>((HAT2.o.mod E.m.old (by intro k h1 h2;have hb:=HBT.o k h1;(first|omega|(simp only [ve'] at *;omega))))).2 j u hu))
    ·exact Ad rfl
    ·exact stq (fun E=>B1 rfl (E.d 8))
    intro d6 hr
    have d7:=hr.size
    have c8:=hid (hr.new (S:=(fun _=>False)))
    clear hr
    refine QChain.go fun Z act E=>?_
    refine Aj (args:=#[.agg c1.toArray,.agg c2.toArray]) rfl (Aa rfl) rfl vg' (Ar (E.d 3) (E.d 7)) (HB.o.symm▸vh' _ _ _ _ _ _ _ (HRD1.o.mod c8.out iA) (HRD2.o.mod c8.out iA) (by intro k h1;have hb:=HBR.o k h1;(first|omega|(simp only [ve'] at *;omega))) (by intro k h1;have hb:=HBT.o k h1;(first|omega|(simp only [ve'] at *;omega)))) ?_
    rintro e d8 ⟨rfl,hm⟩
    have d9:=hm.size
    refine ⟨_,rfl,hm.mono iB,(fun _=>rfl),?_⟩
    intro g5 hr
    have g6:=hr.size
    have c9:=hid (c8.out.go hm hr)
    clear c8 hm hr Z act E
    refine QChain.nil fun vs hl hzz hrows hne=>?_
    obtain ⟨Z,hYZ,hZb,hV⟩:=hzz
    have f0:=fvi hV hl 0
    have f1:=fvi hV hl 1
    have f4:=fvi hV hl 4
    have f5:=fvi hV hl 5
    have f8:=fvi hV hl 8
    have f9:=fvi hV hl 9
    rw [show vs=[gw vs 0,gw vs 1,gw vs 2,gw vs 3,gw vs 4,gw vs 5,gw vs 6,gw vs 7,gw vs 8,gw vs 9] from (Bi hl).trans rfl]
    have ha0:=HA0.o
    subst ha0
    clear HA0 hV hYZ hZb hsz0 hrows hne c3 c6 d5
    simp only [Au,Act.put,sIB,sCZ,sCS,f0,f1,f4,f5,f8,f9]
    clear hl f0 f1 f4 f5 f8 f9
    cases b with
    | false=>
     go_upto_region 7 with (fail)
     refine Ab 27 [4] [0] (fun a0 HA0=>?_)
     refine QSeq.pure rfl (.bool false) (fun E=>An rfl rfl) ?_
     refine qe ?_
     clear HA0 a0
     go_wp2
     go_ret
     exact ⟨Bw (take_ne hlt hlt2 (fun e=>by have h:=HB.o;rw [HX1.o,HX2.o,e,eqb_rfl] at h;cases h)).symm,(HML.o.trans c9.out iB)⟩
    | true=>
     go_upto_region 8 with (fail)
     refine Ab 27 [26,13] [0,1] (fun a0 HA0=>?_)
     have c4:=ev HA0 13 rfl
     refine QSeq.pure rfl (.int .i64 (((k:Nat):Int)+1)) (fun E=>Aq rfl (E.y 1 c4) rfl (Ai _ _ _ _ _ _) (Bz _ _ B9) (congrArg (Value.int .i64) (IntWalk.i64_in _ eD))) ?_
     refine qmv rfl 0 0 ?_
     refine qe ?_
     clear HA0 c4 a0
     go_wp2
     go_roundw
     case rel=>exact ⟨k+1,by go_num,by (first|omega|(simp only [ve'] at *;omega)),take_succ2 hlt hlt2 HTK.o dP,by (first|omega|(simp only [ve'] at *;omega)),(HS2.o.mod c9.out iA),(HT2.o.mod c9.out iA),(HML.o.trans c9.out iB)⟩
     case measure=>simp [intOf]<;>(first|omega|(simp only [ve'] at *;omega))
   ·skip
    go_upto_region 4 with (fail)
    refine Ab 27 [14] [0] (fun a0 HA0=>?_)
    have c7:=ev HA0 12 rfl
    have c4:=ev HA0 13 rfl
    refine QSeq.pure rfl (.bool false) (fun E=>Aq rfl (E.v c4) (E.v c7) (Ai _ _ _ _ _ _) (A1 _ _ _ B9) (congrArg Value.bool (decide_eq_false eD))) ?_
    refine qe ?_
    clear HA0 c7 c4 a0
    go_upto_region 9 with (fail)
    refine Ab 27 [4] [0] (fun a0 HA0=>?_)
    refine QSeq.pure rfl (.bool true) (fun E=>An rfl rfl) ?_
    refine qe ?_
    clear HA0 a0
    go_wp2
    go_ret
    exact ⟨Bw (take_all eD (by have:=HLE.o;(first|omega|(simp only [ve'] at *;omega))) HTK.o).symm,HML.o⟩):P:=h
theorem fm18' {P:Prop} (h:P:=by
 intro H enc W fuel cs x h
 obtain ⟨xs,n,_,-,hl,hn,hf⟩:=DataW.trod_struct va' h
 rw [show Tryz.prog.cellsOf vb'=38 from by kernel_rfl] at hl
 have hxs:xs.length=5:=hn
 have f0:DataW.trod enc Tryz.prog W 0 (fun _=>true) true n 3 ((cs.drop 0).take (Tryz.prog.cellsOf 3))=xs[0]?:=hf 0 _ rfl
 rw [List.getElem?_eq_getElem eV,show Tryz.prog.cellsOf 3=1 from by kernel_rfl] at f0
 have f1:DataW.trod enc Tryz.prog W 0 (fun _=>true) true n 23 ((cs.drop 1).take (Tryz.prog.cellsOf 23))=xs[1]?:=hf 1 _ rfl
 rw [List.getElem?_eq_getElem eV,show Tryz.prog.cellsOf 23=2 from by kernel_rfl] at f1
 have f2:DataW.trod enc Tryz.prog W 0 (fun _=>true) true n 25 ((cs.drop 3).take (Tryz.prog.cellsOf 25))=xs[2]?:=hf 2 _ rfl
 rw [List.getElem?_eq_getElem eV,show Tryz.prog.cellsOf 25=32 from by kernel_rfl] at f2
 have f3:DataW.trod enc Tryz.prog W 0 (fun _=>true) true n 30 ((cs.drop 35).take (Tryz.prog.cellsOf 30))=xs[3]?:=hf 3 _ rfl
 rw [List.getElem?_eq_getElem eV,show Tryz.prog.cellsOf 30=1 from by kernel_rfl] at f3
 have f4:DataW.trod enc Tryz.prog W 0 (fun _=>true) true n 27 ((cs.drop 36).take (Tryz.prog.cellsOf 27))=xs[4]?:=hf 4 _ rfl
 rw [List.getElem?_eq_getElem eV,show Tryz.prog.cellsOf 27=2 from by kernel_rfl] at f4
 obtain ⟨rp,e0,_,w0⟩:=DataW.trod_int B9 f0
 obtain ⟨cl,sq,e1,w1,w1'⟩:=trod_pair Tryz.underlying23 rfl rfl rfl aE f1
 obtain ⟨hh,e2,w2,w2'⟩:=trod_arr D8 Tryz.underlying5 aE aE f2
 obtain ⟨tm',e3,_,w3⟩:=DataW.trod_int E0 f3
 obtain ⟨tm,rfl,w3'⟩:=u64_nat w3
 obtain ⟨sb,mr,e4,w4,w4'⟩:=trod_pair Tryz.underlying27 rfl rfl rfl aE f4
 have hcs:=segs_all cs [1,2,32,1,2] 0 dF
 simp only [List.drop_zero,segs,List.flatten_cons,List.flatten_nil,List.append_nil,Nat.zero_add,Nat.reduceAdd,e0,e1,e2,e3,e4] at hcs
 (try rw [List.drop_zero] at e0)
 (try simp only [e0] at hcs)
 exact ⟨⟨rp,cl,sq,hh,tm,sb,mr⟩,by rw [hcs];rfl,⟨bounds_i64 w0,w1,w1',⟨w2',w2⟩,w3',w4,w4'⟩⟩):P:=h
theorem Ax:maxLen=9223372036854775807:=by decide
/-- w' is w but for blocks of S, and new blocks. -/
structure Mod (S:Nat→Prop) (w w':World):Prop where
 os:w'.os=w.os
 tape:w'.tape=w.tape
 output:w'.output=w.output
 size:w.heap.size≤w'.heap.size
 block:∀ k,k < w.heap.size→¬ S k→w'.heap[k]? = w.heap[k]?
namespace Mod
variable {S S':Nat→Prop} {w a b c:World}
theorem refl (S:Nat→Prop) (w:World):Mod S w w:=⟨rfl,rfl,rfl,C0 _,fun _ _ _=>rfl⟩
theorem mono (h:Mod S a b) (hs:∀ k,k < a.heap.size→S k→S' k):Mod S' a b:=
 ⟨h.os,h.tape,h.output,h.size,fun k hk hn=>h.block k hk (fun hS=>hn (hs k hk hS))⟩
theorem trans (h:Mod S a b) (k:Mod S' b c) (hs:∀ i,i < a.heap.size→S' i→S i):Mod S a c:=
 ⟨k.os.trans h.os,k.tape.trans h.tape,k.output.trans h.output,C4 h.size k.size,
  fun i hi hn=>(k.block i (Nat.lt_of_lt_of_le hi h.size) (fun hS=>hn (hs i hi hS))).trans (h.block i hi hn)⟩
theorem alloc (h:Mod S a b) (o:Obj):Mod S a (b.alloc o):=
 ⟨h.os,h.tape,h.output,C4 h.size bA,fun i hi hn=>(Below.heap_alloc b o i (Nat.lt_of_lt_of_le hi h.size)).trans (h.block i hi hn)⟩
theorem drew (h:Mod S a b):Mod S a b.drew:=⟨h.os,h.tape,h.output,h.size,h.block⟩
theorem setCell (h:Mod S a b) {p:Addr} (hp:p.block < a.heap.size→S p.block) (u:Value):Mod S a (b.setCell p u):=
 ⟨h.os,h.tape,h.output,by simpa using h.size,fun i hi hn=>(Below.heap_setCell b p u i (fun e=>hn (e▸hp (e▸hi)))).trans (h.block i hi hn)⟩
theorem obj (h:Mod S a b) {k:Nat} {o:Obj} (hk:a.heap[k]? = some o) (hn:¬ S k):b.heap[k]? = some o:=
 (h.block k (Array.getElem?_eq_some_iff.1 hk).1 hn).trans hk
theorem cell (h:Mod S a b) {p:Addr} {u:Value} (hc:a.cell? p=some u) (hn:¬ S p.block):b.cell? p=some u:=
 (World.cell?_of_block (h.block p.block (World.block_lt_of_cell? _ _ hc) hn)).trans hc
theorem frozen (h:Mod S a b) {p:Addr} {u:Value} (hc:a.cell? p=some u) (hn:¬ S p.block):b.frozen? p=a.frozen? p:=
 World.frozen?_of_block (h.block p.block (World.block_lt_of_cell? _ _ hc) hn)
theorem below (h:Mod S a b) {B:Nat} (hB:B≤a.heap.size) (hs:∀ k,k < B→¬ S k):Below B a b:=
 ⟨h.os,h.tape,h.output,h.size,fun k hk=>h.block k aL (hs k hk)⟩
end Mod
/-- a block of cells that may be written -/
def Cs (w:World) (g:Nat) (c:Array Value) (e:TypeId):Prop:=w.heap[g]? = some (.cells c e (0,0))
theorem Cs.lt {w:World} {g:Nat} {c:Array Value} {e:TypeId} (h:Cs w g c e):g < w.heap.size:=(Array.getElem?_eq_some_iff.1 h).1
theorem Cs.cell {w:World} {g:Nat} {c:Array Value} {e:TypeId} (h:Cs w g c e) (j:Nat):w.cell? ⟨g,j,none⟩=c[j]?:=by
 unfold Cs at h;simp [World.cell?,h]
theorem Cs.frozen {w:World} {g:Nat} {c:Array Value} {e:TypeId} (h:Cs w g c e) (j:Nat):w.frozen? ⟨g,j,none⟩=false:=by
 unfold Cs at h;simp [World.frozen?,h]
theorem Cs.mod {S:Nat→Prop} {w w':World} {g:Nat} {c:Array Value} {e:TypeId} (h:Cs w g c e) (hm:Mod S w w') (hn:¬ S g):Cs w' g c e:=hm.obj h hn
theorem Cs.drew {w:World} {g:Nat} {c:Array Value} {e:TypeId} (h:Cs w g c e):Cs w.drew g c e:=h
theorem Cs.alloc {w:World} {g:Nat} {c:Array Value} {e:TypeId} (h:Cs w g c e) (o:Obj):Cs (w.alloc o) g c e:=(Below.heap_alloc w o g h.lt).trans h
theorem Cs.new (w:World) (c:Array Value) (e:TypeId):Cs (w.alloc (.cells c e)) w.heap.size c e:=heap_alloc_new w _
theorem Cs.set {w:World} {g:Nat} {c:Array Value} {e:TypeId} (h:Cs w g c e) (j:Nat) (u:Value):Cs (w.setCell ⟨g,j,none⟩ u) g (c.setIfInBounds j u) e:=by
 unfold Cs at h ⊢
 simp [World.setCell,Array.getElem?_modify,h]
theorem Cs.other {w:World} {g:Nat} {c:Array Value} {e:TypeId} (h:Cs w g c e) {p:Addr} (hp:g≠p.block) (u:Value):Cs (w.setCell p u) g c e:=
 (Below.heap_setCell w p u g hp).trans h
/-- the slice v reads, in w, as n elements of s cells each: the cells cs -/
def Rd (s:Nat) (w:World) (v:Value) (n:Nat) (cs:List Value):Prop:=
 cs.length=n * s∧∃ ao cap,v=.slice ao n cap∧n≤cap∧cap≤maxLen∧(ao=none→cap=0)∧
  ∀ x,ao=some x→∀ j u,cs[j]? = some u→x.spot=none∧w.cell? (x.add j)=some u
/-- where the slice v of n elements holds anything it lies in no block of S -/
def Apart (v:Value) (n:Nat) (S:Nat→Prop):Prop:=0 < n→∀ g,v.ownBlock=some g→¬ S g
theorem Apart.mono {v:Value} {n:Nat} {S S':Nat→Prop} (h:Apart v n S) (hs:∀ k,S' k→S k):Apart v n S':=fun hn g hg hS=>h hn g hg (hs g hS)
theorem Apart.none {v:Value} {n:Nat}:Apart v n (fun _=>False):=fun _ _ _=>id
theorem Apart.zero {v:Value} {S:Nat→Prop}:Apart v 0 S:=fun h=>absurd h aL
theorem add_mk (g o j:Nat):(⟨g,o,none⟩:Addr).add j=⟨g,o+j,none⟩:=by
 unfold Addr.add;split<;>simp_all
theorem Rd.zero (s:Nat) (w:World) (ao:Option Addr) (cap:Nat) (h1:cap≤maxLen) (h2:ao=none→cap=0):Rd s w (.slice ao 0 cap) 0 []:=
 ⟨by simp,ao,cap,rfl,Nat.zero_le _,h1,h2,fun x hx j u hu=>by simp at hu⟩
theorem Rd.nil (s:Nat) (w:World):Rd s w (.slice none 0 0) 0 []:=Rd.zero s w none 0 (by simp [Ax]) (fun _=>rfl)
/-- its address, where it holds anything -/
theorem Rd.form {s:Nat} {w:World} {v:Value} {n:Nat} {cs:List Value} (hs:0 < s) (h:Rd s w v n cs) :
 (n=0∧cs=[]∧∃ ao cap,v=.slice ao 0 cap∧cap≤maxLen∧(ao=none→cap=0))∨
  ∃ g o cap,0 < n∧v=.slice (some ⟨g,o,none⟩) n cap∧n≤cap∧cap≤maxLen∧cs.length=n * s∧∀ j u,cs[j]? = some u→w.cell? ⟨g,o+j,none⟩=some u:=by
 obtain ⟨hl,ao,cap,rfl,h1,h2,h3,h4⟩:=h
 rcases Nat.eq_zero_or_pos n with rfl|hn
 ·exact .inl ⟨rfl,List.eq_nil_of_length_eq_zero dF,ao,cap,rfl,h2,h3⟩
 ·cases ao with
  | none=>have:=h3 rfl;omega
  | some x=>
   obtain ⟨g,o,sp⟩:=x
   have hpos:0 < cs.length:=by rw [hl];exact Nat.mul_pos hn hs
   obtain ⟨hsp,_⟩:=h4 _ rfl 0 _ (List.getElem?_eq_getElem hpos)
   simp only at hsp
   subst hsp
   exact .inr ⟨g,o,cap,hn,rfl,h1,h2,hl,fun j u hu=>by have:=(h4 _ rfl j u hu).2;rwa [add_mk] at this⟩
theorem Rd.mk {s:Nat} {w:World} {g o n cap:Nat} {cs:List Value} (h1:n≤cap) (h2:cap≤maxLen) (hl:cs.length=n * s)
 (hc:∀ j u,cs[j]? = some u→w.cell? ⟨g,o+j,none⟩=some u):Rd s w (.slice (some ⟨g,o,none⟩) n cap) n cs:=by
 refine ⟨hl,some ⟨g,o,none⟩,cap,rfl,h1,h2,?_,?_⟩
 ·intro h;cases h
 ·intro x hx;cases hx;exact fun j u hu=>⟨rfl,by rw [add_mk];exact hc j u hu⟩
theorem Rd.keep {s:Nat} {w w':World} {v:Value} {n:Nat} {cs:List Value} (h:Rd s w v n cs) (hk:0 < n→∀ g,v.ownBlock=some g→g < w.heap.size→w'.heap[g]? = w.heap[g]?):Rd s w' v n cs:=by
 obtain ⟨hl,ao,cap,rfl,h1,h2,h3,h4⟩:=h
 refine ⟨hl,ao,cap,rfl,h1,h2,h3,fun x hx j u hu=>⟨(h4 x hx j u hu).1,?_⟩⟩
 have hc:=(h4 x hx j u hu).2
 have hn:0 < n:=by
  rcases Nat.eq_zero_or_pos n with rfl|h
  ·have:cs=[]:=List.eq_nil_of_length_eq_zero dF
   subst this;simp at hu
  ·exact h
 have hb:(x.add j).block=x.block:=by unfold Addr.add;split<;>rfl
 subst hx
 refine (World.cell?_of_block ?_).trans hc
 rw [hb]
 exact hk hn x.block rfl (by have:=World.block_lt_of_cell? _ _ hc;rwa [hb] at this)
theorem Rd.mod {S:Nat→Prop} {s:Nat} {w w':World} {v:Value} {n:Nat} {cs:List Value} (h:Rd s w v n cs) (hm:Mod S w w') (hn:Apart v n S):Rd s w' v n cs:=
 h.keep fun h0 g hg hlt=>hm.block g hlt (hn h0 g hg)
theorem Rd.alloc {s:Nat} {w:World} {v:Value} {n:Nat} {cs:List Value} (h:Rd s w v n cs) (o:Obj):Rd s (w.alloc o) v n cs:=
 h.keep fun _ g _ hlt=>Below.heap_alloc w o g hlt
theorem Rd.drew {s:Nat} {w:World} {v:Value} {n:Nat} {cs:List Value} (h:Rd s w v n cs):Rd s w.drew v n cs:=h.keep fun _ _ _ _=>rfl
theorem Rd.sliced {s:Nat} {w:World} {ao:Option Addr} {n cap:Nat} {cs:List Value} (h:Rd s w (.slice ao n cap) n cs) (lo hi m:Nat) (h1:lo≤hi) (h2:hi≤n) (h3:hi≤m) (h4:m≤cap) :
 Rd s w (.slice (if m=lo then ao else ao.map (·.add (lo * s))) (hi - lo) (m - lo)) (hi - lo) ((cs.drop (lo * s)).take ((hi - lo) * s)):=by
 obtain ⟨hl,ao',cap',e,g1,g2,g3,g4⟩:=h
 simp only [Value.slice.injEq] at e
 obtain ⟨rfl,_,rfl⟩:=e
 have hle:hi * s≤n * s:=Nat.mul_le_mul_right _ h2
 have hls:lo * s≤hi * s:=Nat.mul_le_mul_right _ h1
 have hsub:(hi - lo) * s=hi * s - lo * s:=Nat.sub_mul _ _ _
 refine ⟨by simp;omega,_,_,rfl,by omega,by omega,?_,?_⟩
 ·split
  ·omega
  ·intro hm
   simp at hm
   have:=g3 hm
   omega
 ·intro x hx j u hu
  split at hx
  ·have:j < (hi - lo) * s:=by have:=(List.getElem?_eq_some_iff.1 hu).1;simp at this;omega
   have:hi=lo:=by omega
   subst this
   simp at this
  ·simp only [Option.map_eq_some_iff] at hx
   obtain ⟨y,hy,rfl⟩:=hx
   have hu':cs[lo * s+j]? = some u:=by
    rw [List.getElem?_take] at hu
    split at hu
    ·rwa [List.getElem?_drop] at hu
    ·cases hu
   obtain ⟨hsp,hc⟩:=g4 y hy _ _ hu'
   obtain ⟨yb,yo,ys⟩:=y
   simp only at hsp
   subst hsp
   rw [add_mk] at hc ⊢
   rw [add_mk]
   exact ⟨rfl,by rwa [Nat.add_assoc]⟩
/-- the slice v may be appended to: nil, or at the head of a block of its own; each cell of that block is an E -/
def Own (E:Value→Prop) (e s:Nat) (w:World) (v:Value) (n:Nat) (cs:List Value):Prop:=
 cs.length=n * s∧(∀ u ∈ cs,E u)∧((v=.slice none 0 0∧n=0)∨
  ∃ g cap cur,v=.slice (some ⟨g,0,none⟩) n cap∧Cs w g cur e∧n≤cap∧cap≤maxLen∧cap * s≤cur.size∧cur.toList.take (n * s)=cs∧∀ u ∈ cur.toList,E u)
section
variable {E:Value→Prop} {e s:Nat} {w w':World} {v:Value} {n:Nat} {cs:List Value} {S:Nat→Prop}
theorem Own.nil (E:Value→Prop) (e s:Nat) (w:World):Own E e s w (.slice none 0 0) 0 []:=⟨by simp,by simp,.inl ⟨rfl,rfl⟩⟩
theorem Own.rd (h:Own E e s w v n cs):Rd s w v n cs:=by
 obtain ⟨hl,_,⟨rfl,rfl⟩|⟨g,cap,cur,rfl,hg,h1,h2,h3,h4,_⟩⟩:=h
 ·obtain rfl:cs=[]:=List.eq_nil_of_length_eq_zero dF
  exact Rd.nil _ _
 ·refine Rd.mk h1 h2 hl fun j u hu=>?_
  rw [Nat.zero_add,hg.cell]
  have hj:j < n * s:=by have:=(List.getElem?_eq_some_iff.1 hu).1;omega
  rw [← h4,List.getElem?_take,if_pos hj] at hu
  simpa using hu
theorem Own.lt (h:Own E e s w v n cs) {g:Nat} (hg:v.ownBlock=some g):g < w.heap.size:=by
 obtain ⟨hl,_,⟨rfl,rfl⟩|⟨g',cap,cur,rfl,hc,_⟩⟩:=h
 ·cases hg
 ·simp [Value.ownBlock] at hg;subst hg;exact hc.lt
theorem Own.mod (h:Own E e s w v n cs) (hm:Mod S w w') (hn:∀ g,v.ownBlock=some g→¬ S g):Own E e s w' v n cs:=by
 obtain ⟨hl,hE,⟨rfl,rfl⟩|⟨g,cap,cur,rfl,hc,r⟩⟩:=h
 ·exact ⟨hl,hE,.inl ⟨rfl,rfl⟩⟩
 ·exact ⟨hl,hE,.inr ⟨g,cap,cur,rfl,hc.mod hm (hn g rfl),r⟩⟩
theorem Own.alloc (h:Own E e s w v n cs) (o:Obj):Own E e s (w.alloc o) v n cs:=h.mod (S:=fun _=>False) ((Mod.refl _ _).alloc o) (fun _ _=>id)
theorem Own.drew (h:Own E e s w v n cs):Own E e s w.drew v n cs:=h.mod (S:=fun _=>False) ((Mod.refl _ _).drew) (fun _ _=>id)
theorem Own.other (h:Own E e s w v n cs) {p:Addr} (hp:∀ g,v.ownBlock=some g→g≠p.block) (u:Value):Own E e s (w.setCell p u) v n cs:=
 h.mod (S:=fun k=>k=p.block) (Mod.setCell (Mod.refl (fun k=>k=p.block) w) (fun _=>rfl) u) hp
theorem Own.shape (h:Own E e s w v n cs):∃ ao cap,v=.slice ao n cap:=by
 obtain ⟨_,_,⟨rfl,rfl⟩|⟨g,cap,cur,rfl,_⟩⟩:=h
 ·exact ⟨none,0,rfl⟩
 ·exact ⟨_,_,rfl⟩
end
/-- what an append may come to: the value's head, its room, the world -/
def Appended (E:Value→Prop) (e s:Nat) (w:World) (v:Value) (n:Nat) (cs:List Value) (ao:Option Addr) (cap:Nat) (w':World):Prop:=
 Own E e s w' (.slice ao n cap) n cs∧Mod (fun k=>some k=v.ownBlock) w w'∧
  ((Value.slice ao n cap).ownBlock=v.ownBlock∨∃ k,(Value.slice ao n cap).ownBlock=some k∧w.heap.size≤k)
theorem run_append {P:Program} {E:Value→Prop} (w:World) (t ty e:TypeId) (i:TypeInfo) (z:Value) (s bytes:Nat) (ht:P.underlying t=some (.slice e)) (hi:P.info? e=some i) (hz:i.zero=some z)
 (hsize:i.size=s) (hby:i.bytes=bytes) (hzs:z.cells.size=s) (hsz:0 < s) (hzE:∀ u ∈ z.cells.toList,E u)
 (v:Value) (n:Nat) (xs:List Value) (hown:Own E e s w v n xs) (x:Value) (m:Nat) (news:List Value) (hx:Rd s w x m news) (hE:∀ u ∈ news,E u) (h1:∀ u ∈ news,u.oneCell'=true)
 (hbytes:(n+m) * bytes≤140737488355328) (h63:n+m≤maxLen) :
 ∃ ao cap w',(Builtin.append_ #[t,t] ty #[v,x]).run P w=.ok (.slice ao (n+m) cap) w'∧Appended E e s w v (n+m) (xs ++ news) ao cap w':=by
 subst hsize
 subst hby
 have hsmall:n+m≤9223372036854775807:=by simp only [maxLen] at h63;omega
 rcases hx.form hsz with ⟨rfl,rfl,xao,xc,rfl,_,hx0⟩|⟨xg,xo,xc,hmpos,rfl,hmc,_,hl,hnews⟩
 ·-- nothing is appended
  obtain ⟨hl0,hE0,⟨rfl,rfl⟩|⟨g,cap,cur,rfl,hg,hnc,hcm,hcs,htake,hcE⟩⟩:=hown
  ·obtain rfl:xs=[]:=List.eq_nil_of_length_eq_zero (by simpa using hl0)
   refine ⟨none,0,w,?_,⟨by simp,by simp,.inl ⟨rfl,rfl⟩⟩,Mod.refl _ _,.inl rfl⟩
   cases xao<;>simp [Builtin.append_,run_underlying ht,sizeOf,typeInfo,hi,Builtin.lenOf,Builtin.firstCells,loadCells,loadCellsFrom]
  ·refine ⟨some ⟨g,0,none⟩,cap,w,?_,⟨by simpa using hl0,by simpa using hE0,.inr ⟨g,cap,cur,rfl,hg,hnc,hcm,hcs,by simpa using htake,hcE⟩⟩,Mod.refl _ _,.inl rfl⟩
   cases xao<;>simp [Builtin.append_,run_underlying ht,sizeOf,typeInfo,hi,Builtin.lenOf,Builtin.firstCells,hnc,storeCells,loadCells,loadCellsFrom]
 ·have hnews':∀ j u,news[j]? = some u→w.cell? ((⟨xg,xo,none⟩:Addr).add j)=some u:=fun j u hu=>by rw [add_mk];exact hnews j u hu
  have hlen:(xs ++ news).length=(n+m) * i.size:=by rw [C3,hown.1,hl,Nat.add_mul]
  have hEall:∀ u ∈ xs ++ news,E u:=fun u hu=>(List.mem_append.1 hu).elim (hown.2.1 u) (hE u)
  have grown:∀ (old:Nat),old < n+m→
   Own E e i.size (w.drew.alloc (.cells (xs.toArray ++ news.toArray ++ Builtin.zeroCells z.cells (grownCap w (n+m) old e - (n+m))) e)) (.slice (some ⟨w.heap.size,0,none⟩) (n+m) (grownCap w (n+m) old e)) (n+m) (xs ++ news)∧
   Mod (fun k=>some k=v.ownBlock) w (w.drew.alloc (.cells (xs.toArray ++ news.toArray ++ Builtin.zeroCells z.cells (grownCap w (n+m) old e - (n+m))) e)):=by
   intro old ho
   have hge:=grownCap_ge w (n+m) old e
   have hcm:grownCap w (n+m) old e≤maxLen:=grownCap_le_maxLen w (n+m) old e h63
   refine ⟨⟨hlen,hEall,.inr ⟨w.heap.size,_,_,rfl,heap_alloc_new w.drew _,hge,hcm,?_,?_,?_⟩⟩,((Mod.refl _ _).drew).alloc _⟩
   ·simp only [Array.size_append,D3,size_zeroCells,hzs,hown.1,hl,← Nat.add_mul]
    rw [show n+m+(grownCap w (n+m) old e - (n+m))=grownCap w (n+m) old e by omega]
    exact C0 _
   ·simp only [Array.toList_append,C2]
    rw [← C2,← hlen]
    exact List.take_left
   ·intro u hu
    simp only [Array.toList_append] at hu
    rcases List.mem_append.1 hu with h|h
    ·exact hEall u h
    ·obtain ⟨q,hq,he⟩:=List.getElem_of_mem h
     have:u ∈ z.cells.toList:=by
      have h':u ∈ Builtin.zeroCells z.cells (grownCap w (n+m) old e - (n+m)):=Array.mem_toList_iff.1 h
      simp only [Builtin.zeroCells] at h'
      simp at h'
      obtain ⟨q2,_,h'⟩:=h'
      have hq2:q2 % z.cells.size < z.cells.size:=Nat.mod_lt _ aL
      rw [getElem!_pos z.cells (q2 % z.cells.size) hq2] at h'
      exact h'▸Array.mem_toList_iff.2 (Array.getElem_mem hq2)
     exact hzE u this
  obtain ⟨hl0,hE0,⟨rfl,rfl⟩|⟨g,cap,cur,rfl,hg,hnc,hcm,hcs,htake,hcE⟩⟩:=hown
  ·have hx0:xs=[]:=List.eq_nil_of_length_eq_zero (by simpa using hl0)
   subst hx0
   by_cases hm:m=0
   ·subst hm
    have hn:news=[]:=List.eq_nil_of_length_eq_zero dF
    subst hn
    refine ⟨none,0,w,?_,⟨by simp,by simp,.inl ⟨rfl,rfl⟩⟩,Mod.refl _ _,.inl rfl⟩
    simp [Builtin.append_,run_underlying ht,sizeOf,typeInfo,hi,Builtin.lenOf,Builtin.firstCells,loadCells,loadCellsFrom]
   ·have hr:=run_append_nil (P:=P) w t ty e i z ht hi hz ⟨xg,xo,none⟩ m xc news hl hnews' aL aL (by have hb:=hbytes;simp only [Nat.zero_add] at hb;omega)
    have hgr:=grown 0 aL
    simp only [Nat.zero_add,List.nil_append,Array.empty_append] at hgr hr ⊢
    exact ⟨_,_,_,hr,hgr.1,hgr.2,.inr ⟨_,rfl,C0 _⟩⟩
  ·by_cases hroom:n+m≤cap
   ·have hfit:n * i.size+news.length≤cur.size:=by rw [hl,← Nat.add_mul];exact C4 (Nat.mul_le_mul_right _ hroom) hcs
    have hr:=run_append_room (P:=P) w t ty e i ht hi g n cap cur hg ⟨xg,xo,none⟩ m xc news hl hnews' h1 hroom hfit
    refine ⟨_,_,_,hr,⟨hlen,hEall,.inr ⟨g,cap,_,rfl,setRow_heap w g cur _ e _ hg,hroom,hcm,?_,?_,?_⟩⟩,⟨rfl,rfl,rfl,by simp,fun k _ hk=>setRow_other w g k _ (fun e=>hk (by simp [Value.ownBlock,e]))⟩,.inl rfl⟩
    ·simp only [D3,C3,List.length_take,List.length_drop,Array.length_toList]
     omega
    ·rw [htake,← hlen]
     exact List.take_left
    ·intro u hu
     simp only [List.mem_append] at hu
     rcases hu with (h|h)|h
     ·exact hcE u (List.mem_of_mem_take h)
     ·exact hE u h
     ·exact hcE u (List.mem_of_mem_drop h)
   ·have holds:∀ j u,xs[j]? = some u→w.cell? ((⟨g,0,none⟩:Addr).add j)=some u:=by
     intro j u hu
     rw [add_mk,Nat.zero_add,hg.cell]
     have hj:j < n * i.size:=by have:=(List.getElem?_eq_some_iff.1 hu).1;omega
     rw [← htake,List.getElem?_take,if_pos hj] at hu
     simpa using hu
    have hr:=run_append_grow (P:=P) w t ty e i z ht hi hz ⟨g,0,none⟩ n cap xs hl0 holds ⟨xg,xo,none⟩ m xc news hl hnews' aL aL (growslice_fits aL hbytes)
    have hgr:=grown cap aL
    exact ⟨_,_,_,hr,hgr.1,hgr.2,.inr ⟨_,rfl,C0 _⟩⟩
theorem wpList_append {P:Program} {E:Value→Prop} {w:World} {ops:Array Oper} {rest:List Oper} {o:Oper} {a:Act} {Q:Exit→Act→World→Prop} (hgd:o.guard=none) (s x:Operand) (t:TypeId)
 (ho:o.op=.call { callee:=.builtin .append,args:=#[s,x],argTypes:=#[t,t] })
 (e:TypeId) (i:TypeInfo) (z:Value) (size bytes:Nat) (ht:P.underlying t=some (.slice e)) (hi:P.info? e=some i) (hz:i.zero=some z)
 (hsize:i.size=size) (hby:i.bytes=bytes) (hzs:z.cells.size=size) (hsz:0 < size) (hzE:∀ u ∈ z.cells.toList,E u)
 (v:Value) (n:Nat) (xs:List Value) (hs:a.eval s=v) (hown:Own E e size w v n xs)
 (xv:Value) (m:Nat) (news:List Value) (hx:a.eval x=xv) (hrd:Rd size w xv m news) (hE:∀ u ∈ news,E u) (h1:∀ u ∈ news,u.oneCell'=true)
 (hbytes:(n+m) * bytes≤140737488355328) (h63:n+m≤maxLen)
 (h:∀ ao cap w',Appended E e size w v (n+m) (xs ++ news) ao cap w'→wpList P ops Q rest (a.put o.dst (.slice ao (n+m) cap)) w'):wpList P ops Q (o :: rest) a w:=by
 obtain ⟨ao,cap,w',hr,h2⟩:=run_append (P:=P) w t o.type e i z size bytes ht hi hz hsize hby hzs hsz hzE v n xs hown xv m news hrd hE h1 hbytes h63
 refine wpList_plain hgd fun K hK=>?_
 unfold Oper.wp execOp
 simp only [ho,resolve,invoke,builtin,Sem.run_bind,Sem.run_pure,Result.andThen_ok,C8,C5,C6,hs,hx,hr]
 exact hK _ _ (h ao cap w' h2)
open Go Go.RowKit
def aggDesc:TypeDesc→Bool | .struct _ | .array _ _=>true|_=>false
theorem run_loadA {P:Program} (w:World) (ty:TypeId) (d:TypeDesc) (hu:P.underlying ty=some d) (hd:aggDesc d=true) (ad:Addr) (cs:List Value)
 (hi:(P.info? ty).map (·.size)=some cs.length) (hc:∀ j u,cs[j]? = some u→w.cell? (ad.add j)=some u):(loadVar ty ad).run P w=.ok (.agg cs.toArray) w:=by
 have hl:=run_loadCells_list (P:=P) w ad cs hc
 cases hq:P.info? ty with
 | none=>simp [hq] at hi
 | some i=>
  have hs:i.size=cs.length:=by simpa [hq] using hi
  have hagg:(isAgg ty).run P w=.ok true w:=by
   unfold isAgg
   rw [Sem.run_bind,run_underlying hu w]
   cases d<;>simp_all [aggDesc]
  simp [loadVar,Sem.run_bind,hagg,sizeOf,typeInfo,hq,hs,hl]
theorem wpList_loadA {P:Program} {ops:Array Oper} {rest:List Oper} {o:Oper} {a:Act} {w:World} {Q:Exit→Act→World→Prop} (hgd:o.guard=none) (ty:TypeId) (x:Operand) (ho:o.op=.load ty x)
 {d:TypeDesc} (hu:P.underlying ty=some d) (hd:aggDesc d=true) {g off:Nat} {cs:List Value} (hi:(P.info? ty).map (·.size)=some cs.length)
 (hx:a.eval x=.pointer (some ⟨g,off,none⟩)) (hc:∀ j u,cs[j]? = some u→w.cell? ⟨g,off+j,none⟩=some u)
 (h:wpList P ops Q rest (a.put o.dst (.agg cs.toArray)) w):wpList P ops Q (o :: rest) a w:=by
 refine wpList_plain hgd fun K hK=>?_
 have hr:=run_loadA (P:=P) w ty d hu hd ⟨g,off,none⟩ cs hi (fun j u hj=>by rw [add_mk];exact hc j u hj)
 unfold Oper.wp execOp
 simp only [ho,hx,Instr.loadAt,Instr.sureAddr,Sem.run_bind,Sem.run_pure,Result.andThen_ok,hr]
 exact hK _ _ h
/-- cs laid over c from o on -/
def lay (c:Array Value) (o:Nat) (vs:List Value):Array Value:=(c.toList.take o ++ vs ++ c.toList.drop (o+vs.length)).toArray
theorem Aw (c:Array Value) (vs:List Value) (h:c.size=vs.length):lay c 0 vs=vs.toArray:=by
 simp [lay,List.drop_of_length_le,h]
theorem run_storeA {P:Program} (w:World) (ty:TypeId) {g off:Nat} {c:Array Value} {e:TypeId} (hc:Cs w g c e) (vs:List Value) (v:Value) (hv:v.cells=vs.toArray)
 (hi:(P.info? ty).map (·.size)=some vs.length) (h1:∀ u ∈ vs,u.oneCell'=true) (hfit:off+vs.length≤c.size) :
 (storeVar ty ⟨g,off,none⟩ v).run P w=.ok () (w.setRow g (lay c off vs)):=by
 have hst:=run_storeCells_at P g off e vs 0 c w hc (by simpa using hfit) h1
 cases hq:P.info? ty with
 | none=>simp [hq] at hi
 | some i=>
  have hs:i.size=vs.length:=by simpa [hq] using hi
  simp only [Nat.add_zero] at hst
  simp [storeVar,sizeOf,typeInfo,hq,hs,hv,hst,lay]
theorem wpList_storeA {P:Program} {ops:Array Oper} {rest:List Oper} {o:Oper} {a:Act} {w:World} {Q:Exit→Act→World→Prop} (hgd:o.guard=none) (ty:TypeId) (x y:Operand) (ho:o.op=.store ty x y)
 {g off:Nat} {c:Array Value} {e:TypeId} (hc:Cs w g c e) {vs:List Value} (hi:(P.info? ty).map (·.size)=some vs.length) (h1:∀ u ∈ vs,u.oneCell'=true) (hfit:off+vs.length≤c.size)
 (hx:a.eval x=.pointer (some ⟨g,off,none⟩)) (hy:(a.eval y).cells=vs.toArray)
 (h:∀ w',Cs w' g (lay c off vs) e→Mod (fun k=>k=g) w w'→wpList P ops Q rest (a.put o.dst (.tuple #[])) w'):wpList P ops Q (o :: rest) a w:=by
 refine wpList_plain hgd fun K hK=>?_
 have hr:=run_storeA (P:=P) w ty hc vs (a.eval y) hy hi h1 hfit
 unfold Oper.wp execOp
 simp only [ho,hx,Instr.storeAt,Instr.sureAddr,Sem.run_bind,Sem.run_pure,Result.andThen_ok,hr]
 exact hK _ _ (h _ (setRow_heap w g c (lay c off vs) e _ hc) ⟨rfl,rfl,rfl,by simp [World.setRow],fun k _ hk=>setRow_other w g k _ hk⟩)
theorem A0 {P:Program} {fn:Func} {p:Tmp} {ty:TypeId} (h:fn.results=#[.cell p ty]) (tmps:Array Value) (w:World) (g:Nat) (cs:List Value) {d:TypeDesc}
 (hp:tmps.getD p undef=.pointer (some ⟨g,0,none⟩)) (hc:∀ j u,cs[j]? = some u→w.cell? ⟨g,j,none⟩=some u)
 (hu:P.underlying ty=some d) (hd:aggDesc d=true) (hi:(P.info? ty).map (·.size)=some cs.length) :
 (results fn tmps).run P w=.ok (.agg cs.toArray) w:=by
 have hp':tmps[p]?.getD undef=.pointer (some ⟨g,0,none⟩):=by simpa using hp
 simp [results,h,hp',asAddr,run_loadA w ty d hu hd ⟨g,0,none⟩ cs hi (fun j u hu=>by rw [add_mk,Nat.zero_add];exact hc j u hu)]
theorem all_range_eqI:∀ (xs ys:List Int),xs.length=ys.length→((List.range xs.length).all fun i=>xs.getD i 0 == ys.getD i 0)=decide (xs=ys)
 | [],[],_=>rfl
 | x :: xs,y :: ys,h=>by
  have ih:=all_range_eqI xs ys (by simpa using h)
  rw [D6,List.range_succ_eq_map,List.all_cons,List.all_map]
  simp only [List.getD_cons_zero,Function.comp_def,List.getD_cons_succ,ih]
  by_cases hx:x=y<;>simp [hx]
 | [],_ :: _,h=>by simp at h
 | _ :: _,[],h=>by simp at h
theorem run_equalIn_ints {P:Program} (w:World) (d:Nat) (t e:TypeId) (n:Nat) {k:IntKind} (ht:P.underlying t=some (.array n e)) (he:P.underlying e=some (.int k)) (hsz:(P.info? e).map (·.size)=some 1)
 (xs ys:List Int) (hx:xs.length=n) (hy:ys.length=n) :
 (Op.equalIn (d+2) t (.agg (xs.map (Value.int k)).toArray) (.agg (ys.map (Value.int k)).toArray)).run P w=.ok (decide (xs=ys)) w:=by
 have hsz':(sizeOf e).run P w=.ok 1 w:=by
  cases hq:P.info? e with
  | none=>simp [hq] at hsz
  | some i=>
   have:i.size=1:=by simpa [hq] using hsz
   simp [sizeOf,typeInfo,hq,this]
 rw [← all_range_eqI xs ys (hx.trans hy.symm),hx,List.range_eq_range',Op.equalIn]
 simp only [Sem.run_bind,run_underlying ht,Result.andThen_ok,hsz',Std.Legacy.Range.forIn_eq_forIn_range',Std.Legacy.Range.size,Nat.sub_zero,Nat.add_sub_cancel,Nat.div_one]
 have hl:∀ i ∈ List.range' 0 n 1,i < n:=fun i hi=>by simpa using (List.mem_range'_1.1 hi).2
 generalize List.range' 0 n 1=l at hl ⊢
 induction l with
 | nil=>simp
 | cons i l ih=>
  have hi:i < n:=hl i bA
  have px:(part e (xs.map (Value.int k)).toArray (i * 1)).run P w=.ok (.int k (xs.getD i 0)) w:=by
   simp [part,isAgg,run_underlying he,List.getD,List.getElem?_eq_getElem (show i < xs.length by omega)]
  have py:(part e (ys.map (Value.int k)).toArray (i * 1)).run P w=.ok (.int k (ys.getD i 0)) w:=by
   simp [part,isAgg,run_underlying he,List.getD,List.getElem?_eq_getElem (show i < ys.length by omega)]
  have pe:(Op.equalIn (d+1) e (.int k (xs.getD i 0)) (.int k (ys.getD i 0))).run P w=.ok (xs.getD i 0 == ys.getD i 0) w:=run_equalIn_int w d e k k _ _ he
  simp only [List.forIn_cons,Sem.run_bind,px,py,pe,Result.andThen_ok,List.all_cons]
  cases hb:(xs.getD i 0 == ys.getD i 0)
  ·simp
  ·simp only [Bool.not_true,Bool.false_eq_true,if_false,Sem.run_pure,Result.andThen_ok,Bool.true_and]
   exact ih fun j hj=>hl j (by simp [hj])
theorem run_eql_ints {P:Program} (w:World) (t e:TypeId) (n:Nat) {k:IntKind} (ht:P.underlying t=some (.array n e)) (he:P.underlying e=some (.int k)) (hsz:(P.info? e).map (·.size)=some 1)
 (xs ys:List Int) (hx:xs.length=n) (hy:ys.length=n) :
 (binOp .eql t (.agg (xs.map (Value.int k)).toArray) (.agg (ys.map (Value.int k)).toArray)).run P w=.ok (.bool (decide (xs=ys))) w:=by
 rw [run_eql_struct,run_equalIn_ints w 9998 t e n ht he hsz xs ys hx hy];rfl
def Au (a:Act):List Nat→List Value→Act
 | s :: ss,v :: vs=>Au (a.put (some s) v) ss vs
 | _,_=>a
theorem put_tmps (a:Act) (s:Nat) (v:Value):(a.put (some s) v)={ a with tmps:=a.tmps.setIfInBounds s v }:=rfl
theorem put_comm (a:Act) {s t:Nat} (h:s≠t) (u v:Value):(a.put (some s) u).put (some t) v=(a.put (some t) v).put (some s) u:=by
 simp only [put_tmps,Act.mk.injEq,and_true]
 exact Array.setIfInBounds_comm _ _ h
theorem put_put (a:Act) (s:Nat) (u v:Value):(a.put (some s) u).put (some s) v=a.put (some s) v:=by
 simp [put_tmps]
theorem putAll_put_out:∀ (ss:List Nat) (vs:List Value) (a:Act) (t:Nat) (v:Value),t ∉ ss→(Au a ss vs).put (some t) v=Au (a.put (some t) v) ss vs
 | [],_,_,_,_,_=>rfl
 | _ :: _,[],_,_,_,_=>rfl
 | s :: ss,u :: vs,a,t,v,h=>by
  simp only [Au]
  rw [putAll_put_out ss vs _ t v (fun h'=>h (List.mem_cons_of_mem _ h')),put_comm a (fun e=>h (by rw [e];exact List.mem_cons_self))]
theorem putAll_put:∀ (ss:List Nat) (vs:List Value) (a:Act) (p:Nat) (s:Nat) (v:Value),ss.Nodup→vs.length=ss.length→ss[p]? = some s→(Au a ss vs).put (some s) v=Au a ss (vs.set p v)
 | [],_,_,_,_,_,_,_,h=>by simp at h
 | _ :: _,[],_,_,_,_,_,h,_=>by simp at h
 | s :: ss,u :: vs,a,0,t,v,hn,hl,h=>by
  simp at h
  subst h
  simp only [Au,sCZ]
  rw [putAll_put_out ss vs _ s v (List.nodup_cons.1 hn).1,put_put]
 | s :: ss,u :: vs,a,p+1,t,v,hn,hl,h=>by
  simp only [Au,sCS]
  exact putAll_put ss vs _ p t v (List.nodup_cons.1 hn).2 dF (by simpa using h)
theorem putAll_size:∀ (ss:List Nat) (vs:List Value) (a:Act),(Au a ss vs).tmps.size=a.tmps.size
 | [],_,_=>rfl
 | _ :: _,[],_=>rfl
 | s :: ss,u :: vs,a=>by simp only [Au];rw [putAll_size];simp [put_tmps]
theorem putAll_out:∀ (ss:List Nat) (vs:List Value) (a:Act) (t:Nat),t ∉ ss→(Au a ss vs).tmps[t]? = a.tmps[t]?
 | [],_,_,_,_=>rfl
 | _ :: _,[],_,_,_=>rfl
 | s :: ss,u :: vs,a,t,h=>by
  simp only [Au]
  rw [putAll_out ss vs _ t (fun h'=>h (List.mem_cons_of_mem _ h'))]
  simp only [put_tmps]
  rw [Array.getElem?_setIfInBounds_ne (fun e=>h (by rw [e];exact List.mem_cons_self))]
theorem putAll_in:∀ (ss:List Nat) (vs:List Value) (a:Act) (p s:Nat),ss.Nodup→vs.length=ss.length→ss[p]? = some s→s < a.tmps.size→(Au a ss vs).tmps[s]? = vs[p]?
 | [],_,_,_,_,_,_,h,_=>by simp at h
 | _ :: _,[],_,_,_,_,h,_,_=>by simp at h
 | s :: ss,u :: vs,a,0,t,hn,hl,h,hs=>by
  simp at h
  subst h
  simp only [Au]
  rw [putAll_out ss vs _ s (List.nodup_cons.1 hn).1]
  simp [put_tmps,hs]
 | s :: ss,u :: vs,a,p+1,t,hn,hl,h,hs=>by
  simp only [Au]
  rw [putAll_in ss vs _ p t (List.nodup_cons.1 hn).2 dF (by simpa using h) (by simpa [put_tmps] using hs)]
  rfl
theorem eval_out (a:Act) (ss:List Nat) (vs:List Value) (t:Nat) (h:t ∉ ss):(Au a ss vs).eval (.tmp t)=a.eval (.tmp t):=by
 simp only [Act.eval,Array.getD_eq_getD_getElem?]
 rw [putAll_out ss vs a t h]
theorem eval_in (a:Act) (ss:List Nat) (vs:List Value) (p s:Nat) (v:Value) (hn:ss.Nodup) (hl:vs.length=ss.length) (h:ss[p]? = some s) (hs:s < a.tmps.size) (hv:vs[p]? = some v):(Au a ss vs).eval (.tmp s)=v:=by
 simp only [Act.eval,Array.getD_eq_getD_getElem?]
 rw [putAll_in ss vs a p s hn hl h hs,hv]
 rfl
theorem putAll_self:∀ (ss:List Nat) (a:Act),Au a ss (ss.map fun s=>a.tmps.getD s undef)=a
 | [],_=>rfl
 | s :: ss,a=>by
  have e:a.put (some s) (a.tmps.getD s undef)=a:=by
   obtain ⟨t,d⟩:=a
   simp only [put_tmps,Act.mk.injEq,and_true]
   apply Array.ext
   ·simp
   ·intro i h1 h2
    rw [Array.getElem_setIfInBounds]
    split
    ·rename_i h;subst h;simp [Array.getD,h2]
    ·rfl
  simp only [C5,Au]
  rw [e]
  exact putAll_self ss a
section
variable {P:Program} {ops:Array Oper} {Q:Exit→Act→World→Prop}
def upd (L:Nat→Bool) (i:Nat):Nat→Bool:=fun j=>if j=i then true else L j
theorem wpAny_inv (hac:∀ i o,ops[i]? = some o→∀ e ∈ o.after,Region.binds .any e=true→e.on < i) (I:(Nat→Bool)→Act→World→Prop)
 (step:∀ i o,ops[i]? = some o→∀ L a w,L i=false→(∀ e ∈ o.after,Region.binds .any e=true→L e.on=true)→I L a w→wpOp P ops Q i (fun a' w'=>I (upd L i) a' w') a w)
 (fin:∀ L a w,(∀ i < ops.size,L i=true)→I L a w→Q .normal a w) :
 ∀ (fuel:Nat) (listed:Array Bool) (a:Act) (w:World),listed.size=ops.size→((List.range ops.size).filter fun i=>!listed.getD i true).length≤fuel→I (fun i=>listed.getD i false) a w→wpAny P .any ops Q fuel listed a w:=by
 have hempty:∀ listed:Array Bool,listed.size=ops.size→Region.ready .any ops listed=[]→∀ i < ops.size,listed.getD i false=true:=by
  intro listed hs hr i
  induction i using Nat.strongRecOn with
  | ind i ih=>
   intro hi
   cases hl:listed.getD i false with
   | true=>rfl
   | false=>
    exfalso
    have:i ∈ Region.ready .any ops listed:=by
     unfold Region.ready
     rw [List.mem_filter]
     refine ⟨List.mem_range.2 hi,?_⟩
     have hl':listed.getD i true=false:=by
      simp [Array.getD,show i < listed.size by omega] at hl ⊢
      exact hl
     rw [hl',Array.getElem?_eq_getElem hi]
     simp only [Bool.not_false,Bool.true_and,Option.map_some,Option.getD_some,Array.all_eq_true_iff_forall_mem,Bool.or_eq_true,Bool.not_eq_true']
     intro e he
     cases hb:Region.binds .any e with
     | false=>exact .inl rfl
     | true=>
      have hlt:=hac i _ (Array.getElem?_eq_getElem hi) e he hb
      exact .inr (ih e.on hlt aL)
    rw [hr] at this
    cases this
 intro fuel
 induction fuel with
 | zero=>
  intro listed a w hs hn hI
  have hr:Region.ready .any ops listed=[]:=by
   have h0:((List.range ops.size).filter fun i=>!listed.getD i true)=[]:=List.eq_nil_of_length_eq_zero aL
   unfold Region.ready
   rw [List.filter_eq_nil_iff] at h0 ⊢
   intro i hi h
   simp only [Bool.and_eq_true] at h
   exact h0 i hi h.1
  exact ⟨hr,fin _ a w (hempty listed hs hr) hI⟩
 | succ fuel ih=>
  intro listed a w hs hn hI
  refine ⟨fun hr=>fin _ a w (hempty listed hs hr) hI,fun i hi=>?_⟩
  unfold Region.ready at hi
  rw [List.mem_filter] at hi
  obtain ⟨hi,h⟩:=hi
  rw [List.mem_range] at hi
  simp only [Bool.and_eq_true,Bool.not_eq_true'] at h
  rw [Array.getElem?_eq_getElem hi] at h
  simp only [Option.map_some,Option.getD_some,Array.all_eq_true_iff_forall_mem,Bool.or_eq_true,Bool.not_eq_true'] at h
  obtain ⟨hl,hd⟩:=h
  have hlf:listed.getD i false=false:=by
   simp [Array.getD,show i < listed.size by omega] at hl ⊢
   exact hl
  refine wpOp_mono ?_ (step i _ (Array.getElem?_eq_getElem hi) _ a w hlf (fun e he hb=>?_) hI)
  ·intro a' w' hI'
   refine ih _ a' w' (by simpa using hs) ?_ ?_
   ·have hlt:((List.range ops.size).filter fun j=>!(listed.setIfInBounds i true).getD j true).length < ((List.range ops.size).filter fun j=>!listed.getD j true).length:=by
     have hsub:((List.range ops.size).filter fun j=>!(listed.setIfInBounds i true).getD j true)=((List.range ops.size).filter fun j=>!listed.getD j true).filter (fun j=>j != i):=by
      rw [List.filter_filter]
      apply List.filter_congr
      intro j hj
      have hj':=List.mem_range.1 hj
      by_cases e:j=i
      ·subst e;simp [Array.getD,show j < listed.size by omega]
      ·simp [Array.getD,show j < listed.size by omega,Ne.symm e,e]
     rw [hsub]
     have hmem:i ∈ ((List.range ops.size).filter fun j=>!listed.getD j true):=List.mem_filter.2 ⟨List.mem_range.2 hi,by rw [hl];rfl⟩
     exact List.length_filter_lt_length_iff_exists.2 ⟨i,hmem,by simp⟩
    omega
   ·have e:upd (fun j=>listed.getD j false) i=fun j=>(listed.setIfInBounds i true).getD j false:=by
     funext j
     unfold upd
     by_cases e:j=i
     ·subst e;simp [Array.getD,show j < listed.size by omega]
     ·simp only [if_neg e]
      by_cases hj:j < listed.size
      ·simp [Array.getD,hj,Ne.symm e]
      ·simp [Array.getD,hj]
    rw [← e]
    exact hI'
  ·rcases hd e he with h|h
   ·rw [hb] at h;cases h
   ·exact h
theorem wp_region_inv {id:Nat} {a0:Act} {w0:World} (hm:P.follows .mixedOrders=true) (hac:∀ i o,ops[i]? = some o→∀ e ∈ o.after,Region.binds .any e=true→e.on < i) (ss:List Nat) (I:(Nat→Bool)→List Value→World→Prop)
 (init:I (fun _=>false) (ss.map fun s=>a0.tmps.getD s undef) w0.drew)
 (step:∀ i o,ops[i]? = some o→∀ L vs w,L i=false→(∀ e ∈ o.after,Region.binds .any e=true→L e.on=true)→vs.length=ss.length→I L vs w→
  wpOp P ops Q i (fun a' w'=>∃ vs',a'=Au a0 ss vs'∧vs'.length=ss.length∧I (upd L i) vs' w') (Au a0 ss vs) w)
 (fin:∀ L vs w,(∀ i < ops.size,L i=true)→vs.length=ss.length→I L vs w→Q .normal (Au a0 ss vs) w):(Code.region id ops true).wp P Q a0 w0:=by
 refine wp_region_any hm ?_
 refine wpAny_inv hac (fun L a w=>∃ vs,a=Au a0 ss vs∧vs.length=ss.length∧I L vs w) ?_ ?_ _ _ _ _ bA ?_ ⟨_,(putAll_self ss a0).symm,by simp,?_⟩
 ·rintro i o ho L a w hL hd ⟨vs,rfl,hl,hI⟩
  exact step i o ho L vs w hL hd hl hI
 ·rintro L a w hL ⟨vs,rfl,hl,hI⟩
  exact fin L vs w hL hl hI
 ·exact C4 (List.length_filter_le _ _) bA
 ·have e:(fun i=>(Array.replicate ops.size false).getD i false)=fun _=>false:=by
   funext i
   by_cases h:i < ops.size<;>simp [Array.getD,h]
  rw [e]
  exact init
/-- each operation with its place -/
def Each (S:Nat→Oper→Prop):Nat→List Oper→Prop
 | _,[]=>True
 | i,o :: r=>S i o∧Each S (i+1) r
theorem Each.get {S:Nat→Oper→Prop}:∀ (l:List Oper) (k:Nat),Each S k l→∀ i o,l[i]? = some o→S (k+i) o
 | [],_,_,_,_,h=>by simp at h
 | o :: r,k,hE,0,o',h=>by simp at h;subst h;exact hE.1
 | o :: r,k,hE,i+1,o',h=>by
  have:=Each.get r (k+1) hE.2 i o' (by simpa using h)
  rwa [Nat.add_right_comm] at this
def backward (ops:Array Oper):Bool:=(List.range ops.size).all fun i=>((ops[i]?).map fun o=>o.after.all fun e=>!Region.binds .any e || decide (e.on < i)).getD true
theorem backward_spec (h:backward ops=true):∀ i o,ops[i]? = some o→∀ e ∈ o.after,Region.binds .any e=true→e.on < i:=by
 intro i o ho e he hb
 have hi:i < ops.size:=(Array.getElem?_eq_some_iff.1 ho).1
 have:=List.all_eq_true.1 h i (List.mem_range.2 hi)
 rw [ho] at this
 simp only [Option.map_some,Option.getD_some,Array.all_eq_true_iff_forall_mem] at this
 have:=this e he
 rw [hb] at this
 simpa using this
theorem wpOps_inv (hac:∀ i o,ops[i]? = some o→∀ e ∈ o.after,Region.binds .any e=true→e.on < i) (I:(Nat→Bool)→Act→World→Prop)
 (step:∀ i o,ops[i]? = some o→∀ L a w,L i=false→(∀ e ∈ o.after,Region.binds .any e=true→L e.on=true)→I L a w→wpOp P ops Q i (fun a' w'=>I (upd L i) a' w') a w)
 (fin:∀ L a w,(∀ i < ops.size,L i=true)→I L a w→Q .normal a w) :
 ∀ (m k:Nat) (a:Act) (w:World),k+m=ops.size→I (fun i=>decide (i < k)) a w→wpOps P ops Q (List.range' k m) a w
 | 0,k,a,w,hk,hI=>by
  simp only [List.range'_zero,wpOps]
  exact fin _ a w (fun i hi=>by simp;omega) hI
 | m+1,k,a,w,hk,hI=>by
  rw [List.range'_succ,wpOps_cons]
  have hkl:k < ops.size:=by omega
  refine wpOp_mono ?_ (step k _ (Array.getElem?_eq_getElem hkl) _ a w bA (fun e he hb=>by simpa using hac k _ (Array.getElem?_eq_getElem hkl) e he hb) hI)
  intro a' w' hI'
  refine wpOps_inv hac I step fin m (k+1) a' w' aL ?_
  have e:upd (fun i=>decide (i < k)) k=fun i=>decide (i < k+1):=by
   funext i
   unfold upd
   by_cases h:i=k
   ·subst h;simp
   ·simp only [if_neg h,decide_eq_decide];omega
  rw [← e]
  exact hI'
/-- both kinds of regions -/
theorem wp_region_both {d:Bool} {id:Nat} {a0:Act} {w0:World} (hm:P.follows .mixedOrders=true) (hac:∀ i o,ops[i]? = some o→∀ e ∈ o.after,Region.binds .any e=true→e.on < i) (ss:List Nat) (I:(Nat→Bool)→List Value→World→Prop)
 (init:I (fun _=>false) (ss.map fun s=>a0.tmps.getD s undef) w0) (initd:I (fun _=>false) (ss.map fun s=>a0.tmps.getD s undef) w0.drew)
 (step:∀ i o,ops[i]? = some o→∀ L vs w,L i=false→(∀ e ∈ o.after,Region.binds .any e=true→L e.on=true)→vs.length=ss.length→I L vs w→
  wpOp P ops Q i (fun a' w'=>∃ vs',a'=Au a0 ss vs'∧vs'.length=ss.length∧I (upd L i) vs' w') (Au a0 ss vs) w)
 (fin:∀ L vs w,(∀ i < ops.size,L i=true)→vs.length=ss.length→I L vs w→Q .normal (Au a0 ss vs) w):(Code.region id ops d).wp P Q a0 w0:=by
 cases d with
 | true=>exact wp_region_inv hm hac ss I initd step fin
 | false=>
  refine wp_region ?_
  rw [List.range_eq_range']
  refine wpOps_inv hac (fun L a w=>∃ vs,a=Au a0 ss vs∧vs.length=ss.length∧I L vs w) ?_ ?_ ops.size 0 a0 w0 aL ⟨_,(putAll_self ss a0).symm,by simp,by simpa using init⟩
  ·rintro i o ho L a w hL hd ⟨vs,rfl,hl,hI⟩
   exact step i o ho L vs w hL hd hl hI
  ·rintro L a w hL ⟨vs,rfl,hl,hI⟩
   exact fin L vs w hL hl hI
end
section
variable {P:Program} {ops:Array Oper} {Q:Exit→Act→World→Prop} {i:Nat} {o:Oper} {a:Act} {w w':World} {K:Act→World→Prop} {v:Value}
theorem Al {x:Operand} (ho:o.op=.move x) (hx:a.eval x=v):(execOp a.eval o).run P w=.ok (.value v) w:=by
 unfold execOp;simp [ho,hx]
theorem Ak {ty:TypeId} {x:Operand} (ho:o.op=.load ty x) {d:TypeDesc} (hu:P.underlying ty=some d) (hd:aggDesc d=true) {g off:Nat} {cs:List Value} (hi:(P.info? ty).map (·.size)=some cs.length)
 (hx:a.eval x=.pointer (some ⟨g,off,none⟩)) (hc:∀ j u,cs[j]? = some u→w.cell? ⟨g,off+j,none⟩=some u):(execOp a.eval o).run P w=.ok (.value (.agg cs.toArray)) w:=by
 have hr:=run_loadA (P:=P) w ty d hu hd ⟨g,off,none⟩ cs hi (fun j u hj=>by rw [add_mk];exact hc j u hj)
 unfold execOp
 simp only [ho,hx,Instr.loadAt,Instr.sureAddr,Sem.run_bind,Sem.run_pure,Result.andThen_ok,hr]
theorem ex_storeA {ty:TypeId} {x y:Operand} (ho:o.op=.store ty x y) {g off:Nat} {c:Array Value} {e:TypeId} (hc:Cs w g c e) {vs:List Value} (hi:(P.info? ty).map (·.size)=some vs.length) (h1:∀ u ∈ vs,u.oneCell'=true)
 (hfit:off+vs.length≤c.size) (hx:a.eval x=.pointer (some ⟨g,off,none⟩)) (hy:(a.eval y).cells=vs.toArray) :
 (execOp a.eval o).run P w=.ok .skip (w.setRow g (lay c off vs)):=by
 have hr:=run_storeA (P:=P) w ty hc vs (a.eval y) hy hi h1 hfit
 unfold execOp
 simp only [ho,hx,Instr.storeAt,Instr.sureAddr,Sem.run_bind,Sem.run_pure,Result.andThen_ok,hr]
theorem setRow_Cs {g:Nat} {c c':Array Value} {e:TypeId} (hc:Cs w g c e):Cs (w.setRow g c') g c' e:=setRow_heap w g c c' e _ hc
theorem setRow_Mod {g:Nat} {c':Array Value}:Mod (fun k=>k=g) w (w.setRow g c'):=⟨rfl,rfl,rfl,by simp [World.setRow],fun k _ hk=>setRow_other w g k _ hk⟩
theorem ex_alloc {ty:TypeId} (ho:o.op=.alloc ty) {z:Value} {info:TypeInfo} (hi:P.info? ty=some info) (hz:info.zero=some z):(execOp a.eval o).run P w=.ok (.value (.pointer (some ⟨w.heap.size,0,none⟩))) (w.alloc (.cells z.cells ty)):=by
 unfold execOp
 simp [ho,Instr.alloc,zeroValue,typeInfo,hi,hz,newVar,newRow]
theorem ex_callF {F:FuncId} {xs:Array Operand} {ts:Array TypeId} (ho:o.op=.call { callee:=.value (.func F),args:=xs,argTypes:=ts }) {fn:Func} (hf:P.funcs[F]? = some fn) (hn:(fn.name == "runtime.NumGoroutine")=false) (hb:fn.body.isNone=false) :
 (execOp a.eval o).run P w=.ok (.enter F (xs.map a.eval)) w:=by
 have hn':¬ fn.name = "runtime.NumGoroutine" := by simpa using hn
 have hb':¬ fn.body=none:=by intro e;rw [e] at hb;cases hb
 unfold execOp
 simp [ho,resolve,invoke,Act.eval,Deferred.ofValue,callFunc,hf,hn',hb']
end
section
variable {P:Program} {ops:Array Oper} {Q:Exit→Act→World→Prop}
variable {i:Nat} {o:Oper} {a:Act} {w w':World} {V:Nat→Value→World→Prop}
theorem Ag {j s:Nat} {b want:Bool} (hg:o.guard=some (j,want)) (hj:(ops[j]?).bind (·.dst)=some s) (hs:s < a.tmps.size) (he:a.eval (.tmp s)=.bool b):Region.wanted o (yielded ops a.tmps)=(b == want):=by
 have h1:a.tmps[s]? = some (.bool b):=by
  simp only [Act.eval,Array.getD_eq_getD_getElem?,Array.getElem?_eq_getElem hs,Option.getD_some] at he
  rw [Array.getElem?_eq_getElem hs,he]
 unfold Region.wanted
 rw [hg]
 simp only [yielded,hj,Option.bind_some,h1]
 rfl
theorem Aa (hg:o.guard=none):Region.wanted o (yielded ops a.tmps)=true:=by simp [Region.wanted,hg]
theorem An {x:Operand} {v:Value} (ho:o.op=.assign x) (hx:a.eval x=v):(execOp a.eval o).run P w=.ok (.value v) w:=by
 unfold execOp;simp [ho,hx]
theorem Bp {c x y:Operand} {b:Bool} {vx vy:Value} (ho:o.op=.pick c x y) (hc:a.eval c=.bool b) (hx:a.eval x=vx) (hy:a.eval y=vy):(execOp a.eval o).run P w=.ok (.value (if b then vx else vy)) w:=by
 unfold execOp;simp [ho,hc,hx,hy,asBool]
theorem B1 {t:TypeId} {x:Operand} {b:Bool} (ho:o.op=.unOp .not t x) (hx:a.eval x=.bool b):(execOp a.eval o).run P w=.ok (.value (.bool (!b))) w:=by
 unfold execOp;simp [ho,hx,Op.unary]
theorem ex_bin {op:BinOp} {t u:TypeId} {x y:Operand} {vx vy v:Value} (ho:o.op=.binOp op t x y u) (hx:a.eval x=vx) (hy:a.eval y=vy) (hg:(eqGuard op t x y vx vy).run P w=.ok () w) (hr:(binOp op t vx vy).run P w=.ok v w):(execOp a.eval o).run P w=.ok (.value v) w:=by
 unfold execOp;simp [ho,hx,hy,hg,hr]
theorem ex_nil {x:Operand} {b:Addr} (ho:o.op=.nilCheck x) (hx:a.eval x=.pointer (some b)):(execOp a.eval o).run P w=.ok (.value (.pointer (some b))) w:=by
 unfold execOp;simp [ho,hx]
abbrev Pred:=Value→World→Prop
def Stable (p:Pred):Prop:=∀ v w w',p v w→Mod (fun _=>False) w w'→p v w'
def anyv:Pred:=fun _ _=>True
def AllStable:List Pred→Prop
 | []=>True
 | p :: r=>Stable p∧AllStable r
theorem AllStable.get:∀ (l:List Pred),AllStable l→∀ i,Stable (l.getD i anyv)
 | [],_,_=>fun _ _ _ h _=>h
 | p :: r,h,0=>h.1
 | p :: r,h,i+1=>by simpa using AllStable.get r h.2 i
theorem Each.mono {S S':Nat→Oper→Prop} (h:∀ i o,S i o→S' i o):∀ (l:List Oper) (k:Nat),Each S k l→Each S' k l
 | [],_,_=>trivial
 | _ :: r,k,hE=>⟨h _ _ hE.1,Each.mono h r (k+1) hE.2⟩
section
variable {l:List Pred}
end
end
theorem run_eql_bools {P:Program} {t:TypeId} (w:World) (x y:Bool) (h:P.underlying t=some .bool):(binOp .eql t (.bool x) (.bool y)).run P w=.ok (.bool (x == y)) w:=by
 have e:∀ d:Nat,(Op.equalIn (d+1) t (.bool x) (.bool y)).run P w=.ok (x == y) w:=fun d=>by simp [Op.equalIn,run_underlying h]
 simp only [binOp]
 simp [Op.equal,Op.maxDepth,e 9999]
theorem guard_bools {P:Program} {t:TypeId} (op:BinOp) (x y:Operand) (a b:Bool) (w:World):(eqGuard op t x y (.bool a) (.bool b)).run P w=.ok () w:=by
 cases op<;>simp [eqGuard]
section
variable {P:Program} {ops:Array Oper} {Q:Exit→Act→World→Prop}
def B4 (ops:Array Oper) (i:Nat):List Nat:=match ops[i]? with
 | some o=>(o.after.toList.filter fun e=>Region.binds .any e).map (·.on)
 | none=>[]
def clo (ops:Array Oper):Nat→List Nat→List Nat
 | 0,m=>m
 | k+1,m=>clo ops k (if m.contains k then m ++ B4 ops k else m)
def linked (ops:Array Oper):List Nat→Bool
 | p :: q :: r=>(clo ops ops.size (B4 ops q)).contains p && linked ops (q :: r)
 | _=>true
def Down (ops:Array Oper) (L:Nat→Bool):Prop:=∀ i,L i=true→∀ x ∈ B4 ops i,L x=true
theorem mem_afterOf {i x:Nat}:x ∈ B4 ops i↔∃ o,ops[i]? = some o∧∃ e ∈ o.after,Region.binds .any e=true∧e.on=x:=by
 unfold B4
 cases h:ops[i]? with
 | none=>simp
 | some o=>simp [and_assoc]
theorem clo_done {L:Nat→Bool} (hD:Down ops L):∀ (k:Nat) (m:List Nat),(∀ x ∈ m,L x=true)→∀ x ∈ clo ops k m,L x=true
 | 0,m,h,x,hx=>h x hx
 | k+1,m,h,x,hx=>by
  refine clo_done hD k _ (fun y hy=>?_) x hx
  split at hy
  ·rename_i hk
   rcases List.mem_append.1 hy with hy|hy
   ·exact h y hy
   ·exact hD k (h k (by simpa using hk)) y hy
  ·exact h y hy
theorem linked_prev {L:Nat→Bool} (hD:Down ops L):∀ (c:List Nat),linked ops c=true→∀ k p q,c[k]? = some p→c[k+1]? = some q→(∀ x ∈ B4 ops q,L x=true)→L p=true
 | [],_,k,p,q,h,_,_=>by simp at h
 | [_],_,k,p,q,_,h,_=>by simp at h
 | a :: b :: r,hl,0,p,q,h1,h2,h3=>by
  simp only [List.getElem?_cons_zero,Option.some.injEq,List.getElem?_cons_succ] at h1 h2
  subst h1;subst h2
  unfold linked at hl
  rw [Bool.and_eq_true] at hl
  exact clo_done hD _ _ h3 a (by simpa using hl.1)
 | a :: b :: r,hl,k+1,p,q,h1,h2,h3=>by
  unfold linked at hl
  rw [Bool.and_eq_true] at hl
  exact linked_prev hD (b :: r) hl.2 k p q (by simpa using h1) (by simpa using h2) h3
/-- all ahead of k are done -/
theorem linked_all {L:Nat→Bool} (hD:Down ops L) {c:List Nat} (hl:linked ops c=true):∀ (k:Nat) (q:Nat),c[k]? = some q→(∀ x ∈ B4 ops q,L x=true)→∀ j p,j < k→c[j]? = some p→L p=true
 | 0,q,_,_,j,p,hj,_=>by omega
 | k+1,q,hq,ha,j,p,hj,hp=>by
  have hlt:k < c.length:=by have:=(List.getElem?_eq_some_iff.1 hq).1;omega
  have hk:c[k]? = some c[k]:=List.getElem?_eq_getElem hlt
  have h1:=linked_prev hD c hl k _ q hk hq ha
  by_cases e:j=k
  ·subst e;rw [hk] at hp;rw [← Option.some.inj hp];exact h1
  ·exact linked_all hD hl k _ hk (fun x hx=>hD _ h1 x hx) j p aL hp
def okSlots (ops:Array Oper) (n:Nat) (ss:List Nat):Bool:=ss.length == ops.size && (ops.toList.zip ss).all fun (o,s)=>match o.dst with
 | some t=>t == s && decide (s < n)
 | none=>decide (n≤s)
theorem okSlots_at {n:Nat} {ss:List Nat} (h:okSlots ops n ss=true) {i:Nat} {o:Oper} (ho:ops[i]? = some o):∃ s,ss[i]? = some s∧((o.dst=some s∧s < n)∨(o.dst=none∧n≤s)):=by
 unfold okSlots at h
 rw [Bool.and_eq_true] at h
 have hl:ss.length=ops.size:=by simpa using h.1
 have hi:i < ops.size:=(Array.getElem?_eq_some_iff.1 ho).1
 have hs:ss[i]? = some (ss[i]'aL):=List.getElem?_eq_getElem aL
 refine ⟨_,hs,?_⟩
 have hm:(o,ss[i]'aL) ∈ ops.toList.zip ss:=by
  refine List.mem_of_getElem? (i:=i) ?_
  rw [List.getElem?_zip_eq_some]
  exact ⟨by simpa using ho,hs⟩
 have:=List.all_eq_true.1 h.2 _ hm
 dsimp only at this
 cases hd:o.dst with
 | none=>rw [hd] at this;exact Or.inr ⟨rfl,by simpa using this⟩
 | some t=>
  rw [hd] at this
  simp only [Bool.and_eq_true,beq_iff_eq,decide_eq_true_eq] at this
  exact Or.inl ⟨by rw [this.1],this.2⟩
theorem put_far (a:Act) {s:Nat} (h:a.tmps.size≤s) (v:Value):a.put (some s) v=a:=by
 obtain ⟨t,d⟩:=a
 simp only [put_tmps,Act.mk.injEq,and_true]
 exact Array.setIfInBounds_eq_of_size_le h
def StableS (S:Nat→Prop) (p:Pred):Prop:=∀ v w w',p v w→Mod S w w'→p v w'
def AllStableS (S:Nat→Prop):List Pred→Prop
 | []=>True
 | p :: r=>StableS S p∧AllStableS S r
theorem AllStableS.get {S:Nat→Prop}:∀ (l:List Pred),AllStableS S l→∀ i,StableS S (l.getD i anyv)
 | [],_,_=>fun _ _ _ h _=>h
 | p :: r,h,0=>h.1
 | p :: r,h,i+1=>by simpa using AllStableS.get r h.2 i
variable {i:Nat} {o:Oper} {a:Act} {w w':World} {l:List Pred} {S:Nat→Prop} {c:List Nat} {G:Nat→World→Prop}
end
open Go.Maps (Keyed)
section
variable {κ ν:Type} [DecidableEq κ]
/-- what stands in a map: keys by `enc`, values by `val` -/
def MapIs (w:World) (b:Nat) (enc:κ→Value) (val:ν→Value) (ok:κ→Prop) (l:List (κ × ν)):Prop:=
 (∃ es clock,w.heap[b]? = some (.map es clock)∧es.toList.map (fun e=>(e.key,e.val))=l.map (fun p=>(enc p.1,val p.2)))∧(∀ p ∈ l,ok p.1)∧l.Pairwise (fun p q=>p.1≠q.1)
variable {w w':World} {b:Nat} {enc:κ→Value} {val:ν→Value} {ok:κ→Prop} {l:List (κ × ν)} {P:Program} {k e t:TypeId}
omit [DecidableEq κ] in
theorem MapIs.lt (h:MapIs w b enc val ok l):b < w.heap.size:=by
 obtain ⟨⟨es,clock,hb,-⟩,-,-⟩:=h
 exact (Array.getElem?_eq_some_iff.1 hb).1
omit [DecidableEq κ] in
theorem MapIs.mod {S:Nat→Prop} (h:MapIs w b enc val ok l) (hm:Mod S w w') (hn:¬ S b):MapIs w' b enc val ok l:=by
 obtain ⟨⟨es,clock,hb,he⟩,h2,h3⟩:=h
 exact ⟨⟨es,clock,hm.obj hb hn,he⟩,h2,h3⟩
omit [DecidableEq κ] in
theorem MapIs.made (w:World) (enc:κ→Value) (val:ν→Value) (ok:κ→Prop):MapIs (w.alloc (.map #[] 0)) w.heap.size enc val ok []:=
 ⟨⟨#[],0,heap_alloc_new w _,rfl⟩,by simp,List.Pairwise.nil⟩
omit [DecidableEq κ] in
theorem MapIs.len (h:MapIs w b enc val ok l) (ht:P.underlying t=some (.map k e)) (ty:TypeId):(Builtin.len_ #[t] ty #[.map (some b)]).run P w=.ok (.int .i64 l.length) w:=by
 obtain ⟨⟨es,clock,hb,he⟩,-,-⟩:=h
 have:es.size=l.length:=by have:=congrArg List.length he;simpa using this
 simp [Builtin.len_,run_underlying ht,MapKept.run_getObj_map hb,this,goInt]
omit [DecidableEq κ] in
end
section
variable {P:Program} {ops:Array Oper} {i:Nat} {o:Oper} {a:Act} {w w':World}
theorem Af {ty:TypeId} {x:Operand} (ho:o.op=.load ty x) {d:TypeDesc} (hu:P.underlying ty=some d) (hd:aggDesc d=false) {ad:Addr} (hx:a.eval x=.pointer (some ad)) {v:Value} (hc:w.cell? ad=some v):(execOp a.eval o).run P w=.ok (.value v) w:=by
 have hagg:(isAgg ty).run P w=.ok false w:=by
  unfold isAgg
  rw [Sem.run_bind,run_underlying hu w]
  cases d<;>simp_all [aggDesc]
 have hr:(loadVar ty ad).run P w=.ok v w:=by simp [loadVar,Sem.run_bind,hagg,hc]
 unfold execOp
 simp only [ho,hx,Instr.loadAt,Instr.sureAddr,Sem.run_bind,Sem.run_pure,Result.andThen_ok,hr]
theorem Ae {s:TypeId} {x:Operand} {f:Nat} (ho:o.op=.fieldAddr s x f) {fs:Array Field} (hu:P.underlying s=some (.struct fs)) {fd:Field} (hf:fs[f]? = some fd) (hz:(P.info? fd.type).map (fun i=>decide (i.size=0))=some false) {g off:Nat} (hx:a.eval x=.pointer (some ⟨g,off,none⟩)) :
 (execOp a.eval o).run P w=.ok (.value (.pointer (some ⟨g,off+fd.offset,none⟩))) w:=by
 have hs:∃ n,(sizeOf fd.type).run P w=.ok n w∧n≠0:=by
  cases hq:P.info? fd.type with
  | none=>simp [hq] at hz
  | some i=>exact ⟨i.size,by simp [sizeOf,typeInfo,hq],by simpa [hq] using hz⟩
 obtain ⟨n,hs,hn⟩:=hs
 unfold execOp
 simp [ho,hx,Instr.fieldAt,run_underlying hu,hf,Instr.sureAddr,fieldPlace,hs,hn,add_mk]
theorem Bs {t:TypeId} {k:IntKind} (w:World) (x y:Int) (h:P.underlying t=some (.int k)):(binOp .eql t (.int k x) (.int k y)).run P w=.ok (.bool (x == y)) w:=by
 simp [binOp,Op.intCmp]
theorem run_neq_i {t:TypeId} {k:IntKind} (w:World) (x y:Int) (h:P.underlying t=some (.int k)):(binOp .neq t (.int k x) (.int k y)).run P w=.ok (.bool (!(x == y))) w:=by
 simp [binOp,Op.intCmp]
 rfl
theorem A1 {t:TypeId} {k:IntKind} (w:World) (x y:Int) (h:P.underlying t=some (.int k)):(binOp .lss t (.int k x) (.int k y)).run P w=.ok (.bool (decide (x < y))) w:=by
 simp [binOp,Op.intCmp]
theorem Bx {t:TypeId} {k:IntKind} (w:World) (x y:Int) (h:P.underlying t=some (.int k)):(binOp .gtr t (.int k x) (.int k y)).run P w=.ok (.bool (decide (y < x))) w:=by
 simp [binOp,Op.intCmp]
theorem Ai {t:TypeId} {k:IntKind} (op:BinOp) (x y:Operand) (a b:Int) (w:World):(eqGuard op t x y (.int k a) (.int k b)).run P w=.ok () w:=by
 cases op<;>simp [eqGuard]
end
section
variable {κ ν:Type} [DecidableEq κ]
end
end Go.Gv
