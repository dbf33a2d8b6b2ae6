/-
  No cell of these rows narrows 'for every input' (looked for: loops, veiled, ifaces, maps, wideKeys, modest, calm, conditions, laid).
  DERIVED. THE GIVEN ROWS OF THIS SEAT. 3 by the template 'for every input the law returns true; each argument reads behind the call as it read before'; 0 by the template 'total and deterministic' (their statements: YtnaoeginonpicaaGreatTotals.lean).
  GIVEN WITH THE SEED: the statements are not yours to turn. If you find one false, say at which input.
  Laid BY PROGRAM, IN A SANDBOX (cutbox-rows.mjs): the forced cells as the released guide's own fill.sh prints them over the translation 0f9c772b52321c75… (all of the seat's roots in one cut). By AI agents, Wed Nov 11 2026. No macro, syntax, notation, axiom, sorry.
-/
import Derived.Test.YtnaoeginonpicaaGreatChecked
import GoSem.Claim
import GoSem.ClaimJoined
import GoSem.ClaimMapViews
import Derived.JoinedTies
import Derived.KernelRfl
namespace Go.Proofs.YtnaoeginonpicaaGreat
/- THE CELL 'sum', in the pinned program and in every row, IS THE sha256 OF THE DUMP (.gsa) THAT YtnaoeginonpicaaGreatProg.lean LOADS. Nothing in Lean hashes anything: it is a label: what it is worth is what the hold of that sum in a sandbox is worth. -/
noncomputable def Tryz.pinned : Pinned := { name := "ytnaoeginonpicaagreat", sum := "0f9c772b52321c75e928f8c963c826a6f98c8dbbcd3fae2b3b4f2c55048ec821", checked := Tryz.checked }
namespace Rows
def none {H : Type} : Left H := { results := [], args := [] }

/-- 'gavellaw06.MsgUnpacks': WHATEVER THE INPUT: true; the input reads as it did. -/
def msgUnpacksSpec : ChangeSpec := { name := "msgUnpacks", fn := fun _ => fun
  | [d1, d2, d3, d4, d5] => { results := [.lit (.bool true)], args := [d1, d2, d3, d4, d5] }
  | _ => none }
def msgUnpacksRow : OpenClaim := { program := "ytnaoeginonpicaagreat", sum := "0f9c772b52321c75e928f8c963c826a6f98c8dbbcd3fae2b3b4f2c55048ec821", func := "gavel/gavellaw06.MsgUnpacks", spec := "msgUnpacks", unfollowed := true, recurses := true, apart := false }
def MsgUnpacksSaid : Prop := msgUnpacksRow.holds Tryz.pinned (OpenSpec.ofChange msgUnpacksSpec)

/-- ITS FALSE NEIGHBOUR: 'it returns false'. Refute it at one input. -/
def msgUnpacksWrong : ChangeSpec := { name := "msgUnpacks", fn := fun _ => fun
  | [d1, d2, d3, d4, d5] => { results := [.lit (.bool false)], args := [d1, d2, d3, d4, d5] }
  | _ => none }
def MsgUnpacksWrongFalsely : Prop := msgUnpacksRow.holds Tryz.pinned (OpenSpec.ofChange msgUnpacksWrong)

/-- 'gavellaw06.MsgPacks': WHATEVER THE INPUT: true; the input reads as it did. -/
def msgPacksSpec : ChangeSpec := { name := "msgPacks", fn := fun _ => fun
  | [d] => { results := [.lit (.bool true)], args := [d] }
  | _ => none }
def msgPacksRow : OpenClaim := { program := "ytnaoeginonpicaagreat", sum := "0f9c772b52321c75e928f8c963c826a6f98c8dbbcd3fae2b3b4f2c55048ec821", func := "gavel/gavellaw06.MsgPacks", spec := "msgPacks", unfollowed := true, recurses := true, apart := false }
def MsgPacksSaid : Prop := msgPacksRow.holds Tryz.pinned (OpenSpec.ofChange msgPacksSpec)

/-- ITS FALSE NEIGHBOUR: 'it returns false'. Refute it at one input. -/
def msgPacksWrong : ChangeSpec := { name := "msgPacks", fn := fun _ => fun
  | [d] => { results := [.lit (.bool false)], args := [d] }
  | _ => none }
def MsgPacksWrongFalsely : Prop := msgPacksRow.holds Tryz.pinned (OpenSpec.ofChange msgPacksWrong)

/-- 'gavellaw06.MsgBack': WHATEVER THE INPUT: true; the input reads as it did. -/
def msgBackSpec : ChangeSpec := { name := "msgBack", fn := fun _ => fun
  | [d] => { results := [.lit (.bool true)], args := [d] }
  | _ => none }
def msgBackRow : OpenClaim := { program := "ytnaoeginonpicaagreat", sum := "0f9c772b52321c75e928f8c963c826a6f98c8dbbcd3fae2b3b4f2c55048ec821", func := "gavel/gavellaw06.MsgBack", spec := "msgBack", unfollowed := true, recurses := true, apart := false }
def MsgBackSaid : Prop := msgBackRow.holds Tryz.pinned (OpenSpec.ofChange msgBackSpec)

/-- ITS FALSE NEIGHBOUR: 'it returns false'. Refute it at one input. -/
def msgBackWrong : ChangeSpec := { name := "msgBack", fn := fun _ => fun
  | [d] => { results := [.lit (.bool false)], args := [d] }
  | _ => none }
def MsgBackWrongFalsely : Prop := msgBackRow.holds Tryz.pinned (OpenSpec.ofChange msgBackWrong)

/- THE SECOND FORM. 'bulk': how many values and letters a reading holds, each counted each time it is reached (what is shared counts as often as it is met; a slice's spare places count too). A statement '..UptoSaid' is the law's where the arguments, and the package variables that the reading takes, are together of bulk at most 1048576: NARROWER than '..Said'. Prove '..Said' where nothing that the law and all that it calls make is longer than what came in: it says more and counts as full. Else prove '..UptoSaid'. A law counts once. -/
mutual
def uptoBulk {H : Type} : DataW H → Nat
  | .lit (.string bytes) => bytes.length + 1
  | .lit _ => 1
  | .nil => 1
  | .ptr d => uptoBulk d + 1
  | .slice elems spare => uptoBulkAll elems + uptoBulkAll spare + 1
  | .agg parts => uptoBulkAll parts + 1
  | .iface _ d => uptoBulk d + 1
  | .map entries => uptoBulkEntries entries + 1
  | .held _ => 1
def uptoBulkAll {H : Type} : List (DataW H) → Nat
  | [] => 0
  | d :: r => uptoBulk d + uptoBulkAll r
def uptoBulkEntries {H : Type} : List (Lit × DataW H) → Nat
  | [] => 0
  | x :: r => uptoBulkEntry x + uptoBulkEntries r
def uptoBulkEntry {H : Type} : Lit × DataW H → Nat
  | (.string bytes, d) => bytes.length + uptoBulk d + 1
  | (_, d) => uptoBulk d + 1
 end
def uptoSmall : (H : Type) → List (DataW H) → Bool := fun _ ds => decide (uptoBulkAll ds ≤ 1048576)
def OpenSpec.upto (s : _root_.Go.ChangeSpec) : _root_.Go.OpenSpec := { _root_.Go.OpenSpec.ofChange s with cond := some uptoSmall }

/-- 'gavellaw06.MsgUnpacks', WHERE WHAT IT READS IS OF BULK AT MOST 1048576: true; the input reads as it did. -/
def msgUnpacksUptoRow : OpenClaim := { program := "ytnaoeginonpicaagreat", sum := "0f9c772b52321c75e928f8c963c826a6f98c8dbbcd3fae2b3b4f2c55048ec821", func := "gavel/gavellaw06.MsgUnpacks", spec := "msgUnpacks", unfollowed := true, recurses := true, apart := false, narrowed := true }
def MsgUnpacksUptoSaid : Prop := msgUnpacksUptoRow.holds Tryz.pinned (OpenSpec.upto msgUnpacksSpec)

/-- 'gavellaw06.MsgPacks', WHERE WHAT IT READS IS OF BULK AT MOST 1048576: true; the input reads as it did. -/
def msgPacksUptoRow : OpenClaim := { program := "ytnaoeginonpicaagreat", sum := "0f9c772b52321c75e928f8c963c826a6f98c8dbbcd3fae2b3b4f2c55048ec821", func := "gavel/gavellaw06.MsgPacks", spec := "msgPacks", unfollowed := true, recurses := true, apart := false, narrowed := true }
def MsgPacksUptoSaid : Prop := msgPacksUptoRow.holds Tryz.pinned (OpenSpec.upto msgPacksSpec)

/-- 'gavellaw06.MsgBack', WHERE WHAT IT READS IS OF BULK AT MOST 1048576: true; the input reads as it did. -/
def msgBackUptoRow : OpenClaim := { program := "ytnaoeginonpicaagreat", sum := "0f9c772b52321c75e928f8c963c826a6f98c8dbbcd3fae2b3b4f2c55048ec821", func := "gavel/gavellaw06.MsgBack", spec := "msgBack", unfollowed := true, recurses := true, apart := false, narrowed := true }
def MsgBackUptoSaid : Prop := msgBackUptoRow.holds Tryz.pinned (OpenSpec.upto msgBackSpec)

end Rows
end Go.Proofs.YtnaoeginonpicaaGreat
