/-
  No cell of these rows narrows 'for every input' (looked for: loops, veiled, ifaces, maps, wideKeys, modest, calm, conditions, laid).
  DERIVED. THE GIVEN ROWS OF THIS SEAT. 11 by the template 'for every input the law returns true; each argument reads behind the call as it read before'; 0 by the template 'total and deterministic' (their statements: YtgnmdnmmemdemaaTotals.lean).
  GIVEN WITH THE SEED: the statements are not yours to turn. If you find one false, say at which input.
  Laid BY PROGRAM, IN A SANDBOX (cutbox-rows.mjs): the forced cells as the released guide's own fill.sh prints them over the translation c3abe76a86539d2c… (all of the seat's roots in one cut). By AI agents, Wed Nov 11 2026. No macro, syntax, notation, axiom, sorry.
-/
import Derived.Test.YtgnmdnmmemdemaaChecked
import GoSem.Claim
import GoSem.ClaimJoined
import GoSem.ClaimMapViews
import Derived.JoinedTies
import Derived.KernelRfl
namespace Go.Proofs.Ytgnmdnmmemdemaa
/- THE CELL 'sum', in the pinned program and in every row, IS THE sha256 OF THE DUMP (.gsa) THAT YtgnmdnmmemdemaaProg.lean LOADS. Nothing in Lean hashes anything: it is a label: what it is worth is what the hold of that sum in a sandbox is worth. -/
noncomputable def Try.pinned : Pinned := { name := "ytgnmdnmmemdemaa", sum := "c3abe76a86539d2c8847b4ade784dfb982128800b63f4503f606eefb3fd5d8d5", checked := Try.checked }
namespace Rows
def none {H : Type} : Left H := { results := [], args := [] }

/-- 'gavellaw04.CommitLimits': WHATEVER THE INPUT: true; the input reads as it did. -/
def commitLimitsSpec : ChangeSpec := { name := "commitLimits", fn := fun _ => fun
  | [d1, d2, d3, d4] => { results := [.lit (.bool true)], args := [d1, d2, d3, d4] }
  | _ => none }
def commitLimitsRow : OpenClaim := { program := "ytgnmdnmmemdemaa", sum := "c3abe76a86539d2c8847b4ade784dfb982128800b63f4503f606eefb3fd5d8d5", func := "gavel/gavellaw04.CommitLimits", spec := "commitLimits", plainKeys := false, apart := false }
def CommitLimitsSaid : Prop := commitLimitsRow.holds Try.pinned (OpenSpec.ofChange commitLimitsSpec)

/-- ITS FALSE NEIGHBOUR: 'it returns false'. Refute it at one input. -/
def commitLimitsWrong : ChangeSpec := { name := "commitLimits", fn := fun _ => fun
  | [d1, d2, d3, d4] => { results := [.lit (.bool false)], args := [d1, d2, d3, d4] }
  | _ => none }
def CommitLimitsWrongFalsely : Prop := commitLimitsRow.holds Try.pinned (OpenSpec.ofChange commitLimitsWrong)

/-- 'gavellaw04.CommitRight': WHATEVER THE INPUT: true; the input reads as it did. -/
def commitRightSpec : ChangeSpec := { name := "commitRight", fn := fun _ => fun
  | [d1, d2, d3, d4, d5, d6] => { results := [.lit (.bool true)], args := [d1, d2, d3, d4, d5, d6] }
  | _ => none }
def commitRightRow : OpenClaim := { program := "ytgnmdnmmemdemaa", sum := "c3abe76a86539d2c8847b4ade784dfb982128800b63f4503f606eefb3fd5d8d5", func := "gavel/gavellaw04.CommitRight", spec := "commitRight", plainKeys := false, apart := false }
def CommitRightSaid : Prop := commitRightRow.holds Try.pinned (OpenSpec.ofChange commitRightSpec)

/-- ITS FALSE NEIGHBOUR: 'it returns false'. Refute it at one input. -/
def commitRightWrong : ChangeSpec := { name := "commitRight", fn := fun _ => fun
  | [d1, d2, d3, d4, d5, d6] => { results := [.lit (.bool false)], args := [d1, d2, d3, d4, d5, d6] }
  | _ => none }
def CommitRightWrongFalsely : Prop := commitRightRow.holds Try.pinned (OpenSpec.ofChange commitRightWrong)

/-- 'gavellaw04.CommitOf': WHATEVER THE INPUT: true; the input reads as it did. -/
def commitOfSpec : ChangeSpec := { name := "commitOf", fn := fun _ => fun
  | [d1, d2, d3, d4, d5, d6, d7] => { results := [.lit (.bool true)], args := [d1, d2, d3, d4, d5, d6, d7] }
  | _ => none }
def commitOfRow : OpenClaim := { program := "ytgnmdnmmemdemaa", sum := "c3abe76a86539d2c8847b4ade784dfb982128800b63f4503f606eefb3fd5d8d5", func := "gavel/gavellaw04.CommitOf", spec := "commitOf", plainKeys := false, apart := false }
def CommitOfSaid : Prop := commitOfRow.holds Try.pinned (OpenSpec.ofChange commitOfSpec)

/-- ITS FALSE NEIGHBOUR: 'it returns false'. Refute it at one input. -/
def commitOfWrong : ChangeSpec := { name := "commitOf", fn := fun _ => fun
  | [d1, d2, d3, d4, d5, d6, d7] => { results := [.lit (.bool false)], args := [d1, d2, d3, d4, d5, d6, d7] }
  | _ => none }
def CommitOfWrongFalsely : Prop := commitOfRow.holds Try.pinned (OpenSpec.ofChange commitOfWrong)

/-- 'gavellaw04.CommitUnlike': WHATEVER THE INPUT: true; the input reads as it did. -/
def commitUnlikeSpec : ChangeSpec := { name := "commitUnlike", fn := fun _ => fun
  | [d1, d2, d3, d4, d5, d6] => { results := [.lit (.bool true)], args := [d1, d2, d3, d4, d5, d6] }
  | _ => none }
def commitUnlikeRow : OpenClaim := { program := "ytgnmdnmmemdemaa", sum := "c3abe76a86539d2c8847b4ade784dfb982128800b63f4503f606eefb3fd5d8d5", func := "gavel/gavellaw04.CommitUnlike", spec := "commitUnlike", plainKeys := false, apart := false }
def CommitUnlikeSaid : Prop := commitUnlikeRow.holds Try.pinned (OpenSpec.ofChange commitUnlikeSpec)

/-- ITS FALSE NEIGHBOUR: 'it returns false'. Refute it at one input. -/
def commitUnlikeWrong : ChangeSpec := { name := "commitUnlike", fn := fun _ => fun
  | [d1, d2, d3, d4, d5, d6] => { results := [.lit (.bool false)], args := [d1, d2, d3, d4, d5, d6] }
  | _ => none }
def CommitUnlikeWrongFalsely : Prop := commitUnlikeRow.holds Try.pinned (OpenSpec.ofChange commitUnlikeWrong)

/-- 'gavellaw04.CommitOpens': WHATEVER THE INPUT: true; the input reads as it did. -/
def commitOpensSpec : ChangeSpec := { name := "commitOpens", fn := fun _ => fun
  | [d1, d2, d3, d4] => { results := [.lit (.bool true)], args := [d1, d2, d3, d4] }
  | _ => none }
def commitOpensRow : OpenClaim := { program := "ytgnmdnmmemdemaa", sum := "c3abe76a86539d2c8847b4ade784dfb982128800b63f4503f606eefb3fd5d8d5", func := "gavel/gavellaw04.CommitOpens", spec := "commitOpens", plainKeys := false, apart := false }
def CommitOpensSaid : Prop := commitOpensRow.holds Try.pinned (OpenSpec.ofChange commitOpensSpec)

/-- ITS FALSE NEIGHBOUR: 'it returns false'. Refute it at one input. -/
def commitOpensWrong : ChangeSpec := { name := "commitOpens", fn := fun _ => fun
  | [d1, d2, d3, d4] => { results := [.lit (.bool false)], args := [d1, d2, d3, d4] }
  | _ => none }
def CommitOpensWrongFalsely : Prop := commitOpensRow.holds Try.pinned (OpenSpec.ofChange commitOpensWrong)

/-- 'gavellaw04.CommitAgain': WHATEVER THE INPUT: true; the input reads as it did. -/
def commitAgainSpec : ChangeSpec := { name := "commitAgain", fn := fun _ => fun
  | [d1, d2, d3, d4] => { results := [.lit (.bool true)], args := [d1, d2, d3, d4] }
  | _ => none }
def commitAgainRow : OpenClaim := { program := "ytgnmdnmmemdemaa", sum := "c3abe76a86539d2c8847b4ade784dfb982128800b63f4503f606eefb3fd5d8d5", func := "gavel/gavellaw04.CommitAgain", spec := "commitAgain", plainKeys := false, apart := false }
def CommitAgainSaid : Prop := commitAgainRow.holds Try.pinned (OpenSpec.ofChange commitAgainSpec)

/-- ITS FALSE NEIGHBOUR: 'it returns false'. Refute it at one input. -/
def commitAgainWrong : ChangeSpec := { name := "commitAgain", fn := fun _ => fun
  | [d1, d2, d3, d4] => { results := [.lit (.bool false)], args := [d1, d2, d3, d4] }
  | _ => none }
def CommitAgainWrongFalsely : Prop := commitAgainRow.holds Try.pinned (OpenSpec.ofChange commitAgainWrong)

/-- 'gavellaw08.WalLong': WHATEVER THE INPUT: true; the input reads as it did. -/
def walLongSpec : ChangeSpec := { name := "walLong", fn := fun _ => fun
  | [d1, d2] => { results := [.lit (.bool true)], args := [d1, d2] }
  | _ => none }
def walLongRow : OpenClaim := { program := "ytgnmdnmmemdemaa", sum := "c3abe76a86539d2c8847b4ade784dfb982128800b63f4503f606eefb3fd5d8d5", func := "gavel/gavellaw08.WalLong", spec := "walLong", plainKeys := false, apart := false }
def WalLongSaid : Prop := walLongRow.holds Try.pinned (OpenSpec.ofChange walLongSpec)

/-- ITS FALSE NEIGHBOUR: 'it returns false'. Refute it at one input. -/
def walLongWrong : ChangeSpec := { name := "walLong", fn := fun _ => fun
  | [d1, d2] => { results := [.lit (.bool false)], args := [d1, d2] }
  | _ => none }
def WalLongWrongFalsely : Prop := walLongRow.holds Try.pinned (OpenSpec.ofChange walLongWrong)

/-- 'gavellaw08.WalSplits': WHATEVER THE INPUT: true; the input reads as it did. -/
def walSplitsSpec : ChangeSpec := { name := "walSplits", fn := fun _ => fun
  | [d1, d2] => { results := [.lit (.bool true)], args := [d1, d2] }
  | _ => none }
def walSplitsRow : OpenClaim := { program := "ytgnmdnmmemdemaa", sum := "c3abe76a86539d2c8847b4ade784dfb982128800b63f4503f606eefb3fd5d8d5", func := "gavel/gavellaw08.WalSplits", spec := "walSplits", plainKeys := false, apart := false }
def WalSplitsSaid : Prop := walSplitsRow.holds Try.pinned (OpenSpec.ofChange walSplitsSpec)

/-- ITS FALSE NEIGHBOUR: 'it returns false'. Refute it at one input. -/
def walSplitsWrong : ChangeSpec := { name := "walSplits", fn := fun _ => fun
  | [d1, d2] => { results := [.lit (.bool false)], args := [d1, d2] }
  | _ => none }
def WalSplitsWrongFalsely : Prop := walSplitsRow.holds Try.pinned (OpenSpec.ofChange walSplitsWrong)

/-- 'gavellaw08.WalRaw': WHATEVER THE INPUT: true; the input reads as it did. -/
def walRawSpec : ChangeSpec := { name := "walRaw", fn := fun _ => fun
  | [d1, d2, d3] => { results := [.lit (.bool true)], args := [d1, d2, d3] }
  | _ => none }
def walRawRow : OpenClaim := { program := "ytgnmdnmmemdemaa", sum := "c3abe76a86539d2c8847b4ade784dfb982128800b63f4503f606eefb3fd5d8d5", func := "gavel/gavellaw08.WalRaw", spec := "walRaw", plainKeys := false, apart := false }
def WalRawSaid : Prop := walRawRow.holds Try.pinned (OpenSpec.ofChange walRawSpec)

/-- ITS FALSE NEIGHBOUR: 'it returns false'. Refute it at one input. -/
def walRawWrong : ChangeSpec := { name := "walRaw", fn := fun _ => fun
  | [d1, d2, d3] => { results := [.lit (.bool false)], args := [d1, d2, d3] }
  | _ => none }
def WalRawWrongFalsely : Prop := walRawRow.holds Try.pinned (OpenSpec.ofChange walRawWrong)

/-- 'gavellaw08.WalPlays': WHATEVER THE INPUT: true; the input reads as it did. -/
def walPlaysSpec : ChangeSpec := { name := "walPlays", fn := fun _ => fun
  | [d1, d2] => { results := [.lit (.bool true)], args := [d1, d2] }
  | _ => none }
def walPlaysRow : OpenClaim := { program := "ytgnmdnmmemdemaa", sum := "c3abe76a86539d2c8847b4ade784dfb982128800b63f4503f606eefb3fd5d8d5", func := "gavel/gavellaw08.WalPlays", spec := "walPlays", plainKeys := false, apart := false }
def WalPlaysSaid : Prop := walPlaysRow.holds Try.pinned (OpenSpec.ofChange walPlaysSpec)

/-- ITS FALSE NEIGHBOUR: 'it returns false'. Refute it at one input. -/
def walPlaysWrong : ChangeSpec := { name := "walPlays", fn := fun _ => fun
  | [d1, d2] => { results := [.lit (.bool false)], args := [d1, d2] }
  | _ => none }
def WalPlaysWrongFalsely : Prop := walPlaysRow.holds Try.pinned (OpenSpec.ofChange walPlaysWrong)

/-- 'gavellaw08.WalTrue': WHATEVER THE INPUT: true; the input reads as it did. -/
def walTrueSpec : ChangeSpec := { name := "walTrue", fn := fun _ => fun
  | [d] => { results := [.lit (.bool true)], args := [d] }
  | _ => none }
def walTrueRow : OpenClaim := { program := "ytgnmdnmmemdemaa", sum := "c3abe76a86539d2c8847b4ade784dfb982128800b63f4503f606eefb3fd5d8d5", func := "gavel/gavellaw08.WalTrue", spec := "walTrue", plainKeys := false, apart := false }
def WalTrueSaid : Prop := walTrueRow.holds Try.pinned (OpenSpec.ofChange walTrueSpec)

/-- ITS FALSE NEIGHBOUR: 'it returns false'. Refute it at one input. -/
def walTrueWrong : ChangeSpec := { name := "walTrue", fn := fun _ => fun
  | [d] => { results := [.lit (.bool false)], args := [d] }
  | _ => none }
def WalTrueWrongFalsely : Prop := walTrueRow.holds Try.pinned (OpenSpec.ofChange walTrueWrong)

/- THE SECOND FORM. 'bulk': how many values and letters a reading holds, each counted each time it is reached (what is shared counts as often as it is met; a slice's spare places count too). A statement '..UptoSaid' is the law's where the arguments, and the package variables that the reading takes, are together of bulk at most 1048576: NARROWER than '..Said'. Prove '..Said' where nothing that the law and all that it calls make is longer than what came in: it says more and counts as full. Else prove '..UptoSaid'. A law counts once. -/
mutual
def uptoBulk {H : Type} : DataW H → Nat
  | .lit (.string bytes) => bytes.length + 1
  | .lit _ => 1
  | .nil => 1
  | .ptr d => uptoBulk d + 1
  | .slice elems spare => uptoBulkAll elems + uptoBulkAll spare + 1
  | .agg parts => uptoBulkAll parts + 1
  | .iface _ d => uptoBulk d + 1
  | .map entries => uptoBulkEntries entries + 1
  | .held _ => 1
def uptoBulkAll {H : Type} : List (DataW H) → Nat
  | [] => 0
  | d :: r => uptoBulk d + uptoBulkAll r
def uptoBulkEntries {H : Type} : List (Lit × DataW H) → Nat
  | [] => 0
  | x :: r => uptoBulkEntry x + uptoBulkEntries r
def uptoBulkEntry {H : Type} : Lit × DataW H → Nat
  | (.string bytes, d) => bytes.length + uptoBulk d + 1
  | (_, d) => uptoBulk d + 1
 end
def uptoSmall : (H : Type) → List (DataW H) → Bool := fun _ ds => decide (uptoBulkAll ds ≤ 1048576)
def OpenSpec.upto (s : _root_.Go.ChangeSpec) : _root_.Go.OpenSpec := { _root_.Go.OpenSpec.ofChange s with cond := some uptoSmall }

/-- 'gavellaw04.CommitLimits', WHERE WHAT IT READS IS OF BULK AT MOST 1048576: true; the input reads as it did. -/
def commitLimitsUptoRow : OpenClaim := { program := "ytgnmdnmmemdemaa", sum := "c3abe76a86539d2c8847b4ade784dfb982128800b63f4503f606eefb3fd5d8d5", func := "gavel/gavellaw04.CommitLimits", spec := "commitLimits", plainKeys := false, apart := false, narrowed := true }
def CommitLimitsUptoSaid : Prop := commitLimitsUptoRow.holds Try.pinned (OpenSpec.upto commitLimitsSpec)

/-- 'gavellaw04.CommitRight', WHERE WHAT IT READS IS OF BULK AT MOST 1048576: true; the input reads as it did. -/
def commitRightUptoRow : OpenClaim := { program := "ytgnmdnmmemdemaa", sum := "c3abe76a86539d2c8847b4ade784dfb982128800b63f4503f606eefb3fd5d8d5", func := "gavel/gavellaw04.CommitRight", spec := "commitRight", plainKeys := false, apart := false, narrowed := true }
def CommitRightUptoSaid : Prop := commitRightUptoRow.holds Try.pinned (OpenSpec.upto commitRightSpec)

/-- 'gavellaw04.CommitOf', WHERE WHAT IT READS IS OF BULK AT MOST 1048576: true; the input reads as it did. -/
def commitOfUptoRow : OpenClaim := { program := "ytgnmdnmmemdemaa", sum := "c3abe76a86539d2c8847b4ade784dfb982128800b63f4503f606eefb3fd5d8d5", func := "gavel/gavellaw04.CommitOf", spec := "commitOf", plainKeys := false, apart := false, narrowed := true }
def CommitOfUptoSaid : Prop := commitOfUptoRow.holds Try.pinned (OpenSpec.upto commitOfSpec)

/-- 'gavellaw04.CommitUnlike', WHERE WHAT IT READS IS OF BULK AT MOST 1048576: true; the input reads as it did. -/
def commitUnlikeUptoRow : OpenClaim := { program := "ytgnmdnmmemdemaa", sum := "c3abe76a86539d2c8847b4ade784dfb982128800b63f4503f606eefb3fd5d8d5", func := "gavel/gavellaw04.CommitUnlike", spec := "commitUnlike", plainKeys := false, apart := false, narrowed := true }
def CommitUnlikeUptoSaid : Prop := commitUnlikeUptoRow.holds Try.pinned (OpenSpec.upto commitUnlikeSpec)

/-- 'gavellaw04.CommitOpens', WHERE WHAT IT READS IS OF BULK AT MOST 1048576: true; the input reads as it did. -/
def commitOpensUptoRow : OpenClaim := { program := "ytgnmdnmmemdemaa", sum := "c3abe76a86539d2c8847b4ade784dfb982128800b63f4503f606eefb3fd5d8d5", func := "gavel/gavellaw04.CommitOpens", spec := "commitOpens", plainKeys := false, apart := false, narrowed := true }
def CommitOpensUptoSaid : Prop := commitOpensUptoRow.holds Try.pinned (OpenSpec.upto commitOpensSpec)

/-- 'gavellaw04.CommitAgain', WHERE WHAT IT READS IS OF BULK AT MOST 1048576: true; the input reads as it did. -/
def commitAgainUptoRow : OpenClaim := { program := "ytgnmdnmmemdemaa", sum := "c3abe76a86539d2c8847b4ade784dfb982128800b63f4503f606eefb3fd5d8d5", func := "gavel/gavellaw04.CommitAgain", spec := "commitAgain", plainKeys := false, apart := false, narrowed := true }
def CommitAgainUptoSaid : Prop := commitAgainUptoRow.holds Try.pinned (OpenSpec.upto commitAgainSpec)

/-- 'gavellaw08.WalLong', WHERE WHAT IT READS IS OF BULK AT MOST 1048576: true; the input reads as it did. -/
def walLongUptoRow : OpenClaim := { program := "ytgnmdnmmemdemaa", sum := "c3abe76a86539d2c8847b4ade784dfb982128800b63f4503f606eefb3fd5d8d5", func := "gavel/gavellaw08.WalLong", spec := "walLong", plainKeys := false, apart := false, narrowed := true }
def WalLongUptoSaid : Prop := walLongUptoRow.holds Try.pinned (OpenSpec.upto walLongSpec)

/-- 'gavellaw08.WalSplits', WHERE WHAT IT READS IS OF BULK AT MOST 1048576: true; the input reads as it did. -/
def walSplitsUptoRow : OpenClaim := { program := "ytgnmdnmmemdemaa", sum := "c3abe76a86539d2c8847b4ade784dfb982128800b63f4503f606eefb3fd5d8d5", func := "gavel/gavellaw08.WalSplits", spec := "walSplits", plainKeys := false, apart := false, narrowed := true }
def WalSplitsUptoSaid : Prop := walSplitsUptoRow.holds Try.pinned (OpenSpec.upto walSplitsSpec)

/-- 'gavellaw08.WalRaw', WHERE WHAT IT READS IS OF BULK AT MOST 1048576: true; the input reads as it did. -/
def walRawUptoRow : OpenClaim := { program := "ytgnmdnmmemdemaa", sum := "c3abe76a86539d2c8847b4ade784dfb982128800b63f4503f606eefb3fd5d8d5", func := "gavel/gavellaw08.WalRaw", spec := "walRaw", plainKeys := false, apart := false, narrowed := true }
def WalRawUptoSaid : Prop := walRawUptoRow.holds Try.pinned (OpenSpec.upto walRawSpec)

/-- 'gavellaw08.WalPlays', WHERE WHAT IT READS IS OF BULK AT MOST 1048576: true; the input reads as it did. -/
def walPlaysUptoRow : OpenClaim := { program := "ytgnmdnmmemdemaa", sum := "c3abe76a86539d2c8847b4ade784dfb982128800b63f4503f606eefb3fd5d8d5", func := "gavel/gavellaw08.WalPlays", spec := "walPlays", plainKeys := false, apart := false, narrowed := true }
def WalPlaysUptoSaid : Prop := walPlaysUptoRow.holds Try.pinned (OpenSpec.upto walPlaysSpec)

/-- 'gavellaw08.WalTrue', WHERE WHAT IT READS IS OF BULK AT MOST 1048576: true; the input reads as it did. -/
def walTrueUptoRow : OpenClaim := { program := "ytgnmdnmmemdemaa", sum := "c3abe76a86539d2c8847b4ade784dfb982128800b63f4503f606eefb3fd5d8d5", func := "gavel/gavellaw08.WalTrue", spec := "walTrue", plainKeys := false, apart := false, narrowed := true }
def WalTrueUptoSaid : Prop := walTrueUptoRow.holds Try.pinned (OpenSpec.upto walTrueSpec)

end Rows
end Go.Proofs.Ytgnmdnmmemdemaa
