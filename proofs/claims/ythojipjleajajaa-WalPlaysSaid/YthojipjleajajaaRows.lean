/-
  No cell of these rows narrows 'for every input' (looked for: loops, veiled, ifaces, maps, wideKeys, modest, calm, conditions, laid).
  DERIVED. THE GIVEN ROWS OF THIS SEAT. 5 by the template 'for every input the law returns true; each argument reads behind the call as it read before'; 0 by the template 'total and deterministic' (their statements: YthojipjleajajaaTotals.lean).
  GIVEN WITH THE SEED: the statements are not yours to turn. If you find one false, say at which input.
  Laid BY PROGRAM, IN A SANDBOX (cutbox-rows.mjs): the forced cells as the released guide's own fill.sh prints them over the translation 9117c890cd2987cc… (all of the seat's roots in one cut). By AI agents, Wed Nov 11 2026. No macro, syntax, notation, axiom, sorry.
-/
import Derived.Test.YthojipjleajajaaChecked
import GoSem.Claim
import GoSem.ClaimJoined
import GoSem.ClaimMapViews
import Derived.JoinedTies
import Derived.KernelRfl
namespace Go.Proofs.Ythojipjleajajaa
/- THE CELL 'sum', in the pinned program and in every row, IS THE sha256 OF THE DUMP (.gsa) THAT YthojipjleajajaaProg.lean LOADS. Nothing in Lean hashes anything: it is a label: what it is worth is what the hold of that sum in a sandbox is worth. -/
noncomputable def Try.pinned : Pinned := { name := "ythojipjleajajaa", sum := "9117c890cd2987cc17f93801d4604e21f6ee7e1d56518c6b52d015455c846a8b", checked := Try.checked }
namespace Rows
def none {H : Type} : Left H := { results := [], args := [] }

/-- 'gavellaw08.WalLong': WHATEVER THE INPUT: true; the input reads as it did. -/
def walLongSpec : ChangeSpec := { name := "walLong", fn := fun _ => fun
  | [d1, d2] => { results := [.lit (.bool true)], args := [d1, d2] }
  | _ => none }
def walLongRow : OpenClaim := { program := "ythojipjleajajaa", sum := "9117c890cd2987cc17f93801d4604e21f6ee7e1d56518c6b52d015455c846a8b", func := "gavel/gavellaw08.WalLong", spec := "walLong", apart := false }
def WalLongSaid : Prop := walLongRow.holds Try.pinned (OpenSpec.ofChange walLongSpec)

/-- ITS FALSE NEIGHBOUR: 'it returns false'. Refute it at one input. -/
def walLongWrong : ChangeSpec := { name := "walLong", fn := fun _ => fun
  | [d1, d2] => { results := [.lit (.bool false)], args := [d1, d2] }
  | _ => none }
def WalLongWrongFalsely : Prop := walLongRow.holds Try.pinned (OpenSpec.ofChange walLongWrong)

/-- 'gavellaw08.WalSplits': WHATEVER THE INPUT: true; the input reads as it did. -/
def walSplitsSpec : ChangeSpec := { name := "walSplits", fn := fun _ => fun
  | [d1, d2] => { results := [.lit (.bool true)], args := [d1, d2] }
  | _ => none }
def walSplitsRow : OpenClaim := { program := "ythojipjleajajaa", sum := "9117c890cd2987cc17f93801d4604e21f6ee7e1d56518c6b52d015455c846a8b", func := "gavel/gavellaw08.WalSplits", spec := "walSplits", apart := false }
def WalSplitsSaid : Prop := walSplitsRow.holds Try.pinned (OpenSpec.ofChange walSplitsSpec)

/-- ITS FALSE NEIGHBOUR: 'it returns false'. Refute it at one input. -/
def walSplitsWrong : ChangeSpec := { name := "walSplits", fn := fun _ => fun
  | [d1, d2] => { results := [.lit (.bool false)], args := [d1, d2] }
  | _ => none }
def WalSplitsWrongFalsely : Prop := walSplitsRow.holds Try.pinned (OpenSpec.ofChange walSplitsWrong)

/-- 'gavellaw08.WalRaw': WHATEVER THE INPUT: true; the input reads as it did. -/
def walRawSpec : ChangeSpec := { name := "walRaw", fn := fun _ => fun
  | [d1, d2, d3] => { results := [.lit (.bool true)], args := [d1, d2, d3] }
  | _ => none }
def walRawRow : OpenClaim := { program := "ythojipjleajajaa", sum := "9117c890cd2987cc17f93801d4604e21f6ee7e1d56518c6b52d015455c846a8b", func := "gavel/gavellaw08.WalRaw", spec := "walRaw", apart := false }
def WalRawSaid : Prop := walRawRow.holds Try.pinned (OpenSpec.ofChange walRawSpec)

/-- ITS FALSE NEIGHBOUR: 'it returns false'. Refute it at one input. -/
def walRawWrong : ChangeSpec := { name := "walRaw", fn := fun _ => fun
  | [d1, d2, d3] => { results := [.lit (.bool false)], args := [d1, d2, d3] }
  | _ => none }
def WalRawWrongFalsely : Prop := walRawRow.holds Try.pinned (OpenSpec.ofChange walRawWrong)

/-- 'gavellaw08.WalPlays': WHATEVER THE INPUT: true; the input reads as it did. -/
def walPlaysSpec : ChangeSpec := { name := "walPlays", fn := fun _ => fun
  | [d1, d2] => { results := [.lit (.bool true)], args := [d1, d2] }
  | _ => none }
def walPlaysRow : OpenClaim := { program := "ythojipjleajajaa", sum := "9117c890cd2987cc17f93801d4604e21f6ee7e1d56518c6b52d015455c846a8b", func := "gavel/gavellaw08.WalPlays", spec := "walPlays", apart := false }
def WalPlaysSaid : Prop := walPlaysRow.holds Try.pinned (OpenSpec.ofChange walPlaysSpec)

/-- ITS FALSE NEIGHBOUR: 'it returns false'. Refute it at one input. -/
def walPlaysWrong : ChangeSpec := { name := "walPlays", fn := fun _ => fun
  | [d1, d2] => { results := [.lit (.bool false)], args := [d1, d2] }
  | _ => none }
def WalPlaysWrongFalsely : Prop := walPlaysRow.holds Try.pinned (OpenSpec.ofChange walPlaysWrong)

/-- 'gavellaw08.WalTrue': WHATEVER THE INPUT: true; the input reads as it did. -/
def walTrueSpec : ChangeSpec := { name := "walTrue", fn := fun _ => fun
  | [d] => { results := [.lit (.bool true)], args := [d] }
  | _ => none }
def walTrueRow : OpenClaim := { program := "ythojipjleajajaa", sum := "9117c890cd2987cc17f93801d4604e21f6ee7e1d56518c6b52d015455c846a8b", func := "gavel/gavellaw08.WalTrue", spec := "walTrue", apart := false }
def WalTrueSaid : Prop := walTrueRow.holds Try.pinned (OpenSpec.ofChange walTrueSpec)

/-- ITS FALSE NEIGHBOUR: 'it returns false'. Refute it at one input. -/
def walTrueWrong : ChangeSpec := { name := "walTrue", fn := fun _ => fun
  | [d] => { results := [.lit (.bool false)], args := [d] }
  | _ => none }
def WalTrueWrongFalsely : Prop := walTrueRow.holds Try.pinned (OpenSpec.ofChange walTrueWrong)

/- THE SECOND FORM. 'bulk': how many values and letters a reading holds, each counted each time it is reached (what is shared counts as often as it is met; a slice's spare places count too). A statement '..UptoSaid' is the law's where the arguments, and the package variables that the reading takes, are together of bulk at most 1048576: NARROWER than '..Said'. Prove '..Said' where nothing that the law and all that it calls make is longer than what came in: it says more and counts as full. Else prove '..UptoSaid'. A law counts once. -/
mutual
def uptoBulk {H : Type} : DataW H → Nat
  | .lit (.string bytes) => bytes.length + 1
  | .lit _ => 1
  | .nil => 1
  | .ptr d => uptoBulk d + 1
  | .slice elems spare => uptoBulkAll elems + uptoBulkAll spare + 1
  | .agg parts => uptoBulkAll parts + 1
  | .iface _ d => uptoBulk d + 1
  | .map entries => uptoBulkEntries entries + 1
  | .held _ => 1
def uptoBulkAll {H : Type} : List (DataW H) → Nat
  | [] => 0
  | d :: r => uptoBulk d + uptoBulkAll r
def uptoBulkEntries {H : Type} : List (Lit × DataW H) → Nat
  | [] => 0
  | x :: r => uptoBulkEntry x + uptoBulkEntries r
def uptoBulkEntry {H : Type} : Lit × DataW H → Nat
  | (.string bytes, d) => bytes.length + uptoBulk d + 1
  | (_, d) => uptoBulk d + 1
 end
def uptoSmall : (H : Type) → List (DataW H) → Bool := fun _ ds => decide (uptoBulkAll ds ≤ 1048576)
def OpenSpec.upto (s : _root_.Go.ChangeSpec) : _root_.Go.OpenSpec := { _root_.Go.OpenSpec.ofChange s with cond := some uptoSmall }

/-- 'gavellaw08.WalLong', WHERE WHAT IT READS IS OF BULK AT MOST 1048576: true; the input reads as it did. -/
def walLongUptoRow : OpenClaim := { program := "ythojipjleajajaa", sum := "9117c890cd2987cc17f93801d4604e21f6ee7e1d56518c6b52d015455c846a8b", func := "gavel/gavellaw08.WalLong", spec := "walLong", apart := false, narrowed := true }
def WalLongUptoSaid : Prop := walLongUptoRow.holds Try.pinned (OpenSpec.upto walLongSpec)

/-- 'gavellaw08.WalSplits', WHERE WHAT IT READS IS OF BULK AT MOST 1048576: true; the input reads as it did. -/
def walSplitsUptoRow : OpenClaim := { program := "ythojipjleajajaa", sum := "9117c890cd2987cc17f93801d4604e21f6ee7e1d56518c6b52d015455c846a8b", func := "gavel/gavellaw08.WalSplits", spec := "walSplits", apart := false, narrowed := true }
def WalSplitsUptoSaid : Prop := walSplitsUptoRow.holds Try.pinned (OpenSpec.upto walSplitsSpec)

/-- 'gavellaw08.WalRaw', WHERE WHAT IT READS IS OF BULK AT MOST 1048576: true; the input reads as it did. -/
def walRawUptoRow : OpenClaim := { program := "ythojipjleajajaa", sum := "9117c890cd2987cc17f93801d4604e21f6ee7e1d56518c6b52d015455c846a8b", func := "gavel/gavellaw08.WalRaw", spec := "walRaw", apart := false, narrowed := true }
def WalRawUptoSaid : Prop := walRawUptoRow.holds Try.pinned (OpenSpec.upto walRawSpec)

/-- 'gavellaw08.WalPlays', WHERE WHAT IT READS IS OF BULK AT MOST 1048576: true; the input reads as it did. -/
def walPlaysUptoRow : OpenClaim := { program := "ythojipjleajajaa", sum := "9117c890cd2987cc17f93801d4604e21f6ee7e1d56518c6b52d015455c846a8b", func := "gavel/gavellaw08.WalPlays", spec := "walPlays", apart := false, narrowed := true }
def WalPlaysUptoSaid : Prop := walPlaysUptoRow.holds Try.pinned (OpenSpec.upto walPlaysSpec)

/-- 'gavellaw08.WalTrue', WHERE WHAT IT READS IS OF BULK AT MOST 1048576: true; the input reads as it did. -/
def walTrueUptoRow : OpenClaim := { program := "ythojipjleajajaa", sum := "9117c890cd2987cc17f93801d4604e21f6ee7e1d56518c6b52d015455c846a8b", func := "gavel/gavellaw08.WalTrue", spec := "walTrue", apart := false, narrowed := true }
def WalTrueUptoSaid : Prop := walTrueUptoRow.holds Try.pinned (OpenSpec.upto walTrueSpec)

end Rows
end Go.Proofs.Ythojipjleajajaa
