/-
  No cell of these rows narrows 'for every input' (looked for: loops, veiled, ifaces, maps, wideKeys, modest, calm, conditions, laid).
  DERIVED. THE GIVEN ROWS OF THIS SEAT. 5 by the template 'for every input the law returns true; each argument reads behind the call as it read before'; 0 by the template 'total and deterministic' (their statements: YtbifincepglilaaTotals.lean).
  GIVEN WITH THE SEED: the statements are not yours to turn. If you find one false, say at which input.
  Laid BY PROGRAM, IN A SANDBOX (cutbox-rows.mjs): the forced cells as the released guide's own fill.sh prints them over the translation 69dd3d9ae1aa5056… (all of the seat's roots in one cut). By AI agents, Wed Nov 11 2026. No macro, syntax, notation, axiom, sorry.
-/
import Derived.Test.YtbifincepglilaaChecked
import GoSem.Claim
import GoSem.ClaimJoined
import GoSem.ClaimMapViews
import Derived.JoinedTies
import Derived.KernelRfl
namespace Go.Proofs.Ytbifincepglilaa
/- THE CELL 'sum', in the pinned program and in every row, IS THE sha256 OF THE DUMP (.gsa) THAT YtbifincepglilaaProg.lean LOADS. Nothing in Lean hashes anything: it is a label: what it is worth is what the hold of that sum in a sandbox is worth. -/
noncomputable def Try.pinned : Pinned := { name := "ytbifincepglilaa", sum := "69dd3d9ae1aa505636cd68ed3ad5dd08e20e17c818866f7b4826470ed0ad86c3", checked := Try.checked }
namespace Rows
def none {H : Type} : Left H := { results := [], args := [] }

/-- 'gavellaw09.StampOrder': WHATEVER THE INPUT: true; the input reads as it did. -/
def stampOrderSpec : ChangeSpec := { name := "stampOrder", fn := fun _ => fun
  | [d1, d2, d3, d4] => { results := [.lit (.bool true)], args := [d1, d2, d3, d4] }
  | _ => none }
def stampOrderRow : OpenClaim := { program := "ytbifincepglilaa", sum := "69dd3d9ae1aa505636cd68ed3ad5dd08e20e17c818866f7b4826470ed0ad86c3", func := "gavel/gavellaw09.StampOrder", spec := "stampOrder", plainKeys := false, apart := false }
def StampOrderSaid : Prop := stampOrderRow.holds Try.pinned (OpenSpec.ofChange stampOrderSpec)

/-- ITS FALSE NEIGHBOUR: 'it returns false'. Refute it at one input. -/
def stampOrderWrong : ChangeSpec := { name := "stampOrder", fn := fun _ => fun
  | [d1, d2, d3, d4] => { results := [.lit (.bool false)], args := [d1, d2, d3, d4] }
  | _ => none }
def StampOrderWrongFalsely : Prop := stampOrderRow.holds Try.pinned (OpenSpec.ofChange stampOrderWrong)

/-- 'gavellaw09.StampEnd': WHATEVER THE INPUT: true; the input reads as it did. -/
def stampEndSpec : ChangeSpec := { name := "stampEnd", fn := fun _ => fun
  | [d1, d2] => { results := [.lit (.bool true)], args := [d1, d2] }
  | _ => none }
def stampEndRow : OpenClaim := { program := "ytbifincepglilaa", sum := "69dd3d9ae1aa505636cd68ed3ad5dd08e20e17c818866f7b4826470ed0ad86c3", func := "gavel/gavellaw09.StampEnd", spec := "stampEnd", plainKeys := false, apart := false }
def StampEndSaid : Prop := stampEndRow.holds Try.pinned (OpenSpec.ofChange stampEndSpec)

/-- ITS FALSE NEIGHBOUR: 'it returns false'. Refute it at one input. -/
def stampEndWrong : ChangeSpec := { name := "stampEnd", fn := fun _ => fun
  | [d1, d2] => { results := [.lit (.bool false)], args := [d1, d2] }
  | _ => none }
def StampEndWrongFalsely : Prop := stampEndRow.holds Try.pinned (OpenSpec.ofChange stampEndWrong)

/-- 'gavellaw09.StampRises': WHATEVER THE INPUT: true; the input reads as it did. -/
def stampRisesSpec : ChangeSpec := { name := "stampRises", fn := fun _ => fun
  | [d] => { results := [.lit (.bool true)], args := [d] }
  | _ => none }
def stampRisesRow : OpenClaim := { program := "ytbifincepglilaa", sum := "69dd3d9ae1aa505636cd68ed3ad5dd08e20e17c818866f7b4826470ed0ad86c3", func := "gavel/gavellaw09.StampRises", spec := "stampRises", plainKeys := false, apart := false }
def StampRisesSaid : Prop := stampRisesRow.holds Try.pinned (OpenSpec.ofChange stampRisesSpec)

/-- ITS FALSE NEIGHBOUR: 'it returns false'. Refute it at one input. -/
def stampRisesWrong : ChangeSpec := { name := "stampRises", fn := fun _ => fun
  | [d] => { results := [.lit (.bool false)], args := [d] }
  | _ => none }
def StampRisesWrongFalsely : Prop := stampRisesRow.holds Try.pinned (OpenSpec.ofChange stampRisesWrong)

/-- 'gavellaw09.StampKeeps': WHATEVER THE INPUT: true; the input reads as it did. -/
def stampKeepsSpec : ChangeSpec := { name := "stampKeeps", fn := fun _ => fun
  | [d] => { results := [.lit (.bool true)], args := [d] }
  | _ => none }
def stampKeepsRow : OpenClaim := { program := "ytbifincepglilaa", sum := "69dd3d9ae1aa505636cd68ed3ad5dd08e20e17c818866f7b4826470ed0ad86c3", func := "gavel/gavellaw09.StampKeeps", spec := "stampKeeps", plainKeys := false, apart := false }
def StampKeepsSaid : Prop := stampKeepsRow.holds Try.pinned (OpenSpec.ofChange stampKeepsSpec)

/-- ITS FALSE NEIGHBOUR: 'it returns false'. Refute it at one input. -/
def stampKeepsWrong : ChangeSpec := { name := "stampKeeps", fn := fun _ => fun
  | [d] => { results := [.lit (.bool false)], args := [d] }
  | _ => none }
def StampKeepsWrongFalsely : Prop := stampKeepsRow.holds Try.pinned (OpenSpec.ofChange stampKeepsWrong)

/-- 'gavellaw09.StampPlays': WHATEVER THE INPUT: true; the input reads as it did. -/
def stampPlaysSpec : ChangeSpec := { name := "stampPlays", fn := fun _ => fun
  | [d1, d2, d3, d4] => { results := [.lit (.bool true)], args := [d1, d2, d3, d4] }
  | _ => none }
def stampPlaysRow : OpenClaim := { program := "ytbifincepglilaa", sum := "69dd3d9ae1aa505636cd68ed3ad5dd08e20e17c818866f7b4826470ed0ad86c3", func := "gavel/gavellaw09.StampPlays", spec := "stampPlays", inPlace := ["maps.clone"], plainKeys := false, apart := false }
def StampPlaysSaid : Prop := stampPlaysRow.holds Try.pinned (OpenSpec.ofChange stampPlaysSpec)

/-- ITS FALSE NEIGHBOUR: 'it returns false'. Refute it at one input. -/
def stampPlaysWrong : ChangeSpec := { name := "stampPlays", fn := fun _ => fun
  | [d1, d2, d3, d4] => { results := [.lit (.bool false)], args := [d1, d2, d3, d4] }
  | _ => none }
def StampPlaysWrongFalsely : Prop := stampPlaysRow.holds Try.pinned (OpenSpec.ofChange stampPlaysWrong)

/- THE SECOND FORM. 'bulk': how many values and letters a reading holds, each counted each time it is reached (what is shared counts as often as it is met; a slice's spare places count too). A statement '..UptoSaid' is the law's where the arguments, and the package variables that the reading takes, are together of bulk at most 1048576: NARROWER than '..Said'. Prove '..Said' where nothing that the law and all that it calls make is longer than what came in: it says more and counts as full. Else prove '..UptoSaid'. A law counts once. -/
mutual
def uptoBulk {H : Type} : DataW H → Nat
  | .lit (.string bytes) => bytes.length + 1
  | .lit _ => 1
  | .nil => 1
  | .ptr d => uptoBulk d + 1
  | .slice elems spare => uptoBulkAll elems + uptoBulkAll spare + 1
  | .agg parts => uptoBulkAll parts + 1
  | .iface _ d => uptoBulk d + 1
  | .map entries => uptoBulkEntries entries + 1
  | .held _ => 1
def uptoBulkAll {H : Type} : List (DataW H) → Nat
  | [] => 0
  | d :: r => uptoBulk d + uptoBulkAll r
def uptoBulkEntries {H : Type} : List (Lit × DataW H) → Nat
  | [] => 0
  | x :: r => uptoBulkEntry x + uptoBulkEntries r
def uptoBulkEntry {H : Type} : Lit × DataW H → Nat
  | (.string bytes, d) => bytes.length + uptoBulk d + 1
  | (_, d) => uptoBulk d + 1
 end
def uptoSmall : (H : Type) → List (DataW H) → Bool := fun _ ds => decide (uptoBulkAll ds ≤ 1048576)
def OpenSpec.upto (s : _root_.Go.ChangeSpec) : _root_.Go.OpenSpec := { _root_.Go.OpenSpec.ofChange s with cond := some uptoSmall }

/-- 'gavellaw09.StampOrder', WHERE WHAT IT READS IS OF BULK AT MOST 1048576: true; the input reads as it did. -/
def stampOrderUptoRow : OpenClaim := { program := "ytbifincepglilaa", sum := "69dd3d9ae1aa505636cd68ed3ad5dd08e20e17c818866f7b4826470ed0ad86c3", func := "gavel/gavellaw09.StampOrder", spec := "stampOrder", plainKeys := false, apart := false, narrowed := true }
def StampOrderUptoSaid : Prop := stampOrderUptoRow.holds Try.pinned (OpenSpec.upto stampOrderSpec)

/-- 'gavellaw09.StampEnd', WHERE WHAT IT READS IS OF BULK AT MOST 1048576: true; the input reads as it did. -/
def stampEndUptoRow : OpenClaim := { program := "ytbifincepglilaa", sum := "69dd3d9ae1aa505636cd68ed3ad5dd08e20e17c818866f7b4826470ed0ad86c3", func := "gavel/gavellaw09.StampEnd", spec := "stampEnd", plainKeys := false, apart := false, narrowed := true }
def StampEndUptoSaid : Prop := stampEndUptoRow.holds Try.pinned (OpenSpec.upto stampEndSpec)

/-- 'gavellaw09.StampRises', WHERE WHAT IT READS IS OF BULK AT MOST 1048576: true; the input reads as it did. -/
def stampRisesUptoRow : OpenClaim := { program := "ytbifincepglilaa", sum := "69dd3d9ae1aa505636cd68ed3ad5dd08e20e17c818866f7b4826470ed0ad86c3", func := "gavel/gavellaw09.StampRises", spec := "stampRises", plainKeys := false, apart := false, narrowed := true }
def StampRisesUptoSaid : Prop := stampRisesUptoRow.holds Try.pinned (OpenSpec.upto stampRisesSpec)

/-- 'gavellaw09.StampKeeps', WHERE WHAT IT READS IS OF BULK AT MOST 1048576: true; the input reads as it did. -/
def stampKeepsUptoRow : OpenClaim := { program := "ytbifincepglilaa", sum := "69dd3d9ae1aa505636cd68ed3ad5dd08e20e17c818866f7b4826470ed0ad86c3", func := "gavel/gavellaw09.StampKeeps", spec := "stampKeeps", plainKeys := false, apart := false, narrowed := true }
def StampKeepsUptoSaid : Prop := stampKeepsUptoRow.holds Try.pinned (OpenSpec.upto stampKeepsSpec)

/-- 'gavellaw09.StampPlays', WHERE WHAT IT READS IS OF BULK AT MOST 1048576: true; the input reads as it did. -/
def stampPlaysUptoRow : OpenClaim := { program := "ytbifincepglilaa", sum := "69dd3d9ae1aa505636cd68ed3ad5dd08e20e17c818866f7b4826470ed0ad86c3", func := "gavel/gavellaw09.StampPlays", spec := "stampPlays", inPlace := ["maps.clone"], plainKeys := false, apart := false, narrowed := true }
def StampPlaysUptoSaid : Prop := stampPlaysUptoRow.holds Try.pinned (OpenSpec.upto stampPlaysSpec)

end Rows
end Go.Proofs.Ytbifincepglilaa
