/-
  No cell of these rows narrows 'for every input' (looked for: loops, veiled, ifaces, maps, wideKeys, modest, calm, conditions, laid).
  DERIVED. THE GIVEN ROWS OF THIS SEAT. 11 by the template 'for every input the law returns true; each argument reads behind the call as it read before'; 0 by the template 'total and deterministic' (their statements: YtfgepphankfbfaaTotals.lean).
  GIVEN WITH THE SEED: the statements are not yours to turn. If you find one false, say at which input.
  Laid BY PROGRAM, IN A SANDBOX (cutbox-rows.mjs): the forced cells as the released guide's own fill.sh prints them over the translation 79fff8b4b7116386… (all of the seat's roots in one cut). By AI agents, Wed Nov 11 2026. No macro, syntax, notation, axiom, sorry.
-/
import Derived.Test.YtfgepphankfbfaaChecked
import GoSem.Claim
import GoSem.ClaimJoined
import GoSem.ClaimMapViews
import Derived.JoinedTies
import Derived.KernelRfl
namespace Go.Proofs.Ytfgepphankfbfaa
/- THE CELL 'sum', in the pinned program and in every row, IS THE sha256 OF THE DUMP (.gsa) THAT YtfgepphankfbfaaProg.lean LOADS. Nothing in Lean hashes anything: it is a label: what it is worth is what the hold of that sum in a sandbox is worth. -/
noncomputable def Try.pinned : Pinned := { name := "ytfgepphankfbfaa", sum := "79fff8b4b7116386f43211d1914841dc96f9625363d9f11c980bfb8192af20ac", checked := Try.checked }
namespace Rows
def none {H : Type} : Left H := { results := [], args := [] }

/-- 'gavellaw02.ShaBlocks': WHATEVER THE INPUT: true; the input reads as it did. -/
def shaBlocksSpec : ChangeSpec := { name := "shaBlocks", fn := fun _ => fun
  | [d1, d2, d3] => { results := [.lit (.bool true)], args := [d1, d2, d3] }
  | _ => none }
def shaBlocksRow : OpenClaim := { program := "ytfgepphankfbfaa", sum := "79fff8b4b7116386f43211d1914841dc96f9625363d9f11c980bfb8192af20ac", func := "gavel/gavellaw02.ShaBlocks", spec := "shaBlocks", plainKeys := false, apart := false }
def ShaBlocksSaid : Prop := shaBlocksRow.holds Try.pinned (OpenSpec.ofChange shaBlocksSpec)

/-- ITS FALSE NEIGHBOUR: 'it returns false'. Refute it at one input. -/
def shaBlocksWrong : ChangeSpec := { name := "shaBlocks", fn := fun _ => fun
  | [d1, d2, d3] => { results := [.lit (.bool false)], args := [d1, d2, d3] }
  | _ => none }
def ShaBlocksWrongFalsely : Prop := shaBlocksRow.holds Try.pinned (OpenSpec.ofChange shaBlocksWrong)

/-- 'gavellaw02.ShaOrder': WHATEVER THE INPUT: true; the input reads as it did. -/
def shaOrderSpec : ChangeSpec := { name := "shaOrder", fn := fun _ => fun
  | [d1, d2, d3] => { results := [.lit (.bool true)], args := [d1, d2, d3] }
  | _ => none }
def shaOrderRow : OpenClaim := { program := "ytfgepphankfbfaa", sum := "79fff8b4b7116386f43211d1914841dc96f9625363d9f11c980bfb8192af20ac", func := "gavel/gavellaw02.ShaOrder", spec := "shaOrder", inPlace := ["internal/bytealg.Compare"], plainKeys := false, apart := false }
def ShaOrderSaid : Prop := shaOrderRow.holds Try.pinned (OpenSpec.ofChange shaOrderSpec)

/-- ITS FALSE NEIGHBOUR: 'it returns false'. Refute it at one input. -/
def shaOrderWrong : ChangeSpec := { name := "shaOrder", fn := fun _ => fun
  | [d1, d2, d3] => { results := [.lit (.bool false)], args := [d1, d2, d3] }
  | _ => none }
def ShaOrderWrongFalsely : Prop := shaOrderRow.holds Try.pinned (OpenSpec.ofChange shaOrderWrong)

/-- 'gavellaw02.ShaLess': WHATEVER THE INPUT: true; the input reads as it did. -/
def shaLessSpec : ChangeSpec := { name := "shaLess", fn := fun _ => fun
  | [d1, d2, d3] => { results := [.lit (.bool true)], args := [d1, d2, d3] }
  | _ => none }
def shaLessRow : OpenClaim := { program := "ytfgepphankfbfaa", sum := "79fff8b4b7116386f43211d1914841dc96f9625363d9f11c980bfb8192af20ac", func := "gavel/gavellaw02.ShaLess", spec := "shaLess", inPlace := ["internal/bytealg.Compare"], plainKeys := false, apart := false }
def ShaLessSaid : Prop := shaLessRow.holds Try.pinned (OpenSpec.ofChange shaLessSpec)

/-- ITS FALSE NEIGHBOUR: 'it returns false'. Refute it at one input. -/
def shaLessWrong : ChangeSpec := { name := "shaLess", fn := fun _ => fun
  | [d1, d2, d3] => { results := [.lit (.bool false)], args := [d1, d2, d3] }
  | _ => none }
def ShaLessWrongFalsely : Prop := shaLessRow.holds Try.pinned (OpenSpec.ofChange shaLessWrong)

/-- 'gavellaw23.NetOrder': WHATEVER THE INPUT: true; the input reads as it did. -/
def netOrderSpec : ChangeSpec := { name := "netOrder", fn := fun _ => fun
  | [d1, d2] => { results := [.lit (.bool true)], args := [d1, d2] }
  | _ => none }
def netOrderRow : OpenClaim := { program := "ytfgepphankfbfaa", sum := "79fff8b4b7116386f43211d1914841dc96f9625363d9f11c980bfb8192af20ac", func := "gavel/gavellaw23.NetOrder", spec := "netOrder", unfollowed := true, recurses := true, plainKeys := false, apart := false }
def NetOrderSaid : Prop := netOrderRow.holds Try.pinned (OpenSpec.ofChange netOrderSpec)

/-- ITS FALSE NEIGHBOUR: 'it returns false'. Refute it at one input. -/
def netOrderWrong : ChangeSpec := { name := "netOrder", fn := fun _ => fun
  | [d1, d2] => { results := [.lit (.bool false)], args := [d1, d2] }
  | _ => none }
def NetOrderWrongFalsely : Prop := netOrderRow.holds Try.pinned (OpenSpec.ofChange netOrderWrong)

/-- 'gavellaw23.NetLooks': WHATEVER THE INPUT: true; the input reads as it did. -/
def netLooksSpec : ChangeSpec := { name := "netLooks", fn := fun _ => fun
  | [d1, d2] => { results := [.lit (.bool true)], args := [d1, d2] }
  | _ => none }
def netLooksRow : OpenClaim := { program := "ytfgepphankfbfaa", sum := "79fff8b4b7116386f43211d1914841dc96f9625363d9f11c980bfb8192af20ac", func := "gavel/gavellaw23.NetLooks", spec := "netLooks", unfollowed := true, recurses := true, plainKeys := false, apart := false }
def NetLooksSaid : Prop := netLooksRow.holds Try.pinned (OpenSpec.ofChange netLooksSpec)

/-- ITS FALSE NEIGHBOUR: 'it returns false'. Refute it at one input. -/
def netLooksWrong : ChangeSpec := { name := "netLooks", fn := fun _ => fun
  | [d1, d2] => { results := [.lit (.bool false)], args := [d1, d2] }
  | _ => none }
def NetLooksWrongFalsely : Prop := netLooksRow.holds Try.pinned (OpenSpec.ofChange netLooksWrong)

/-- 'gavellaw02.ShaSets': WHATEVER THE INPUT: true; the input reads as it did. -/
def shaSetsSpec : ChangeSpec := { name := "shaSets", fn := fun _ => fun
  | [d] => { results := [.lit (.bool true)], args := [d] }
  | _ => none }
def shaSetsRow : OpenClaim := { program := "ytfgepphankfbfaa", sum := "79fff8b4b7116386f43211d1914841dc96f9625363d9f11c980bfb8192af20ac", func := "gavel/gavellaw02.ShaSets", spec := "shaSets", plainKeys := false, apart := false }
def ShaSetsSaid : Prop := shaSetsRow.holds Try.pinned (OpenSpec.ofChange shaSetsSpec)

/-- ITS FALSE NEIGHBOUR: 'it returns false'. Refute it at one input. -/
def shaSetsWrong : ChangeSpec := { name := "shaSets", fn := fun _ => fun
  | [d] => { results := [.lit (.bool false)], args := [d] }
  | _ => none }
def ShaSetsWrongFalsely : Prop := shaSetsRow.holds Try.pinned (OpenSpec.ofChange shaSetsWrong)

/-- 'gavellaw02.ShaApart': WHATEVER THE INPUT: true; the input reads as it did. -/
def shaApartSpec : ChangeSpec := { name := "shaApart", fn := fun _ => fun
  | [d1, d2] => { results := [.lit (.bool true)], args := [d1, d2] }
  | _ => none }
def shaApartRow : OpenClaim := { program := "ytfgepphankfbfaa", sum := "79fff8b4b7116386f43211d1914841dc96f9625363d9f11c980bfb8192af20ac", func := "gavel/gavellaw02.ShaApart", spec := "shaApart", plainKeys := false, apart := false }
def ShaApartSaid : Prop := shaApartRow.holds Try.pinned (OpenSpec.ofChange shaApartSpec)

/-- ITS FALSE NEIGHBOUR: 'it returns false'. Refute it at one input. -/
def shaApartWrong : ChangeSpec := { name := "shaApart", fn := fun _ => fun
  | [d1, d2] => { results := [.lit (.bool false)], args := [d1, d2] }
  | _ => none }
def ShaApartWrongFalsely : Prop := shaApartRow.holds Try.pinned (OpenSpec.ofChange shaApartWrong)

/-- 'gavellaw23.NetFull': WHATEVER THE INPUT: true; the input reads as it did. -/
def netFullSpec : ChangeSpec := { name := "netFull", fn := fun _ => fun
  | [d1, d2, d3] => { results := [.lit (.bool true)], args := [d1, d2, d3] }
  | _ => none }
def netFullRow : OpenClaim := { program := "ytfgepphankfbfaa", sum := "79fff8b4b7116386f43211d1914841dc96f9625363d9f11c980bfb8192af20ac", func := "gavel/gavellaw23.NetFull", spec := "netFull", unfollowed := true, recurses := true, plainKeys := false, apart := false }
def NetFullSaid : Prop := netFullRow.holds Try.pinned (OpenSpec.ofChange netFullSpec)

/-- ITS FALSE NEIGHBOUR: 'it returns false'. Refute it at one input. -/
def netFullWrong : ChangeSpec := { name := "netFull", fn := fun _ => fun
  | [d1, d2, d3] => { results := [.lit (.bool false)], args := [d1, d2, d3] }
  | _ => none }
def NetFullWrongFalsely : Prop := netFullRow.holds Try.pinned (OpenSpec.ofChange netFullWrong)

/-- 'gavellaw02.ShaRows': WHATEVER THE INPUT: true; the input reads as it did. -/
def shaRowsSpec : ChangeSpec := { name := "shaRows", fn := fun _ => fun
  | [d1, d2] => { results := [.lit (.bool true)], args := [d1, d2] }
  | _ => none }
def shaRowsRow : OpenClaim := { program := "ytfgepphankfbfaa", sum := "79fff8b4b7116386f43211d1914841dc96f9625363d9f11c980bfb8192af20ac", func := "gavel/gavellaw02.ShaRows", spec := "shaRows", plainKeys := false, apart := false }
def ShaRowsSaid : Prop := shaRowsRow.holds Try.pinned (OpenSpec.ofChange shaRowsSpec)

/-- ITS FALSE NEIGHBOUR: 'it returns false'. Refute it at one input. -/
def shaRowsWrong : ChangeSpec := { name := "shaRows", fn := fun _ => fun
  | [d1, d2] => { results := [.lit (.bool false)], args := [d1, d2] }
  | _ => none }
def ShaRowsWrongFalsely : Prop := shaRowsRow.holds Try.pinned (OpenSpec.ofChange shaRowsWrong)

/-- 'gavellaw02.ShaSums': WHATEVER THE INPUT: true; the input reads as it did. -/
def shaSumsSpec : ChangeSpec := { name := "shaSums", fn := fun _ => fun
  | [d1, d2, d3] => { results := [.lit (.bool true)], args := [d1, d2, d3] }
  | _ => none }
def shaSumsRow : OpenClaim := { program := "ytfgepphankfbfaa", sum := "79fff8b4b7116386f43211d1914841dc96f9625363d9f11c980bfb8192af20ac", func := "gavel/gavellaw02.ShaSums", spec := "shaSums", plainKeys := false, apart := false }
def ShaSumsSaid : Prop := shaSumsRow.holds Try.pinned (OpenSpec.ofChange shaSumsSpec)

/-- ITS FALSE NEIGHBOUR: 'it returns false'. Refute it at one input. -/
def shaSumsWrong : ChangeSpec := { name := "shaSums", fn := fun _ => fun
  | [d1, d2, d3] => { results := [.lit (.bool false)], args := [d1, d2, d3] }
  | _ => none }
def ShaSumsWrongFalsely : Prop := shaSumsRow.holds Try.pinned (OpenSpec.ofChange shaSumsWrong)

/-- 'gavellaw23.NetPlays': WHATEVER THE INPUT: true; the input reads as it did. -/
def netPlaysSpec : ChangeSpec := { name := "netPlays", fn := fun _ => fun
  | [d1, d2, d3] => { results := [.lit (.bool true)], args := [d1, d2, d3] }
  | _ => none }
def netPlaysRow : OpenClaim := { program := "ytfgepphankfbfaa", sum := "79fff8b4b7116386f43211d1914841dc96f9625363d9f11c980bfb8192af20ac", func := "gavel/gavellaw23.NetPlays", spec := "netPlays", unfollowed := true, recurses := true, plainKeys := false, apart := false }
def NetPlaysSaid : Prop := netPlaysRow.holds Try.pinned (OpenSpec.ofChange netPlaysSpec)

/-- ITS FALSE NEIGHBOUR: 'it returns false'. Refute it at one input. -/
def netPlaysWrong : ChangeSpec := { name := "netPlays", fn := fun _ => fun
  | [d1, d2, d3] => { results := [.lit (.bool false)], args := [d1, d2, d3] }
  | _ => none }
def NetPlaysWrongFalsely : Prop := netPlaysRow.holds Try.pinned (OpenSpec.ofChange netPlaysWrong)

/- THE SECOND FORM. 'bulk': how many values and letters a reading holds, each counted each time it is reached (what is shared counts as often as it is met; a slice's spare places count too). A statement '..UptoSaid' is the law's where the arguments, and the package variables that the reading takes, are together of bulk at most 1048576: NARROWER than '..Said'. Prove '..Said' where nothing that the law and all that it calls make is longer than what came in: it says more and counts as full. Else prove '..UptoSaid'. A law counts once. -/
mutual
def uptoBulk {H : Type} : DataW H → Nat
  | .lit (.string bytes) => bytes.length + 1
  | .lit _ => 1
  | .nil => 1
  | .ptr d => uptoBulk d + 1
  | .slice elems spare => uptoBulkAll elems + uptoBulkAll spare + 1
  | .agg parts => uptoBulkAll parts + 1
  | .iface _ d => uptoBulk d + 1
  | .map entries => uptoBulkEntries entries + 1
  | .held _ => 1
def uptoBulkAll {H : Type} : List (DataW H) → Nat
  | [] => 0
  | d :: r => uptoBulk d + uptoBulkAll r
def uptoBulkEntries {H : Type} : List (Lit × DataW H) → Nat
  | [] => 0
  | x :: r => uptoBulkEntry x + uptoBulkEntries r
def uptoBulkEntry {H : Type} : Lit × DataW H → Nat
  | (.string bytes, d) => bytes.length + uptoBulk d + 1
  | (_, d) => uptoBulk d + 1
 end
def uptoSmall : (H : Type) → List (DataW H) → Bool := fun _ ds => decide (uptoBulkAll ds ≤ 1048576)
def OpenSpec.upto (s : _root_.Go.ChangeSpec) : _root_.Go.OpenSpec := { _root_.Go.OpenSpec.ofChange s with cond := some uptoSmall }

/-- 'gavellaw02.ShaBlocks', WHERE WHAT IT READS IS OF BULK AT MOST 1048576: true; the input reads as it did. -/
def shaBlocksUptoRow : OpenClaim := { program := "ytfgepphankfbfaa", sum := "79fff8b4b7116386f43211d1914841dc96f9625363d9f11c980bfb8192af20ac", func := "gavel/gavellaw02.ShaBlocks", spec := "shaBlocks", plainKeys := false, apart := false, narrowed := true }
def ShaBlocksUptoSaid : Prop := shaBlocksUptoRow.holds Try.pinned (OpenSpec.upto shaBlocksSpec)

/-- 'gavellaw02.ShaOrder', WHERE WHAT IT READS IS OF BULK AT MOST 1048576: true; the input reads as it did. -/
def shaOrderUptoRow : OpenClaim := { program := "ytfgepphankfbfaa", sum := "79fff8b4b7116386f43211d1914841dc96f9625363d9f11c980bfb8192af20ac", func := "gavel/gavellaw02.ShaOrder", spec := "shaOrder", inPlace := ["internal/bytealg.Compare"], plainKeys := false, apart := false, narrowed := true }
def ShaOrderUptoSaid : Prop := shaOrderUptoRow.holds Try.pinned (OpenSpec.upto shaOrderSpec)

/-- 'gavellaw02.ShaLess', WHERE WHAT IT READS IS OF BULK AT MOST 1048576: true; the input reads as it did. -/
def shaLessUptoRow : OpenClaim := { program := "ytfgepphankfbfaa", sum := "79fff8b4b7116386f43211d1914841dc96f9625363d9f11c980bfb8192af20ac", func := "gavel/gavellaw02.ShaLess", spec := "shaLess", inPlace := ["internal/bytealg.Compare"], plainKeys := false, apart := false, narrowed := true }
def ShaLessUptoSaid : Prop := shaLessUptoRow.holds Try.pinned (OpenSpec.upto shaLessSpec)

/-- 'gavellaw23.NetOrder', WHERE WHAT IT READS IS OF BULK AT MOST 1048576: true; the input reads as it did. -/
def netOrderUptoRow : OpenClaim := { program := "ytfgepphankfbfaa", sum := "79fff8b4b7116386f43211d1914841dc96f9625363d9f11c980bfb8192af20ac", func := "gavel/gavellaw23.NetOrder", spec := "netOrder", unfollowed := true, recurses := true, plainKeys := false, apart := false, narrowed := true }
def NetOrderUptoSaid : Prop := netOrderUptoRow.holds Try.pinned (OpenSpec.upto netOrderSpec)

/-- 'gavellaw23.NetLooks', WHERE WHAT IT READS IS OF BULK AT MOST 1048576: true; the input reads as it did. -/
def netLooksUptoRow : OpenClaim := { program := "ytfgepphankfbfaa", sum := "79fff8b4b7116386f43211d1914841dc96f9625363d9f11c980bfb8192af20ac", func := "gavel/gavellaw23.NetLooks", spec := "netLooks", unfollowed := true, recurses := true, plainKeys := false, apart := false, narrowed := true }
def NetLooksUptoSaid : Prop := netLooksUptoRow.holds Try.pinned (OpenSpec.upto netLooksSpec)

/-- 'gavellaw02.ShaSets', WHERE WHAT IT READS IS OF BULK AT MOST 1048576: true; the input reads as it did. -/
def shaSetsUptoRow : OpenClaim := { program := "ytfgepphankfbfaa", sum := "79fff8b4b7116386f43211d1914841dc96f9625363d9f11c980bfb8192af20ac", func := "gavel/gavellaw02.ShaSets", spec := "shaSets", plainKeys := false, apart := false, narrowed := true }
def ShaSetsUptoSaid : Prop := shaSetsUptoRow.holds Try.pinned (OpenSpec.upto shaSetsSpec)

/-- 'gavellaw02.ShaApart', WHERE WHAT IT READS IS OF BULK AT MOST 1048576: true; the input reads as it did. -/
def shaApartUptoRow : OpenClaim := { program := "ytfgepphankfbfaa", sum := "79fff8b4b7116386f43211d1914841dc96f9625363d9f11c980bfb8192af20ac", func := "gavel/gavellaw02.ShaApart", spec := "shaApart", plainKeys := false, apart := false, narrowed := true }
def ShaApartUptoSaid : Prop := shaApartUptoRow.holds Try.pinned (OpenSpec.upto shaApartSpec)

/-- 'gavellaw23.NetFull', WHERE WHAT IT READS IS OF BULK AT MOST 1048576: true; the input reads as it did. -/
def netFullUptoRow : OpenClaim := { program := "ytfgepphankfbfaa", sum := "79fff8b4b7116386f43211d1914841dc96f9625363d9f11c980bfb8192af20ac", func := "gavel/gavellaw23.NetFull", spec := "netFull", unfollowed := true, recurses := true, plainKeys := false, apart := false, narrowed := true }
def NetFullUptoSaid : Prop := netFullUptoRow.holds Try.pinned (OpenSpec.upto netFullSpec)

/-- 'gavellaw02.ShaRows', WHERE WHAT IT READS IS OF BULK AT MOST 1048576: true; the input reads as it did. -/
def shaRowsUptoRow : OpenClaim := { program := "ytfgepphankfbfaa", sum := "79fff8b4b7116386f43211d1914841dc96f9625363d9f11c980bfb8192af20ac", func := "gavel/gavellaw02.ShaRows", spec := "shaRows", plainKeys := false, apart := false, narrowed := true }
def ShaRowsUptoSaid : Prop := shaRowsUptoRow.holds Try.pinned (OpenSpec.upto shaRowsSpec)

/-- 'gavellaw02.ShaSums', WHERE WHAT IT READS IS OF BULK AT MOST 1048576: true; the input reads as it did. -/
def shaSumsUptoRow : OpenClaim := { program := "ytfgepphankfbfaa", sum := "79fff8b4b7116386f43211d1914841dc96f9625363d9f11c980bfb8192af20ac", func := "gavel/gavellaw02.ShaSums", spec := "shaSums", plainKeys := false, apart := false, narrowed := true }
def ShaSumsUptoSaid : Prop := shaSumsUptoRow.holds Try.pinned (OpenSpec.upto shaSumsSpec)

/-- 'gavellaw23.NetPlays', WHERE WHAT IT READS IS OF BULK AT MOST 1048576: true; the input reads as it did. -/
def netPlaysUptoRow : OpenClaim := { program := "ytfgepphankfbfaa", sum := "79fff8b4b7116386f43211d1914841dc96f9625363d9f11c980bfb8192af20ac", func := "gavel/gavellaw23.NetPlays", spec := "netPlays", unfollowed := true, recurses := true, plainKeys := false, apart := false, narrowed := true }
def NetPlaysUptoSaid : Prop := netPlaysUptoRow.holds Try.pinned (OpenSpec.upto netPlaysSpec)

end Rows
end Go.Proofs.Ytfgepphankfbfaa
