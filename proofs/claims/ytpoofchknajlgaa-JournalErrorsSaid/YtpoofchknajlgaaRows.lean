/-
  No cell of these rows narrows 'for every input' (looked for: loops, veiled, ifaces, maps, wideKeys, modest, calm, conditions, laid).
  DERIVED. THE GIVEN ROWS OF THIS SEAT. 4 by the template 'for every input the law returns true; each argument reads behind the call as it read before'; 0 by the template 'total and deterministic' (their statements: YtpoofchknajlgaaTotals.lean).
  GIVEN WITH THE SEED: the statements are not yours to turn. If you find one false, say at which input.
  Laid BY PROGRAM, IN A SANDBOX (cutbox-rows.mjs): the forced cells as the released guide's own fill.sh prints them over the translation 2a6598bd298e1226… (all of the seat's roots in one cut). By AI agents, Wed Nov 11 2026. No macro, syntax, notation, axiom, sorry.
-/
import Derived.Test.YtpoofchknajlgaaChecked
import GoSem.Claim
import GoSem.ClaimJoined
import GoSem.ClaimMapViews
import Derived.JoinedTies
import Derived.KernelRfl
namespace Go.Proofs.Ytpoofchknajlgaa
/- THE CELL 'sum', in the pinned program and in every row, IS THE sha256 OF THE DUMP (.gsa) THAT YtpoofchknajlgaaProg.lean LOADS. Nothing in Lean hashes anything: it is a label: what it is worth is what the hold of that sum in a sandbox is worth. -/
noncomputable def Try.pinned : Pinned := { name := "ytpoofchknajlgaa", sum := "2a6598bd298e1226568d68fda95234e2056d5f8b028a35a7d1ed7242e15942d8", checked := Try.checked }
namespace Rows
def none {H : Type} : Left H := { results := [], args := [] }

/-- 'bedrocklaw12.JournalBytes': WHATEVER THE INPUT: true; the input reads as it did. -/
def journalBytesSpec : ChangeSpec := { name := "journalBytes", fn := fun _ => fun
  | [d1, d2, d3] => { results := [.lit (.bool true)], args := [d1, d2, d3] }
  | _ => none }
def journalBytesRow : OpenClaim := { program := "ytpoofchknajlgaa", sum := "2a6598bd298e1226568d68fda95234e2056d5f8b028a35a7d1ed7242e15942d8", func := "bedrock/bedrocklaw12.JournalBytes", spec := "journalBytes", inPlace := ["internal/abi.NoEscape", "maps.clone"], recurses := true, apart := false }
def JournalBytesSaid : Prop := journalBytesRow.holds Try.pinned (OpenSpec.ofChange journalBytesSpec)

/-- ITS FALSE NEIGHBOUR: 'it returns false'. Refute it at one input. -/
def journalBytesWrong : ChangeSpec := { name := "journalBytes", fn := fun _ => fun
  | [d1, d2, d3] => { results := [.lit (.bool false)], args := [d1, d2, d3] }
  | _ => none }
def JournalBytesWrongFalsely : Prop := journalBytesRow.holds Try.pinned (OpenSpec.ofChange journalBytesWrong)

/-- 'bedrocklaw12.JournalReads': WHATEVER THE INPUT: true; the input reads as it did. -/
def journalReadsSpec : ChangeSpec := { name := "journalReads", fn := fun _ => fun
  | [d] => { results := [.lit (.bool true)], args := [d] }
  | _ => none }
def journalReadsRow : OpenClaim := { program := "ytpoofchknajlgaa", sum := "2a6598bd298e1226568d68fda95234e2056d5f8b028a35a7d1ed7242e15942d8", func := "bedrock/bedrocklaw12.JournalReads", spec := "journalReads", inPlace := ["internal/abi.NoEscape", "maps.clone"], recurses := true, apart := false }
def JournalReadsSaid : Prop := journalReadsRow.holds Try.pinned (OpenSpec.ofChange journalReadsSpec)

/-- ITS FALSE NEIGHBOUR: 'it returns false'. Refute it at one input. -/
def journalReadsWrong : ChangeSpec := { name := "journalReads", fn := fun _ => fun
  | [d] => { results := [.lit (.bool false)], args := [d] }
  | _ => none }
def JournalReadsWrongFalsely : Prop := journalReadsRow.holds Try.pinned (OpenSpec.ofChange journalReadsWrong)

/-- 'bedrocklaw12.JournalErrors': WHATEVER THE INPUT: true; the input reads as it did. -/
def journalErrorsSpec : ChangeSpec := { name := "journalErrors", fn := fun _ => fun
  | [d1, d2] => { results := [.lit (.bool true)], args := [d1, d2] }
  | _ => none }
def journalErrorsRow : OpenClaim := { program := "ytpoofchknajlgaa", sum := "2a6598bd298e1226568d68fda95234e2056d5f8b028a35a7d1ed7242e15942d8", func := "bedrock/bedrocklaw12.JournalErrors", spec := "journalErrors", inPlace := ["maps.clone", "internal/abi.NoEscape"], unfollowed := true, recurses := true, apart := false }
def JournalErrorsSaid : Prop := journalErrorsRow.holds Try.pinned (OpenSpec.ofChange journalErrorsSpec)

/-- ITS FALSE NEIGHBOUR: 'it returns false'. Refute it at one input. -/
def journalErrorsWrong : ChangeSpec := { name := "journalErrors", fn := fun _ => fun
  | [d1, d2] => { results := [.lit (.bool false)], args := [d1, d2] }
  | _ => none }
def JournalErrorsWrongFalsely : Prop := journalErrorsRow.holds Try.pinned (OpenSpec.ofChange journalErrorsWrong)

/-- 'bedrocklaw12.JournalFalls': WHATEVER THE INPUT: true; the input reads as it did. -/
def journalFallsSpec : ChangeSpec := { name := "journalFalls", fn := fun _ => fun
  | [d1, d2, d3] => { results := [.lit (.bool true)], args := [d1, d2, d3] }
  | _ => none }
def journalFallsRow : OpenClaim := { program := "ytpoofchknajlgaa", sum := "2a6598bd298e1226568d68fda95234e2056d5f8b028a35a7d1ed7242e15942d8", func := "bedrock/bedrocklaw12.JournalFalls", spec := "journalFalls", inPlace := ["maps.clone", "internal/abi.NoEscape"], unfollowed := true, recurses := true, apart := false }
def JournalFallsSaid : Prop := journalFallsRow.holds Try.pinned (OpenSpec.ofChange journalFallsSpec)

/-- ITS FALSE NEIGHBOUR: 'it returns false'. Refute it at one input. -/
def journalFallsWrong : ChangeSpec := { name := "journalFalls", fn := fun _ => fun
  | [d1, d2, d3] => { results := [.lit (.bool false)], args := [d1, d2, d3] }
  | _ => none }
def JournalFallsWrongFalsely : Prop := journalFallsRow.holds Try.pinned (OpenSpec.ofChange journalFallsWrong)

/- THE SECOND FORM. 'bulk': how many values and letters a reading holds, each counted each time it is reached (what is shared counts as often as it is met; a slice's spare places count too). A statement '..UptoSaid' is the law's where the arguments, and the package variables that the reading takes, are together of bulk at most 1048576: NARROWER than '..Said'. Prove '..Said' where nothing that the law and all that it calls make is longer than what came in: it says more and counts as full. Else prove '..UptoSaid'. A law counts once. -/
mutual
def uptoBulk {H : Type} : DataW H → Nat
  | .lit (.string bytes) => bytes.length + 1
  | .lit _ => 1
  | .nil => 1
  | .ptr d => uptoBulk d + 1
  | .slice elems spare => uptoBulkAll elems + uptoBulkAll spare + 1
  | .agg parts => uptoBulkAll parts + 1
  | .iface _ d => uptoBulk d + 1
  | .map entries => uptoBulkEntries entries + 1
  | .held _ => 1
def uptoBulkAll {H : Type} : List (DataW H) → Nat
  | [] => 0
  | d :: r => uptoBulk d + uptoBulkAll r
def uptoBulkEntries {H : Type} : List (Lit × DataW H) → Nat
  | [] => 0
  | x :: r => uptoBulkEntry x + uptoBulkEntries r
def uptoBulkEntry {H : Type} : Lit × DataW H → Nat
  | (.string bytes, d) => bytes.length + uptoBulk d + 1
  | (_, d) => uptoBulk d + 1
 end
def uptoSmall : (H : Type) → List (DataW H) → Bool := fun _ ds => decide (uptoBulkAll ds ≤ 1048576)
def OpenSpec.upto (s : _root_.Go.ChangeSpec) : _root_.Go.OpenSpec := { _root_.Go.OpenSpec.ofChange s with cond := some uptoSmall }

/-- 'bedrocklaw12.JournalBytes', WHERE WHAT IT READS IS OF BULK AT MOST 1048576: true; the input reads as it did. -/
def journalBytesUptoRow : OpenClaim := { program := "ytpoofchknajlgaa", sum := "2a6598bd298e1226568d68fda95234e2056d5f8b028a35a7d1ed7242e15942d8", func := "bedrock/bedrocklaw12.JournalBytes", spec := "journalBytes", inPlace := ["internal/abi.NoEscape", "maps.clone"], recurses := true, apart := false, narrowed := true }
def JournalBytesUptoSaid : Prop := journalBytesUptoRow.holds Try.pinned (OpenSpec.upto journalBytesSpec)

/-- 'bedrocklaw12.JournalReads', WHERE WHAT IT READS IS OF BULK AT MOST 1048576: true; the input reads as it did. -/
def journalReadsUptoRow : OpenClaim := { program := "ytpoofchknajlgaa", sum := "2a6598bd298e1226568d68fda95234e2056d5f8b028a35a7d1ed7242e15942d8", func := "bedrock/bedrocklaw12.JournalReads", spec := "journalReads", inPlace := ["internal/abi.NoEscape", "maps.clone"], recurses := true, apart := false, narrowed := true }
def JournalReadsUptoSaid : Prop := journalReadsUptoRow.holds Try.pinned (OpenSpec.upto journalReadsSpec)

/-- 'bedrocklaw12.JournalErrors', WHERE WHAT IT READS IS OF BULK AT MOST 1048576: true; the input reads as it did. -/
def journalErrorsUptoRow : OpenClaim := { program := "ytpoofchknajlgaa", sum := "2a6598bd298e1226568d68fda95234e2056d5f8b028a35a7d1ed7242e15942d8", func := "bedrock/bedrocklaw12.JournalErrors", spec := "journalErrors", inPlace := ["maps.clone", "internal/abi.NoEscape"], unfollowed := true, recurses := true, apart := false, narrowed := true }
def JournalErrorsUptoSaid : Prop := journalErrorsUptoRow.holds Try.pinned (OpenSpec.upto journalErrorsSpec)

/-- 'bedrocklaw12.JournalFalls', WHERE WHAT IT READS IS OF BULK AT MOST 1048576: true; the input reads as it did. -/
def journalFallsUptoRow : OpenClaim := { program := "ytpoofchknajlgaa", sum := "2a6598bd298e1226568d68fda95234e2056d5f8b028a35a7d1ed7242e15942d8", func := "bedrock/bedrocklaw12.JournalFalls", spec := "journalFalls", inPlace := ["maps.clone", "internal/abi.NoEscape"], unfollowed := true, recurses := true, apart := false, narrowed := true }
def JournalFallsUptoSaid : Prop := journalFallsUptoRow.holds Try.pinned (OpenSpec.upto journalFallsSpec)

end Rows
end Go.Proofs.Ytpoofchknajlgaa
