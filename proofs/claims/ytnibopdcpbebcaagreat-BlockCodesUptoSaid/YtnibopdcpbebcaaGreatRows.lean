/-
  No cell of these rows narrows 'for every input' (looked for: loops, veiled, ifaces, maps, wideKeys, modest, calm, conditions, laid).
  DERIVED. THE GIVEN ROWS OF THIS SEAT. 2 by the template 'for every input the law returns true; each argument reads behind the call as it read before'; 0 by the template 'total and deterministic' (their statements: YtnibopdcpbebcaaGreatTotals.lean).
  GIVEN WITH THE SEED: the statements are not yours to turn. If you find one false, say at which input.
  Laid BY PROGRAM, IN A SANDBOX (cutbox-rows.mjs): the forced cells as the released guide's own fill.sh prints them over the translation 69ae530c951f948c… (all of the seat's roots in one cut). By AI agents, Wed Nov 11 2026. No macro, syntax, notation, axiom, sorry.
-/
import Derived.Test.YtnibopdcpbebcaaGreatChecked
import GoSem.Claim
import GoSem.ClaimJoined
import GoSem.ClaimMapViews
import Derived.JoinedTies
import Derived.KernelRfl
namespace Go.Proofs.YtnibopdcpbebcaaGreat
/- THE CELL 'sum', in the pinned program and in every row, IS THE sha256 OF THE DUMP (.gsa) THAT YtnibopdcpbebcaaGreatProg.lean LOADS. Nothing in Lean hashes anything: it is a label: what it is worth is what the hold of that sum in a sandbox is worth. -/
noncomputable def Tryz.pinned : Pinned := { name := "ytnibopdcpbebcaagreat", sum := "69ae530c951f948c143833e70f68093a99343560b819a0790f6dba9f1a373a42", checked := Tryz.checked }
namespace Rows
def none {H : Type} : Left H := { results := [], args := [] }

/-- 'bedrocklaw11.BlockHeads': WHATEVER THE INPUT: true; the input reads as it did. -/
def blockHeadsSpec : ChangeSpec := { name := "blockHeads", fn := fun _ => fun
  | [d1, d2, d3] => { results := [.lit (.bool true)], args := [d1, d2, d3] }
  | _ => none }
def blockHeadsRow : OpenClaim := { program := "ytnibopdcpbebcaagreat", sum := "69ae530c951f948c143833e70f68093a99343560b819a0790f6dba9f1a373a42", func := "bedrock/bedrocklaw11.BlockHeads", spec := "blockHeads", inPlace := ["internal/abi.NoEscape"], recurses := true, apart := false }
def BlockHeadsSaid : Prop := blockHeadsRow.holds Tryz.pinned (OpenSpec.ofChange blockHeadsSpec)

/-- ITS FALSE NEIGHBOUR: 'it returns false'. Refute it at one input. -/
def blockHeadsWrong : ChangeSpec := { name := "blockHeads", fn := fun _ => fun
  | [d1, d2, d3] => { results := [.lit (.bool false)], args := [d1, d2, d3] }
  | _ => none }
def BlockHeadsWrongFalsely : Prop := blockHeadsRow.holds Tryz.pinned (OpenSpec.ofChange blockHeadsWrong)

/-- 'bedrocklaw11.BlockCodes': WHATEVER THE INPUT: true; the input reads as it did. -/
def blockCodesSpec : ChangeSpec := { name := "blockCodes", fn := fun _ => fun
  | [d1, d2] => { results := [.lit (.bool true)], args := [d1, d2] }
  | _ => none }
def blockCodesRow : OpenClaim := { program := "ytnibopdcpbebcaagreat", sum := "69ae530c951f948c143833e70f68093a99343560b819a0790f6dba9f1a373a42", func := "bedrock/bedrocklaw11.BlockCodes", spec := "blockCodes", inPlace := ["internal/abi.NoEscape"], recurses := true, apart := false }
def BlockCodesSaid : Prop := blockCodesRow.holds Tryz.pinned (OpenSpec.ofChange blockCodesSpec)

/-- ITS FALSE NEIGHBOUR: 'it returns false'. Refute it at one input. -/
def blockCodesWrong : ChangeSpec := { name := "blockCodes", fn := fun _ => fun
  | [d1, d2] => { results := [.lit (.bool false)], args := [d1, d2] }
  | _ => none }
def BlockCodesWrongFalsely : Prop := blockCodesRow.holds Tryz.pinned (OpenSpec.ofChange blockCodesWrong)

/- THE SECOND FORM. 'bulk': how many values and letters a reading holds, each counted each time it is reached (what is shared counts as often as it is met; a slice's spare places count too). A statement '..UptoSaid' is the law's where the arguments, and the package variables that the reading takes, are together of bulk at most 1048576: NARROWER than '..Said'. Prove '..Said' where nothing that the law and all that it calls make is longer than what came in: it says more and counts as full. Else prove '..UptoSaid'. A law counts once. -/
mutual
def uptoBulk {H : Type} : DataW H → Nat
  | .lit (.string bytes) => bytes.length + 1
  | .lit _ => 1
  | .nil => 1
  | .ptr d => uptoBulk d + 1
  | .slice elems spare => uptoBulkAll elems + uptoBulkAll spare + 1
  | .agg parts => uptoBulkAll parts + 1
  | .iface _ d => uptoBulk d + 1
  | .map entries => uptoBulkEntries entries + 1
  | .held _ => 1
def uptoBulkAll {H : Type} : List (DataW H) → Nat
  | [] => 0
  | d :: r => uptoBulk d + uptoBulkAll r
def uptoBulkEntries {H : Type} : List (Lit × DataW H) → Nat
  | [] => 0
  | x :: r => uptoBulkEntry x + uptoBulkEntries r
def uptoBulkEntry {H : Type} : Lit × DataW H → Nat
  | (.string bytes, d) => bytes.length + uptoBulk d + 1
  | (_, d) => uptoBulk d + 1
 end
def uptoSmall : (H : Type) → List (DataW H) → Bool := fun _ ds => decide (uptoBulkAll ds ≤ 1048576)
def OpenSpec.upto (s : _root_.Go.ChangeSpec) : _root_.Go.OpenSpec := { _root_.Go.OpenSpec.ofChange s with cond := some uptoSmall }

/-- 'bedrocklaw11.BlockHeads', WHERE WHAT IT READS IS OF BULK AT MOST 1048576: true; the input reads as it did. -/
def blockHeadsUptoRow : OpenClaim := { program := "ytnibopdcpbebcaagreat", sum := "69ae530c951f948c143833e70f68093a99343560b819a0790f6dba9f1a373a42", func := "bedrock/bedrocklaw11.BlockHeads", spec := "blockHeads", inPlace := ["internal/abi.NoEscape"], recurses := true, apart := false, narrowed := true }
def BlockHeadsUptoSaid : Prop := blockHeadsUptoRow.holds Tryz.pinned (OpenSpec.upto blockHeadsSpec)

/-- 'bedrocklaw11.BlockCodes', WHERE WHAT IT READS IS OF BULK AT MOST 1048576: true; the input reads as it did. -/
def blockCodesUptoRow : OpenClaim := { program := "ytnibopdcpbebcaagreat", sum := "69ae530c951f948c143833e70f68093a99343560b819a0790f6dba9f1a373a42", func := "bedrock/bedrocklaw11.BlockCodes", spec := "blockCodes", inPlace := ["internal/abi.NoEscape"], recurses := true, apart := false, narrowed := true }
def BlockCodesUptoSaid : Prop := blockCodesUptoRow.holds Tryz.pinned (OpenSpec.upto blockCodesSpec)

end Rows
end Go.Proofs.YtnibopdcpbebcaaGreat
