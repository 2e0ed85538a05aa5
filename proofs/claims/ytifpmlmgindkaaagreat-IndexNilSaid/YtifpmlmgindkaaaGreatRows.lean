/-
  No cell of these rows narrows 'for every input' (looked for: loops, veiled, ifaces, maps, wideKeys, modest, calm, conditions, laid).
  DERIVED. THE GIVEN ROWS OF THIS SEAT. 4 by the template 'for every input the law returns true; each argument reads behind the call as it read before'; 0 by the template 'total and deterministic' (their statements: YtifpmlmgindkaaaGreatTotals.lean).
  GIVEN WITH THE SEED: the statements are not yours to turn. If you find one false, say at which input.
  Laid BY PROGRAM, IN A SANDBOX (cutbox-rows.mjs): the forced cells as the released guide's own fill.sh prints them over the translation 6a221eeb902527d9… (all of the seat's roots in one cut). By AI agents, Wed Nov 11 2026. No macro, syntax, notation, axiom, sorry.
-/
import Derived.Test.YtifpmlmgindkaaaGreatChecked
import GoSem.Claim
import GoSem.ClaimJoined
import GoSem.ClaimMapViews
import Derived.JoinedTies
import Derived.KernelRfl
namespace Go.Proofs.YtifpmlmgindkaaaGreat
/- THE CELL 'sum', in the pinned program and in every row, IS THE sha256 OF THE DUMP (.gsa) THAT YtifpmlmgindkaaaGreatProg.lean LOADS. Nothing in Lean hashes anything: it is a label: what it is worth is what the hold of that sum in a sandbox is worth. -/
noncomputable def Tryz.pinned : Pinned := { name := "ytifpmlmgindkaaagreat", sum := "6a221eeb902527d9a24caa1ab4d2aa416abed21a08fc5b1e66fde020b59ccf5a", checked := Tryz.checked }
namespace Rows
def none {H : Type} : Left H := { results := [], args := [] }

/-- 'bedrocklaw13.IndexBytes': WHATEVER THE INPUT: true; the input reads as it did. -/
def indexBytesSpec : ChangeSpec := { name := "indexBytes", fn := fun _ => fun
  | [d1, d2] => { results := [.lit (.bool true)], args := [d1, d2] }
  | _ => none }
def indexBytesRow : OpenClaim := { program := "ytifpmlmgindkaaagreat", sum := "6a221eeb902527d9a24caa1ab4d2aa416abed21a08fc5b1e66fde020b59ccf5a", func := "bedrock/bedrocklaw13.IndexBytes", spec := "indexBytes", inPlace := ["internal/abi.NoEscape", "maps.clone"], unfollowed := true, recurses := true, plainKeys := false, apart := false }
def IndexBytesSaid : Prop := indexBytesRow.holds Tryz.pinned (OpenSpec.ofChange indexBytesSpec)

/-- ITS FALSE NEIGHBOUR: 'it returns false'. Refute it at one input. -/
def indexBytesWrong : ChangeSpec := { name := "indexBytes", fn := fun _ => fun
  | [d1, d2] => { results := [.lit (.bool false)], args := [d1, d2] }
  | _ => none }
def IndexBytesWrongFalsely : Prop := indexBytesRow.holds Tryz.pinned (OpenSpec.ofChange indexBytesWrong)

/-- 'bedrocklaw13.IndexOpens': WHATEVER THE INPUT: true; the input reads as it did. -/
def indexOpensSpec : ChangeSpec := { name := "indexOpens", fn := fun _ => fun
  | [d1, d2] => { results := [.lit (.bool true)], args := [d1, d2] }
  | _ => none }
def indexOpensRow : OpenClaim := { program := "ytifpmlmgindkaaagreat", sum := "6a221eeb902527d9a24caa1ab4d2aa416abed21a08fc5b1e66fde020b59ccf5a", func := "bedrock/bedrocklaw13.IndexOpens", spec := "indexOpens", inPlace := ["maps.clone", "internal/abi.NoEscape"], unfollowed := true, recurses := true, plainKeys := false, apart := false }
def IndexOpensSaid : Prop := indexOpensRow.holds Tryz.pinned (OpenSpec.ofChange indexOpensSpec)

/-- ITS FALSE NEIGHBOUR: 'it returns false'. Refute it at one input. -/
def indexOpensWrong : ChangeSpec := { name := "indexOpens", fn := fun _ => fun
  | [d1, d2] => { results := [.lit (.bool false)], args := [d1, d2] }
  | _ => none }
def IndexOpensWrongFalsely : Prop := indexOpensRow.holds Tryz.pinned (OpenSpec.ofChange indexOpensWrong)

/-- 'bedrocklaw13.IndexNil': WHATEVER THE INPUT: true; the input reads as it did. -/
def indexNilSpec : ChangeSpec := { name := "indexNil", fn := fun _ => fun
  | [d] => { results := [.lit (.bool true)], args := [d] }
  | _ => none }
def indexNilRow : OpenClaim := { program := "ytifpmlmgindkaaagreat", sum := "6a221eeb902527d9a24caa1ab4d2aa416abed21a08fc5b1e66fde020b59ccf5a", func := "bedrock/bedrocklaw13.IndexNil", spec := "indexNil", inPlace := ["maps.clone", "internal/abi.NoEscape"], unfollowed := true, recurses := true, plainKeys := false, apart := false }
def IndexNilSaid : Prop := indexNilRow.holds Tryz.pinned (OpenSpec.ofChange indexNilSpec)

/-- ITS FALSE NEIGHBOUR: 'it returns false'. Refute it at one input. -/
def indexNilWrong : ChangeSpec := { name := "indexNil", fn := fun _ => fun
  | [d] => { results := [.lit (.bool false)], args := [d] }
  | _ => none }
def IndexNilWrongFalsely : Prop := indexNilRow.holds Tryz.pinned (OpenSpec.ofChange indexNilWrong)

/-- 'bedrocklaw13.IndexPlays': WHATEVER THE INPUT: true; the input reads as it did. -/
def indexPlaysSpec : ChangeSpec := { name := "indexPlays", fn := fun _ => fun
  | [d] => { results := [.lit (.bool true)], args := [d] }
  | _ => none }
def indexPlaysRow : OpenClaim := { program := "ytifpmlmgindkaaagreat", sum := "6a221eeb902527d9a24caa1ab4d2aa416abed21a08fc5b1e66fde020b59ccf5a", func := "bedrock/bedrocklaw13.IndexPlays", spec := "indexPlays", inPlace := ["maps.clone", "internal/abi.NoEscape"], unfollowed := true, recurses := true, plainKeys := false, apart := false }
def IndexPlaysSaid : Prop := indexPlaysRow.holds Tryz.pinned (OpenSpec.ofChange indexPlaysSpec)

/-- ITS FALSE NEIGHBOUR: 'it returns false'. Refute it at one input. -/
def indexPlaysWrong : ChangeSpec := { name := "indexPlays", fn := fun _ => fun
  | [d] => { results := [.lit (.bool false)], args := [d] }
  | _ => none }
def IndexPlaysWrongFalsely : Prop := indexPlaysRow.holds Tryz.pinned (OpenSpec.ofChange indexPlaysWrong)

/- THE SECOND FORM. 'bulk': how many values and letters a reading holds, each counted each time it is reached (what is shared counts as often as it is met; a slice's spare places count too). A statement '..UptoSaid' is the law's where the arguments, and the package variables that the reading takes, are together of bulk at most 1048576: NARROWER than '..Said'. Prove '..Said' where nothing that the law and all that it calls make is longer than what came in: it says more and counts as full. Else prove '..UptoSaid'. A law counts once. -/
mutual
def uptoBulk {H : Type} : DataW H → Nat
  | .lit (.string bytes) => bytes.length + 1
  | .lit _ => 1
  | .nil => 1
  | .ptr d => uptoBulk d + 1
  | .slice elems spare => uptoBulkAll elems + uptoBulkAll spare + 1
  | .agg parts => uptoBulkAll parts + 1
  | .iface _ d => uptoBulk d + 1
  | .map entries => uptoBulkEntries entries + 1
  | .held _ => 1
def uptoBulkAll {H : Type} : List (DataW H) → Nat
  | [] => 0
  | d :: r => uptoBulk d + uptoBulkAll r
def uptoBulkEntries {H : Type} : List (Lit × DataW H) → Nat
  | [] => 0
  | x :: r => uptoBulkEntry x + uptoBulkEntries r
def uptoBulkEntry {H : Type} : Lit × DataW H → Nat
  | (.string bytes, d) => bytes.length + uptoBulk d + 1
  | (_, d) => uptoBulk d + 1
 end
def uptoSmall : (H : Type) → List (DataW H) → Bool := fun _ ds => decide (uptoBulkAll ds ≤ 1048576)
def OpenSpec.upto (s : _root_.Go.ChangeSpec) : _root_.Go.OpenSpec := { _root_.Go.OpenSpec.ofChange s with cond := some uptoSmall }

/-- 'bedrocklaw13.IndexBytes', WHERE WHAT IT READS IS OF BULK AT MOST 1048576: true; the input reads as it did. -/
def indexBytesUptoRow : OpenClaim := { program := "ytifpmlmgindkaaagreat", sum := "6a221eeb902527d9a24caa1ab4d2aa416abed21a08fc5b1e66fde020b59ccf5a", func := "bedrock/bedrocklaw13.IndexBytes", spec := "indexBytes", inPlace := ["internal/abi.NoEscape", "maps.clone"], unfollowed := true, recurses := true, plainKeys := false, apart := false, narrowed := true }
def IndexBytesUptoSaid : Prop := indexBytesUptoRow.holds Tryz.pinned (OpenSpec.upto indexBytesSpec)

/-- 'bedrocklaw13.IndexOpens', WHERE WHAT IT READS IS OF BULK AT MOST 1048576: true; the input reads as it did. -/
def indexOpensUptoRow : OpenClaim := { program := "ytifpmlmgindkaaagreat", sum := "6a221eeb902527d9a24caa1ab4d2aa416abed21a08fc5b1e66fde020b59ccf5a", func := "bedrock/bedrocklaw13.IndexOpens", spec := "indexOpens", inPlace := ["maps.clone", "internal/abi.NoEscape"], unfollowed := true, recurses := true, plainKeys := false, apart := false, narrowed := true }
def IndexOpensUptoSaid : Prop := indexOpensUptoRow.holds Tryz.pinned (OpenSpec.upto indexOpensSpec)

/-- 'bedrocklaw13.IndexNil', WHERE WHAT IT READS IS OF BULK AT MOST 1048576: true; the input reads as it did. -/
def indexNilUptoRow : OpenClaim := { program := "ytifpmlmgindkaaagreat", sum := "6a221eeb902527d9a24caa1ab4d2aa416abed21a08fc5b1e66fde020b59ccf5a", func := "bedrock/bedrocklaw13.IndexNil", spec := "indexNil", inPlace := ["maps.clone", "internal/abi.NoEscape"], unfollowed := true, recurses := true, plainKeys := false, apart := false, narrowed := true }
def IndexNilUptoSaid : Prop := indexNilUptoRow.holds Tryz.pinned (OpenSpec.upto indexNilSpec)

/-- 'bedrocklaw13.IndexPlays', WHERE WHAT IT READS IS OF BULK AT MOST 1048576: true; the input reads as it did. -/
def indexPlaysUptoRow : OpenClaim := { program := "ytifpmlmgindkaaagreat", sum := "6a221eeb902527d9a24caa1ab4d2aa416abed21a08fc5b1e66fde020b59ccf5a", func := "bedrock/bedrocklaw13.IndexPlays", spec := "indexPlays", inPlace := ["maps.clone", "internal/abi.NoEscape"], unfollowed := true, recurses := true, plainKeys := false, apart := false, narrowed := true }
def IndexPlaysUptoSaid : Prop := indexPlaysUptoRow.holds Tryz.pinned (OpenSpec.upto indexPlaysSpec)

end Rows
end Go.Proofs.YtifpmlmgindkaaaGreat
