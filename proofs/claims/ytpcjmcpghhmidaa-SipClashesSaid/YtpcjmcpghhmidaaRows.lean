/-
  No cell of these rows narrows 'for every input' (looked for: loops, veiled, ifaces, maps, wideKeys, modest, calm, conditions, laid).
  DERIVED. THE GIVEN ROWS OF THIS SEAT. 10 by the template 'for every input the law returns true; each argument reads behind the call as it read before'; 0 by the template 'total and deterministic' (their statements: YtpcjmcpghhmidaaTotals.lean).
  GIVEN WITH THE SEED: the statements are not yours to turn. If you find one false, say at which input.
  Laid BY PROGRAM, IN A SANDBOX (cutbox-rows.mjs): the forced cells as the released guide's own fill.sh prints them over the translation 858c7762ad969e94… (all of the seat's roots in one cut). By AI agents, Wed Nov 11 2026. No macro, syntax, notation, axiom, sorry.
-/
import Derived.Test.YtpcjmcpghhmidaaChecked
import GoSem.Claim
import GoSem.ClaimJoined
import GoSem.ClaimMapViews
import Derived.JoinedTies
import Derived.KernelRfl
namespace Go.Proofs.Ytpcjmcpghhmidaa
/- THE CELL 'sum', in the pinned program and in every row, IS THE sha256 OF THE DUMP (.gsa) THAT YtpcjmcpghhmidaaProg.lean LOADS. Nothing in Lean hashes anything: it is a label: what it is worth is what the hold of that sum in a sandbox is worth. -/
noncomputable def Try.pinned : Pinned := { name := "ytpcjmcpghhmidaa", sum := "858c7762ad969e94c8f289561edcd2379eabb625d1fb93a30909346af4c3d441", checked := Try.checked }
namespace Rows
def none {H : Type} : Left H := { results := [], args := [] }

/-- 'bedrocklaw03.SipDigests': WHATEVER THE INPUT: true; the input reads as it did. -/
def sipDigestsSpec : ChangeSpec := { name := "sipDigests", fn := fun _ => fun
  | [d] => { results := [.lit (.bool true)], args := [d] }
  | _ => none }
def sipDigestsRow : OpenClaim := { program := "ytpcjmcpghhmidaa", sum := "858c7762ad969e94c8f289561edcd2379eabb625d1fb93a30909346af4c3d441", func := "bedrock/bedrocklaw03.SipDigests", spec := "sipDigests", inPlace := ["internal/abi.NoEscape", "internal/bytealg.MakeNoZero"], plainKeys := false, apart := false }
def SipDigestsSaid : Prop := sipDigestsRow.holds Try.pinned (OpenSpec.ofChange sipDigestsSpec)

/-- ITS FALSE NEIGHBOUR: 'it returns false'. Refute it at one input. -/
def sipDigestsWrong : ChangeSpec := { name := "sipDigests", fn := fun _ => fun
  | [d] => { results := [.lit (.bool false)], args := [d] }
  | _ => none }
def SipDigestsWrongFalsely : Prop := sipDigestsRow.holds Try.pinned (OpenSpec.ofChange sipDigestsWrong)

/-- 'bedrocklaw10.TxReads': WHATEVER THE INPUT: true; the input reads as it did. -/
def txReadsSpec : ChangeSpec := { name := "txReads", fn := fun _ => fun
  | [d1, d2] => { results := [.lit (.bool true)], args := [d1, d2] }
  | _ => none }
def txReadsRow : OpenClaim := { program := "ytpcjmcpghhmidaa", sum := "858c7762ad969e94c8f289561edcd2379eabb625d1fb93a30909346af4c3d441", func := "bedrock/bedrocklaw10.TxReads", spec := "txReads", inPlace := ["internal/abi.NoEscape"], plainKeys := false, apart := false }
def TxReadsSaid : Prop := txReadsRow.holds Try.pinned (OpenSpec.ofChange txReadsSpec)

/-- ITS FALSE NEIGHBOUR: 'it returns false'. Refute it at one input. -/
def txReadsWrong : ChangeSpec := { name := "txReads", fn := fun _ => fun
  | [d1, d2] => { results := [.lit (.bool false)], args := [d1, d2] }
  | _ => none }
def TxReadsWrongFalsely : Prop := txReadsRow.holds Try.pinned (OpenSpec.ofChange txReadsWrong)

/-- 'bedrocklaw03.SipFeeds': WHATEVER THE INPUT: true; the input reads as it did. -/
def sipFeedsSpec : ChangeSpec := { name := "sipFeeds", fn := fun _ => fun
  | [d1, d2] => { results := [.lit (.bool true)], args := [d1, d2] }
  | _ => none }
def sipFeedsRow : OpenClaim := { program := "ytpcjmcpghhmidaa", sum := "858c7762ad969e94c8f289561edcd2379eabb625d1fb93a30909346af4c3d441", func := "bedrock/bedrocklaw03.SipFeeds", spec := "sipFeeds", inPlace := ["internal/abi.NoEscape", "internal/bytealg.MakeNoZero"], plainKeys := false, apart := false }
def SipFeedsSaid : Prop := sipFeedsRow.holds Try.pinned (OpenSpec.ofChange sipFeedsSpec)

/-- ITS FALSE NEIGHBOUR: 'it returns false'. Refute it at one input. -/
def sipFeedsWrong : ChangeSpec := { name := "sipFeeds", fn := fun _ => fun
  | [d1, d2] => { results := [.lit (.bool false)], args := [d1, d2] }
  | _ => none }
def SipFeedsWrongFalsely : Prop := sipFeedsRow.holds Try.pinned (OpenSpec.ofChange sipFeedsWrong)

/-- 'bedrocklaw03.SipClashes': WHATEVER THE INPUT: true; the input reads as it did. -/
def sipClashesSpec : ChangeSpec := { name := "sipClashes", fn := fun _ => fun
  | [d1, d2] => { results := [.lit (.bool true)], args := [d1, d2] }
  | _ => none }
def sipClashesRow : OpenClaim := { program := "ytpcjmcpghhmidaa", sum := "858c7762ad969e94c8f289561edcd2379eabb625d1fb93a30909346af4c3d441", func := "bedrock/bedrocklaw03.SipClashes", spec := "sipClashes", inPlace := ["internal/abi.NoEscape", "internal/bytealg.MakeNoZero"], plainKeys := false, apart := false }
def SipClashesSaid : Prop := sipClashesRow.holds Try.pinned (OpenSpec.ofChange sipClashesSpec)

/-- ITS FALSE NEIGHBOUR: 'it returns false'. Refute it at one input. -/
def sipClashesWrong : ChangeSpec := { name := "sipClashes", fn := fun _ => fun
  | [d1, d2] => { results := [.lit (.bool false)], args := [d1, d2] }
  | _ => none }
def SipClashesWrongFalsely : Prop := sipClashesRow.holds Try.pinned (OpenSpec.ofChange sipClashesWrong)

/-- 'bedrocklaw10.TxBack': WHATEVER THE INPUT: true; the input reads as it did. -/
def txBackSpec : ChangeSpec := { name := "txBack", fn := fun _ => fun
  | [d1, d2, d3] => { results := [.lit (.bool true)], args := [d1, d2, d3] }
  | _ => none }
def txBackRow : OpenClaim := { program := "ytpcjmcpghhmidaa", sum := "858c7762ad969e94c8f289561edcd2379eabb625d1fb93a30909346af4c3d441", func := "bedrock/bedrocklaw10.TxBack", spec := "txBack", inPlace := ["internal/abi.NoEscape"], plainKeys := false, apart := false }
def TxBackSaid : Prop := txBackRow.holds Try.pinned (OpenSpec.ofChange txBackSpec)

/-- ITS FALSE NEIGHBOUR: 'it returns false'. Refute it at one input. -/
def txBackWrong : ChangeSpec := { name := "txBack", fn := fun _ => fun
  | [d1, d2, d3] => { results := [.lit (.bool false)], args := [d1, d2, d3] }
  | _ => none }
def TxBackWrongFalsely : Prop := txBackRow.holds Try.pinned (OpenSpec.ofChange txBackWrong)

/-- 'bedrocklaw10.TxChecks': WHATEVER THE INPUT: true; the input reads as it did. -/
def txChecksSpec : ChangeSpec := { name := "txChecks", fn := fun _ => fun
  | [d] => { results := [.lit (.bool true)], args := [d] }
  | _ => none }
def txChecksRow : OpenClaim := { program := "ytpcjmcpghhmidaa", sum := "858c7762ad969e94c8f289561edcd2379eabb625d1fb93a30909346af4c3d441", func := "bedrock/bedrocklaw10.TxChecks", spec := "txChecks", inPlace := ["internal/abi.NoEscape"], plainKeys := false, apart := false }
def TxChecksSaid : Prop := txChecksRow.holds Try.pinned (OpenSpec.ofChange txChecksSpec)

/-- ITS FALSE NEIGHBOUR: 'it returns false'. Refute it at one input. -/
def txChecksWrong : ChangeSpec := { name := "txChecks", fn := fun _ => fun
  | [d] => { results := [.lit (.bool false)], args := [d] }
  | _ => none }
def TxChecksWrongFalsely : Prop := txChecksRow.holds Try.pinned (OpenSpec.ofChange txChecksWrong)

/-- 'bedrocklaw10.TxPoints': WHATEVER THE INPUT: true; the input reads as it did. -/
def txPointsSpec : ChangeSpec := { name := "txPoints", fn := fun _ => fun
  | [d1, d2, d3] => { results := [.lit (.bool true)], args := [d1, d2, d3] }
  | _ => none }
def txPointsRow : OpenClaim := { program := "ytpcjmcpghhmidaa", sum := "858c7762ad969e94c8f289561edcd2379eabb625d1fb93a30909346af4c3d441", func := "bedrock/bedrocklaw10.TxPoints", spec := "txPoints", inPlace := ["internal/abi.NoEscape", "internal/bytealg.Compare"], plainKeys := false, apart := false }
def TxPointsSaid : Prop := txPointsRow.holds Try.pinned (OpenSpec.ofChange txPointsSpec)

/-- ITS FALSE NEIGHBOUR: 'it returns false'. Refute it at one input. -/
def txPointsWrong : ChangeSpec := { name := "txPoints", fn := fun _ => fun
  | [d1, d2, d3] => { results := [.lit (.bool false)], args := [d1, d2, d3] }
  | _ => none }
def TxPointsWrongFalsely : Prop := txPointsRow.holds Try.pinned (OpenSpec.ofChange txPointsWrong)

/-- 'bedrocklaw10.TxTells': WHATEVER THE INPUT: true; the input reads as it did. -/
def txTellsSpec : ChangeSpec := { name := "txTells", fn := fun _ => fun
  | [d] => { results := [.lit (.bool true)], args := [d] }
  | _ => none }
def txTellsRow : OpenClaim := { program := "ytpcjmcpghhmidaa", sum := "858c7762ad969e94c8f289561edcd2379eabb625d1fb93a30909346af4c3d441", func := "bedrock/bedrocklaw10.TxTells", spec := "txTells", inPlace := ["internal/abi.NoEscape"], recurses := true, plainKeys := false, apart := false }
def TxTellsSaid : Prop := txTellsRow.holds Try.pinned (OpenSpec.ofChange txTellsSpec)

/-- ITS FALSE NEIGHBOUR: 'it returns false'. Refute it at one input. -/
def txTellsWrong : ChangeSpec := { name := "txTells", fn := fun _ => fun
  | [d] => { results := [.lit (.bool false)], args := [d] }
  | _ => none }
def TxTellsWrongFalsely : Prop := txTellsRow.holds Try.pinned (OpenSpec.ofChange txTellsWrong)

/-- 'bedrocklaw10.TxOpens': WHATEVER THE INPUT: true; the input reads as it did. -/
def txOpensSpec : ChangeSpec := { name := "txOpens", fn := fun _ => fun
  | [d1, d2, d3] => { results := [.lit (.bool true)], args := [d1, d2, d3] }
  | _ => none }
def txOpensRow : OpenClaim := { program := "ytpcjmcpghhmidaa", sum := "858c7762ad969e94c8f289561edcd2379eabb625d1fb93a30909346af4c3d441", func := "bedrock/bedrocklaw10.TxOpens", spec := "txOpens", inPlace := ["internal/abi.NoEscape"], recurses := true, plainKeys := false, apart := false }
def TxOpensSaid : Prop := txOpensRow.holds Try.pinned (OpenSpec.ofChange txOpensSpec)

/-- ITS FALSE NEIGHBOUR: 'it returns false'. Refute it at one input. -/
def txOpensWrong : ChangeSpec := { name := "txOpens", fn := fun _ => fun
  | [d1, d2, d3] => { results := [.lit (.bool false)], args := [d1, d2, d3] }
  | _ => none }
def TxOpensWrongFalsely : Prop := txOpensRow.holds Try.pinned (OpenSpec.ofChange txOpensWrong)

/-- 'bedrocklaw03.SipShorts': WHATEVER THE INPUT: true; the input reads as it did. -/
def sipShortsSpec : ChangeSpec := { name := "sipShorts", fn := fun _ => fun
  | [d] => { results := [.lit (.bool true)], args := [d] }
  | _ => none }
def sipShortsRow : OpenClaim := { program := "ytpcjmcpghhmidaa", sum := "858c7762ad969e94c8f289561edcd2379eabb625d1fb93a30909346af4c3d441", func := "bedrock/bedrocklaw03.SipShorts", spec := "sipShorts", inPlace := ["internal/abi.NoEscape", "internal/bytealg.MakeNoZero"], recurses := true, plainKeys := false, apart := false }
def SipShortsSaid : Prop := sipShortsRow.holds Try.pinned (OpenSpec.ofChange sipShortsSpec)

/-- ITS FALSE NEIGHBOUR: 'it returns false'. Refute it at one input. -/
def sipShortsWrong : ChangeSpec := { name := "sipShorts", fn := fun _ => fun
  | [d] => { results := [.lit (.bool false)], args := [d] }
  | _ => none }
def SipShortsWrongFalsely : Prop := sipShortsRow.holds Try.pinned (OpenSpec.ofChange sipShortsWrong)

/- THE SECOND FORM. 'bulk': how many values and letters a reading holds, each counted each time it is reached (what is shared counts as often as it is met; a slice's spare places count too). A statement '..UptoSaid' is the law's where the arguments, and the package variables that the reading takes, are together of bulk at most 1048576: NARROWER than '..Said'. Prove '..Said' where nothing that the law and all that it calls make is longer than what came in: it says more and counts as full. Else prove '..UptoSaid'. A law counts once. -/
mutual
def uptoBulk {H : Type} : DataW H → Nat
  | .lit (.string bytes) => bytes.length + 1
  | .lit _ => 1
  | .nil => 1
  | .ptr d => uptoBulk d + 1
  | .slice elems spare => uptoBulkAll elems + uptoBulkAll spare + 1
  | .agg parts => uptoBulkAll parts + 1
  | .iface _ d => uptoBulk d + 1
  | .map entries => uptoBulkEntries entries + 1
  | .held _ => 1
def uptoBulkAll {H : Type} : List (DataW H) → Nat
  | [] => 0
  | d :: r => uptoBulk d + uptoBulkAll r
def uptoBulkEntries {H : Type} : List (Lit × DataW H) → Nat
  | [] => 0
  | x :: r => uptoBulkEntry x + uptoBulkEntries r
def uptoBulkEntry {H : Type} : Lit × DataW H → Nat
  | (.string bytes, d) => bytes.length + uptoBulk d + 1
  | (_, d) => uptoBulk d + 1
 end
def uptoSmall : (H : Type) → List (DataW H) → Bool := fun _ ds => decide (uptoBulkAll ds ≤ 1048576)
def OpenSpec.upto (s : _root_.Go.ChangeSpec) : _root_.Go.OpenSpec := { _root_.Go.OpenSpec.ofChange s with cond := some uptoSmall }

/-- 'bedrocklaw03.SipDigests', WHERE WHAT IT READS IS OF BULK AT MOST 1048576: true; the input reads as it did. -/
def sipDigestsUptoRow : OpenClaim := { program := "ytpcjmcpghhmidaa", sum := "858c7762ad969e94c8f289561edcd2379eabb625d1fb93a30909346af4c3d441", func := "bedrock/bedrocklaw03.SipDigests", spec := "sipDigests", inPlace := ["internal/abi.NoEscape", "internal/bytealg.MakeNoZero"], plainKeys := false, apart := false, narrowed := true }
def SipDigestsUptoSaid : Prop := sipDigestsUptoRow.holds Try.pinned (OpenSpec.upto sipDigestsSpec)

/-- 'bedrocklaw10.TxReads', WHERE WHAT IT READS IS OF BULK AT MOST 1048576: true; the input reads as it did. -/
def txReadsUptoRow : OpenClaim := { program := "ytpcjmcpghhmidaa", sum := "858c7762ad969e94c8f289561edcd2379eabb625d1fb93a30909346af4c3d441", func := "bedrock/bedrocklaw10.TxReads", spec := "txReads", inPlace := ["internal/abi.NoEscape"], plainKeys := false, apart := false, narrowed := true }
def TxReadsUptoSaid : Prop := txReadsUptoRow.holds Try.pinned (OpenSpec.upto txReadsSpec)

/-- 'bedrocklaw03.SipFeeds', WHERE WHAT IT READS IS OF BULK AT MOST 1048576: true; the input reads as it did. -/
def sipFeedsUptoRow : OpenClaim := { program := "ytpcjmcpghhmidaa", sum := "858c7762ad969e94c8f289561edcd2379eabb625d1fb93a30909346af4c3d441", func := "bedrock/bedrocklaw03.SipFeeds", spec := "sipFeeds", inPlace := ["internal/abi.NoEscape", "internal/bytealg.MakeNoZero"], plainKeys := false, apart := false, narrowed := true }
def SipFeedsUptoSaid : Prop := sipFeedsUptoRow.holds Try.pinned (OpenSpec.upto sipFeedsSpec)

/-- 'bedrocklaw03.SipClashes', WHERE WHAT IT READS IS OF BULK AT MOST 1048576: true; the input reads as it did. -/
def sipClashesUptoRow : OpenClaim := { program := "ytpcjmcpghhmidaa", sum := "858c7762ad969e94c8f289561edcd2379eabb625d1fb93a30909346af4c3d441", func := "bedrock/bedrocklaw03.SipClashes", spec := "sipClashes", inPlace := ["internal/abi.NoEscape", "internal/bytealg.MakeNoZero"], plainKeys := false, apart := false, narrowed := true }
def SipClashesUptoSaid : Prop := sipClashesUptoRow.holds Try.pinned (OpenSpec.upto sipClashesSpec)

/-- 'bedrocklaw10.TxBack', WHERE WHAT IT READS IS OF BULK AT MOST 1048576: true; the input reads as it did. -/
def txBackUptoRow : OpenClaim := { program := "ytpcjmcpghhmidaa", sum := "858c7762ad969e94c8f289561edcd2379eabb625d1fb93a30909346af4c3d441", func := "bedrock/bedrocklaw10.TxBack", spec := "txBack", inPlace := ["internal/abi.NoEscape"], plainKeys := false, apart := false, narrowed := true }
def TxBackUptoSaid : Prop := txBackUptoRow.holds Try.pinned (OpenSpec.upto txBackSpec)

/-- 'bedrocklaw10.TxChecks', WHERE WHAT IT READS IS OF BULK AT MOST 1048576: true; the input reads as it did. -/
def txChecksUptoRow : OpenClaim := { program := "ytpcjmcpghhmidaa", sum := "858c7762ad969e94c8f289561edcd2379eabb625d1fb93a30909346af4c3d441", func := "bedrock/bedrocklaw10.TxChecks", spec := "txChecks", inPlace := ["internal/abi.NoEscape"], plainKeys := false, apart := false, narrowed := true }
def TxChecksUptoSaid : Prop := txChecksUptoRow.holds Try.pinned (OpenSpec.upto txChecksSpec)

/-- 'bedrocklaw10.TxPoints', WHERE WHAT IT READS IS OF BULK AT MOST 1048576: true; the input reads as it did. -/
def txPointsUptoRow : OpenClaim := { program := "ytpcjmcpghhmidaa", sum := "858c7762ad969e94c8f289561edcd2379eabb625d1fb93a30909346af4c3d441", func := "bedrock/bedrocklaw10.TxPoints", spec := "txPoints", inPlace := ["internal/abi.NoEscape", "internal/bytealg.Compare"], plainKeys := false, apart := false, narrowed := true }
def TxPointsUptoSaid : Prop := txPointsUptoRow.holds Try.pinned (OpenSpec.upto txPointsSpec)

/-- 'bedrocklaw10.TxTells', WHERE WHAT IT READS IS OF BULK AT MOST 1048576: true; the input reads as it did. -/
def txTellsUptoRow : OpenClaim := { program := "ytpcjmcpghhmidaa", sum := "858c7762ad969e94c8f289561edcd2379eabb625d1fb93a30909346af4c3d441", func := "bedrock/bedrocklaw10.TxTells", spec := "txTells", inPlace := ["internal/abi.NoEscape"], recurses := true, plainKeys := false, apart := false, narrowed := true }
def TxTellsUptoSaid : Prop := txTellsUptoRow.holds Try.pinned (OpenSpec.upto txTellsSpec)

/-- 'bedrocklaw10.TxOpens', WHERE WHAT IT READS IS OF BULK AT MOST 1048576: true; the input reads as it did. -/
def txOpensUptoRow : OpenClaim := { program := "ytpcjmcpghhmidaa", sum := "858c7762ad969e94c8f289561edcd2379eabb625d1fb93a30909346af4c3d441", func := "bedrock/bedrocklaw10.TxOpens", spec := "txOpens", inPlace := ["internal/abi.NoEscape"], recurses := true, plainKeys := false, apart := false, narrowed := true }
def TxOpensUptoSaid : Prop := txOpensUptoRow.holds Try.pinned (OpenSpec.upto txOpensSpec)

/-- 'bedrocklaw03.SipShorts', WHERE WHAT IT READS IS OF BULK AT MOST 1048576: true; the input reads as it did. -/
def sipShortsUptoRow : OpenClaim := { program := "ytpcjmcpghhmidaa", sum := "858c7762ad969e94c8f289561edcd2379eabb625d1fb93a30909346af4c3d441", func := "bedrock/bedrocklaw03.SipShorts", spec := "sipShorts", inPlace := ["internal/abi.NoEscape", "internal/bytealg.MakeNoZero"], recurses := true, plainKeys := false, apart := false, narrowed := true }
def SipShortsUptoSaid : Prop := sipShortsUptoRow.holds Try.pinned (OpenSpec.upto sipShortsSpec)

end Rows
end Go.Proofs.Ytpcjmcpghhmidaa
