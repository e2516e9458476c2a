/-
  No cell of these rows narrows 'for every input' (looked for: loops, veiled, ifaces, maps, wideKeys, modest, calm, conditions, laid).
  DERIVED. THE GIVEN ROWS OF THIS SEAT. 7 by the template 'for every input the law returns true; each argument reads behind the call as it read before'; 0 by the template 'total and deterministic' (their statements: YtlbllaocdilafaaTotals.lean).
  GIVEN WITH THE SEED: the statements are not yours to turn. If you find one false, say at which input.
  Laid BY PROGRAM, IN A SANDBOX (cutbox-rows.mjs): the forced cells as the released guide's own fill.sh prints them over the translation a9b6a357a9c32283… (all of the seat's roots in one cut). By AI agents, Wed Nov 11 2026. No macro, syntax, notation, axiom, sorry.
-/
import Derived.Test.YtlbllaocdilafaaChecked
import GoSem.Claim
import GoSem.ClaimJoined
import GoSem.ClaimMapViews
import Derived.JoinedTies
import Derived.KernelRfl
namespace Go.Proofs.Ytlbllaocdilafaa
/- THE CELL 'sum', in the pinned program and in every row, IS THE sha256 OF THE DUMP (.gsa) THAT YtlbllaocdilafaaProg.lean LOADS. Nothing in Lean hashes anything: it is a label: what it is worth is what the hold of that sum in a sandbox is worth. -/
noncomputable def Try.pinned : Pinned := { name := "ytlbllaocdilafaa", sum := "a9b6a357a9c322834b836e7a70c55c7435c7fd44ea136179e4b308860d1910ec", checked := Try.checked }
namespace Rows
def none {H : Type} : Left H := { results := [], args := [] }

/-- 'bedrocklaw06.MerkleRoots': WHATEVER THE INPUT: true; the input reads as it did. -/
def merkleRootsSpec : ChangeSpec := { name := "merkleRoots", fn := fun _ => fun
  | [d] => { results := [.lit (.bool true)], args := [d] }
  | _ => none }
def merkleRootsRow : OpenClaim := { program := "ytlbllaocdilafaa", sum := "a9b6a357a9c322834b836e7a70c55c7435c7fd44ea136179e4b308860d1910ec", func := "bedrock/bedrocklaw06.MerkleRoots", spec := "merkleRoots", recurses := true, apart := false }
def MerkleRootsSaid : Prop := merkleRootsRow.holds Try.pinned (OpenSpec.ofChange merkleRootsSpec)

/-- ITS FALSE NEIGHBOUR: 'it returns false'. Refute it at one input. -/
def merkleRootsWrong : ChangeSpec := { name := "merkleRoots", fn := fun _ => fun
  | [d] => { results := [.lit (.bool false)], args := [d] }
  | _ => none }
def MerkleRootsWrongFalsely : Prop := merkleRootsRow.holds Try.pinned (OpenSpec.ofChange merkleRootsWrong)

/-- 'bedrocklaw06.MerkleBranches': WHATEVER THE INPUT: true; the input reads as it did. -/
def merkleBranchesSpec : ChangeSpec := { name := "merkleBranches", fn := fun _ => fun
  | [d1, d2, d3] => { results := [.lit (.bool true)], args := [d1, d2, d3] }
  | _ => none }
def merkleBranchesRow : OpenClaim := { program := "ytlbllaocdilafaa", sum := "a9b6a357a9c322834b836e7a70c55c7435c7fd44ea136179e4b308860d1910ec", func := "bedrock/bedrocklaw06.MerkleBranches", spec := "merkleBranches", recurses := true, apart := false }
def MerkleBranchesSaid : Prop := merkleBranchesRow.holds Try.pinned (OpenSpec.ofChange merkleBranchesSpec)

/-- ITS FALSE NEIGHBOUR: 'it returns false'. Refute it at one input. -/
def merkleBranchesWrong : ChangeSpec := { name := "merkleBranches", fn := fun _ => fun
  | [d1, d2, d3] => { results := [.lit (.bool false)], args := [d1, d2, d3] }
  | _ => none }
def MerkleBranchesWrongFalsely : Prop := merkleBranchesRow.holds Try.pinned (OpenSpec.ofChange merkleBranchesWrong)

/-- 'bedrocklaw06.MerkleParts': WHATEVER THE INPUT: true; the input reads as it did. -/
def merklePartsSpec : ChangeSpec := { name := "merkleParts", fn := fun _ => fun
  | [d1, d2, d3] => { results := [.lit (.bool true)], args := [d1, d2, d3] }
  | _ => none }
def merklePartsRow : OpenClaim := { program := "ytlbllaocdilafaa", sum := "a9b6a357a9c322834b836e7a70c55c7435c7fd44ea136179e4b308860d1910ec", func := "bedrock/bedrocklaw06.MerkleParts", spec := "merkleParts", recurses := true, apart := false }
def MerklePartsSaid : Prop := merklePartsRow.holds Try.pinned (OpenSpec.ofChange merklePartsSpec)

/-- ITS FALSE NEIGHBOUR: 'it returns false'. Refute it at one input. -/
def merklePartsWrong : ChangeSpec := { name := "merkleParts", fn := fun _ => fun
  | [d1, d2, d3] => { results := [.lit (.bool false)], args := [d1, d2, d3] }
  | _ => none }
def MerklePartsWrongFalsely : Prop := merklePartsRow.holds Try.pinned (OpenSpec.ofChange merklePartsWrong)

/-- 'bedrocklaw06.MerkleShows': WHATEVER THE INPUT: true; the input reads as it did. -/
def merkleShowsSpec : ChangeSpec := { name := "merkleShows", fn := fun _ => fun
  | [d1, d2] => { results := [.lit (.bool true)], args := [d1, d2] }
  | _ => none }
def merkleShowsRow : OpenClaim := { program := "ytlbllaocdilafaa", sum := "a9b6a357a9c322834b836e7a70c55c7435c7fd44ea136179e4b308860d1910ec", func := "bedrock/bedrocklaw06.MerkleShows", spec := "merkleShows", recurses := true, apart := false }
def MerkleShowsSaid : Prop := merkleShowsRow.holds Try.pinned (OpenSpec.ofChange merkleShowsSpec)

/-- ITS FALSE NEIGHBOUR: 'it returns false'. Refute it at one input. -/
def merkleShowsWrong : ChangeSpec := { name := "merkleShows", fn := fun _ => fun
  | [d1, d2] => { results := [.lit (.bool false)], args := [d1, d2] }
  | _ => none }
def MerkleShowsWrongFalsely : Prop := merkleShowsRow.holds Try.pinned (OpenSpec.ofChange merkleShowsWrong)

/-- 'bedrocklaw09.MsgSame': WHATEVER THE INPUT: true; the input reads as it did. -/
def msgSameSpec : ChangeSpec := { name := "msgSame", fn := fun _ => fun
  | [d1, d2] => { results := [.lit (.bool true)], args := [d1, d2] }
  | _ => none }
def msgSameRow : OpenClaim := { program := "ytlbllaocdilafaa", sum := "a9b6a357a9c322834b836e7a70c55c7435c7fd44ea136179e4b308860d1910ec", func := "bedrock/bedrocklaw09.MsgSame", spec := "msgSame", inPlace := ["internal/abi.NoEscape"], apart := false }
def MsgSameSaid : Prop := msgSameRow.holds Try.pinned (OpenSpec.ofChange msgSameSpec)

/-- ITS FALSE NEIGHBOUR: 'it returns false'. Refute it at one input. -/
def msgSameWrong : ChangeSpec := { name := "msgSame", fn := fun _ => fun
  | [d1, d2] => { results := [.lit (.bool false)], args := [d1, d2] }
  | _ => none }
def MsgSameWrongFalsely : Prop := msgSameRow.holds Try.pinned (OpenSpec.ofChange msgSameWrong)

/-- 'bedrocklaw09.MsgEncodes': WHATEVER THE INPUT: true; the input reads as it did. -/
def msgEncodesSpec : ChangeSpec := { name := "msgEncodes", fn := fun _ => fun
  | [d] => { results := [.lit (.bool true)], args := [d] }
  | _ => none }
def msgEncodesRow : OpenClaim := { program := "ytlbllaocdilafaa", sum := "a9b6a357a9c322834b836e7a70c55c7435c7fd44ea136179e4b308860d1910ec", func := "bedrock/bedrocklaw09.MsgEncodes", spec := "msgEncodes", inPlace := ["internal/abi.NoEscape"], apart := false }
def MsgEncodesSaid : Prop := msgEncodesRow.holds Try.pinned (OpenSpec.ofChange msgEncodesSpec)

/-- ITS FALSE NEIGHBOUR: 'it returns false'. Refute it at one input. -/
def msgEncodesWrong : ChangeSpec := { name := "msgEncodes", fn := fun _ => fun
  | [d] => { results := [.lit (.bool false)], args := [d] }
  | _ => none }
def MsgEncodesWrongFalsely : Prop := msgEncodesRow.holds Try.pinned (OpenSpec.ofChange msgEncodesWrong)

/-- 'bedrocklaw09.MsgKinds': WHATEVER THE INPUT: true; the input reads as it did. -/
def msgKindsSpec : ChangeSpec := { name := "msgKinds", fn := fun _ => fun
  | [d1, d2, d3] => { results := [.lit (.bool true)], args := [d1, d2, d3] }
  | _ => none }
def msgKindsRow : OpenClaim := { program := "ytlbllaocdilafaa", sum := "a9b6a357a9c322834b836e7a70c55c7435c7fd44ea136179e4b308860d1910ec", func := "bedrock/bedrocklaw09.MsgKinds", spec := "msgKinds", inPlace := ["internal/abi.NoEscape"], apart := false }
def MsgKindsSaid : Prop := msgKindsRow.holds Try.pinned (OpenSpec.ofChange msgKindsSpec)

/-- ITS FALSE NEIGHBOUR: 'it returns false'. Refute it at one input. -/
def msgKindsWrong : ChangeSpec := { name := "msgKinds", fn := fun _ => fun
  | [d1, d2, d3] => { results := [.lit (.bool false)], args := [d1, d2, d3] }
  | _ => none }
def MsgKindsWrongFalsely : Prop := msgKindsRow.holds Try.pinned (OpenSpec.ofChange msgKindsWrong)

/- THE SECOND FORM. 'bulk': how many values and letters a reading holds, each counted each time it is reached (what is shared counts as often as it is met; a slice's spare places count too). A statement '..UptoSaid' is the law's where the arguments, and the package variables that the reading takes, are together of bulk at most 1048576: NARROWER than '..Said'. Prove '..Said' where nothing that the law and all that it calls make is longer than what came in: it says more and counts as full. Else prove '..UptoSaid'. A law counts once. -/
mutual
def uptoBulk {H : Type} : DataW H → Nat
  | .lit (.string bytes) => bytes.length + 1
  | .lit _ => 1
  | .nil => 1
  | .ptr d => uptoBulk d + 1
  | .slice elems spare => uptoBulkAll elems + uptoBulkAll spare + 1
  | .agg parts => uptoBulkAll parts + 1
  | .iface _ d => uptoBulk d + 1
  | .map entries => uptoBulkEntries entries + 1
  | .held _ => 1
def uptoBulkAll {H : Type} : List (DataW H) → Nat
  | [] => 0
  | d :: r => uptoBulk d + uptoBulkAll r
def uptoBulkEntries {H : Type} : List (Lit × DataW H) → Nat
  | [] => 0
  | x :: r => uptoBulkEntry x + uptoBulkEntries r
def uptoBulkEntry {H : Type} : Lit × DataW H → Nat
  | (.string bytes, d) => bytes.length + uptoBulk d + 1
  | (_, d) => uptoBulk d + 1
 end
def uptoSmall : (H : Type) → List (DataW H) → Bool := fun _ ds => decide (uptoBulkAll ds ≤ 1048576)
def OpenSpec.upto (s : _root_.Go.ChangeSpec) : _root_.Go.OpenSpec := { _root_.Go.OpenSpec.ofChange s with cond := some uptoSmall }

/-- 'bedrocklaw06.MerkleRoots', WHERE WHAT IT READS IS OF BULK AT MOST 1048576: true; the input reads as it did. -/
def merkleRootsUptoRow : OpenClaim := { program := "ytlbllaocdilafaa", sum := "a9b6a357a9c322834b836e7a70c55c7435c7fd44ea136179e4b308860d1910ec", func := "bedrock/bedrocklaw06.MerkleRoots", spec := "merkleRoots", recurses := true, apart := false, narrowed := true }
def MerkleRootsUptoSaid : Prop := merkleRootsUptoRow.holds Try.pinned (OpenSpec.upto merkleRootsSpec)

/-- 'bedrocklaw06.MerkleBranches', WHERE WHAT IT READS IS OF BULK AT MOST 1048576: true; the input reads as it did. -/
def merkleBranchesUptoRow : OpenClaim := { program := "ytlbllaocdilafaa", sum := "a9b6a357a9c322834b836e7a70c55c7435c7fd44ea136179e4b308860d1910ec", func := "bedrock/bedrocklaw06.MerkleBranches", spec := "merkleBranches", recurses := true, apart := false, narrowed := true }
def MerkleBranchesUptoSaid : Prop := merkleBranchesUptoRow.holds Try.pinned (OpenSpec.upto merkleBranchesSpec)

/-- 'bedrocklaw06.MerkleParts', WHERE WHAT IT READS IS OF BULK AT MOST 1048576: true; the input reads as it did. -/
def merklePartsUptoRow : OpenClaim := { program := "ytlbllaocdilafaa", sum := "a9b6a357a9c322834b836e7a70c55c7435c7fd44ea136179e4b308860d1910ec", func := "bedrock/bedrocklaw06.MerkleParts", spec := "merkleParts", recurses := true, apart := false, narrowed := true }
def MerklePartsUptoSaid : Prop := merklePartsUptoRow.holds Try.pinned (OpenSpec.upto merklePartsSpec)

/-- 'bedrocklaw06.MerkleShows', WHERE WHAT IT READS IS OF BULK AT MOST 1048576: true; the input reads as it did. -/
def merkleShowsUptoRow : OpenClaim := { program := "ytlbllaocdilafaa", sum := "a9b6a357a9c322834b836e7a70c55c7435c7fd44ea136179e4b308860d1910ec", func := "bedrock/bedrocklaw06.MerkleShows", spec := "merkleShows", recurses := true, apart := false, narrowed := true }
def MerkleShowsUptoSaid : Prop := merkleShowsUptoRow.holds Try.pinned (OpenSpec.upto merkleShowsSpec)

/-- 'bedrocklaw09.MsgSame', WHERE WHAT IT READS IS OF BULK AT MOST 1048576: true; the input reads as it did. -/
def msgSameUptoRow : OpenClaim := { program := "ytlbllaocdilafaa", sum := "a9b6a357a9c322834b836e7a70c55c7435c7fd44ea136179e4b308860d1910ec", func := "bedrock/bedrocklaw09.MsgSame", spec := "msgSame", inPlace := ["internal/abi.NoEscape"], apart := false, narrowed := true }
def MsgSameUptoSaid : Prop := msgSameUptoRow.holds Try.pinned (OpenSpec.upto msgSameSpec)

/-- 'bedrocklaw09.MsgEncodes', WHERE WHAT IT READS IS OF BULK AT MOST 1048576: true; the input reads as it did. -/
def msgEncodesUptoRow : OpenClaim := { program := "ytlbllaocdilafaa", sum := "a9b6a357a9c322834b836e7a70c55c7435c7fd44ea136179e4b308860d1910ec", func := "bedrock/bedrocklaw09.MsgEncodes", spec := "msgEncodes", inPlace := ["internal/abi.NoEscape"], apart := false, narrowed := true }
def MsgEncodesUptoSaid : Prop := msgEncodesUptoRow.holds Try.pinned (OpenSpec.upto msgEncodesSpec)

/-- 'bedrocklaw09.MsgKinds', WHERE WHAT IT READS IS OF BULK AT MOST 1048576: true; the input reads as it did. -/
def msgKindsUptoRow : OpenClaim := { program := "ytlbllaocdilafaa", sum := "a9b6a357a9c322834b836e7a70c55c7435c7fd44ea136179e4b308860d1910ec", func := "bedrock/bedrocklaw09.MsgKinds", spec := "msgKinds", inPlace := ["internal/abi.NoEscape"], apart := false, narrowed := true }
def MsgKindsUptoSaid : Prop := msgKindsUptoRow.holds Try.pinned (OpenSpec.upto msgKindsSpec)

end Rows
end Go.Proofs.Ytlbllaocdilafaa
