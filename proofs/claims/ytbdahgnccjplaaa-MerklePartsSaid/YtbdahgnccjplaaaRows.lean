/-
  No cell of these rows narrows 'for every input' (looked for: loops, veiled, ifaces, maps, wideKeys, modest, calm, conditions, laid).
  DERIVED. THE GIVEN ROWS OF THIS SEAT. 8 by the template 'for every input the law returns true; each argument reads behind the call as it read before'; 0 by the template 'total and deterministic' (their statements: YtbdahgnccjplaaaTotals.lean).
  GIVEN WITH THE SEED: the statements are not yours to turn. If you find one false, say at which input.
  Laid BY PROGRAM, IN A SANDBOX (cutbox-rows.mjs): the forced cells as the released guide's own fill.sh prints them over the translation e9ffeccabdc7335b… (all of the seat's roots in one cut). By AI agents, Wed Nov 11 2026. No macro, syntax, notation, axiom, sorry.
-/
import Derived.Test.YtbdahgnccjplaaaChecked
import GoSem.Claim
import GoSem.ClaimJoined
import GoSem.ClaimMapViews
import Derived.JoinedTies
import Derived.KernelRfl
namespace Go.Proofs.Ytbdahgnccjplaaa
/- THE CELL 'sum', in the pinned program and in every row, IS THE sha256 OF THE DUMP (.gsa) THAT YtbdahgnccjplaaaProg.lean LOADS. Nothing in Lean hashes anything: it is a label: what it is worth is what the hold of that sum in a sandbox is worth. -/
noncomputable def Try.pinned : Pinned := { name := "ytbdahgnccjplaaa", sum := "e9ffeccabdc7335b7320f606db1af47b692735acb52f7449139f42f61cde4786", checked := Try.checked }
namespace Rows
def none {H : Type} : Left H := { results := [], args := [] }

/-- 'bedrocklaw06.MerkleRoots': WHATEVER THE INPUT: true; the input reads as it did. -/
def merkleRootsSpec : ChangeSpec := { name := "merkleRoots", fn := fun _ => fun
  | [d] => { results := [.lit (.bool true)], args := [d] }
  | _ => none }
def merkleRootsRow : OpenClaim := { program := "ytbdahgnccjplaaa", sum := "e9ffeccabdc7335b7320f606db1af47b692735acb52f7449139f42f61cde4786", func := "bedrock/bedrocklaw06.MerkleRoots", spec := "merkleRoots", recurses := true, plainKeys := false, apart := false }
def MerkleRootsSaid : Prop := merkleRootsRow.holds Try.pinned (OpenSpec.ofChange merkleRootsSpec)

/-- ITS FALSE NEIGHBOUR: 'it returns false'. Refute it at one input. -/
def merkleRootsWrong : ChangeSpec := { name := "merkleRoots", fn := fun _ => fun
  | [d] => { results := [.lit (.bool false)], args := [d] }
  | _ => none }
def MerkleRootsWrongFalsely : Prop := merkleRootsRow.holds Try.pinned (OpenSpec.ofChange merkleRootsWrong)

/-- 'bedrocklaw06.MerkleBranches': WHATEVER THE INPUT: true; the input reads as it did. -/
def merkleBranchesSpec : ChangeSpec := { name := "merkleBranches", fn := fun _ => fun
  | [d1, d2, d3] => { results := [.lit (.bool true)], args := [d1, d2, d3] }
  | _ => none }
def merkleBranchesRow : OpenClaim := { program := "ytbdahgnccjplaaa", sum := "e9ffeccabdc7335b7320f606db1af47b692735acb52f7449139f42f61cde4786", func := "bedrock/bedrocklaw06.MerkleBranches", spec := "merkleBranches", recurses := true, plainKeys := false, apart := false }
def MerkleBranchesSaid : Prop := merkleBranchesRow.holds Try.pinned (OpenSpec.ofChange merkleBranchesSpec)

/-- ITS FALSE NEIGHBOUR: 'it returns false'. Refute it at one input. -/
def merkleBranchesWrong : ChangeSpec := { name := "merkleBranches", fn := fun _ => fun
  | [d1, d2, d3] => { results := [.lit (.bool false)], args := [d1, d2, d3] }
  | _ => none }
def MerkleBranchesWrongFalsely : Prop := merkleBranchesRow.holds Try.pinned (OpenSpec.ofChange merkleBranchesWrong)

/-- 'bedrocklaw06.MerkleParts': WHATEVER THE INPUT: true; the input reads as it did. -/
def merklePartsSpec : ChangeSpec := { name := "merkleParts", fn := fun _ => fun
  | [d1, d2, d3] => { results := [.lit (.bool true)], args := [d1, d2, d3] }
  | _ => none }
def merklePartsRow : OpenClaim := { program := "ytbdahgnccjplaaa", sum := "e9ffeccabdc7335b7320f606db1af47b692735acb52f7449139f42f61cde4786", func := "bedrock/bedrocklaw06.MerkleParts", spec := "merkleParts", recurses := true, plainKeys := false, apart := false }
def MerklePartsSaid : Prop := merklePartsRow.holds Try.pinned (OpenSpec.ofChange merklePartsSpec)

/-- ITS FALSE NEIGHBOUR: 'it returns false'. Refute it at one input. -/
def merklePartsWrong : ChangeSpec := { name := "merkleParts", fn := fun _ => fun
  | [d1, d2, d3] => { results := [.lit (.bool false)], args := [d1, d2, d3] }
  | _ => none }
def MerklePartsWrongFalsely : Prop := merklePartsRow.holds Try.pinned (OpenSpec.ofChange merklePartsWrong)

/-- 'bedrocklaw06.MerkleShows': WHATEVER THE INPUT: true; the input reads as it did. -/
def merkleShowsSpec : ChangeSpec := { name := "merkleShows", fn := fun _ => fun
  | [d1, d2] => { results := [.lit (.bool true)], args := [d1, d2] }
  | _ => none }
def merkleShowsRow : OpenClaim := { program := "ytbdahgnccjplaaa", sum := "e9ffeccabdc7335b7320f606db1af47b692735acb52f7449139f42f61cde4786", func := "bedrock/bedrocklaw06.MerkleShows", spec := "merkleShows", recurses := true, plainKeys := false, apart := false }
def MerkleShowsSaid : Prop := merkleShowsRow.holds Try.pinned (OpenSpec.ofChange merkleShowsSpec)

/-- ITS FALSE NEIGHBOUR: 'it returns false'. Refute it at one input. -/
def merkleShowsWrong : ChangeSpec := { name := "merkleShows", fn := fun _ => fun
  | [d1, d2] => { results := [.lit (.bool false)], args := [d1, d2] }
  | _ => none }
def MerkleShowsWrongFalsely : Prop := merkleShowsRow.holds Try.pinned (OpenSpec.ofChange merkleShowsWrong)

/-- 'bedrocklaw09.MsgSame': WHATEVER THE INPUT: true; the input reads as it did. -/
def msgSameSpec : ChangeSpec := { name := "msgSame", fn := fun _ => fun
  | [d1, d2] => { results := [.lit (.bool true)], args := [d1, d2] }
  | _ => none }
def msgSameRow : OpenClaim := { program := "ytbdahgnccjplaaa", sum := "e9ffeccabdc7335b7320f606db1af47b692735acb52f7449139f42f61cde4786", func := "bedrock/bedrocklaw09.MsgSame", spec := "msgSame", inPlace := ["internal/abi.NoEscape"], plainKeys := false, apart := false }
def MsgSameSaid : Prop := msgSameRow.holds Try.pinned (OpenSpec.ofChange msgSameSpec)

/-- ITS FALSE NEIGHBOUR: 'it returns false'. Refute it at one input. -/
def msgSameWrong : ChangeSpec := { name := "msgSame", fn := fun _ => fun
  | [d1, d2] => { results := [.lit (.bool false)], args := [d1, d2] }
  | _ => none }
def MsgSameWrongFalsely : Prop := msgSameRow.holds Try.pinned (OpenSpec.ofChange msgSameWrong)

/-- 'bedrocklaw09.MsgEncodes': WHATEVER THE INPUT: true; the input reads as it did. -/
def msgEncodesSpec : ChangeSpec := { name := "msgEncodes", fn := fun _ => fun
  | [d] => { results := [.lit (.bool true)], args := [d] }
  | _ => none }
def msgEncodesRow : OpenClaim := { program := "ytbdahgnccjplaaa", sum := "e9ffeccabdc7335b7320f606db1af47b692735acb52f7449139f42f61cde4786", func := "bedrock/bedrocklaw09.MsgEncodes", spec := "msgEncodes", inPlace := ["internal/abi.NoEscape"], plainKeys := false, apart := false }
def MsgEncodesSaid : Prop := msgEncodesRow.holds Try.pinned (OpenSpec.ofChange msgEncodesSpec)

/-- ITS FALSE NEIGHBOUR: 'it returns false'. Refute it at one input. -/
def msgEncodesWrong : ChangeSpec := { name := "msgEncodes", fn := fun _ => fun
  | [d] => { results := [.lit (.bool false)], args := [d] }
  | _ => none }
def MsgEncodesWrongFalsely : Prop := msgEncodesRow.holds Try.pinned (OpenSpec.ofChange msgEncodesWrong)

/-- 'bedrocklaw09.MsgKinds': WHATEVER THE INPUT: true; the input reads as it did. -/
def msgKindsSpec : ChangeSpec := { name := "msgKinds", fn := fun _ => fun
  | [d1, d2, d3] => { results := [.lit (.bool true)], args := [d1, d2, d3] }
  | _ => none }
def msgKindsRow : OpenClaim := { program := "ytbdahgnccjplaaa", sum := "e9ffeccabdc7335b7320f606db1af47b692735acb52f7449139f42f61cde4786", func := "bedrock/bedrocklaw09.MsgKinds", spec := "msgKinds", inPlace := ["internal/abi.NoEscape"], plainKeys := false, apart := false }
def MsgKindsSaid : Prop := msgKindsRow.holds Try.pinned (OpenSpec.ofChange msgKindsSpec)

/-- ITS FALSE NEIGHBOUR: 'it returns false'. Refute it at one input. -/
def msgKindsWrong : ChangeSpec := { name := "msgKinds", fn := fun _ => fun
  | [d1, d2, d3] => { results := [.lit (.bool false)], args := [d1, d2, d3] }
  | _ => none }
def MsgKindsWrongFalsely : Prop := msgKindsRow.holds Try.pinned (OpenSpec.ofChange msgKindsWrong)

/-- 'bedrocklaw15.LocateNil': WHATEVER THE INPUT: true; the input reads as it did. -/
def locateNilSpec : ChangeSpec := { name := "locateNil", fn := fun _ => fun
  | [d] => { results := [.lit (.bool true)], args := [d] }
  | _ => none }
def locateNilRow : OpenClaim := { program := "ytbdahgnccjplaaa", sum := "e9ffeccabdc7335b7320f606db1af47b692735acb52f7449139f42f61cde4786", func := "bedrock/bedrocklaw15.LocateNil", spec := "locateNil", inPlace := ["internal/abi.NoEscape", "math/bits.Add64", "math/bits.Sub64"], unfollowed := true, recurses := true, plainKeys := false, apart := false }
def LocateNilSaid : Prop := locateNilRow.holds Try.pinned (OpenSpec.ofChange locateNilSpec)

/-- ITS FALSE NEIGHBOUR: 'it returns false'. Refute it at one input. -/
def locateNilWrong : ChangeSpec := { name := "locateNil", fn := fun _ => fun
  | [d] => { results := [.lit (.bool false)], args := [d] }
  | _ => none }
def LocateNilWrongFalsely : Prop := locateNilRow.holds Try.pinned (OpenSpec.ofChange locateNilWrong)

/- THE SECOND FORM. 'bulk': how many values and letters a reading holds, each counted each time it is reached (what is shared counts as often as it is met; a slice's spare places count too). A statement '..UptoSaid' is the law's where the arguments, and the package variables that the reading takes, are together of bulk at most 1048576: NARROWER than '..Said'. Prove '..Said' where nothing that the law and all that it calls make is longer than what came in: it says more and counts as full. Else prove '..UptoSaid'. A law counts once. -/
mutual
def uptoBulk {H : Type} : DataW H → Nat
  | .lit (.string bytes) => bytes.length + 1
  | .lit _ => 1
  | .nil => 1
  | .ptr d => uptoBulk d + 1
  | .slice elems spare => uptoBulkAll elems + uptoBulkAll spare + 1
  | .agg parts => uptoBulkAll parts + 1
  | .iface _ d => uptoBulk d + 1
  | .map entries => uptoBulkEntries entries + 1
  | .held _ => 1
def uptoBulkAll {H : Type} : List (DataW H) → Nat
  | [] => 0
  | d :: r => uptoBulk d + uptoBulkAll r
def uptoBulkEntries {H : Type} : List (Lit × DataW H) → Nat
  | [] => 0
  | x :: r => uptoBulkEntry x + uptoBulkEntries r
def uptoBulkEntry {H : Type} : Lit × DataW H → Nat
  | (.string bytes, d) => bytes.length + uptoBulk d + 1
  | (_, d) => uptoBulk d + 1
 end
def uptoSmall : (H : Type) → List (DataW H) → Bool := fun _ ds => decide (uptoBulkAll ds ≤ 1048576)
def OpenSpec.upto (s : _root_.Go.ChangeSpec) : _root_.Go.OpenSpec := { _root_.Go.OpenSpec.ofChange s with cond := some uptoSmall }

/-- 'bedrocklaw06.MerkleRoots', WHERE WHAT IT READS IS OF BULK AT MOST 1048576: true; the input reads as it did. -/
def merkleRootsUptoRow : OpenClaim := { program := "ytbdahgnccjplaaa", sum := "e9ffeccabdc7335b7320f606db1af47b692735acb52f7449139f42f61cde4786", func := "bedrock/bedrocklaw06.MerkleRoots", spec := "merkleRoots", recurses := true, plainKeys := false, apart := false, narrowed := true }
def MerkleRootsUptoSaid : Prop := merkleRootsUptoRow.holds Try.pinned (OpenSpec.upto merkleRootsSpec)

/-- 'bedrocklaw06.MerkleBranches', WHERE WHAT IT READS IS OF BULK AT MOST 1048576: true; the input reads as it did. -/
def merkleBranchesUptoRow : OpenClaim := { program := "ytbdahgnccjplaaa", sum := "e9ffeccabdc7335b7320f606db1af47b692735acb52f7449139f42f61cde4786", func := "bedrock/bedrocklaw06.MerkleBranches", spec := "merkleBranches", recurses := true, plainKeys := false, apart := false, narrowed := true }
def MerkleBranchesUptoSaid : Prop := merkleBranchesUptoRow.holds Try.pinned (OpenSpec.upto merkleBranchesSpec)

/-- 'bedrocklaw06.MerkleParts', WHERE WHAT IT READS IS OF BULK AT MOST 1048576: true; the input reads as it did. -/
def merklePartsUptoRow : OpenClaim := { program := "ytbdahgnccjplaaa", sum := "e9ffeccabdc7335b7320f606db1af47b692735acb52f7449139f42f61cde4786", func := "bedrock/bedrocklaw06.MerkleParts", spec := "merkleParts", recurses := true, plainKeys := false, apart := false, narrowed := true }
def MerklePartsUptoSaid : Prop := merklePartsUptoRow.holds Try.pinned (OpenSpec.upto merklePartsSpec)

/-- 'bedrocklaw06.MerkleShows', WHERE WHAT IT READS IS OF BULK AT MOST 1048576: true; the input reads as it did. -/
def merkleShowsUptoRow : OpenClaim := { program := "ytbdahgnccjplaaa", sum := "e9ffeccabdc7335b7320f606db1af47b692735acb52f7449139f42f61cde4786", func := "bedrock/bedrocklaw06.MerkleShows", spec := "merkleShows", recurses := true, plainKeys := false, apart := false, narrowed := true }
def MerkleShowsUptoSaid : Prop := merkleShowsUptoRow.holds Try.pinned (OpenSpec.upto merkleShowsSpec)

/-- 'bedrocklaw09.MsgSame', WHERE WHAT IT READS IS OF BULK AT MOST 1048576: true; the input reads as it did. -/
def msgSameUptoRow : OpenClaim := { program := "ytbdahgnccjplaaa", sum := "e9ffeccabdc7335b7320f606db1af47b692735acb52f7449139f42f61cde4786", func := "bedrock/bedrocklaw09.MsgSame", spec := "msgSame", inPlace := ["internal/abi.NoEscape"], plainKeys := false, apart := false, narrowed := true }
def MsgSameUptoSaid : Prop := msgSameUptoRow.holds Try.pinned (OpenSpec.upto msgSameSpec)

/-- 'bedrocklaw09.MsgEncodes', WHERE WHAT IT READS IS OF BULK AT MOST 1048576: true; the input reads as it did. -/
def msgEncodesUptoRow : OpenClaim := { program := "ytbdahgnccjplaaa", sum := "e9ffeccabdc7335b7320f606db1af47b692735acb52f7449139f42f61cde4786", func := "bedrock/bedrocklaw09.MsgEncodes", spec := "msgEncodes", inPlace := ["internal/abi.NoEscape"], plainKeys := false, apart := false, narrowed := true }
def MsgEncodesUptoSaid : Prop := msgEncodesUptoRow.holds Try.pinned (OpenSpec.upto msgEncodesSpec)

/-- 'bedrocklaw09.MsgKinds', WHERE WHAT IT READS IS OF BULK AT MOST 1048576: true; the input reads as it did. -/
def msgKindsUptoRow : OpenClaim := { program := "ytbdahgnccjplaaa", sum := "e9ffeccabdc7335b7320f606db1af47b692735acb52f7449139f42f61cde4786", func := "bedrock/bedrocklaw09.MsgKinds", spec := "msgKinds", inPlace := ["internal/abi.NoEscape"], plainKeys := false, apart := false, narrowed := true }
def MsgKindsUptoSaid : Prop := msgKindsUptoRow.holds Try.pinned (OpenSpec.upto msgKindsSpec)

/-- 'bedrocklaw15.LocateNil', WHERE WHAT IT READS IS OF BULK AT MOST 1048576: true; the input reads as it did. -/
def locateNilUptoRow : OpenClaim := { program := "ytbdahgnccjplaaa", sum := "e9ffeccabdc7335b7320f606db1af47b692735acb52f7449139f42f61cde4786", func := "bedrock/bedrocklaw15.LocateNil", spec := "locateNil", inPlace := ["internal/abi.NoEscape", "math/bits.Add64", "math/bits.Sub64"], unfollowed := true, recurses := true, plainKeys := false, apart := false, narrowed := true }
def LocateNilUptoSaid : Prop := locateNilUptoRow.holds Try.pinned (OpenSpec.upto locateNilSpec)

end Rows
end Go.Proofs.Ytbdahgnccjplaaa
