/-
  No cell of these rows narrows 'for every input' (looked for: loops, veiled, ifaces, maps, wideKeys, modest, calm, conditions, laid).
  DERIVED. THE GIVEN ROWS OF THIS SEAT. 14 by the template 'for every input the law returns true; each argument reads behind the call as it read before'; 0 by the template 'total and deterministic' (their statements: YtegcdnjihnpolaaTotals.lean).
  GIVEN WITH THE SEED: the statements are not yours to turn. If you find one false, say at which input.
  Laid BY PROGRAM, IN A SANDBOX (cutbox-rows.mjs): the forced cells as the released guide's own fill.sh prints them over the translation e78fc8feb179eb80… (all of the seat's roots in one cut). By AI agents, Wed Nov 11 2026. No macro, syntax, notation, axiom, sorry.
-/
import Derived.Test.YtegcdnjihnpolaaChecked
import GoSem.Claim
import GoSem.ClaimJoined
import GoSem.ClaimMapViews
import Derived.JoinedTies
import Derived.KernelRfl
namespace Go.Proofs.Ytegcdnjihnpolaa
/- THE CELL 'sum', in the pinned program and in every row, IS THE sha256 OF THE DUMP (.gsa) THAT YtegcdnjihnpolaaProg.lean LOADS. Nothing in Lean hashes anything: it is a label: what it is worth is what the hold of that sum in a sandbox is worth. -/
noncomputable def Try.pinned : Pinned := { name := "ytegcdnjihnpolaa", sum := "e78fc8feb179eb807972463e597fb4b26ebc7f2dc6f3823ab97fe93370d790f8", checked := Try.checked }
namespace Rows
def none {H : Type} : Left H := { results := [], args := [] }

/-- 'bedrocklaw04.WideShifts': WHATEVER THE INPUT: true; the input reads as it did. -/
def wideShiftsSpec : ChangeSpec := { name := "wideShifts", fn := fun _ => fun
  | [d1, d2] => { results := [.lit (.bool true)], args := [d1, d2] }
  | _ => none }
def wideShiftsRow : OpenClaim := { program := "ytegcdnjihnpolaa", sum := "e78fc8feb179eb807972463e597fb4b26ebc7f2dc6f3823ab97fe93370d790f8", func := "bedrock/bedrocklaw04.WideShifts", spec := "wideShifts", inPlace := ["math/bits.Add64", "math/bits.Sub64"], recurses := true, apart := false }
def WideShiftsSaid : Prop := wideShiftsRow.holds Try.pinned (OpenSpec.ofChange wideShiftsSpec)

/-- ITS FALSE NEIGHBOUR: 'it returns false'. Refute it at one input. -/
def wideShiftsWrong : ChangeSpec := { name := "wideShifts", fn := fun _ => fun
  | [d1, d2] => { results := [.lit (.bool false)], args := [d1, d2] }
  | _ => none }
def WideShiftsWrongFalsely : Prop := wideShiftsRow.holds Try.pinned (OpenSpec.ofChange wideShiftsWrong)

/-- 'bedrocklaw04.WideLists': WHATEVER THE INPUT: true; the input reads as it did. -/
def wideListsSpec : ChangeSpec := { name := "wideLists", fn := fun _ => fun
  | [d] => { results := [.lit (.bool true)], args := [d] }
  | _ => none }
def wideListsRow : OpenClaim := { program := "ytegcdnjihnpolaa", sum := "e78fc8feb179eb807972463e597fb4b26ebc7f2dc6f3823ab97fe93370d790f8", func := "bedrock/bedrocklaw04.WideLists", spec := "wideLists", inPlace := ["math/bits.Add64", "math/bits.Sub64"], recurses := true, apart := false }
def WideListsSaid : Prop := wideListsRow.holds Try.pinned (OpenSpec.ofChange wideListsSpec)

/-- ITS FALSE NEIGHBOUR: 'it returns false'. Refute it at one input. -/
def wideListsWrong : ChangeSpec := { name := "wideLists", fn := fun _ => fun
  | [d] => { results := [.lit (.bool false)], args := [d] }
  | _ => none }
def WideListsWrongFalsely : Prop := wideListsRow.holds Try.pinned (OpenSpec.ofChange wideListsWrong)

/-- 'bedrocklaw06.MerkleRoots': WHATEVER THE INPUT: true; the input reads as it did. -/
def merkleRootsSpec : ChangeSpec := { name := "merkleRoots", fn := fun _ => fun
  | [d] => { results := [.lit (.bool true)], args := [d] }
  | _ => none }
def merkleRootsRow : OpenClaim := { program := "ytegcdnjihnpolaa", sum := "e78fc8feb179eb807972463e597fb4b26ebc7f2dc6f3823ab97fe93370d790f8", func := "bedrock/bedrocklaw06.MerkleRoots", spec := "merkleRoots", recurses := true, apart := false }
def MerkleRootsSaid : Prop := merkleRootsRow.holds Try.pinned (OpenSpec.ofChange merkleRootsSpec)

/-- ITS FALSE NEIGHBOUR: 'it returns false'. Refute it at one input. -/
def merkleRootsWrong : ChangeSpec := { name := "merkleRoots", fn := fun _ => fun
  | [d] => { results := [.lit (.bool false)], args := [d] }
  | _ => none }
def MerkleRootsWrongFalsely : Prop := merkleRootsRow.holds Try.pinned (OpenSpec.ofChange merkleRootsWrong)

/-- 'bedrocklaw06.MerkleBranches': WHATEVER THE INPUT: true; the input reads as it did. -/
def merkleBranchesSpec : ChangeSpec := { name := "merkleBranches", fn := fun _ => fun
  | [d1, d2, d3] => { results := [.lit (.bool true)], args := [d1, d2, d3] }
  | _ => none }
def merkleBranchesRow : OpenClaim := { program := "ytegcdnjihnpolaa", sum := "e78fc8feb179eb807972463e597fb4b26ebc7f2dc6f3823ab97fe93370d790f8", func := "bedrock/bedrocklaw06.MerkleBranches", spec := "merkleBranches", recurses := true, apart := false }
def MerkleBranchesSaid : Prop := merkleBranchesRow.holds Try.pinned (OpenSpec.ofChange merkleBranchesSpec)

/-- ITS FALSE NEIGHBOUR: 'it returns false'. Refute it at one input. -/
def merkleBranchesWrong : ChangeSpec := { name := "merkleBranches", fn := fun _ => fun
  | [d1, d2, d3] => { results := [.lit (.bool false)], args := [d1, d2, d3] }
  | _ => none }
def MerkleBranchesWrongFalsely : Prop := merkleBranchesRow.holds Try.pinned (OpenSpec.ofChange merkleBranchesWrong)

/-- 'bedrocklaw04.WideSums': WHATEVER THE INPUT: true; the input reads as it did. -/
def wideSumsSpec : ChangeSpec := { name := "wideSums", fn := fun _ => fun
  | [d1, d2] => { results := [.lit (.bool true)], args := [d1, d2] }
  | _ => none }
def wideSumsRow : OpenClaim := { program := "ytegcdnjihnpolaa", sum := "e78fc8feb179eb807972463e597fb4b26ebc7f2dc6f3823ab97fe93370d790f8", func := "bedrock/bedrocklaw04.WideSums", spec := "wideSums", inPlace := ["math/bits.Add64", "math/bits.Sub64"], recurses := true, apart := false }
def WideSumsSaid : Prop := wideSumsRow.holds Try.pinned (OpenSpec.ofChange wideSumsSpec)

/-- ITS FALSE NEIGHBOUR: 'it returns false'. Refute it at one input. -/
def wideSumsWrong : ChangeSpec := { name := "wideSums", fn := fun _ => fun
  | [d1, d2] => { results := [.lit (.bool false)], args := [d1, d2] }
  | _ => none }
def WideSumsWrongFalsely : Prop := wideSumsRow.holds Try.pinned (OpenSpec.ofChange wideSumsWrong)

/-- 'bedrocklaw04.WideRoots': WHATEVER THE INPUT: true; the input reads as it did. -/
def wideRootsSpec : ChangeSpec := { name := "wideRoots", fn := fun _ => fun
  | [d] => { results := [.lit (.bool true)], args := [d] }
  | _ => none }
def wideRootsRow : OpenClaim := { program := "ytegcdnjihnpolaa", sum := "e78fc8feb179eb807972463e597fb4b26ebc7f2dc6f3823ab97fe93370d790f8", func := "bedrock/bedrocklaw04.WideRoots", spec := "wideRoots", inPlace := ["math/bits.Add64", "math/bits.Sub64"], recurses := true, apart := false }
def WideRootsSaid : Prop := wideRootsRow.holds Try.pinned (OpenSpec.ofChange wideRootsSpec)

/-- ITS FALSE NEIGHBOUR: 'it returns false'. Refute it at one input. -/
def wideRootsWrong : ChangeSpec := { name := "wideRoots", fn := fun _ => fun
  | [d] => { results := [.lit (.bool false)], args := [d] }
  | _ => none }
def WideRootsWrongFalsely : Prop := wideRootsRow.holds Try.pinned (OpenSpec.ofChange wideRootsWrong)

/-- 'bedrocklaw04.WideBack': WHATEVER THE INPUT: true; the input reads as it did. -/
def wideBackSpec : ChangeSpec := { name := "wideBack", fn := fun _ => fun
  | [d1, d2, d3] => { results := [.lit (.bool true)], args := [d1, d2, d3] }
  | _ => none }
def wideBackRow : OpenClaim := { program := "ytegcdnjihnpolaa", sum := "e78fc8feb179eb807972463e597fb4b26ebc7f2dc6f3823ab97fe93370d790f8", func := "bedrock/bedrocklaw04.WideBack", spec := "wideBack", inPlace := ["math/bits.Add64", "math/bits.Sub64"], recurses := true, apart := false }
def WideBackSaid : Prop := wideBackRow.holds Try.pinned (OpenSpec.ofChange wideBackSpec)

/-- ITS FALSE NEIGHBOUR: 'it returns false'. Refute it at one input. -/
def wideBackWrong : ChangeSpec := { name := "wideBack", fn := fun _ => fun
  | [d1, d2, d3] => { results := [.lit (.bool false)], args := [d1, d2, d3] }
  | _ => none }
def WideBackWrongFalsely : Prop := wideBackRow.holds Try.pinned (OpenSpec.ofChange wideBackWrong)

/-- 'bedrocklaw05.TargetBits': WHATEVER THE INPUT: true; the input reads as it did. -/
def targetBitsSpec : ChangeSpec := { name := "targetBits", fn := fun _ => fun
  | [d1, d2] => { results := [.lit (.bool true)], args := [d1, d2] }
  | _ => none }
def targetBitsRow : OpenClaim := { program := "ytegcdnjihnpolaa", sum := "e78fc8feb179eb807972463e597fb4b26ebc7f2dc6f3823ab97fe93370d790f8", func := "bedrock/bedrocklaw05.TargetBits", spec := "targetBits", inPlace := ["math/bits.Add64", "math/bits.Sub64"], recurses := true, apart := false }
def TargetBitsSaid : Prop := targetBitsRow.holds Try.pinned (OpenSpec.ofChange targetBitsSpec)

/-- ITS FALSE NEIGHBOUR: 'it returns false'. Refute it at one input. -/
def targetBitsWrong : ChangeSpec := { name := "targetBits", fn := fun _ => fun
  | [d1, d2] => { results := [.lit (.bool false)], args := [d1, d2] }
  | _ => none }
def TargetBitsWrongFalsely : Prop := targetBitsRow.holds Try.pinned (OpenSpec.ofChange targetBitsWrong)

/-- 'bedrocklaw05.TargetMeets': WHATEVER THE INPUT: true; the input reads as it did. -/
def targetMeetsSpec : ChangeSpec := { name := "targetMeets", fn := fun _ => fun
  | [d1, d2] => { results := [.lit (.bool true)], args := [d1, d2] }
  | _ => none }
def targetMeetsRow : OpenClaim := { program := "ytegcdnjihnpolaa", sum := "e78fc8feb179eb807972463e597fb4b26ebc7f2dc6f3823ab97fe93370d790f8", func := "bedrock/bedrocklaw05.TargetMeets", spec := "targetMeets", inPlace := ["math/bits.Add64", "math/bits.Sub64"], recurses := true, apart := false }
def TargetMeetsSaid : Prop := targetMeetsRow.holds Try.pinned (OpenSpec.ofChange targetMeetsSpec)

/-- ITS FALSE NEIGHBOUR: 'it returns false'. Refute it at one input. -/
def targetMeetsWrong : ChangeSpec := { name := "targetMeets", fn := fun _ => fun
  | [d1, d2] => { results := [.lit (.bool false)], args := [d1, d2] }
  | _ => none }
def TargetMeetsWrongFalsely : Prop := targetMeetsRow.holds Try.pinned (OpenSpec.ofChange targetMeetsWrong)

/-- 'bedrocklaw06.MerkleParts': WHATEVER THE INPUT: true; the input reads as it did. -/
def merklePartsSpec : ChangeSpec := { name := "merkleParts", fn := fun _ => fun
  | [d1, d2, d3] => { results := [.lit (.bool true)], args := [d1, d2, d3] }
  | _ => none }
def merklePartsRow : OpenClaim := { program := "ytegcdnjihnpolaa", sum := "e78fc8feb179eb807972463e597fb4b26ebc7f2dc6f3823ab97fe93370d790f8", func := "bedrock/bedrocklaw06.MerkleParts", spec := "merkleParts", recurses := true, apart := false }
def MerklePartsSaid : Prop := merklePartsRow.holds Try.pinned (OpenSpec.ofChange merklePartsSpec)

/-- ITS FALSE NEIGHBOUR: 'it returns false'. Refute it at one input. -/
def merklePartsWrong : ChangeSpec := { name := "merkleParts", fn := fun _ => fun
  | [d1, d2, d3] => { results := [.lit (.bool false)], args := [d1, d2, d3] }
  | _ => none }
def MerklePartsWrongFalsely : Prop := merklePartsRow.holds Try.pinned (OpenSpec.ofChange merklePartsWrong)

/-- 'bedrocklaw05.TargetWorks': WHATEVER THE INPUT: true; the input reads as it did. -/
def targetWorksSpec : ChangeSpec := { name := "targetWorks", fn := fun _ => fun
  | [d1, d2] => { results := [.lit (.bool true)], args := [d1, d2] }
  | _ => none }
def targetWorksRow : OpenClaim := { program := "ytegcdnjihnpolaa", sum := "e78fc8feb179eb807972463e597fb4b26ebc7f2dc6f3823ab97fe93370d790f8", func := "bedrock/bedrocklaw05.TargetWorks", spec := "targetWorks", inPlace := ["math/bits.Add64", "math/bits.Sub64"], recurses := true, apart := false }
def TargetWorksSaid : Prop := targetWorksRow.holds Try.pinned (OpenSpec.ofChange targetWorksSpec)

/-- ITS FALSE NEIGHBOUR: 'it returns false'. Refute it at one input. -/
def targetWorksWrong : ChangeSpec := { name := "targetWorks", fn := fun _ => fun
  | [d1, d2] => { results := [.lit (.bool false)], args := [d1, d2] }
  | _ => none }
def TargetWorksWrongFalsely : Prop := targetWorksRow.holds Try.pinned (OpenSpec.ofChange targetWorksWrong)

/-- 'bedrocklaw04.WideTexts': WHATEVER THE INPUT: true; the input reads as it did. -/
def wideTextsSpec : ChangeSpec := { name := "wideTexts", fn := fun _ => fun
  | [d1, d2, d3] => { results := [.lit (.bool true)], args := [d1, d2, d3] }
  | _ => none }
def wideTextsRow : OpenClaim := { program := "ytegcdnjihnpolaa", sum := "e78fc8feb179eb807972463e597fb4b26ebc7f2dc6f3823ab97fe93370d790f8", func := "bedrock/bedrocklaw04.WideTexts", spec := "wideTexts", inPlace := ["math/bits.Add64", "math/bits.Sub64"], recurses := true, apart := false }
def WideTextsSaid : Prop := wideTextsRow.holds Try.pinned (OpenSpec.ofChange wideTextsSpec)

/-- ITS FALSE NEIGHBOUR: 'it returns false'. Refute it at one input. -/
def wideTextsWrong : ChangeSpec := { name := "wideTexts", fn := fun _ => fun
  | [d1, d2, d3] => { results := [.lit (.bool false)], args := [d1, d2, d3] }
  | _ => none }
def WideTextsWrongFalsely : Prop := wideTextsRow.holds Try.pinned (OpenSpec.ofChange wideTextsWrong)

/-- 'bedrocklaw06.MerkleShows': WHATEVER THE INPUT: true; the input reads as it did. -/
def merkleShowsSpec : ChangeSpec := { name := "merkleShows", fn := fun _ => fun
  | [d1, d2] => { results := [.lit (.bool true)], args := [d1, d2] }
  | _ => none }
def merkleShowsRow : OpenClaim := { program := "ytegcdnjihnpolaa", sum := "e78fc8feb179eb807972463e597fb4b26ebc7f2dc6f3823ab97fe93370d790f8", func := "bedrock/bedrocklaw06.MerkleShows", spec := "merkleShows", recurses := true, apart := false }
def MerkleShowsSaid : Prop := merkleShowsRow.holds Try.pinned (OpenSpec.ofChange merkleShowsSpec)

/-- ITS FALSE NEIGHBOUR: 'it returns false'. Refute it at one input. -/
def merkleShowsWrong : ChangeSpec := { name := "merkleShows", fn := fun _ => fun
  | [d1, d2] => { results := [.lit (.bool false)], args := [d1, d2] }
  | _ => none }
def MerkleShowsWrongFalsely : Prop := merkleShowsRow.holds Try.pinned (OpenSpec.ofChange merkleShowsWrong)

/-- 'bedrocklaw05.TargetNexts': WHATEVER THE INPUT: true; the input reads as it did. -/
def targetNextsSpec : ChangeSpec := { name := "targetNexts", fn := fun _ => fun
  | [d1, d2, d3] => { results := [.lit (.bool true)], args := [d1, d2, d3] }
  | _ => none }
def targetNextsRow : OpenClaim := { program := "ytegcdnjihnpolaa", sum := "e78fc8feb179eb807972463e597fb4b26ebc7f2dc6f3823ab97fe93370d790f8", func := "bedrock/bedrocklaw05.TargetNexts", spec := "targetNexts", inPlace := ["math/bits.Add64", "math/bits.Sub64"], recurses := true, apart := false }
def TargetNextsSaid : Prop := targetNextsRow.holds Try.pinned (OpenSpec.ofChange targetNextsSpec)

/-- ITS FALSE NEIGHBOUR: 'it returns false'. Refute it at one input. -/
def targetNextsWrong : ChangeSpec := { name := "targetNexts", fn := fun _ => fun
  | [d1, d2, d3] => { results := [.lit (.bool false)], args := [d1, d2, d3] }
  | _ => none }
def TargetNextsWrongFalsely : Prop := targetNextsRow.holds Try.pinned (OpenSpec.ofChange targetNextsWrong)

/- THE SECOND FORM. 'bulk': how many values and letters a reading holds, each counted each time it is reached (what is shared counts as often as it is met; a slice's spare places count too). A statement '..UptoSaid' is the law's where the arguments, and the package variables that the reading takes, are together of bulk at most 1048576: NARROWER than '..Said'. Prove '..Said' where nothing that the law and all that it calls make is longer than what came in: it says more and counts as full. Else prove '..UptoSaid'. A law counts once. -/
mutual
def uptoBulk {H : Type} : DataW H → Nat
  | .lit (.string bytes) => bytes.length + 1
  | .lit _ => 1
  | .nil => 1
  | .ptr d => uptoBulk d + 1
  | .slice elems spare => uptoBulkAll elems + uptoBulkAll spare + 1
  | .agg parts => uptoBulkAll parts + 1
  | .iface _ d => uptoBulk d + 1
  | .map entries => uptoBulkEntries entries + 1
  | .held _ => 1
def uptoBulkAll {H : Type} : List (DataW H) → Nat
  | [] => 0
  | d :: r => uptoBulk d + uptoBulkAll r
def uptoBulkEntries {H : Type} : List (Lit × DataW H) → Nat
  | [] => 0
  | x :: r => uptoBulkEntry x + uptoBulkEntries r
def uptoBulkEntry {H : Type} : Lit × DataW H → Nat
  | (.string bytes, d) => bytes.length + uptoBulk d + 1
  | (_, d) => uptoBulk d + 1
 end
def uptoSmall : (H : Type) → List (DataW H) → Bool := fun _ ds => decide (uptoBulkAll ds ≤ 1048576)
def OpenSpec.upto (s : _root_.Go.ChangeSpec) : _root_.Go.OpenSpec := { _root_.Go.OpenSpec.ofChange s with cond := some uptoSmall }

/-- 'bedrocklaw04.WideShifts', WHERE WHAT IT READS IS OF BULK AT MOST 1048576: true; the input reads as it did. -/
def wideShiftsUptoRow : OpenClaim := { program := "ytegcdnjihnpolaa", sum := "e78fc8feb179eb807972463e597fb4b26ebc7f2dc6f3823ab97fe93370d790f8", func := "bedrock/bedrocklaw04.WideShifts", spec := "wideShifts", inPlace := ["math/bits.Add64", "math/bits.Sub64"], recurses := true, apart := false, narrowed := true }
def WideShiftsUptoSaid : Prop := wideShiftsUptoRow.holds Try.pinned (OpenSpec.upto wideShiftsSpec)

/-- 'bedrocklaw04.WideLists', WHERE WHAT IT READS IS OF BULK AT MOST 1048576: true; the input reads as it did. -/
def wideListsUptoRow : OpenClaim := { program := "ytegcdnjihnpolaa", sum := "e78fc8feb179eb807972463e597fb4b26ebc7f2dc6f3823ab97fe93370d790f8", func := "bedrock/bedrocklaw04.WideLists", spec := "wideLists", inPlace := ["math/bits.Add64", "math/bits.Sub64"], recurses := true, apart := false, narrowed := true }
def WideListsUptoSaid : Prop := wideListsUptoRow.holds Try.pinned (OpenSpec.upto wideListsSpec)

/-- 'bedrocklaw06.MerkleRoots', WHERE WHAT IT READS IS OF BULK AT MOST 1048576: true; the input reads as it did. -/
def merkleRootsUptoRow : OpenClaim := { program := "ytegcdnjihnpolaa", sum := "e78fc8feb179eb807972463e597fb4b26ebc7f2dc6f3823ab97fe93370d790f8", func := "bedrock/bedrocklaw06.MerkleRoots", spec := "merkleRoots", recurses := true, apart := false, narrowed := true }
def MerkleRootsUptoSaid : Prop := merkleRootsUptoRow.holds Try.pinned (OpenSpec.upto merkleRootsSpec)

/-- 'bedrocklaw06.MerkleBranches', WHERE WHAT IT READS IS OF BULK AT MOST 1048576: true; the input reads as it did. -/
def merkleBranchesUptoRow : OpenClaim := { program := "ytegcdnjihnpolaa", sum := "e78fc8feb179eb807972463e597fb4b26ebc7f2dc6f3823ab97fe93370d790f8", func := "bedrock/bedrocklaw06.MerkleBranches", spec := "merkleBranches", recurses := true, apart := false, narrowed := true }
def MerkleBranchesUptoSaid : Prop := merkleBranchesUptoRow.holds Try.pinned (OpenSpec.upto merkleBranchesSpec)

/-- 'bedrocklaw04.WideSums', WHERE WHAT IT READS IS OF BULK AT MOST 1048576: true; the input reads as it did. -/
def wideSumsUptoRow : OpenClaim := { program := "ytegcdnjihnpolaa", sum := "e78fc8feb179eb807972463e597fb4b26ebc7f2dc6f3823ab97fe93370d790f8", func := "bedrock/bedrocklaw04.WideSums", spec := "wideSums", inPlace := ["math/bits.Add64", "math/bits.Sub64"], recurses := true, apart := false, narrowed := true }
def WideSumsUptoSaid : Prop := wideSumsUptoRow.holds Try.pinned (OpenSpec.upto wideSumsSpec)

/-- 'bedrocklaw04.WideRoots', WHERE WHAT IT READS IS OF BULK AT MOST 1048576: true; the input reads as it did. -/
def wideRootsUptoRow : OpenClaim := { program := "ytegcdnjihnpolaa", sum := "e78fc8feb179eb807972463e597fb4b26ebc7f2dc6f3823ab97fe93370d790f8", func := "bedrock/bedrocklaw04.WideRoots", spec := "wideRoots", inPlace := ["math/bits.Add64", "math/bits.Sub64"], recurses := true, apart := false, narrowed := true }
def WideRootsUptoSaid : Prop := wideRootsUptoRow.holds Try.pinned (OpenSpec.upto wideRootsSpec)

/-- 'bedrocklaw04.WideBack', WHERE WHAT IT READS IS OF BULK AT MOST 1048576: true; the input reads as it did. -/
def wideBackUptoRow : OpenClaim := { program := "ytegcdnjihnpolaa", sum := "e78fc8feb179eb807972463e597fb4b26ebc7f2dc6f3823ab97fe93370d790f8", func := "bedrock/bedrocklaw04.WideBack", spec := "wideBack", inPlace := ["math/bits.Add64", "math/bits.Sub64"], recurses := true, apart := false, narrowed := true }
def WideBackUptoSaid : Prop := wideBackUptoRow.holds Try.pinned (OpenSpec.upto wideBackSpec)

/-- 'bedrocklaw05.TargetBits', WHERE WHAT IT READS IS OF BULK AT MOST 1048576: true; the input reads as it did. -/
def targetBitsUptoRow : OpenClaim := { program := "ytegcdnjihnpolaa", sum := "e78fc8feb179eb807972463e597fb4b26ebc7f2dc6f3823ab97fe93370d790f8", func := "bedrock/bedrocklaw05.TargetBits", spec := "targetBits", inPlace := ["math/bits.Add64", "math/bits.Sub64"], recurses := true, apart := false, narrowed := true }
def TargetBitsUptoSaid : Prop := targetBitsUptoRow.holds Try.pinned (OpenSpec.upto targetBitsSpec)

/-- 'bedrocklaw05.TargetMeets', WHERE WHAT IT READS IS OF BULK AT MOST 1048576: true; the input reads as it did. -/
def targetMeetsUptoRow : OpenClaim := { program := "ytegcdnjihnpolaa", sum := "e78fc8feb179eb807972463e597fb4b26ebc7f2dc6f3823ab97fe93370d790f8", func := "bedrock/bedrocklaw05.TargetMeets", spec := "targetMeets", inPlace := ["math/bits.Add64", "math/bits.Sub64"], recurses := true, apart := false, narrowed := true }
def TargetMeetsUptoSaid : Prop := targetMeetsUptoRow.holds Try.pinned (OpenSpec.upto targetMeetsSpec)

/-- 'bedrocklaw06.MerkleParts', WHERE WHAT IT READS IS OF BULK AT MOST 1048576: true; the input reads as it did. -/
def merklePartsUptoRow : OpenClaim := { program := "ytegcdnjihnpolaa", sum := "e78fc8feb179eb807972463e597fb4b26ebc7f2dc6f3823ab97fe93370d790f8", func := "bedrock/bedrocklaw06.MerkleParts", spec := "merkleParts", recurses := true, apart := false, narrowed := true }
def MerklePartsUptoSaid : Prop := merklePartsUptoRow.holds Try.pinned (OpenSpec.upto merklePartsSpec)

/-- 'bedrocklaw05.TargetWorks', WHERE WHAT IT READS IS OF BULK AT MOST 1048576: true; the input reads as it did. -/
def targetWorksUptoRow : OpenClaim := { program := "ytegcdnjihnpolaa", sum := "e78fc8feb179eb807972463e597fb4b26ebc7f2dc6f3823ab97fe93370d790f8", func := "bedrock/bedrocklaw05.TargetWorks", spec := "targetWorks", inPlace := ["math/bits.Add64", "math/bits.Sub64"], recurses := true, apart := false, narrowed := true }
def TargetWorksUptoSaid : Prop := targetWorksUptoRow.holds Try.pinned (OpenSpec.upto targetWorksSpec)

/-- 'bedrocklaw04.WideTexts', WHERE WHAT IT READS IS OF BULK AT MOST 1048576: true; the input reads as it did. -/
def wideTextsUptoRow : OpenClaim := { program := "ytegcdnjihnpolaa", sum := "e78fc8feb179eb807972463e597fb4b26ebc7f2dc6f3823ab97fe93370d790f8", func := "bedrock/bedrocklaw04.WideTexts", spec := "wideTexts", inPlace := ["math/bits.Add64", "math/bits.Sub64"], recurses := true, apart := false, narrowed := true }
def WideTextsUptoSaid : Prop := wideTextsUptoRow.holds Try.pinned (OpenSpec.upto wideTextsSpec)

/-- 'bedrocklaw06.MerkleShows', WHERE WHAT IT READS IS OF BULK AT MOST 1048576: true; the input reads as it did. -/
def merkleShowsUptoRow : OpenClaim := { program := "ytegcdnjihnpolaa", sum := "e78fc8feb179eb807972463e597fb4b26ebc7f2dc6f3823ab97fe93370d790f8", func := "bedrock/bedrocklaw06.MerkleShows", spec := "merkleShows", recurses := true, apart := false, narrowed := true }
def MerkleShowsUptoSaid : Prop := merkleShowsUptoRow.holds Try.pinned (OpenSpec.upto merkleShowsSpec)

/-- 'bedrocklaw05.TargetNexts', WHERE WHAT IT READS IS OF BULK AT MOST 1048576: true; the input reads as it did. -/
def targetNextsUptoRow : OpenClaim := { program := "ytegcdnjihnpolaa", sum := "e78fc8feb179eb807972463e597fb4b26ebc7f2dc6f3823ab97fe93370d790f8", func := "bedrock/bedrocklaw05.TargetNexts", spec := "targetNexts", inPlace := ["math/bits.Add64", "math/bits.Sub64"], recurses := true, apart := false, narrowed := true }
def TargetNextsUptoSaid : Prop := targetNextsUptoRow.holds Try.pinned (OpenSpec.upto targetNextsSpec)

end Rows
end Go.Proofs.Ytegcdnjihnpolaa
