/-
  No cell of these rows narrows 'for every input' (looked for: loops, veiled, ifaces, maps, wideKeys, modest, calm, conditions, laid).
  DERIVED. THE GIVEN ROWS OF THIS SEAT. 8 by the template 'for every input the law returns true; each argument reads behind the call as it read before'; 0 by the template 'total and deterministic' (their statements: YtijkckhgaigbgaaTotals.lean).
  GIVEN WITH THE SEED: the statements are not yours to turn. If you find one false, say at which input.
  Laid BY PROGRAM, IN A SANDBOX (cutbox-rows.mjs): the forced cells as the released guide's own fill.sh prints them over the translation b2aedc5cfbaf2fb5… (all of the seat's roots in one cut). By AI agents, Wed Nov 11 2026. No macro, syntax, notation, axiom, sorry.
-/
import Derived.Test.YtijkckhgaigbgaaChecked
import GoSem.Claim
import GoSem.ClaimJoined
import GoSem.ClaimMapViews
import Derived.JoinedTies
import Derived.KernelRfl
namespace Go.Proofs.Ytijkckhgaigbgaa
/- THE CELL 'sum', in the pinned program and in every row, IS THE sha256 OF THE DUMP (.gsa) THAT YtijkckhgaigbgaaProg.lean LOADS. Nothing in Lean hashes anything: it is a label: what it is worth is what the hold of that sum in a sandbox is worth. -/
noncomputable def Try.pinned : Pinned := { name := "ytijkckhgaigbgaa", sum := "b2aedc5cfbaf2fb5e3d2fd09392ccd09eafb0d2618c350cbca54ae6fd9d71ee9", checked := Try.checked }
namespace Rows
def none {H : Type} : Left H := { results := [], args := [] }

/-- 'jobshoplaw02.EbcdicCodes': WHATEVER THE INPUT: true; the input reads as it did. -/
def ebcdicCodesSpec : ChangeSpec := { name := "ebcdicCodes", fn := fun _ => fun
  | [d1, d2] => { results := [.lit (.bool true)], args := [d1, d2] }
  | _ => none }
def ebcdicCodesRow : OpenClaim := { program := "ytijkckhgaigbgaa", sum := "b2aedc5cfbaf2fb5e3d2fd09392ccd09eafb0d2618c350cbca54ae6fd9d71ee9", func := "jobshop/jobshoplaw02.EbcdicCodes", spec := "ebcdicCodes", inPlace := ["internal/bytealg.IndexByteString", "internal/abi.NoEscape"], apart := false }
def EbcdicCodesSaid : Prop := ebcdicCodesRow.holds Try.pinned (OpenSpec.ofChange ebcdicCodesSpec)

/-- ITS FALSE NEIGHBOUR: 'it returns false'. Refute it at one input. -/
def ebcdicCodesWrong : ChangeSpec := { name := "ebcdicCodes", fn := fun _ => fun
  | [d1, d2] => { results := [.lit (.bool false)], args := [d1, d2] }
  | _ => none }
def EbcdicCodesWrongFalsely : Prop := ebcdicCodesRow.holds Try.pinned (OpenSpec.ofChange ebcdicCodesWrong)

/-- 'jobshoplaw02.EbcdicEncodes': WHATEVER THE INPUT: true; the input reads as it did. -/
def ebcdicEncodesSpec : ChangeSpec := { name := "ebcdicEncodes", fn := fun _ => fun
  | [d] => { results := [.lit (.bool true)], args := [d] }
  | _ => none }
def ebcdicEncodesRow : OpenClaim := { program := "ytijkckhgaigbgaa", sum := "b2aedc5cfbaf2fb5e3d2fd09392ccd09eafb0d2618c350cbca54ae6fd9d71ee9", func := "jobshop/jobshoplaw02.EbcdicEncodes", spec := "ebcdicEncodes", inPlace := ["internal/bytealg.IndexByteString", "internal/abi.NoEscape"], apart := false }
def EbcdicEncodesSaid : Prop := ebcdicEncodesRow.holds Try.pinned (OpenSpec.ofChange ebcdicEncodesSpec)

/-- ITS FALSE NEIGHBOUR: 'it returns false'. Refute it at one input. -/
def ebcdicEncodesWrong : ChangeSpec := { name := "ebcdicEncodes", fn := fun _ => fun
  | [d] => { results := [.lit (.bool false)], args := [d] }
  | _ => none }
def EbcdicEncodesWrongFalsely : Prop := ebcdicEncodesRow.holds Try.pinned (OpenSpec.ofChange ebcdicEncodesWrong)

/-- 'jobshoplaw02.EbcdicDecodes': WHATEVER THE INPUT: true; the input reads as it did. -/
def ebcdicDecodesSpec : ChangeSpec := { name := "ebcdicDecodes", fn := fun _ => fun
  | [d] => { results := [.lit (.bool true)], args := [d] }
  | _ => none }
def ebcdicDecodesRow : OpenClaim := { program := "ytijkckhgaigbgaa", sum := "b2aedc5cfbaf2fb5e3d2fd09392ccd09eafb0d2618c350cbca54ae6fd9d71ee9", func := "jobshop/jobshoplaw02.EbcdicDecodes", spec := "ebcdicDecodes", inPlace := ["internal/bytealg.IndexByteString", "internal/abi.NoEscape"], apart := false }
def EbcdicDecodesSaid : Prop := ebcdicDecodesRow.holds Try.pinned (OpenSpec.ofChange ebcdicDecodesSpec)

/-- ITS FALSE NEIGHBOUR: 'it returns false'. Refute it at one input. -/
def ebcdicDecodesWrong : ChangeSpec := { name := "ebcdicDecodes", fn := fun _ => fun
  | [d] => { results := [.lit (.bool false)], args := [d] }
  | _ => none }
def EbcdicDecodesWrongFalsely : Prop := ebcdicDecodesRow.holds Try.pinned (OpenSpec.ofChange ebcdicDecodesWrong)

/-- 'jobshoplaw02.EbcdicPads': WHATEVER THE INPUT: true; the input reads as it did. -/
def ebcdicPadsSpec : ChangeSpec := { name := "ebcdicPads", fn := fun _ => fun
  | [d1, d2] => { results := [.lit (.bool true)], args := [d1, d2] }
  | _ => none }
def ebcdicPadsRow : OpenClaim := { program := "ytijkckhgaigbgaa", sum := "b2aedc5cfbaf2fb5e3d2fd09392ccd09eafb0d2618c350cbca54ae6fd9d71ee9", func := "jobshop/jobshoplaw02.EbcdicPads", spec := "ebcdicPads", inPlace := ["internal/bytealg.IndexByteString", "internal/abi.NoEscape"], apart := false }
def EbcdicPadsSaid : Prop := ebcdicPadsRow.holds Try.pinned (OpenSpec.ofChange ebcdicPadsSpec)

/-- ITS FALSE NEIGHBOUR: 'it returns false'. Refute it at one input. -/
def ebcdicPadsWrong : ChangeSpec := { name := "ebcdicPads", fn := fun _ => fun
  | [d1, d2] => { results := [.lit (.bool false)], args := [d1, d2] }
  | _ => none }
def EbcdicPadsWrongFalsely : Prop := ebcdicPadsRow.holds Try.pinned (OpenSpec.ofChange ebcdicPadsWrong)

/-- 'jobshoplaw02.EbcdicInverse': WHATEVER THE INPUT: true; the input reads as it did. -/
def ebcdicInverseSpec : ChangeSpec := { name := "ebcdicInverse", fn := fun _ => fun
  | [d1, d2] => { results := [.lit (.bool true)], args := [d1, d2] }
  | _ => none }
def ebcdicInverseRow : OpenClaim := { program := "ytijkckhgaigbgaa", sum := "b2aedc5cfbaf2fb5e3d2fd09392ccd09eafb0d2618c350cbca54ae6fd9d71ee9", func := "jobshop/jobshoplaw02.EbcdicInverse", spec := "ebcdicInverse", inPlace := ["internal/bytealg.IndexByteString", "internal/abi.NoEscape"], apart := false }
def EbcdicInverseSaid : Prop := ebcdicInverseRow.holds Try.pinned (OpenSpec.ofChange ebcdicInverseSpec)

/-- ITS FALSE NEIGHBOUR: 'it returns false'. Refute it at one input. -/
def ebcdicInverseWrong : ChangeSpec := { name := "ebcdicInverse", fn := fun _ => fun
  | [d1, d2] => { results := [.lit (.bool false)], args := [d1, d2] }
  | _ => none }
def EbcdicInverseWrongFalsely : Prop := ebcdicInverseRow.holds Try.pinned (OpenSpec.ofChange ebcdicInverseWrong)

/-- 'jobshoplaw02.EbcdicPieces': WHATEVER THE INPUT: true; the input reads as it did. -/
def ebcdicPiecesSpec : ChangeSpec := { name := "ebcdicPieces", fn := fun _ => fun
  | [d1, d2] => { results := [.lit (.bool true)], args := [d1, d2] }
  | _ => none }
def ebcdicPiecesRow : OpenClaim := { program := "ytijkckhgaigbgaa", sum := "b2aedc5cfbaf2fb5e3d2fd09392ccd09eafb0d2618c350cbca54ae6fd9d71ee9", func := "jobshop/jobshoplaw02.EbcdicPieces", spec := "ebcdicPieces", inPlace := ["internal/bytealg.IndexByteString", "internal/abi.NoEscape"], apart := false }
def EbcdicPiecesSaid : Prop := ebcdicPiecesRow.holds Try.pinned (OpenSpec.ofChange ebcdicPiecesSpec)

/-- ITS FALSE NEIGHBOUR: 'it returns false'. Refute it at one input. -/
def ebcdicPiecesWrong : ChangeSpec := { name := "ebcdicPieces", fn := fun _ => fun
  | [d1, d2] => { results := [.lit (.bool false)], args := [d1, d2] }
  | _ => none }
def EbcdicPiecesWrongFalsely : Prop := ebcdicPiecesRow.holds Try.pinned (OpenSpec.ofChange ebcdicPiecesWrong)

/-- 'jobshoplaw02.EbcdicCollates': WHATEVER THE INPUT: true; the input reads as it did. -/
def ebcdicCollatesSpec : ChangeSpec := { name := "ebcdicCollates", fn := fun _ => fun
  | [d1, d2] => { results := [.lit (.bool true)], args := [d1, d2] }
  | _ => none }
def ebcdicCollatesRow : OpenClaim := { program := "ytijkckhgaigbgaa", sum := "b2aedc5cfbaf2fb5e3d2fd09392ccd09eafb0d2618c350cbca54ae6fd9d71ee9", func := "jobshop/jobshoplaw02.EbcdicCollates", spec := "ebcdicCollates", inPlace := ["internal/bytealg.IndexByteString", "internal/abi.NoEscape"], apart := false }
def EbcdicCollatesSaid : Prop := ebcdicCollatesRow.holds Try.pinned (OpenSpec.ofChange ebcdicCollatesSpec)

/-- ITS FALSE NEIGHBOUR: 'it returns false'. Refute it at one input. -/
def ebcdicCollatesWrong : ChangeSpec := { name := "ebcdicCollates", fn := fun _ => fun
  | [d1, d2] => { results := [.lit (.bool false)], args := [d1, d2] }
  | _ => none }
def EbcdicCollatesWrongFalsely : Prop := ebcdicCollatesRow.holds Try.pinned (OpenSpec.ofChange ebcdicCollatesWrong)

/-- 'jobshoplaw02.EbcdicFields': WHATEVER THE INPUT: true; the input reads as it did. -/
def ebcdicFieldsSpec : ChangeSpec := { name := "ebcdicFields", fn := fun _ => fun
  | [d1, d2] => { results := [.lit (.bool true)], args := [d1, d2] }
  | _ => none }
def ebcdicFieldsRow : OpenClaim := { program := "ytijkckhgaigbgaa", sum := "b2aedc5cfbaf2fb5e3d2fd09392ccd09eafb0d2618c350cbca54ae6fd9d71ee9", func := "jobshop/jobshoplaw02.EbcdicFields", spec := "ebcdicFields", inPlace := ["internal/bytealg.IndexByteString", "internal/abi.NoEscape"], apart := false }
def EbcdicFieldsSaid : Prop := ebcdicFieldsRow.holds Try.pinned (OpenSpec.ofChange ebcdicFieldsSpec)

/-- ITS FALSE NEIGHBOUR: 'it returns false'. Refute it at one input. -/
def ebcdicFieldsWrong : ChangeSpec := { name := "ebcdicFields", fn := fun _ => fun
  | [d1, d2] => { results := [.lit (.bool false)], args := [d1, d2] }
  | _ => none }
def EbcdicFieldsWrongFalsely : Prop := ebcdicFieldsRow.holds Try.pinned (OpenSpec.ofChange ebcdicFieldsWrong)

/- THE SECOND FORM. 'bulk': how many values and letters a reading holds, each counted each time it is reached (what is shared counts as often as it is met; a slice's spare places count too). A statement '..UptoSaid' is the law's where the arguments, and the package variables that the reading takes, are together of bulk at most 1048576: NARROWER than '..Said'. Prove '..Said' where nothing that the law and all that it calls make is longer than what came in: it says more and counts as full. Else prove '..UptoSaid'. A law counts once. -/
mutual
def uptoBulk {H : Type} : DataW H → Nat
  | .lit (.string bytes) => bytes.length + 1
  | .lit _ => 1
  | .nil => 1
  | .ptr d => uptoBulk d + 1
  | .slice elems spare => uptoBulkAll elems + uptoBulkAll spare + 1
  | .agg parts => uptoBulkAll parts + 1
  | .iface _ d => uptoBulk d + 1
  | .map entries => uptoBulkEntries entries + 1
  | .held _ => 1
def uptoBulkAll {H : Type} : List (DataW H) → Nat
  | [] => 0
  | d :: r => uptoBulk d + uptoBulkAll r
def uptoBulkEntries {H : Type} : List (Lit × DataW H) → Nat
  | [] => 0
  | x :: r => uptoBulkEntry x + uptoBulkEntries r
def uptoBulkEntry {H : Type} : Lit × DataW H → Nat
  | (.string bytes, d) => bytes.length + uptoBulk d + 1
  | (_, d) => uptoBulk d + 1
 end
def uptoSmall : (H : Type) → List (DataW H) → Bool := fun _ ds => decide (uptoBulkAll ds ≤ 1048576)
def OpenSpec.upto (s : _root_.Go.ChangeSpec) : _root_.Go.OpenSpec := { _root_.Go.OpenSpec.ofChange s with cond := some uptoSmall }

/-- 'jobshoplaw02.EbcdicCodes', WHERE WHAT IT READS IS OF BULK AT MOST 1048576: true; the input reads as it did. -/
def ebcdicCodesUptoRow : OpenClaim := { program := "ytijkckhgaigbgaa", sum := "b2aedc5cfbaf2fb5e3d2fd09392ccd09eafb0d2618c350cbca54ae6fd9d71ee9", func := "jobshop/jobshoplaw02.EbcdicCodes", spec := "ebcdicCodes", inPlace := ["internal/bytealg.IndexByteString", "internal/abi.NoEscape"], apart := false, narrowed := true }
def EbcdicCodesUptoSaid : Prop := ebcdicCodesUptoRow.holds Try.pinned (OpenSpec.upto ebcdicCodesSpec)

/-- 'jobshoplaw02.EbcdicEncodes', WHERE WHAT IT READS IS OF BULK AT MOST 1048576: true; the input reads as it did. -/
def ebcdicEncodesUptoRow : OpenClaim := { program := "ytijkckhgaigbgaa", sum := "b2aedc5cfbaf2fb5e3d2fd09392ccd09eafb0d2618c350cbca54ae6fd9d71ee9", func := "jobshop/jobshoplaw02.EbcdicEncodes", spec := "ebcdicEncodes", inPlace := ["internal/bytealg.IndexByteString", "internal/abi.NoEscape"], apart := false, narrowed := true }
def EbcdicEncodesUptoSaid : Prop := ebcdicEncodesUptoRow.holds Try.pinned (OpenSpec.upto ebcdicEncodesSpec)

/-- 'jobshoplaw02.EbcdicDecodes', WHERE WHAT IT READS IS OF BULK AT MOST 1048576: true; the input reads as it did. -/
def ebcdicDecodesUptoRow : OpenClaim := { program := "ytijkckhgaigbgaa", sum := "b2aedc5cfbaf2fb5e3d2fd09392ccd09eafb0d2618c350cbca54ae6fd9d71ee9", func := "jobshop/jobshoplaw02.EbcdicDecodes", spec := "ebcdicDecodes", inPlace := ["internal/bytealg.IndexByteString", "internal/abi.NoEscape"], apart := false, narrowed := true }
def EbcdicDecodesUptoSaid : Prop := ebcdicDecodesUptoRow.holds Try.pinned (OpenSpec.upto ebcdicDecodesSpec)

/-- 'jobshoplaw02.EbcdicPads', WHERE WHAT IT READS IS OF BULK AT MOST 1048576: true; the input reads as it did. -/
def ebcdicPadsUptoRow : OpenClaim := { program := "ytijkckhgaigbgaa", sum := "b2aedc5cfbaf2fb5e3d2fd09392ccd09eafb0d2618c350cbca54ae6fd9d71ee9", func := "jobshop/jobshoplaw02.EbcdicPads", spec := "ebcdicPads", inPlace := ["internal/bytealg.IndexByteString", "internal/abi.NoEscape"], apart := false, narrowed := true }
def EbcdicPadsUptoSaid : Prop := ebcdicPadsUptoRow.holds Try.pinned (OpenSpec.upto ebcdicPadsSpec)

/-- 'jobshoplaw02.EbcdicInverse', WHERE WHAT IT READS IS OF BULK AT MOST 1048576: true; the input reads as it did. -/
def ebcdicInverseUptoRow : OpenClaim := { program := "ytijkckhgaigbgaa", sum := "b2aedc5cfbaf2fb5e3d2fd09392ccd09eafb0d2618c350cbca54ae6fd9d71ee9", func := "jobshop/jobshoplaw02.EbcdicInverse", spec := "ebcdicInverse", inPlace := ["internal/bytealg.IndexByteString", "internal/abi.NoEscape"], apart := false, narrowed := true }
def EbcdicInverseUptoSaid : Prop := ebcdicInverseUptoRow.holds Try.pinned (OpenSpec.upto ebcdicInverseSpec)

/-- 'jobshoplaw02.EbcdicPieces', WHERE WHAT IT READS IS OF BULK AT MOST 1048576: true; the input reads as it did. -/
def ebcdicPiecesUptoRow : OpenClaim := { program := "ytijkckhgaigbgaa", sum := "b2aedc5cfbaf2fb5e3d2fd09392ccd09eafb0d2618c350cbca54ae6fd9d71ee9", func := "jobshop/jobshoplaw02.EbcdicPieces", spec := "ebcdicPieces", inPlace := ["internal/bytealg.IndexByteString", "internal/abi.NoEscape"], apart := false, narrowed := true }
def EbcdicPiecesUptoSaid : Prop := ebcdicPiecesUptoRow.holds Try.pinned (OpenSpec.upto ebcdicPiecesSpec)

/-- 'jobshoplaw02.EbcdicCollates', WHERE WHAT IT READS IS OF BULK AT MOST 1048576: true; the input reads as it did. -/
def ebcdicCollatesUptoRow : OpenClaim := { program := "ytijkckhgaigbgaa", sum := "b2aedc5cfbaf2fb5e3d2fd09392ccd09eafb0d2618c350cbca54ae6fd9d71ee9", func := "jobshop/jobshoplaw02.EbcdicCollates", spec := "ebcdicCollates", inPlace := ["internal/bytealg.IndexByteString", "internal/abi.NoEscape"], apart := false, narrowed := true }
def EbcdicCollatesUptoSaid : Prop := ebcdicCollatesUptoRow.holds Try.pinned (OpenSpec.upto ebcdicCollatesSpec)

/-- 'jobshoplaw02.EbcdicFields', WHERE WHAT IT READS IS OF BULK AT MOST 1048576: true; the input reads as it did. -/
def ebcdicFieldsUptoRow : OpenClaim := { program := "ytijkckhgaigbgaa", sum := "b2aedc5cfbaf2fb5e3d2fd09392ccd09eafb0d2618c350cbca54ae6fd9d71ee9", func := "jobshop/jobshoplaw02.EbcdicFields", spec := "ebcdicFields", inPlace := ["internal/bytealg.IndexByteString", "internal/abi.NoEscape"], apart := false, narrowed := true }
def EbcdicFieldsUptoSaid : Prop := ebcdicFieldsUptoRow.holds Try.pinned (OpenSpec.upto ebcdicFieldsSpec)

end Rows
end Go.Proofs.Ytijkckhgaigbgaa
