/-
  No cell of these rows narrows 'for every input' (looked for: loops, veiled, ifaces, maps, wideKeys, modest, calm, conditions, laid).
  DERIVED. THE GIVEN ROWS OF THIS SEAT. 6 by the template 'for every input the law returns true; each argument reads behind the call as it read before'; 0 by the template 'total and deterministic' (their statements: YtheiickihjcdlaaTotals.lean).
  GIVEN WITH THE SEED: the statements are not yours to turn. If you find one false, say at which input.
  Laid BY PROGRAM, IN A SANDBOX (cutbox-rows.mjs): the forced cells as the released guide's own fill.sh prints them over the translation 8ae2b4d76f1427d8… (all of the seat's roots in one cut). By AI agents, Wed Nov 11 2026. No macro, syntax, notation, axiom, sorry.
-/
import Derived.Test.YtheiickihjcdlaaChecked
import GoSem.Claim
import GoSem.ClaimJoined
import GoSem.ClaimMapViews
import Derived.JoinedTies
import Derived.KernelRfl
namespace Go.Proofs.Ytheiickihjcdlaa
/- THE CELL 'sum', in the pinned program and in every row, IS THE sha256 OF THE DUMP (.gsa) THAT YtheiickihjcdlaaProg.lean LOADS. Nothing in Lean hashes anything: it is a label: what it is worth is what the hold of that sum in a sandbox is worth. -/
noncomputable def Try.pinned : Pinned := { name := "ytheiickihjcdlaa", sum := "8ae2b4d76f1427d81fe8fbad5737b054da58160a5afd114c344ffec19e83ff74", checked := Try.checked }
namespace Rows
def none {H : Type} : Left H := { results := [], args := [] }

/-- 'jobshoplaw12.CcwDirects': WHATEVER THE INPUT: true; the input reads as it did. -/
def ccwDirectsSpec : ChangeSpec := { name := "ccwDirects", fn := fun _ => fun
  | [d] => { results := [.lit (.bool true)], args := [d] }
  | _ => none }
def ccwDirectsRow : OpenClaim := { program := "ytheiickihjcdlaa", sum := "8ae2b4d76f1427d81fe8fbad5737b054da58160a5afd114c344ffec19e83ff74", func := "jobshop/jobshoplaw12.CcwDirects", spec := "ccwDirects", apart := false }
def CcwDirectsSaid : Prop := ccwDirectsRow.holds Try.pinned (OpenSpec.ofChange ccwDirectsSpec)

/-- ITS FALSE NEIGHBOUR: 'it returns false'. Refute it at one input. -/
def ccwDirectsWrong : ChangeSpec := { name := "ccwDirects", fn := fun _ => fun
  | [d] => { results := [.lit (.bool false)], args := [d] }
  | _ => none }
def CcwDirectsWrongFalsely : Prop := ccwDirectsRow.holds Try.pinned (OpenSpec.ofChange ccwDirectsWrong)

/-- 'jobshoplaw12.CcwEncodes': WHATEVER THE INPUT: true; the input reads as it did. -/
def ccwEncodesSpec : ChangeSpec := { name := "ccwEncodes", fn := fun _ => fun
  | [d] => { results := [.lit (.bool true)], args := [d] }
  | _ => none }
def ccwEncodesRow : OpenClaim := { program := "ytheiickihjcdlaa", sum := "8ae2b4d76f1427d81fe8fbad5737b054da58160a5afd114c344ffec19e83ff74", func := "jobshop/jobshoplaw12.CcwEncodes", spec := "ccwEncodes", apart := false }
def CcwEncodesSaid : Prop := ccwEncodesRow.holds Try.pinned (OpenSpec.ofChange ccwEncodesSpec)

/-- ITS FALSE NEIGHBOUR: 'it returns false'. Refute it at one input. -/
def ccwEncodesWrong : ChangeSpec := { name := "ccwEncodes", fn := fun _ => fun
  | [d] => { results := [.lit (.bool false)], args := [d] }
  | _ => none }
def CcwEncodesWrongFalsely : Prop := ccwEncodesRow.holds Try.pinned (OpenSpec.ofChange ccwEncodesWrong)

/-- 'jobshoplaw12.CcwDecodes': WHATEVER THE INPUT: true; the input reads as it did. -/
def ccwDecodesSpec : ChangeSpec := { name := "ccwDecodes", fn := fun _ => fun
  | [d] => { results := [.lit (.bool true)], args := [d] }
  | _ => none }
def ccwDecodesRow : OpenClaim := { program := "ytheiickihjcdlaa", sum := "8ae2b4d76f1427d81fe8fbad5737b054da58160a5afd114c344ffec19e83ff74", func := "jobshop/jobshoplaw12.CcwDecodes", spec := "ccwDecodes", apart := false }
def CcwDecodesSaid : Prop := ccwDecodesRow.holds Try.pinned (OpenSpec.ofChange ccwDecodesSpec)

/-- ITS FALSE NEIGHBOUR: 'it returns false'. Refute it at one input. -/
def ccwDecodesWrong : ChangeSpec := { name := "ccwDecodes", fn := fun _ => fun
  | [d] => { results := [.lit (.bool false)], args := [d] }
  | _ => none }
def CcwDecodesWrongFalsely : Prop := ccwDecodesRow.holds Try.pinned (OpenSpec.ofChange ccwDecodesWrong)

/-- 'jobshoplaw12.CcwAgain': WHATEVER THE INPUT: true; the input reads as it did. -/
def ccwAgainSpec : ChangeSpec := { name := "ccwAgain", fn := fun _ => fun
  | [d] => { results := [.lit (.bool true)], args := [d] }
  | _ => none }
def ccwAgainRow : OpenClaim := { program := "ytheiickihjcdlaa", sum := "8ae2b4d76f1427d81fe8fbad5737b054da58160a5afd114c344ffec19e83ff74", func := "jobshop/jobshoplaw12.CcwAgain", spec := "ccwAgain", apart := false }
def CcwAgainSaid : Prop := ccwAgainRow.holds Try.pinned (OpenSpec.ofChange ccwAgainSpec)

/-- ITS FALSE NEIGHBOUR: 'it returns false'. Refute it at one input. -/
def ccwAgainWrong : ChangeSpec := { name := "ccwAgain", fn := fun _ => fun
  | [d] => { results := [.lit (.bool false)], args := [d] }
  | _ => none }
def CcwAgainWrongFalsely : Prop := ccwAgainRow.holds Try.pinned (OpenSpec.ofChange ccwAgainWrong)

/-- 'jobshoplaw12.CcwStatus': WHATEVER THE INPUT: true; the input reads as it did. -/
def ccwStatusSpec : ChangeSpec := { name := "ccwStatus", fn := fun _ => fun
  | [d1, d2, d3] => { results := [.lit (.bool true)], args := [d1, d2, d3] }
  | _ => none }
def ccwStatusRow : OpenClaim := { program := "ytheiickihjcdlaa", sum := "8ae2b4d76f1427d81fe8fbad5737b054da58160a5afd114c344ffec19e83ff74", func := "jobshop/jobshoplaw12.CcwStatus", spec := "ccwStatus", apart := false }
def CcwStatusSaid : Prop := ccwStatusRow.holds Try.pinned (OpenSpec.ofChange ccwStatusSpec)

/-- ITS FALSE NEIGHBOUR: 'it returns false'. Refute it at one input. -/
def ccwStatusWrong : ChangeSpec := { name := "ccwStatus", fn := fun _ => fun
  | [d1, d2, d3] => { results := [.lit (.bool false)], args := [d1, d2, d3] }
  | _ => none }
def CcwStatusWrongFalsely : Prop := ccwStatusRow.holds Try.pinned (OpenSpec.ofChange ccwStatusWrong)

/-- 'jobshoplaw12.CcwBack': WHATEVER THE INPUT: true; the input reads as it did. -/
def ccwBackSpec : ChangeSpec := { name := "ccwBack", fn := fun _ => fun
  | [d1, d2, d3] => { results := [.lit (.bool true)], args := [d1, d2, d3] }
  | _ => none }
def ccwBackRow : OpenClaim := { program := "ytheiickihjcdlaa", sum := "8ae2b4d76f1427d81fe8fbad5737b054da58160a5afd114c344ffec19e83ff74", func := "jobshop/jobshoplaw12.CcwBack", spec := "ccwBack", apart := false }
def CcwBackSaid : Prop := ccwBackRow.holds Try.pinned (OpenSpec.ofChange ccwBackSpec)

/-- ITS FALSE NEIGHBOUR: 'it returns false'. Refute it at one input. -/
def ccwBackWrong : ChangeSpec := { name := "ccwBack", fn := fun _ => fun
  | [d1, d2, d3] => { results := [.lit (.bool false)], args := [d1, d2, d3] }
  | _ => none }
def CcwBackWrongFalsely : Prop := ccwBackRow.holds Try.pinned (OpenSpec.ofChange ccwBackWrong)

/- THE SECOND FORM. 'bulk': how many values and letters a reading holds, each counted each time it is reached (what is shared counts as often as it is met; a slice's spare places count too). A statement '..UptoSaid' is the law's where the arguments, and the package variables that the reading takes, are together of bulk at most 1048576: NARROWER than '..Said'. Prove '..Said' where nothing that the law and all that it calls make is longer than what came in: it says more and counts as full. Else prove '..UptoSaid'. A law counts once. -/
mutual
def uptoBulk {H : Type} : DataW H → Nat
  | .lit (.string bytes) => bytes.length + 1
  | .lit _ => 1
  | .nil => 1
  | .ptr d => uptoBulk d + 1
  | .slice elems spare => uptoBulkAll elems + uptoBulkAll spare + 1
  | .agg parts => uptoBulkAll parts + 1
  | .iface _ d => uptoBulk d + 1
  | .map entries => uptoBulkEntries entries + 1
  | .held _ => 1
def uptoBulkAll {H : Type} : List (DataW H) → Nat
  | [] => 0
  | d :: r => uptoBulk d + uptoBulkAll r
def uptoBulkEntries {H : Type} : List (Lit × DataW H) → Nat
  | [] => 0
  | x :: r => uptoBulkEntry x + uptoBulkEntries r
def uptoBulkEntry {H : Type} : Lit × DataW H → Nat
  | (.string bytes, d) => bytes.length + uptoBulk d + 1
  | (_, d) => uptoBulk d + 1
 end
def uptoSmall : (H : Type) → List (DataW H) → Bool := fun _ ds => decide (uptoBulkAll ds ≤ 1048576)
def OpenSpec.upto (s : _root_.Go.ChangeSpec) : _root_.Go.OpenSpec := { _root_.Go.OpenSpec.ofChange s with cond := some uptoSmall }

/-- 'jobshoplaw12.CcwDirects', WHERE WHAT IT READS IS OF BULK AT MOST 1048576: true; the input reads as it did. -/
def ccwDirectsUptoRow : OpenClaim := { program := "ytheiickihjcdlaa", sum := "8ae2b4d76f1427d81fe8fbad5737b054da58160a5afd114c344ffec19e83ff74", func := "jobshop/jobshoplaw12.CcwDirects", spec := "ccwDirects", apart := false, narrowed := true }
def CcwDirectsUptoSaid : Prop := ccwDirectsUptoRow.holds Try.pinned (OpenSpec.upto ccwDirectsSpec)

/-- 'jobshoplaw12.CcwEncodes', WHERE WHAT IT READS IS OF BULK AT MOST 1048576: true; the input reads as it did. -/
def ccwEncodesUptoRow : OpenClaim := { program := "ytheiickihjcdlaa", sum := "8ae2b4d76f1427d81fe8fbad5737b054da58160a5afd114c344ffec19e83ff74", func := "jobshop/jobshoplaw12.CcwEncodes", spec := "ccwEncodes", apart := false, narrowed := true }
def CcwEncodesUptoSaid : Prop := ccwEncodesUptoRow.holds Try.pinned (OpenSpec.upto ccwEncodesSpec)

/-- 'jobshoplaw12.CcwDecodes', WHERE WHAT IT READS IS OF BULK AT MOST 1048576: true; the input reads as it did. -/
def ccwDecodesUptoRow : OpenClaim := { program := "ytheiickihjcdlaa", sum := "8ae2b4d76f1427d81fe8fbad5737b054da58160a5afd114c344ffec19e83ff74", func := "jobshop/jobshoplaw12.CcwDecodes", spec := "ccwDecodes", apart := false, narrowed := true }
def CcwDecodesUptoSaid : Prop := ccwDecodesUptoRow.holds Try.pinned (OpenSpec.upto ccwDecodesSpec)

/-- 'jobshoplaw12.CcwAgain', WHERE WHAT IT READS IS OF BULK AT MOST 1048576: true; the input reads as it did. -/
def ccwAgainUptoRow : OpenClaim := { program := "ytheiickihjcdlaa", sum := "8ae2b4d76f1427d81fe8fbad5737b054da58160a5afd114c344ffec19e83ff74", func := "jobshop/jobshoplaw12.CcwAgain", spec := "ccwAgain", apart := false, narrowed := true }
def CcwAgainUptoSaid : Prop := ccwAgainUptoRow.holds Try.pinned (OpenSpec.upto ccwAgainSpec)

/-- 'jobshoplaw12.CcwStatus', WHERE WHAT IT READS IS OF BULK AT MOST 1048576: true; the input reads as it did. -/
def ccwStatusUptoRow : OpenClaim := { program := "ytheiickihjcdlaa", sum := "8ae2b4d76f1427d81fe8fbad5737b054da58160a5afd114c344ffec19e83ff74", func := "jobshop/jobshoplaw12.CcwStatus", spec := "ccwStatus", apart := false, narrowed := true }
def CcwStatusUptoSaid : Prop := ccwStatusUptoRow.holds Try.pinned (OpenSpec.upto ccwStatusSpec)

/-- 'jobshoplaw12.CcwBack', WHERE WHAT IT READS IS OF BULK AT MOST 1048576: true; the input reads as it did. -/
def ccwBackUptoRow : OpenClaim := { program := "ytheiickihjcdlaa", sum := "8ae2b4d76f1427d81fe8fbad5737b054da58160a5afd114c344ffec19e83ff74", func := "jobshop/jobshoplaw12.CcwBack", spec := "ccwBack", apart := false, narrowed := true }
def CcwBackUptoSaid : Prop := ccwBackUptoRow.holds Try.pinned (OpenSpec.upto ccwBackSpec)

end Rows
end Go.Proofs.Ytheiickihjcdlaa
