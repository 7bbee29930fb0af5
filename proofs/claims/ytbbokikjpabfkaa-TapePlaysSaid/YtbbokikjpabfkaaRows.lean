/-
  No cell of these rows narrows 'for every input' (looked for: loops, veiled, ifaces, maps, wideKeys, modest, calm, conditions, laid).
  DERIVED. THE GIVEN ROWS OF THIS SEAT. 7 by the template 'for every input the law returns true; each argument reads behind the call as it read before'; 0 by the template 'total and deterministic' (their statements: YtbbokikjpabfkaaTotals.lean).
  GIVEN WITH THE SEED: the statements are not yours to turn. If you find one false, say at which input.
  Laid BY PROGRAM, IN A SANDBOX (cutbox-rows.mjs): the forced cells as the released guide's own fill.sh prints them over the translation d77d743e8282d94a… (all of the seat's roots in one cut). By AI agents, Wed Nov 11 2026. No macro, syntax, notation, axiom, sorry.
-/
import Derived.Test.YtbbokikjpabfkaaChecked
import GoSem.Claim
import GoSem.ClaimJoined
import GoSem.ClaimMapViews
import Derived.JoinedTies
import Derived.KernelRfl
namespace Go.Proofs.Ytbbokikjpabfkaa
/- THE CELL 'sum', in the pinned program and in every row, IS THE sha256 OF THE DUMP (.gsa) THAT YtbbokikjpabfkaaProg.lean LOADS. Nothing in Lean hashes anything: it is a label: what it is worth is what the hold of that sum in a sandbox is worth. -/
noncomputable def Try.pinned : Pinned := { name := "ytbbokikjpabfkaa", sum := "d77d743e8282d94a9055e22ac6a7d401745c223d5f7ba6b5df387f3a4545d5e4", checked := Try.checked }
namespace Rows
def none {H : Type} : Left H := { results := [], args := [] }

/-- 'jobshoplaw14.TapeFull': WHATEVER THE INPUT: true; the input reads as it did. -/
def tapeFullSpec : ChangeSpec := { name := "tapeFull", fn := fun _ => fun
  | [d1, d2] => { results := [.lit (.bool true)], args := [d1, d2] }
  | _ => none }
def tapeFullRow : OpenClaim := { program := "ytbbokikjpabfkaa", sum := "d77d743e8282d94a9055e22ac6a7d401745c223d5f7ba6b5df387f3a4545d5e4", func := "jobshop/jobshoplaw14.TapeFull", spec := "tapeFull", unfollowed := true, recurses := true, apart := false }
def TapeFullSaid : Prop := tapeFullRow.holds Try.pinned (OpenSpec.ofChange tapeFullSpec)

/-- ITS FALSE NEIGHBOUR: 'it returns false'. Refute it at one input. -/
def tapeFullWrong : ChangeSpec := { name := "tapeFull", fn := fun _ => fun
  | [d1, d2] => { results := [.lit (.bool false)], args := [d1, d2] }
  | _ => none }
def TapeFullWrongFalsely : Prop := tapeFullRow.holds Try.pinned (OpenSpec.ofChange tapeFullWrong)

/-- 'jobshoplaw14.TapeReads': WHATEVER THE INPUT: true; the input reads as it did. -/
def tapeReadsSpec : ChangeSpec := { name := "tapeReads", fn := fun _ => fun
  | [d1, d2] => { results := [.lit (.bool true)], args := [d1, d2] }
  | _ => none }
def tapeReadsRow : OpenClaim := { program := "ytbbokikjpabfkaa", sum := "d77d743e8282d94a9055e22ac6a7d401745c223d5f7ba6b5df387f3a4545d5e4", func := "jobshop/jobshoplaw14.TapeReads", spec := "tapeReads", unfollowed := true, recurses := true, apart := false }
def TapeReadsSaid : Prop := tapeReadsRow.holds Try.pinned (OpenSpec.ofChange tapeReadsSpec)

/-- ITS FALSE NEIGHBOUR: 'it returns false'. Refute it at one input. -/
def tapeReadsWrong : ChangeSpec := { name := "tapeReads", fn := fun _ => fun
  | [d1, d2] => { results := [.lit (.bool false)], args := [d1, d2] }
  | _ => none }
def TapeReadsWrongFalsely : Prop := tapeReadsRow.holds Try.pinned (OpenSpec.ofChange tapeReadsWrong)

/-- 'jobshoplaw14.TapeMoves': WHATEVER THE INPUT: true; the input reads as it did. -/
def tapeMovesSpec : ChangeSpec := { name := "tapeMoves", fn := fun _ => fun
  | [d1, d2] => { results := [.lit (.bool true)], args := [d1, d2] }
  | _ => none }
def tapeMovesRow : OpenClaim := { program := "ytbbokikjpabfkaa", sum := "d77d743e8282d94a9055e22ac6a7d401745c223d5f7ba6b5df387f3a4545d5e4", func := "jobshop/jobshoplaw14.TapeMoves", spec := "tapeMoves", unfollowed := true, recurses := true, apart := false }
def TapeMovesSaid : Prop := tapeMovesRow.holds Try.pinned (OpenSpec.ofChange tapeMovesSpec)

/-- ITS FALSE NEIGHBOUR: 'it returns false'. Refute it at one input. -/
def tapeMovesWrong : ChangeSpec := { name := "tapeMoves", fn := fun _ => fun
  | [d1, d2] => { results := [.lit (.bool false)], args := [d1, d2] }
  | _ => none }
def TapeMovesWrongFalsely : Prop := tapeMovesRow.holds Try.pinned (OpenSpec.ofChange tapeMovesWrong)

/-- 'jobshoplaw14.TapeUndoes': WHATEVER THE INPUT: true; the input reads as it did. -/
def tapeUndoesSpec : ChangeSpec := { name := "tapeUndoes", fn := fun _ => fun
  | [d1, d2] => { results := [.lit (.bool true)], args := [d1, d2] }
  | _ => none }
def tapeUndoesRow : OpenClaim := { program := "ytbbokikjpabfkaa", sum := "d77d743e8282d94a9055e22ac6a7d401745c223d5f7ba6b5df387f3a4545d5e4", func := "jobshop/jobshoplaw14.TapeUndoes", spec := "tapeUndoes", unfollowed := true, recurses := true, apart := false }
def TapeUndoesSaid : Prop := tapeUndoesRow.holds Try.pinned (OpenSpec.ofChange tapeUndoesSpec)

/-- ITS FALSE NEIGHBOUR: 'it returns false'. Refute it at one input. -/
def tapeUndoesWrong : ChangeSpec := { name := "tapeUndoes", fn := fun _ => fun
  | [d1, d2] => { results := [.lit (.bool false)], args := [d1, d2] }
  | _ => none }
def TapeUndoesWrongFalsely : Prop := tapeUndoesRow.holds Try.pinned (OpenSpec.ofChange tapeUndoesWrong)

/-- 'jobshoplaw14.TapeNew': WHATEVER THE INPUT: true; the input reads as it did. -/
def tapeNewSpec : ChangeSpec := { name := "tapeNew", fn := fun _ => fun
  | [d1, d2] => { results := [.lit (.bool true)], args := [d1, d2] }
  | _ => none }
def tapeNewRow : OpenClaim := { program := "ytbbokikjpabfkaa", sum := "d77d743e8282d94a9055e22ac6a7d401745c223d5f7ba6b5df387f3a4545d5e4", func := "jobshop/jobshoplaw14.TapeNew", spec := "tapeNew", unfollowed := true, recurses := true, apart := false }
def TapeNewSaid : Prop := tapeNewRow.holds Try.pinned (OpenSpec.ofChange tapeNewSpec)

/-- ITS FALSE NEIGHBOUR: 'it returns false'. Refute it at one input. -/
def tapeNewWrong : ChangeSpec := { name := "tapeNew", fn := fun _ => fun
  | [d1, d2] => { results := [.lit (.bool false)], args := [d1, d2] }
  | _ => none }
def TapeNewWrongFalsely : Prop := tapeNewRow.holds Try.pinned (OpenSpec.ofChange tapeNewWrong)

/-- 'jobshoplaw14.TapePlays': WHATEVER THE INPUT: true; the input reads as it did. -/
def tapePlaysSpec : ChangeSpec := { name := "tapePlays", fn := fun _ => fun
  | [d1, d2] => { results := [.lit (.bool true)], args := [d1, d2] }
  | _ => none }
def tapePlaysRow : OpenClaim := { program := "ytbbokikjpabfkaa", sum := "d77d743e8282d94a9055e22ac6a7d401745c223d5f7ba6b5df387f3a4545d5e4", func := "jobshop/jobshoplaw14.TapePlays", spec := "tapePlays", unfollowed := true, recurses := true, apart := false }
def TapePlaysSaid : Prop := tapePlaysRow.holds Try.pinned (OpenSpec.ofChange tapePlaysSpec)

/-- ITS FALSE NEIGHBOUR: 'it returns false'. Refute it at one input. -/
def tapePlaysWrong : ChangeSpec := { name := "tapePlays", fn := fun _ => fun
  | [d1, d2] => { results := [.lit (.bool false)], args := [d1, d2] }
  | _ => none }
def TapePlaysWrongFalsely : Prop := tapePlaysRow.holds Try.pinned (OpenSpec.ofChange tapePlaysWrong)

/-- 'jobshoplaw14.TapeNil': WHATEVER THE INPUT: true; the input reads as it did. -/
def tapeNilSpec : ChangeSpec := { name := "tapeNil", fn := fun _ => fun
  | [d] => { results := [.lit (.bool true)], args := [d] }
  | _ => none }
def tapeNilRow : OpenClaim := { program := "ytbbokikjpabfkaa", sum := "d77d743e8282d94a9055e22ac6a7d401745c223d5f7ba6b5df387f3a4545d5e4", func := "jobshop/jobshoplaw14.TapeNil", spec := "tapeNil", unfollowed := true, recurses := true, apart := false }
def TapeNilSaid : Prop := tapeNilRow.holds Try.pinned (OpenSpec.ofChange tapeNilSpec)

/-- ITS FALSE NEIGHBOUR: 'it returns false'. Refute it at one input. -/
def tapeNilWrong : ChangeSpec := { name := "tapeNil", fn := fun _ => fun
  | [d] => { results := [.lit (.bool false)], args := [d] }
  | _ => none }
def TapeNilWrongFalsely : Prop := tapeNilRow.holds Try.pinned (OpenSpec.ofChange tapeNilWrong)

/- THE SECOND FORM. 'bulk': how many values and letters a reading holds, each counted each time it is reached (what is shared counts as often as it is met; a slice's spare places count too). A statement '..UptoSaid' is the law's where the arguments, and the package variables that the reading takes, are together of bulk at most 1048576: NARROWER than '..Said'. Prove '..Said' where nothing that the law and all that it calls make is longer than what came in: it says more and counts as full. Else prove '..UptoSaid'. A law counts once. -/
mutual
def uptoBulk {H : Type} : DataW H → Nat
  | .lit (.string bytes) => bytes.length + 1
  | .lit _ => 1
  | .nil => 1
  | .ptr d => uptoBulk d + 1
  | .slice elems spare => uptoBulkAll elems + uptoBulkAll spare + 1
  | .agg parts => uptoBulkAll parts + 1
  | .iface _ d => uptoBulk d + 1
  | .map entries => uptoBulkEntries entries + 1
  | .held _ => 1
def uptoBulkAll {H : Type} : List (DataW H) → Nat
  | [] => 0
  | d :: r => uptoBulk d + uptoBulkAll r
def uptoBulkEntries {H : Type} : List (Lit × DataW H) → Nat
  | [] => 0
  | x :: r => uptoBulkEntry x + uptoBulkEntries r
def uptoBulkEntry {H : Type} : Lit × DataW H → Nat
  | (.string bytes, d) => bytes.length + uptoBulk d + 1
  | (_, d) => uptoBulk d + 1
 end
def uptoSmall : (H : Type) → List (DataW H) → Bool := fun _ ds => decide (uptoBulkAll ds ≤ 1048576)
def OpenSpec.upto (s : _root_.Go.ChangeSpec) : _root_.Go.OpenSpec := { _root_.Go.OpenSpec.ofChange s with cond := some uptoSmall }

/-- 'jobshoplaw14.TapeFull', WHERE WHAT IT READS IS OF BULK AT MOST 1048576: true; the input reads as it did. -/
def tapeFullUptoRow : OpenClaim := { program := "ytbbokikjpabfkaa", sum := "d77d743e8282d94a9055e22ac6a7d401745c223d5f7ba6b5df387f3a4545d5e4", func := "jobshop/jobshoplaw14.TapeFull", spec := "tapeFull", unfollowed := true, recurses := true, apart := false, narrowed := true }
def TapeFullUptoSaid : Prop := tapeFullUptoRow.holds Try.pinned (OpenSpec.upto tapeFullSpec)

/-- 'jobshoplaw14.TapeReads', WHERE WHAT IT READS IS OF BULK AT MOST 1048576: true; the input reads as it did. -/
def tapeReadsUptoRow : OpenClaim := { program := "ytbbokikjpabfkaa", sum := "d77d743e8282d94a9055e22ac6a7d401745c223d5f7ba6b5df387f3a4545d5e4", func := "jobshop/jobshoplaw14.TapeReads", spec := "tapeReads", unfollowed := true, recurses := true, apart := false, narrowed := true }
def TapeReadsUptoSaid : Prop := tapeReadsUptoRow.holds Try.pinned (OpenSpec.upto tapeReadsSpec)

/-- 'jobshoplaw14.TapeMoves', WHERE WHAT IT READS IS OF BULK AT MOST 1048576: true; the input reads as it did. -/
def tapeMovesUptoRow : OpenClaim := { program := "ytbbokikjpabfkaa", sum := "d77d743e8282d94a9055e22ac6a7d401745c223d5f7ba6b5df387f3a4545d5e4", func := "jobshop/jobshoplaw14.TapeMoves", spec := "tapeMoves", unfollowed := true, recurses := true, apart := false, narrowed := true }
def TapeMovesUptoSaid : Prop := tapeMovesUptoRow.holds Try.pinned (OpenSpec.upto tapeMovesSpec)

/-- 'jobshoplaw14.TapeUndoes', WHERE WHAT IT READS IS OF BULK AT MOST 1048576: true; the input reads as it did. -/
def tapeUndoesUptoRow : OpenClaim := { program := "ytbbokikjpabfkaa", sum := "d77d743e8282d94a9055e22ac6a7d401745c223d5f7ba6b5df387f3a4545d5e4", func := "jobshop/jobshoplaw14.TapeUndoes", spec := "tapeUndoes", unfollowed := true, recurses := true, apart := false, narrowed := true }
def TapeUndoesUptoSaid : Prop := tapeUndoesUptoRow.holds Try.pinned (OpenSpec.upto tapeUndoesSpec)

/-- 'jobshoplaw14.TapeNew', WHERE WHAT IT READS IS OF BULK AT MOST 1048576: true; the input reads as it did. -/
def tapeNewUptoRow : OpenClaim := { program := "ytbbokikjpabfkaa", sum := "d77d743e8282d94a9055e22ac6a7d401745c223d5f7ba6b5df387f3a4545d5e4", func := "jobshop/jobshoplaw14.TapeNew", spec := "tapeNew", unfollowed := true, recurses := true, apart := false, narrowed := true }
def TapeNewUptoSaid : Prop := tapeNewUptoRow.holds Try.pinned (OpenSpec.upto tapeNewSpec)

/-- 'jobshoplaw14.TapePlays', WHERE WHAT IT READS IS OF BULK AT MOST 1048576: true; the input reads as it did. -/
def tapePlaysUptoRow : OpenClaim := { program := "ytbbokikjpabfkaa", sum := "d77d743e8282d94a9055e22ac6a7d401745c223d5f7ba6b5df387f3a4545d5e4", func := "jobshop/jobshoplaw14.TapePlays", spec := "tapePlays", unfollowed := true, recurses := true, apart := false, narrowed := true }
def TapePlaysUptoSaid : Prop := tapePlaysUptoRow.holds Try.pinned (OpenSpec.upto tapePlaysSpec)

/-- 'jobshoplaw14.TapeNil', WHERE WHAT IT READS IS OF BULK AT MOST 1048576: true; the input reads as it did. -/
def tapeNilUptoRow : OpenClaim := { program := "ytbbokikjpabfkaa", sum := "d77d743e8282d94a9055e22ac6a7d401745c223d5f7ba6b5df387f3a4545d5e4", func := "jobshop/jobshoplaw14.TapeNil", spec := "tapeNil", unfollowed := true, recurses := true, apart := false, narrowed := true }
def TapeNilUptoSaid : Prop := tapeNilUptoRow.holds Try.pinned (OpenSpec.upto tapeNilSpec)

end Rows
end Go.Proofs.Ytbbokikjpabfkaa
