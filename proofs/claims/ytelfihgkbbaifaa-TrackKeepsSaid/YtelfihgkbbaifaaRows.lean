/-
  No cell of these rows narrows 'for every input' (looked for: loops, veiled, ifaces, maps, wideKeys, modest, calm, conditions, laid).
  DERIVED. THE GIVEN ROWS OF THIS SEAT. 8 by the template 'for every input the law returns true; each argument reads behind the call as it read before'; 0 by the template 'total and deterministic' (their statements: YtelfihgkbbaifaaTotals.lean).
  GIVEN WITH THE SEED: the statements are not yours to turn. If you find one false, say at which input.
  Laid BY PROGRAM, IN A SANDBOX (cutbox-rows.mjs): the forced cells as the released guide's own fill.sh prints them over the translation 3c2763d42fdd5dbf… (all of the seat's roots in one cut). By AI agents, Wed Nov 11 2026. No macro, syntax, notation, axiom, sorry.
-/
import Derived.Test.YtelfihgkbbaifaaChecked
import GoSem.Claim
import GoSem.ClaimJoined
import GoSem.ClaimMapViews
import Derived.JoinedTies
import Derived.KernelRfl
namespace Go.Proofs.Ytelfihgkbbaifaa
/- THE CELL 'sum', in the pinned program and in every row, IS THE sha256 OF THE DUMP (.gsa) THAT YtelfihgkbbaifaaProg.lean LOADS. Nothing in Lean hashes anything: it is a label: what it is worth is what the hold of that sum in a sandbox is worth. -/
noncomputable def Try.pinned : Pinned := { name := "ytelfihgkbbaifaa", sum := "3c2763d42fdd5dbf406f33576ff22528c9d3fe3b9aa7543e1af1fdb6f3160c74", checked := Try.checked }
namespace Rows
def none {H : Type} : Left H := { results := [], args := [] }

/-- 'jobshoplaw15.TrackTells': WHATEVER THE INPUT: true; the input reads as it did. -/
def trackTellsSpec : ChangeSpec := { name := "trackTells", fn := fun _ => fun
  | [d1, d2, d3] => { results := [.lit (.bool true)], args := [d1, d2, d3] }
  | _ => none }
def trackTellsRow : OpenClaim := { program := "ytelfihgkbbaifaa", sum := "3c2763d42fdd5dbf406f33576ff22528c9d3fe3b9aa7543e1af1fdb6f3160c74", func := "jobshop/jobshoplaw15.TrackTells", spec := "trackTells", inPlace := ["internal/bytealg.Compare", "internal/bytealg.MakeNoZero"], unfollowed := true, recurses := true, apart := false }
def TrackTellsSaid : Prop := trackTellsRow.holds Try.pinned (OpenSpec.ofChange trackTellsSpec)

/-- ITS FALSE NEIGHBOUR: 'it returns false'. Refute it at one input. -/
def trackTellsWrong : ChangeSpec := { name := "trackTells", fn := fun _ => fun
  | [d1, d2, d3] => { results := [.lit (.bool false)], args := [d1, d2, d3] }
  | _ => none }
def TrackTellsWrongFalsely : Prop := trackTellsRow.holds Try.pinned (OpenSpec.ofChange trackTellsWrong)

/-- 'jobshoplaw15.TrackSearches': WHATEVER THE INPUT: true; the input reads as it did. -/
def trackSearchesSpec : ChangeSpec := { name := "trackSearches", fn := fun _ => fun
  | [d1, d2, d3, d4, d5, d6] => { results := [.lit (.bool true)], args := [d1, d2, d3, d4, d5, d6] }
  | _ => none }
def trackSearchesRow : OpenClaim := { program := "ytelfihgkbbaifaa", sum := "3c2763d42fdd5dbf406f33576ff22528c9d3fe3b9aa7543e1af1fdb6f3160c74", func := "jobshop/jobshoplaw15.TrackSearches", spec := "trackSearches", inPlace := ["internal/bytealg.Compare", "internal/bytealg.MakeNoZero"], unfollowed := true, recurses := true, apart := false }
def TrackSearchesSaid : Prop := trackSearchesRow.holds Try.pinned (OpenSpec.ofChange trackSearchesSpec)

/-- ITS FALSE NEIGHBOUR: 'it returns false'. Refute it at one input. -/
def trackSearchesWrong : ChangeSpec := { name := "trackSearches", fn := fun _ => fun
  | [d1, d2, d3, d4, d5, d6] => { results := [.lit (.bool false)], args := [d1, d2, d3, d4, d5, d6] }
  | _ => none }
def TrackSearchesWrongFalsely : Prop := trackSearchesRow.holds Try.pinned (OpenSpec.ofChange trackSearchesWrong)

/-- 'jobshoplaw15.TrackWrites': WHATEVER THE INPUT: true; the input reads as it did. -/
def trackWritesSpec : ChangeSpec := { name := "trackWrites", fn := fun _ => fun
  | [d1, d2, d3] => { results := [.lit (.bool true)], args := [d1, d2, d3] }
  | _ => none }
def trackWritesRow : OpenClaim := { program := "ytelfihgkbbaifaa", sum := "3c2763d42fdd5dbf406f33576ff22528c9d3fe3b9aa7543e1af1fdb6f3160c74", func := "jobshop/jobshoplaw15.TrackWrites", spec := "trackWrites", inPlace := ["internal/bytealg.Compare", "internal/bytealg.MakeNoZero"], unfollowed := true, recurses := true, apart := false }
def TrackWritesSaid : Prop := trackWritesRow.holds Try.pinned (OpenSpec.ofChange trackWritesSpec)

/-- ITS FALSE NEIGHBOUR: 'it returns false'. Refute it at one input. -/
def trackWritesWrong : ChangeSpec := { name := "trackWrites", fn := fun _ => fun
  | [d1, d2, d3] => { results := [.lit (.bool false)], args := [d1, d2, d3] }
  | _ => none }
def TrackWritesWrongFalsely : Prop := trackWritesRow.holds Try.pinned (OpenSpec.ofChange trackWritesWrong)

/-- 'jobshoplaw15.TrackCodes': WHATEVER THE INPUT: true; the input reads as it did. -/
def trackCodesSpec : ChangeSpec := { name := "trackCodes", fn := fun _ => fun
  | [d1, d2, d3, d4, d5, d6] => { results := [.lit (.bool true)], args := [d1, d2, d3, d4, d5, d6] }
  | _ => none }
def trackCodesRow : OpenClaim := { program := "ytelfihgkbbaifaa", sum := "3c2763d42fdd5dbf406f33576ff22528c9d3fe3b9aa7543e1af1fdb6f3160c74", func := "jobshop/jobshoplaw15.TrackCodes", spec := "trackCodes", inPlace := ["internal/bytealg.MakeNoZero", "internal/bytealg.Compare"], unfollowed := true, recurses := true, apart := false }
def TrackCodesSaid : Prop := trackCodesRow.holds Try.pinned (OpenSpec.ofChange trackCodesSpec)

/-- ITS FALSE NEIGHBOUR: 'it returns false'. Refute it at one input. -/
def trackCodesWrong : ChangeSpec := { name := "trackCodes", fn := fun _ => fun
  | [d1, d2, d3, d4, d5, d6] => { results := [.lit (.bool false)], args := [d1, d2, d3, d4, d5, d6] }
  | _ => none }
def TrackCodesWrongFalsely : Prop := trackCodesRow.holds Try.pinned (OpenSpec.ofChange trackCodesWrong)

/-- 'jobshoplaw15.TrackBack': WHATEVER THE INPUT: true; the input reads as it did. -/
def trackBackSpec : ChangeSpec := { name := "trackBack", fn := fun _ => fun
  | [d1, d2, d3, d4] => { results := [.lit (.bool true)], args := [d1, d2, d3, d4] }
  | _ => none }
def trackBackRow : OpenClaim := { program := "ytelfihgkbbaifaa", sum := "3c2763d42fdd5dbf406f33576ff22528c9d3fe3b9aa7543e1af1fdb6f3160c74", func := "jobshop/jobshoplaw15.TrackBack", spec := "trackBack", inPlace := ["internal/bytealg.Compare", "internal/bytealg.MakeNoZero"], unfollowed := true, recurses := true, apart := false }
def TrackBackSaid : Prop := trackBackRow.holds Try.pinned (OpenSpec.ofChange trackBackSpec)

/-- ITS FALSE NEIGHBOUR: 'it returns false'. Refute it at one input. -/
def trackBackWrong : ChangeSpec := { name := "trackBack", fn := fun _ => fun
  | [d1, d2, d3, d4] => { results := [.lit (.bool false)], args := [d1, d2, d3, d4] }
  | _ => none }
def TrackBackWrongFalsely : Prop := trackBackRow.holds Try.pinned (OpenSpec.ofChange trackBackWrong)

/-- 'jobshoplaw15.TrackKeeps': WHATEVER THE INPUT: true; the input reads as it did. -/
def trackKeepsSpec : ChangeSpec := { name := "trackKeeps", fn := fun _ => fun
  | [d1, d2] => { results := [.lit (.bool true)], args := [d1, d2] }
  | _ => none }
def trackKeepsRow : OpenClaim := { program := "ytelfihgkbbaifaa", sum := "3c2763d42fdd5dbf406f33576ff22528c9d3fe3b9aa7543e1af1fdb6f3160c74", func := "jobshop/jobshoplaw15.TrackKeeps", spec := "trackKeeps", inPlace := ["internal/bytealg.Compare", "internal/bytealg.MakeNoZero"], unfollowed := true, recurses := true, apart := false }
def TrackKeepsSaid : Prop := trackKeepsRow.holds Try.pinned (OpenSpec.ofChange trackKeepsSpec)

/-- ITS FALSE NEIGHBOUR: 'it returns false'. Refute it at one input. -/
def trackKeepsWrong : ChangeSpec := { name := "trackKeeps", fn := fun _ => fun
  | [d1, d2] => { results := [.lit (.bool false)], args := [d1, d2] }
  | _ => none }
def TrackKeepsWrongFalsely : Prop := trackKeepsRow.holds Try.pinned (OpenSpec.ofChange trackKeepsWrong)

/-- 'jobshoplaw15.TrackOwn': WHATEVER THE INPUT: true; the input reads as it did. -/
def trackOwnSpec : ChangeSpec := { name := "trackOwn", fn := fun _ => fun
  | [d1, d2] => { results := [.lit (.bool true)], args := [d1, d2] }
  | _ => none }
def trackOwnRow : OpenClaim := { program := "ytelfihgkbbaifaa", sum := "3c2763d42fdd5dbf406f33576ff22528c9d3fe3b9aa7543e1af1fdb6f3160c74", func := "jobshop/jobshoplaw15.TrackOwn", spec := "trackOwn", inPlace := ["internal/bytealg.Compare", "internal/bytealg.MakeNoZero"], unfollowed := true, recurses := true, apart := false }
def TrackOwnSaid : Prop := trackOwnRow.holds Try.pinned (OpenSpec.ofChange trackOwnSpec)

/-- ITS FALSE NEIGHBOUR: 'it returns false'. Refute it at one input. -/
def trackOwnWrong : ChangeSpec := { name := "trackOwn", fn := fun _ => fun
  | [d1, d2] => { results := [.lit (.bool false)], args := [d1, d2] }
  | _ => none }
def TrackOwnWrongFalsely : Prop := trackOwnRow.holds Try.pinned (OpenSpec.ofChange trackOwnWrong)

/-- 'jobshoplaw15.TrackKnown': WHATEVER THE INPUT: true; the input reads as it did. -/
def trackKnownSpec : ChangeSpec := { name := "trackKnown", fn := fun _ => fun
  | [] => { results := [.lit (.bool true)], args := [] }
  | _ => none }
def trackKnownRow : OpenClaim := { program := "ytelfihgkbbaifaa", sum := "3c2763d42fdd5dbf406f33576ff22528c9d3fe3b9aa7543e1af1fdb6f3160c74", func := "jobshop/jobshoplaw15.TrackKnown", spec := "trackKnown", inPlace := ["internal/bytealg.MakeNoZero", "internal/bytealg.Compare"], unfollowed := true, recurses := true, apart := false }
def TrackKnownSaid : Prop := trackKnownRow.holds Try.pinned (OpenSpec.ofChange trackKnownSpec)

/-- ITS FALSE NEIGHBOUR: 'it returns false'. Refute it at one input. -/
def trackKnownWrong : ChangeSpec := { name := "trackKnown", fn := fun _ => fun
  | [] => { results := [.lit (.bool false)], args := [] }
  | _ => none }
def TrackKnownWrongFalsely : Prop := trackKnownRow.holds Try.pinned (OpenSpec.ofChange trackKnownWrong)

/- THE SECOND FORM. 'bulk': how many values and letters a reading holds, each counted each time it is reached (what is shared counts as often as it is met; a slice's spare places count too). A statement '..UptoSaid' is the law's where the arguments, and the package variables that the reading takes, are together of bulk at most 1048576: NARROWER than '..Said'. Prove '..Said' where nothing that the law and all that it calls make is longer than what came in: it says more and counts as full. Else prove '..UptoSaid'. A law counts once. -/
mutual
def uptoBulk {H : Type} : DataW H → Nat
  | .lit (.string bytes) => bytes.length + 1
  | .lit _ => 1
  | .nil => 1
  | .ptr d => uptoBulk d + 1
  | .slice elems spare => uptoBulkAll elems + uptoBulkAll spare + 1
  | .agg parts => uptoBulkAll parts + 1
  | .iface _ d => uptoBulk d + 1
  | .map entries => uptoBulkEntries entries + 1
  | .held _ => 1
def uptoBulkAll {H : Type} : List (DataW H) → Nat
  | [] => 0
  | d :: r => uptoBulk d + uptoBulkAll r
def uptoBulkEntries {H : Type} : List (Lit × DataW H) → Nat
  | [] => 0
  | x :: r => uptoBulkEntry x + uptoBulkEntries r
def uptoBulkEntry {H : Type} : Lit × DataW H → Nat
  | (.string bytes, d) => bytes.length + uptoBulk d + 1
  | (_, d) => uptoBulk d + 1
 end
def uptoSmall : (H : Type) → List (DataW H) → Bool := fun _ ds => decide (uptoBulkAll ds ≤ 1048576)
def OpenSpec.upto (s : _root_.Go.ChangeSpec) : _root_.Go.OpenSpec := { _root_.Go.OpenSpec.ofChange s with cond := some uptoSmall }

/-- 'jobshoplaw15.TrackTells', WHERE WHAT IT READS IS OF BULK AT MOST 1048576: true; the input reads as it did. -/
def trackTellsUptoRow : OpenClaim := { program := "ytelfihgkbbaifaa", sum := "3c2763d42fdd5dbf406f33576ff22528c9d3fe3b9aa7543e1af1fdb6f3160c74", func := "jobshop/jobshoplaw15.TrackTells", spec := "trackTells", inPlace := ["internal/bytealg.Compare", "internal/bytealg.MakeNoZero"], unfollowed := true, recurses := true, apart := false, narrowed := true }
def TrackTellsUptoSaid : Prop := trackTellsUptoRow.holds Try.pinned (OpenSpec.upto trackTellsSpec)

/-- 'jobshoplaw15.TrackSearches', WHERE WHAT IT READS IS OF BULK AT MOST 1048576: true; the input reads as it did. -/
def trackSearchesUptoRow : OpenClaim := { program := "ytelfihgkbbaifaa", sum := "3c2763d42fdd5dbf406f33576ff22528c9d3fe3b9aa7543e1af1fdb6f3160c74", func := "jobshop/jobshoplaw15.TrackSearches", spec := "trackSearches", inPlace := ["internal/bytealg.Compare", "internal/bytealg.MakeNoZero"], unfollowed := true, recurses := true, apart := false, narrowed := true }
def TrackSearchesUptoSaid : Prop := trackSearchesUptoRow.holds Try.pinned (OpenSpec.upto trackSearchesSpec)

/-- 'jobshoplaw15.TrackWrites', WHERE WHAT IT READS IS OF BULK AT MOST 1048576: true; the input reads as it did. -/
def trackWritesUptoRow : OpenClaim := { program := "ytelfihgkbbaifaa", sum := "3c2763d42fdd5dbf406f33576ff22528c9d3fe3b9aa7543e1af1fdb6f3160c74", func := "jobshop/jobshoplaw15.TrackWrites", spec := "trackWrites", inPlace := ["internal/bytealg.Compare", "internal/bytealg.MakeNoZero"], unfollowed := true, recurses := true, apart := false, narrowed := true }
def TrackWritesUptoSaid : Prop := trackWritesUptoRow.holds Try.pinned (OpenSpec.upto trackWritesSpec)

/-- 'jobshoplaw15.TrackCodes', WHERE WHAT IT READS IS OF BULK AT MOST 1048576: true; the input reads as it did. -/
def trackCodesUptoRow : OpenClaim := { program := "ytelfihgkbbaifaa", sum := "3c2763d42fdd5dbf406f33576ff22528c9d3fe3b9aa7543e1af1fdb6f3160c74", func := "jobshop/jobshoplaw15.TrackCodes", spec := "trackCodes", inPlace := ["internal/bytealg.MakeNoZero", "internal/bytealg.Compare"], unfollowed := true, recurses := true, apart := false, narrowed := true }
def TrackCodesUptoSaid : Prop := trackCodesUptoRow.holds Try.pinned (OpenSpec.upto trackCodesSpec)

/-- 'jobshoplaw15.TrackBack', WHERE WHAT IT READS IS OF BULK AT MOST 1048576: true; the input reads as it did. -/
def trackBackUptoRow : OpenClaim := { program := "ytelfihgkbbaifaa", sum := "3c2763d42fdd5dbf406f33576ff22528c9d3fe3b9aa7543e1af1fdb6f3160c74", func := "jobshop/jobshoplaw15.TrackBack", spec := "trackBack", inPlace := ["internal/bytealg.Compare", "internal/bytealg.MakeNoZero"], unfollowed := true, recurses := true, apart := false, narrowed := true }
def TrackBackUptoSaid : Prop := trackBackUptoRow.holds Try.pinned (OpenSpec.upto trackBackSpec)

/-- 'jobshoplaw15.TrackKeeps', WHERE WHAT IT READS IS OF BULK AT MOST 1048576: true; the input reads as it did. -/
def trackKeepsUptoRow : OpenClaim := { program := "ytelfihgkbbaifaa", sum := "3c2763d42fdd5dbf406f33576ff22528c9d3fe3b9aa7543e1af1fdb6f3160c74", func := "jobshop/jobshoplaw15.TrackKeeps", spec := "trackKeeps", inPlace := ["internal/bytealg.Compare", "internal/bytealg.MakeNoZero"], unfollowed := true, recurses := true, apart := false, narrowed := true }
def TrackKeepsUptoSaid : Prop := trackKeepsUptoRow.holds Try.pinned (OpenSpec.upto trackKeepsSpec)

/-- 'jobshoplaw15.TrackOwn', WHERE WHAT IT READS IS OF BULK AT MOST 1048576: true; the input reads as it did. -/
def trackOwnUptoRow : OpenClaim := { program := "ytelfihgkbbaifaa", sum := "3c2763d42fdd5dbf406f33576ff22528c9d3fe3b9aa7543e1af1fdb6f3160c74", func := "jobshop/jobshoplaw15.TrackOwn", spec := "trackOwn", inPlace := ["internal/bytealg.Compare", "internal/bytealg.MakeNoZero"], unfollowed := true, recurses := true, apart := false, narrowed := true }
def TrackOwnUptoSaid : Prop := trackOwnUptoRow.holds Try.pinned (OpenSpec.upto trackOwnSpec)

/-- 'jobshoplaw15.TrackKnown', WHERE WHAT IT READS IS OF BULK AT MOST 1048576: true; the input reads as it did. -/
def trackKnownUptoRow : OpenClaim := { program := "ytelfihgkbbaifaa", sum := "3c2763d42fdd5dbf406f33576ff22528c9d3fe3b9aa7543e1af1fdb6f3160c74", func := "jobshop/jobshoplaw15.TrackKnown", spec := "trackKnown", inPlace := ["internal/bytealg.MakeNoZero", "internal/bytealg.Compare"], unfollowed := true, recurses := true, apart := false, narrowed := true }
def TrackKnownUptoSaid : Prop := trackKnownUptoRow.holds Try.pinned (OpenSpec.upto trackKnownSpec)

end Rows
end Go.Proofs.Ytelfihgkbbaifaa
