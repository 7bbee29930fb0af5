/-
  No cell of these rows narrows 'for every input' (looked for: loops, veiled, ifaces, maps, wideKeys, modest, calm, conditions, laid).
  DERIVED. THE GIVEN ROWS OF THIS SEAT. 8 by the template 'for every input the law returns true; each argument reads behind the call as it read before'; 0 by the template 'total and deterministic' (their statements: YtgklbilkfmieoaaTotals.lean).
  GIVEN WITH THE SEED: the statements are not yours to turn. If you find one false, say at which input.
  Laid BY PROGRAM, IN A SANDBOX (cutbox-rows.mjs): the forced cells as the released guide's own fill.sh prints them over the translation 313d91234a93642c… (all of the seat's roots in one cut). By AI agents, Wed Nov 11 2026. No macro, syntax, notation, axiom, sorry.
-/
import Derived.Test.YtgklbilkfmieoaaChecked
import GoSem.Claim
import GoSem.ClaimJoined
import GoSem.ClaimMapViews
import Derived.JoinedTies
import Derived.KernelRfl
namespace Go.Proofs.Ytgklbilkfmieoaa
/- THE CELL 'sum', in the pinned program and in every row, IS THE sha256 OF THE DUMP (.gsa) THAT YtgklbilkfmieoaaProg.lean LOADS. Nothing in Lean hashes anything: it is a label: what it is worth is what the hold of that sum in a sandbox is worth. -/
noncomputable def Try.pinned : Pinned := { name := "ytgklbilkfmieoaa", sum := "313d91234a93642cc12c7d882b78679fbae183ffb571b4e978f8ec607c1a80be", checked := Try.checked }
namespace Rows
def none {H : Type} : Left H := { results := [], args := [] }

/-- 'jobshoplaw13.UnitrecPrints': WHATEVER THE INPUT: true; the input reads as it did. -/
def unitrecPrintsSpec : ChangeSpec := { name := "unitrecPrints", fn := fun _ => fun
  | [d] => { results := [.lit (.bool true)], args := [d] }
  | _ => none }
def unitrecPrintsRow : OpenClaim := { program := "ytgklbilkfmieoaa", sum := "313d91234a93642cc12c7d882b78679fbae183ffb571b4e978f8ec607c1a80be", func := "jobshop/jobshoplaw13.UnitrecPrints", spec := "unitrecPrints", inPlace := ["internal/bytealg.IndexByteString", "internal/abi.NoEscape"], unfollowed := true, recurses := true, apart := false }
def UnitrecPrintsSaid : Prop := unitrecPrintsRow.holds Try.pinned (OpenSpec.ofChange unitrecPrintsSpec)

/-- ITS FALSE NEIGHBOUR: 'it returns false'. Refute it at one input. -/
def unitrecPrintsWrong : ChangeSpec := { name := "unitrecPrints", fn := fun _ => fun
  | [d] => { results := [.lit (.bool false)], args := [d] }
  | _ => none }
def UnitrecPrintsWrongFalsely : Prop := unitrecPrintsRow.holds Try.pinned (OpenSpec.ofChange unitrecPrintsWrong)

/-- 'jobshoplaw13.UnitrecPaper': WHATEVER THE INPUT: true; the input reads as it did. -/
def unitrecPaperSpec : ChangeSpec := { name := "unitrecPaper", fn := fun _ => fun
  | [d] => { results := [.lit (.bool true)], args := [d] }
  | _ => none }
def unitrecPaperRow : OpenClaim := { program := "ytgklbilkfmieoaa", sum := "313d91234a93642cc12c7d882b78679fbae183ffb571b4e978f8ec607c1a80be", func := "jobshop/jobshoplaw13.UnitrecPaper", spec := "unitrecPaper", inPlace := ["internal/bytealg.IndexByteString", "internal/abi.NoEscape"], unfollowed := true, recurses := true, apart := false }
def UnitrecPaperSaid : Prop := unitrecPaperRow.holds Try.pinned (OpenSpec.ofChange unitrecPaperSpec)

/-- ITS FALSE NEIGHBOUR: 'it returns false'. Refute it at one input. -/
def unitrecPaperWrong : ChangeSpec := { name := "unitrecPaper", fn := fun _ => fun
  | [d] => { results := [.lit (.bool false)], args := [d] }
  | _ => none }
def UnitrecPaperWrongFalsely : Prop := unitrecPaperRow.holds Try.pinned (OpenSpec.ofChange unitrecPaperWrong)

/-- 'jobshoplaw13.UnitrecDeck': WHATEVER THE INPUT: true; the input reads as it did. -/
def unitrecDeckSpec : ChangeSpec := { name := "unitrecDeck", fn := fun _ => fun
  | [d] => { results := [.lit (.bool true)], args := [d] }
  | _ => none }
def unitrecDeckRow : OpenClaim := { program := "ytgklbilkfmieoaa", sum := "313d91234a93642cc12c7d882b78679fbae183ffb571b4e978f8ec607c1a80be", func := "jobshop/jobshoplaw13.UnitrecDeck", spec := "unitrecDeck", inPlace := ["internal/bytealg.IndexByteString", "internal/abi.NoEscape"], unfollowed := true, recurses := true, apart := false }
def UnitrecDeckSaid : Prop := unitrecDeckRow.holds Try.pinned (OpenSpec.ofChange unitrecDeckSpec)

/-- ITS FALSE NEIGHBOUR: 'it returns false'. Refute it at one input. -/
def unitrecDeckWrong : ChangeSpec := { name := "unitrecDeck", fn := fun _ => fun
  | [d] => { results := [.lit (.bool false)], args := [d] }
  | _ => none }
def UnitrecDeckWrongFalsely : Prop := unitrecDeckRow.holds Try.pinned (OpenSpec.ofChange unitrecDeckWrong)

/-- 'jobshoplaw13.UnitrecPunches': WHATEVER THE INPUT: true; the input reads as it did. -/
def unitrecPunchesSpec : ChangeSpec := { name := "unitrecPunches", fn := fun _ => fun
  | [d] => { results := [.lit (.bool true)], args := [d] }
  | _ => none }
def unitrecPunchesRow : OpenClaim := { program := "ytgklbilkfmieoaa", sum := "313d91234a93642cc12c7d882b78679fbae183ffb571b4e978f8ec607c1a80be", func := "jobshop/jobshoplaw13.UnitrecPunches", spec := "unitrecPunches", inPlace := ["internal/bytealg.IndexByteString", "internal/abi.NoEscape"], unfollowed := true, recurses := true, apart := false }
def UnitrecPunchesSaid : Prop := unitrecPunchesRow.holds Try.pinned (OpenSpec.ofChange unitrecPunchesSpec)

/-- ITS FALSE NEIGHBOUR: 'it returns false'. Refute it at one input. -/
def unitrecPunchesWrong : ChangeSpec := { name := "unitrecPunches", fn := fun _ => fun
  | [d] => { results := [.lit (.bool false)], args := [d] }
  | _ => none }
def UnitrecPunchesWrongFalsely : Prop := unitrecPunchesRow.holds Try.pinned (OpenSpec.ofChange unitrecPunchesWrong)

/-- 'jobshoplaw13.UnitrecLimits': WHATEVER THE INPUT: true; the input reads as it did. -/
def unitrecLimitsSpec : ChangeSpec := { name := "unitrecLimits", fn := fun _ => fun
  | [] => { results := [.lit (.bool true)], args := [] }
  | _ => none }
def unitrecLimitsRow : OpenClaim := { program := "ytgklbilkfmieoaa", sum := "313d91234a93642cc12c7d882b78679fbae183ffb571b4e978f8ec607c1a80be", func := "jobshop/jobshoplaw13.UnitrecLimits", spec := "unitrecLimits", inPlace := ["internal/bytealg.IndexByteString", "internal/abi.NoEscape"], unfollowed := true, recurses := true, apart := false }
def UnitrecLimitsSaid : Prop := unitrecLimitsRow.holds Try.pinned (OpenSpec.ofChange unitrecLimitsSpec)

/-- ITS FALSE NEIGHBOUR: 'it returns false'. Refute it at one input. -/
def unitrecLimitsWrong : ChangeSpec := { name := "unitrecLimits", fn := fun _ => fun
  | [] => { results := [.lit (.bool false)], args := [] }
  | _ => none }
def UnitrecLimitsWrongFalsely : Prop := unitrecLimitsRow.holds Try.pinned (OpenSpec.ofChange unitrecLimitsWrong)

/-- 'jobshoplaw13.UnitrecReads': WHATEVER THE INPUT: true; the input reads as it did. -/
def unitrecReadsSpec : ChangeSpec := { name := "unitrecReads", fn := fun _ => fun
  | [d1, d2] => { results := [.lit (.bool true)], args := [d1, d2] }
  | _ => none }
def unitrecReadsRow : OpenClaim := { program := "ytgklbilkfmieoaa", sum := "313d91234a93642cc12c7d882b78679fbae183ffb571b4e978f8ec607c1a80be", func := "jobshop/jobshoplaw13.UnitrecReads", spec := "unitrecReads", inPlace := ["internal/bytealg.IndexByteString", "internal/abi.NoEscape"], unfollowed := true, recurses := true, apart := false }
def UnitrecReadsSaid : Prop := unitrecReadsRow.holds Try.pinned (OpenSpec.ofChange unitrecReadsSpec)

/-- ITS FALSE NEIGHBOUR: 'it returns false'. Refute it at one input. -/
def unitrecReadsWrong : ChangeSpec := { name := "unitrecReads", fn := fun _ => fun
  | [d1, d2] => { results := [.lit (.bool false)], args := [d1, d2] }
  | _ => none }
def UnitrecReadsWrongFalsely : Prop := unitrecReadsRow.holds Try.pinned (OpenSpec.ofChange unitrecReadsWrong)

/-- 'jobshoplaw13.UnitrecCards': WHATEVER THE INPUT: true; the input reads as it did. -/
def unitrecCardsSpec : ChangeSpec := { name := "unitrecCards", fn := fun _ => fun
  | [d] => { results := [.lit (.bool true)], args := [d] }
  | _ => none }
def unitrecCardsRow : OpenClaim := { program := "ytgklbilkfmieoaa", sum := "313d91234a93642cc12c7d882b78679fbae183ffb571b4e978f8ec607c1a80be", func := "jobshop/jobshoplaw13.UnitrecCards", spec := "unitrecCards", inPlace := ["internal/bytealg.IndexByteString", "internal/abi.NoEscape"], unfollowed := true, recurses := true, apart := false }
def UnitrecCardsSaid : Prop := unitrecCardsRow.holds Try.pinned (OpenSpec.ofChange unitrecCardsSpec)

/-- ITS FALSE NEIGHBOUR: 'it returns false'. Refute it at one input. -/
def unitrecCardsWrong : ChangeSpec := { name := "unitrecCards", fn := fun _ => fun
  | [d] => { results := [.lit (.bool false)], args := [d] }
  | _ => none }
def UnitrecCardsWrongFalsely : Prop := unitrecCardsRow.holds Try.pinned (OpenSpec.ofChange unitrecCardsWrong)

/-- 'jobshoplaw13.UnitrecKnown': WHATEVER THE INPUT: true; the input reads as it did. -/
def unitrecKnownSpec : ChangeSpec := { name := "unitrecKnown", fn := fun _ => fun
  | [] => { results := [.lit (.bool true)], args := [] }
  | _ => none }
def unitrecKnownRow : OpenClaim := { program := "ytgklbilkfmieoaa", sum := "313d91234a93642cc12c7d882b78679fbae183ffb571b4e978f8ec607c1a80be", func := "jobshop/jobshoplaw13.UnitrecKnown", spec := "unitrecKnown", inPlace := ["internal/bytealg.IndexByteString", "internal/abi.NoEscape"], unfollowed := true, recurses := true, apart := false }
def UnitrecKnownSaid : Prop := unitrecKnownRow.holds Try.pinned (OpenSpec.ofChange unitrecKnownSpec)

/-- ITS FALSE NEIGHBOUR: 'it returns false'. Refute it at one input. -/
def unitrecKnownWrong : ChangeSpec := { name := "unitrecKnown", fn := fun _ => fun
  | [] => { results := [.lit (.bool false)], args := [] }
  | _ => none }
def UnitrecKnownWrongFalsely : Prop := unitrecKnownRow.holds Try.pinned (OpenSpec.ofChange unitrecKnownWrong)

/- THE SECOND FORM. 'bulk': how many values and letters a reading holds, each counted each time it is reached (what is shared counts as often as it is met; a slice's spare places count too). A statement '..UptoSaid' is the law's where the arguments, and the package variables that the reading takes, are together of bulk at most 1048576: NARROWER than '..Said'. Prove '..Said' where nothing that the law and all that it calls make is longer than what came in: it says more and counts as full. Else prove '..UptoSaid'. A law counts once. -/
mutual
def uptoBulk {H : Type} : DataW H → Nat
  | .lit (.string bytes) => bytes.length + 1
  | .lit _ => 1
  | .nil => 1
  | .ptr d => uptoBulk d + 1
  | .slice elems spare => uptoBulkAll elems + uptoBulkAll spare + 1
  | .agg parts => uptoBulkAll parts + 1
  | .iface _ d => uptoBulk d + 1
  | .map entries => uptoBulkEntries entries + 1
  | .held _ => 1
def uptoBulkAll {H : Type} : List (DataW H) → Nat
  | [] => 0
  | d :: r => uptoBulk d + uptoBulkAll r
def uptoBulkEntries {H : Type} : List (Lit × DataW H) → Nat
  | [] => 0
  | x :: r => uptoBulkEntry x + uptoBulkEntries r
def uptoBulkEntry {H : Type} : Lit × DataW H → Nat
  | (.string bytes, d) => bytes.length + uptoBulk d + 1
  | (_, d) => uptoBulk d + 1
 end
def uptoSmall : (H : Type) → List (DataW H) → Bool := fun _ ds => decide (uptoBulkAll ds ≤ 1048576)
def OpenSpec.upto (s : _root_.Go.ChangeSpec) : _root_.Go.OpenSpec := { _root_.Go.OpenSpec.ofChange s with cond := some uptoSmall }

/-- 'jobshoplaw13.UnitrecPrints', WHERE WHAT IT READS IS OF BULK AT MOST 1048576: true; the input reads as it did. -/
def unitrecPrintsUptoRow : OpenClaim := { program := "ytgklbilkfmieoaa", sum := "313d91234a93642cc12c7d882b78679fbae183ffb571b4e978f8ec607c1a80be", func := "jobshop/jobshoplaw13.UnitrecPrints", spec := "unitrecPrints", inPlace := ["internal/bytealg.IndexByteString", "internal/abi.NoEscape"], unfollowed := true, recurses := true, apart := false, narrowed := true }
def UnitrecPrintsUptoSaid : Prop := unitrecPrintsUptoRow.holds Try.pinned (OpenSpec.upto unitrecPrintsSpec)

/-- 'jobshoplaw13.UnitrecPaper', WHERE WHAT IT READS IS OF BULK AT MOST 1048576: true; the input reads as it did. -/
def unitrecPaperUptoRow : OpenClaim := { program := "ytgklbilkfmieoaa", sum := "313d91234a93642cc12c7d882b78679fbae183ffb571b4e978f8ec607c1a80be", func := "jobshop/jobshoplaw13.UnitrecPaper", spec := "unitrecPaper", inPlace := ["internal/bytealg.IndexByteString", "internal/abi.NoEscape"], unfollowed := true, recurses := true, apart := false, narrowed := true }
def UnitrecPaperUptoSaid : Prop := unitrecPaperUptoRow.holds Try.pinned (OpenSpec.upto unitrecPaperSpec)

/-- 'jobshoplaw13.UnitrecDeck', WHERE WHAT IT READS IS OF BULK AT MOST 1048576: true; the input reads as it did. -/
def unitrecDeckUptoRow : OpenClaim := { program := "ytgklbilkfmieoaa", sum := "313d91234a93642cc12c7d882b78679fbae183ffb571b4e978f8ec607c1a80be", func := "jobshop/jobshoplaw13.UnitrecDeck", spec := "unitrecDeck", inPlace := ["internal/bytealg.IndexByteString", "internal/abi.NoEscape"], unfollowed := true, recurses := true, apart := false, narrowed := true }
def UnitrecDeckUptoSaid : Prop := unitrecDeckUptoRow.holds Try.pinned (OpenSpec.upto unitrecDeckSpec)

/-- 'jobshoplaw13.UnitrecPunches', WHERE WHAT IT READS IS OF BULK AT MOST 1048576: true; the input reads as it did. -/
def unitrecPunchesUptoRow : OpenClaim := { program := "ytgklbilkfmieoaa", sum := "313d91234a93642cc12c7d882b78679fbae183ffb571b4e978f8ec607c1a80be", func := "jobshop/jobshoplaw13.UnitrecPunches", spec := "unitrecPunches", inPlace := ["internal/bytealg.IndexByteString", "internal/abi.NoEscape"], unfollowed := true, recurses := true, apart := false, narrowed := true }
def UnitrecPunchesUptoSaid : Prop := unitrecPunchesUptoRow.holds Try.pinned (OpenSpec.upto unitrecPunchesSpec)

/-- 'jobshoplaw13.UnitrecLimits', WHERE WHAT IT READS IS OF BULK AT MOST 1048576: true; the input reads as it did. -/
def unitrecLimitsUptoRow : OpenClaim := { program := "ytgklbilkfmieoaa", sum := "313d91234a93642cc12c7d882b78679fbae183ffb571b4e978f8ec607c1a80be", func := "jobshop/jobshoplaw13.UnitrecLimits", spec := "unitrecLimits", inPlace := ["internal/bytealg.IndexByteString", "internal/abi.NoEscape"], unfollowed := true, recurses := true, apart := false, narrowed := true }
def UnitrecLimitsUptoSaid : Prop := unitrecLimitsUptoRow.holds Try.pinned (OpenSpec.upto unitrecLimitsSpec)

/-- 'jobshoplaw13.UnitrecReads', WHERE WHAT IT READS IS OF BULK AT MOST 1048576: true; the input reads as it did. -/
def unitrecReadsUptoRow : OpenClaim := { program := "ytgklbilkfmieoaa", sum := "313d91234a93642cc12c7d882b78679fbae183ffb571b4e978f8ec607c1a80be", func := "jobshop/jobshoplaw13.UnitrecReads", spec := "unitrecReads", inPlace := ["internal/bytealg.IndexByteString", "internal/abi.NoEscape"], unfollowed := true, recurses := true, apart := false, narrowed := true }
def UnitrecReadsUptoSaid : Prop := unitrecReadsUptoRow.holds Try.pinned (OpenSpec.upto unitrecReadsSpec)

/-- 'jobshoplaw13.UnitrecCards', WHERE WHAT IT READS IS OF BULK AT MOST 1048576: true; the input reads as it did. -/
def unitrecCardsUptoRow : OpenClaim := { program := "ytgklbilkfmieoaa", sum := "313d91234a93642cc12c7d882b78679fbae183ffb571b4e978f8ec607c1a80be", func := "jobshop/jobshoplaw13.UnitrecCards", spec := "unitrecCards", inPlace := ["internal/bytealg.IndexByteString", "internal/abi.NoEscape"], unfollowed := true, recurses := true, apart := false, narrowed := true }
def UnitrecCardsUptoSaid : Prop := unitrecCardsUptoRow.holds Try.pinned (OpenSpec.upto unitrecCardsSpec)

/-- 'jobshoplaw13.UnitrecKnown', WHERE WHAT IT READS IS OF BULK AT MOST 1048576: true; the input reads as it did. -/
def unitrecKnownUptoRow : OpenClaim := { program := "ytgklbilkfmieoaa", sum := "313d91234a93642cc12c7d882b78679fbae183ffb571b4e978f8ec607c1a80be", func := "jobshop/jobshoplaw13.UnitrecKnown", spec := "unitrecKnown", inPlace := ["internal/bytealg.IndexByteString", "internal/abi.NoEscape"], unfollowed := true, recurses := true, apart := false, narrowed := true }
def UnitrecKnownUptoSaid : Prop := unitrecKnownUptoRow.holds Try.pinned (OpenSpec.upto unitrecKnownSpec)

end Rows
end Go.Proofs.Ytgklbilkfmieoaa
