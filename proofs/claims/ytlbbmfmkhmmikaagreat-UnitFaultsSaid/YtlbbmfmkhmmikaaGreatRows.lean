/-
  No cell of these rows narrows 'for every input' (looked for: loops, veiled, ifaces, maps, wideKeys, modest, calm, conditions, laid).
  DERIVED. THE GIVEN ROWS OF THIS SEAT. 7 by the template 'for every input the law returns true; each argument reads behind the call as it read before'; 0 by the template 'total and deterministic' (their statements: YtlbbmfmkhmmikaaGreatTotals.lean).
  GIVEN WITH THE SEED: the statements are not yours to turn. If you find one false, say at which input.
  Laid BY PROGRAM, IN A SANDBOX (cutbox-rows.mjs): the forced cells as the released guide's own fill.sh prints them over the translation 2080bef19e7e44e9… (all of the seat's roots in one cut). By AI agents, Wed Nov 11 2026. No macro, syntax, notation, axiom, sorry.
-/
import Derived.Test.YtlbbmfmkhmmikaaGreatChecked
import GoSem.Claim
import GoSem.ClaimJoined
import GoSem.ClaimMapViews
import Derived.JoinedTies
import Derived.KernelRfl
namespace Go.Proofs.YtlbbmfmkhmmikaaGreat
/- THE CELL 'sum', in the pinned program and in every row, IS THE sha256 OF THE DUMP (.gsa) THAT YtlbbmfmkhmmikaaGreatProg.lean LOADS. Nothing in Lean hashes anything: it is a label: what it is worth is what the hold of that sum in a sandbox is worth. -/
noncomputable def Tryz.pinned : Pinned := { name := "ytlbbmfmkhmmikaagreat", sum := "2080bef19e7e44e9bffd881bd448e0e003168e32e778b55bc0a2134d7ee01dca", checked := Tryz.checked }
namespace Rows
def none {H : Type} : Left H := { results := [], args := [] }

/-- 'jobshoplaw17.UnitCuts': WHATEVER THE INPUT: true; the input reads as it did. -/
def unitCutsSpec : ChangeSpec := { name := "unitCuts", fn := fun _ => fun
  | [d1, d2, d3] => { results := [.lit (.bool true)], args := [d1, d2, d3] }
  | _ => none }
def unitCutsRow : OpenClaim := { program := "ytlbbmfmkhmmikaagreat", sum := "2080bef19e7e44e9bffd881bd448e0e003168e32e778b55bc0a2134d7ee01dca", func := "jobshop/jobshoplaw17.UnitCuts", spec := "unitCuts", unfollowed := true, recurses := true, apart := false }
def UnitCutsSaid : Prop := unitCutsRow.holds Tryz.pinned (OpenSpec.ofChange unitCutsSpec)

/-- ITS FALSE NEIGHBOUR: 'it returns false'. Refute it at one input. -/
def unitCutsWrong : ChangeSpec := { name := "unitCuts", fn := fun _ => fun
  | [d1, d2, d3] => { results := [.lit (.bool false)], args := [d1, d2, d3] }
  | _ => none }
def UnitCutsWrongFalsely : Prop := unitCutsRow.holds Tryz.pinned (OpenSpec.ofChange unitCutsWrong)

/-- 'jobshoplaw17.UnitKnown': WHATEVER THE INPUT: true; the input reads as it did. -/
def unitKnownSpec : ChangeSpec := { name := "unitKnown", fn := fun _ => fun
  | [] => { results := [.lit (.bool true)], args := [] }
  | _ => none }
def unitKnownRow : OpenClaim := { program := "ytlbbmfmkhmmikaagreat", sum := "2080bef19e7e44e9bffd881bd448e0e003168e32e778b55bc0a2134d7ee01dca", func := "jobshop/jobshoplaw17.UnitKnown", spec := "unitKnown", unfollowed := true, recurses := true, apart := false }
def UnitKnownSaid : Prop := unitKnownRow.holds Tryz.pinned (OpenSpec.ofChange unitKnownSpec)

/-- ITS FALSE NEIGHBOUR: 'it returns false'. Refute it at one input. -/
def unitKnownWrong : ChangeSpec := { name := "unitKnown", fn := fun _ => fun
  | [] => { results := [.lit (.bool false)], args := [] }
  | _ => none }
def UnitKnownWrongFalsely : Prop := unitKnownRow.holds Tryz.pinned (OpenSpec.ofChange unitKnownWrong)

/-- 'jobshoplaw17.UnitFaults': WHATEVER THE INPUT: true; the input reads as it did. -/
def unitFaultsSpec : ChangeSpec := { name := "unitFaults", fn := fun _ => fun
  | [d1, d2, d3] => { results := [.lit (.bool true)], args := [d1, d2, d3] }
  | _ => none }
def unitFaultsRow : OpenClaim := { program := "ytlbbmfmkhmmikaagreat", sum := "2080bef19e7e44e9bffd881bd448e0e003168e32e778b55bc0a2134d7ee01dca", func := "jobshop/jobshoplaw17.UnitFaults", spec := "unitFaults", unfollowed := true, recurses := true, apart := false }
def UnitFaultsSaid : Prop := unitFaultsRow.holds Tryz.pinned (OpenSpec.ofChange unitFaultsSpec)

/-- ITS FALSE NEIGHBOUR: 'it returns false'. Refute it at one input. -/
def unitFaultsWrong : ChangeSpec := { name := "unitFaults", fn := fun _ => fun
  | [d1, d2, d3] => { results := [.lit (.bool false)], args := [d1, d2, d3] }
  | _ => none }
def UnitFaultsWrongFalsely : Prop := unitFaultsRow.holds Tryz.pinned (OpenSpec.ofChange unitFaultsWrong)

/-- 'jobshoplaw17.UnitNone': WHATEVER THE INPUT: true; the input reads as it did. -/
def unitNoneSpec : ChangeSpec := { name := "unitNone", fn := fun _ => fun
  | [d] => { results := [.lit (.bool true)], args := [d] }
  | _ => none }
def unitNoneRow : OpenClaim := { program := "ytlbbmfmkhmmikaagreat", sum := "2080bef19e7e44e9bffd881bd448e0e003168e32e778b55bc0a2134d7ee01dca", func := "jobshop/jobshoplaw17.UnitNone", spec := "unitNone", unfollowed := true, recurses := true, apart := false }
def UnitNoneSaid : Prop := unitNoneRow.holds Tryz.pinned (OpenSpec.ofChange unitNoneSpec)

/-- ITS FALSE NEIGHBOUR: 'it returns false'. Refute it at one input. -/
def unitNoneWrong : ChangeSpec := { name := "unitNone", fn := fun _ => fun
  | [d] => { results := [.lit (.bool false)], args := [d] }
  | _ => none }
def UnitNoneWrongFalsely : Prop := unitNoneRow.holds Tryz.pinned (OpenSpec.ofChange unitNoneWrong)

/-- 'jobshoplaw17.UnitApart': WHATEVER THE INPUT: true; the input reads as it did. -/
def unitApartSpec : ChangeSpec := { name := "unitApart", fn := fun _ => fun
  | [d] => { results := [.lit (.bool true)], args := [d] }
  | _ => none }
def unitApartRow : OpenClaim := { program := "ytlbbmfmkhmmikaagreat", sum := "2080bef19e7e44e9bffd881bd448e0e003168e32e778b55bc0a2134d7ee01dca", func := "jobshop/jobshoplaw17.UnitApart", spec := "unitApart", unfollowed := true, recurses := true, apart := false }
def UnitApartSaid : Prop := unitApartRow.holds Tryz.pinned (OpenSpec.ofChange unitApartSpec)

/-- ITS FALSE NEIGHBOUR: 'it returns false'. Refute it at one input. -/
def unitApartWrong : ChangeSpec := { name := "unitApart", fn := fun _ => fun
  | [d] => { results := [.lit (.bool false)], args := [d] }
  | _ => none }
def UnitApartWrongFalsely : Prop := unitApartRow.holds Tryz.pinned (OpenSpec.ofChange unitApartWrong)

/-- 'jobshoplaw17.UnitMakes': WHATEVER THE INPUT: true; the input reads as it did. -/
def unitMakesSpec : ChangeSpec := { name := "unitMakes", fn := fun _ => fun
  | [d1, d2] => { results := [.lit (.bool true)], args := [d1, d2] }
  | _ => none }
def unitMakesRow : OpenClaim := { program := "ytlbbmfmkhmmikaagreat", sum := "2080bef19e7e44e9bffd881bd448e0e003168e32e778b55bc0a2134d7ee01dca", func := "jobshop/jobshoplaw17.UnitMakes", spec := "unitMakes", unfollowed := true, recurses := true, apart := false }
def UnitMakesSaid : Prop := unitMakesRow.holds Tryz.pinned (OpenSpec.ofChange unitMakesSpec)

/-- ITS FALSE NEIGHBOUR: 'it returns false'. Refute it at one input. -/
def unitMakesWrong : ChangeSpec := { name := "unitMakes", fn := fun _ => fun
  | [d1, d2] => { results := [.lit (.bool false)], args := [d1, d2] }
  | _ => none }
def UnitMakesWrongFalsely : Prop := unitMakesRow.holds Tryz.pinned (OpenSpec.ofChange unitMakesWrong)

/-- 'jobshoplaw17.UnitRuns': WHATEVER THE INPUT: true; the input reads as it did. -/
def unitRunsSpec : ChangeSpec := { name := "unitRuns", fn := fun _ => fun
  | [d1, d2] => { results := [.lit (.bool true)], args := [d1, d2] }
  | _ => none }
def unitRunsRow : OpenClaim := { program := "ytlbbmfmkhmmikaagreat", sum := "2080bef19e7e44e9bffd881bd448e0e003168e32e778b55bc0a2134d7ee01dca", func := "jobshop/jobshoplaw17.UnitRuns", spec := "unitRuns", unfollowed := true, recurses := true, apart := false }
def UnitRunsSaid : Prop := unitRunsRow.holds Tryz.pinned (OpenSpec.ofChange unitRunsSpec)

/-- ITS FALSE NEIGHBOUR: 'it returns false'. Refute it at one input. -/
def unitRunsWrong : ChangeSpec := { name := "unitRuns", fn := fun _ => fun
  | [d1, d2] => { results := [.lit (.bool false)], args := [d1, d2] }
  | _ => none }
def UnitRunsWrongFalsely : Prop := unitRunsRow.holds Tryz.pinned (OpenSpec.ofChange unitRunsWrong)

/- THE SECOND FORM. 'bulk': how many values and letters a reading holds, each counted each time it is reached (what is shared counts as often as it is met; a slice's spare places count too). A statement '..UptoSaid' is the law's where the arguments, and the package variables that the reading takes, are together of bulk at most 1048576: NARROWER than '..Said'. Prove '..Said' where nothing that the law and all that it calls make is longer than what came in: it says more and counts as full. Else prove '..UptoSaid'. A law counts once. -/
mutual
def uptoBulk {H : Type} : DataW H → Nat
  | .lit (.string bytes) => bytes.length + 1
  | .lit _ => 1
  | .nil => 1
  | .ptr d => uptoBulk d + 1
  | .slice elems spare => uptoBulkAll elems + uptoBulkAll spare + 1
  | .agg parts => uptoBulkAll parts + 1
  | .iface _ d => uptoBulk d + 1
  | .map entries => uptoBulkEntries entries + 1
  | .held _ => 1
def uptoBulkAll {H : Type} : List (DataW H) → Nat
  | [] => 0
  | d :: r => uptoBulk d + uptoBulkAll r
def uptoBulkEntries {H : Type} : List (Lit × DataW H) → Nat
  | [] => 0
  | x :: r => uptoBulkEntry x + uptoBulkEntries r
def uptoBulkEntry {H : Type} : Lit × DataW H → Nat
  | (.string bytes, d) => bytes.length + uptoBulk d + 1
  | (_, d) => uptoBulk d + 1
 end
def uptoSmall : (H : Type) → List (DataW H) → Bool := fun _ ds => decide (uptoBulkAll ds ≤ 1048576)
def OpenSpec.upto (s : _root_.Go.ChangeSpec) : _root_.Go.OpenSpec := { _root_.Go.OpenSpec.ofChange s with cond := some uptoSmall }

/-- 'jobshoplaw17.UnitCuts', WHERE WHAT IT READS IS OF BULK AT MOST 1048576: true; the input reads as it did. -/
def unitCutsUptoRow : OpenClaim := { program := "ytlbbmfmkhmmikaagreat", sum := "2080bef19e7e44e9bffd881bd448e0e003168e32e778b55bc0a2134d7ee01dca", func := "jobshop/jobshoplaw17.UnitCuts", spec := "unitCuts", unfollowed := true, recurses := true, apart := false, narrowed := true }
def UnitCutsUptoSaid : Prop := unitCutsUptoRow.holds Tryz.pinned (OpenSpec.upto unitCutsSpec)

/-- 'jobshoplaw17.UnitKnown', WHERE WHAT IT READS IS OF BULK AT MOST 1048576: true; the input reads as it did. -/
def unitKnownUptoRow : OpenClaim := { program := "ytlbbmfmkhmmikaagreat", sum := "2080bef19e7e44e9bffd881bd448e0e003168e32e778b55bc0a2134d7ee01dca", func := "jobshop/jobshoplaw17.UnitKnown", spec := "unitKnown", unfollowed := true, recurses := true, apart := false, narrowed := true }
def UnitKnownUptoSaid : Prop := unitKnownUptoRow.holds Tryz.pinned (OpenSpec.upto unitKnownSpec)

/-- 'jobshoplaw17.UnitFaults', WHERE WHAT IT READS IS OF BULK AT MOST 1048576: true; the input reads as it did. -/
def unitFaultsUptoRow : OpenClaim := { program := "ytlbbmfmkhmmikaagreat", sum := "2080bef19e7e44e9bffd881bd448e0e003168e32e778b55bc0a2134d7ee01dca", func := "jobshop/jobshoplaw17.UnitFaults", spec := "unitFaults", unfollowed := true, recurses := true, apart := false, narrowed := true }
def UnitFaultsUptoSaid : Prop := unitFaultsUptoRow.holds Tryz.pinned (OpenSpec.upto unitFaultsSpec)

/-- 'jobshoplaw17.UnitNone', WHERE WHAT IT READS IS OF BULK AT MOST 1048576: true; the input reads as it did. -/
def unitNoneUptoRow : OpenClaim := { program := "ytlbbmfmkhmmikaagreat", sum := "2080bef19e7e44e9bffd881bd448e0e003168e32e778b55bc0a2134d7ee01dca", func := "jobshop/jobshoplaw17.UnitNone", spec := "unitNone", unfollowed := true, recurses := true, apart := false, narrowed := true }
def UnitNoneUptoSaid : Prop := unitNoneUptoRow.holds Tryz.pinned (OpenSpec.upto unitNoneSpec)

/-- 'jobshoplaw17.UnitApart', WHERE WHAT IT READS IS OF BULK AT MOST 1048576: true; the input reads as it did. -/
def unitApartUptoRow : OpenClaim := { program := "ytlbbmfmkhmmikaagreat", sum := "2080bef19e7e44e9bffd881bd448e0e003168e32e778b55bc0a2134d7ee01dca", func := "jobshop/jobshoplaw17.UnitApart", spec := "unitApart", unfollowed := true, recurses := true, apart := false, narrowed := true }
def UnitApartUptoSaid : Prop := unitApartUptoRow.holds Tryz.pinned (OpenSpec.upto unitApartSpec)

/-- 'jobshoplaw17.UnitMakes', WHERE WHAT IT READS IS OF BULK AT MOST 1048576: true; the input reads as it did. -/
def unitMakesUptoRow : OpenClaim := { program := "ytlbbmfmkhmmikaagreat", sum := "2080bef19e7e44e9bffd881bd448e0e003168e32e778b55bc0a2134d7ee01dca", func := "jobshop/jobshoplaw17.UnitMakes", spec := "unitMakes", unfollowed := true, recurses := true, apart := false, narrowed := true }
def UnitMakesUptoSaid : Prop := unitMakesUptoRow.holds Tryz.pinned (OpenSpec.upto unitMakesSpec)

/-- 'jobshoplaw17.UnitRuns', WHERE WHAT IT READS IS OF BULK AT MOST 1048576: true; the input reads as it did. -/
def unitRunsUptoRow : OpenClaim := { program := "ytlbbmfmkhmmikaagreat", sum := "2080bef19e7e44e9bffd881bd448e0e003168e32e778b55bc0a2134d7ee01dca", func := "jobshop/jobshoplaw17.UnitRuns", spec := "unitRuns", unfollowed := true, recurses := true, apart := false, narrowed := true }
def UnitRunsUptoSaid : Prop := unitRunsUptoRow.holds Tryz.pinned (OpenSpec.upto unitRunsSpec)

end Rows
end Go.Proofs.YtlbbmfmkhmmikaaGreat
