/- New: the plain state that it makes of a list of configurations. -/
import Derived.Test.YtfhpaehfihnjaaaGreatSetM
import Derived.Test.YtfhpaehfihnjaaaGreatTD
import Derived.Test.YtfhpaehfihnjaaaGreatDNu
namespace Go.Proofs.YtfhpaehfihnjaaaGreat
open Go.RowKit
def confDev (c : Conf) : Option Dev :=
  if c.kind = 1 then some (.reader 0 0 0 [])
  else if c.kind = 2 then some (.punch 0 [])
  else if c.kind = 3 then some (.printer ⟨0, [], 0⟩)
  else if c.kind = 4 then (if T.serOk c.serial = true then some (.tape c.serial (T.freshTP [])) else none)
  else if c.kind = 5 then (if D.newOk c.serial c.cyls c.heads = true then some (.disk (D.freshDK c.serial c.cyls.toNat c.heads.toNat)) else none)
  else none
def volB (c : Conf) : Bool := decide (c.kind = 4) || decide (c.kind = 5)
def newStep (us : List UN) (c : Conf) : Option (List UN) :=
  match confDev c with
  | none => none
  | some d =>
    if us.any (fun u => decide (u.conf.addr = c.addr)) = true ∨ c.addr < 0 ∨ 1024 ≤ c.addr then none
    else if volB c = true ∧ us.any (fun u => volB u.conf && decide (u.conf.serial = c.serial)) = true then none
    else some (us ++ [⟨c, d, 0, 0, false⟩])
def newUs : List Conf → List UN → Option (List UN)
  | [], us => some us
  | c :: l, us => (newStep us c).bind (newUs l)
def leU (a b : UN) : Bool := decide (a.conf.addr ≤ b.conf.addr)
def newST (l : List Conf) : Option ST := if 16 < l.length then none else (newUs l []).map fun us => ⟨us.mergeSort leU, none, false⟩
end Go.Proofs.YtfhpaehfihnjaaaGreat
