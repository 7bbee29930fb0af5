/- A set of units: its plain state, and what each call makes of it. -/
import Derived.Test.YtfhpaehfihnjaaaGreatTD
import Derived.Test.YtfhpaehfihnjaaaGreatDD
import Derived.Test.YtfhpaehfihnjaaaGreatUPa
import Derived.Test.YtfhpaehfihnjaaaGreatURa
namespace Go.Proofs.YtfhpaehfihnjaaaGreat
open Go.RowKit
abbrev Rep := List UInt8 × Int × Int
inductive Dev where
  | reader (se tk st : Nat) (cs : List (List UInt8))
  | punch (se : Nat) (cs : List (List UInt8))
  | printer (s : U.PS)
  | tape (name : ByteArray) (s : T.TP)
  | disk (s : D.DK)
def Dev.kind : Dev → Int
  | .reader .. => 1
  | .punch .. => 2
  | .printer .. => 3
  | .tape .. => 4
  | .disk .. => 5
def repN (r : List UInt8 × Nat × Nat) : Rep := (r.1, (r.2.1 : Int), (r.2.2 : Int))
def Dev.act (d : Dev) (op : Int) (l : List UInt8) : Dev × Rep :=
  match d with
  | .reader se tk st cs => (.reader (U.rdDo se tk st cs op l).1.1 (U.rdDo se tk st cs op l).1.2.1 (U.rdDo se tk st cs op l).1.2.2 cs, (U.rdDo se tk st cs op l).2)
  | .punch se cs => (.punch (U.punDo se cs op l).1 (U.punDo se cs op l).2.1, (U.punDo se cs op l).2.2)
  | .printer s => (.printer (U.prDo s op l).1, (U.prDo s op l).2)
  | .tape n s => (.tape n (T.tpDo s op l).1, repN (T.tpDo s op l).2)
  | .disk s => (.disk (D.dkDo s op l).1, repN (D.dkDo s op l).2)
def Dev.undo (d : Dev) (how : Int) : Dev :=
  match d with
  | .tape n s => .tape n (T.tpUndo s how).1
  | .disk s => .disk (D.dkUndo s how).1
  | d => d
def Dev.power : Dev → Dev
  | .reader _ _ st cs => .reader 0 st st cs
  | .punch _ cs => .punch 0 cs
  | .printer s => .printer { s with sense := 0 }
  | .tape n s => .tape n (T.tpPower s)
  | .disk s => .disk (D.dkPower s)
def Dev.idle : Dev → Prop
  | .tape _ s => s.last = none
  | .disk s => s.last = none
  | _ => True
def Dev.ok (k : Nat) : Dev → Prop
  | .reader se tk st cs => U.RdFit se tk st cs
  | .punch se cs => se < 256 ∧ cs.length ≤ 4096 ∧ ∀ c ∈ cs, c.length = 80
  | .printer s => s.lines.length ≤ 8192 ∧ s.sense < 256 ∧ s.down ≤ 60 * k
  | .tape n s => n.toList.isEmpty = false ∧ s.ok ∧ s.tip
  | .disk s => s.ok
structure Conf where
  addr : Int
  kind : Int
  serial : ByteArray
  cyls : Int
  heads : Int
structure UN where
  conf : Conf
  dev : Dev
  after : Nat
  times : Nat
  equip : Bool
structure ST where
  us : List UN
  last : Option Nat
  off : Bool
def UN.undo (u : UN) (how : Int) : UN := { u with dev := u.dev.undo how }
def UN.run (u : UN) (op : Int) (l : List UInt8) : UN × Rep := ({ u with dev := (u.dev.act op l).1 }, (u.dev.act op l).2)
def UN.cmd (u : UN) (op : Int) (l : List UInt8) : UN × Rep :=
  if op = 4 ∨ op = 3 then u.run op l
  else if 0 < u.after then { u with after := u.after - 1, equip := false }.run op l
  else if 0 < u.times then ({ u with times := u.times - 1, equip := true }.undo 0, [], 14, 16)
  else { u with equip := false }.run op l
def ST.find (s : ST) (addr : Int) : Option Nat := s.us.findIdx? fun u => decide (u.conf.addr = addr)
def ST.settle (s : ST) (i : Nat) : List UN :=
  match s.last with
  | some j => if j = i then s.us else s.us.modify j fun u => u.undo 0
  | none => s.us
def ST.act (s : ST) (addr op : Int) (l : List UInt8) : ST × Rep :=
  match s.find addr with
  | none => (s, [], 14, 64)
  | some i => if s.off then (s, [], 14, 64) else
    match s.us[i]? with
    | none => (s, [], 14, 64)
    | some u => if op = 4 ∧ u.equip = true then (s, [16], 12, 0) else
      ({ s with us := (s.settle i).set i (u.cmd op l).1, last := some i }, (u.cmd op l).2)
def ST.fail (s : ST) (addr after times : Int) : ST × Int :=
  match s.find addr with
  | none => (s, 170)
  | some i => if after < 0 ∨ times < 0 then (s, 6) else ({ s with us := s.us.modify i fun u => { u with after := after.toNat, times := times.toNat } }, 0)
def ST.cut (s : ST) (how : Int) : ST × Int :=
  if how < 0 ∨ 2 < how then (s, 1) else if s.off then (s, 171) else ({ s with us := s.us.map fun u => u.undo how, off := true }, 0)
def UN.up (u : UN) : UN := { u with dev := u.dev.power, after := 0, times := 0, equip := false }
def ST.up (s : ST) : ST × Int :=
  if s.off = false then (s, 8) else (⟨s.us.map UN.up, none, false⟩, 0)
structure UN.ok (k : Nat) (u : UN) : Prop where
  dev : u.dev.ok k
  kind : u.conf.kind = u.dev.kind
  addr : 0 ≤ u.conf.addr ∧ u.conf.addr < 1024
  af : u.after ≤ 9223372036854775807
  ti : u.times ≤ 9223372036854775807
structure ST.ok (k : Nat) (s : ST) : Prop where
  us : ∀ u ∈ s.us, u.ok k
  len : s.us.length ≤ 16
  asc : s.us.Pairwise fun a b => a.conf.addr < b.conf.addr
  last : ∀ i, s.last = some i → i < s.us.length
  idle : ∀ i u, s.us[i]? = some u → s.last ≠ some i → u.dev.idle
end Go.Proofs.YtfhpaehfihnjaaaGreat
