/- A tape unit: its plain state, and what each call makes of it. -/
import Derived.Test.YtbbokikjpabfkaaBlk
namespace Go.Proofs.Ytbbokikjpabfkaa
open Go.RowKit

/-- Data, status and sense of a reply. -/
abbrev Rep := List UInt8 × Nat × Nat
structure TP where
  bs : List Blk
  pos : Nat
  loaded : Bool
  sense : Nat
  last : Option (Nat × List Blk × Bool)
def tpPassed (b : Blk) (read reverse : Bool) : Rep :=
  if b.mark then ([], 13, 0) else if !read then ([], 12, 0) else if b.bad then ([], 14, 8) else (if reverse then b.data.reverse else b.data, 12, 0)
def tpCut (s : TP) (block : Bool) : TP := { s with last := some (s.pos, s.bs.drop s.pos, block), bs := s.bs.take s.pos }
def tpWrite (s : TP) (b : Blk) : TP × Rep :=
  if s.pos = 4096 then (s, [], 14, 1) else ({ tpCut s (!b.mark) with bs := s.bs.take s.pos ++ [b], pos := s.pos + 1 }, [], 12, 0)
/-- The last mark below a position. -/
def backTo (bs : List Blk) : Nat → Option Nat
  | 0 => none
  | k + 1 => match bs[k]? with
    | some b => if b.mark then some k else backTo bs k
    | none => backTo bs k
def tpMove (s : TP) (op : Int) : TP × Rep :=
  if op = 2 ∨ op = 55 then
    match s.bs[s.pos]? with
    | none => (s, [], 14, 2)
    | some b => ({ s with pos := s.pos + 1 }, tpPassed b (op == 2) false)
  else if op = 12 ∨ op = 39 then
    if s.pos = 0 then (s, [], 14, 2) else
    match s.bs[s.pos - 1]? with
    | none => (s, [], 14, 2)
    | some b => ({ s with pos := s.pos - 1 }, tpPassed b (op == 12) true)
  else if op = 63 then
    match (s.bs.drop s.pos).findIdx? (·.mark) with
    | none => ({ s with pos := s.bs.length }, [], 14, 2)
    | some n => ({ s with pos := s.pos + n + 1 }, [], 13, 0)
  else
    match backTo s.bs s.pos with
    | none => ({ s with pos := 0 }, [], 12, 0)
    | some k => ({ s with pos := k }, [], 13, 0)
def tpPerform (s : TP) (op : Int) (data : List UInt8) : TP × Rep :=
  if op = 3 then (s, [], 12, 0)
  else if op = 4 then (s, [UInt8.ofNat s.sense], 12, 0)
  else if op ∉ [1, 2, 7, 12, 15, 23, 31, 39, 47, 55, 63] then (s, [], 14, 128)
  else if !s.loaded then (s, [], 14, 64)
  else if op = 1 then (if data.length < 1 ∨ 1024 < data.length then (s, [], 14, 128) else tpWrite s ⟨data, false, false⟩)
  else if op = 31 then tpWrite s ⟨[], true, false⟩
  else if op = 23 then (tpCut s false, [], 12, 0)
  else if op = 7 then ({ s with pos := 0 }, [], 12, 0)
  else if op = 15 then ({ s with pos := 0, loaded := false }, [], 12, 0)
  else tpMove s op
def tpDo (s : TP) (op : Int) (data : List UInt8) : TP × Rep :=
  let r := tpPerform { s with last := none } op data
  (if r.2.2.1 = 14 then { r.1 with sense := r.2.2.2 } else r.1, r.2)
def tpUndo (s : TP) (how : Int) : TP × Bool :=
  match s.last with
  | none => (s, false)
  | some (a, old, blk) =>
    if how < 0 ∨ 2 < how then (s, false)
    else if how = 2 ∧ blk = true then ({ s with last := none, bs := s.bs.modify a fun b => { b with bad := true } }, true)
    else if 0 < how then ({ s with last := none, bs := s.bs.take a ++ old, pos := a }, true)
    else ({ s with last := none }, true)
def tpPower (s : TP) : TP := { s with loaded := true, pos := 0, sense := 0, last := none }
end Go.Proofs.Ytbbokikjpabfkaa
