/- TBlk, TClone, TTape, TBClone, TUnit, TPass, TCut, TWrite, TIdx. -/
import Derived.Test.YtfhpaehfihnjaaaGreatKitA
import Derived.WalkSpells
set_option maxRecDepth 100000
namespace Go.Proofs.YtfhpaehfihnjaaaGreat.T
open Go.RowKit
structure Blk where
  data : List UInt8
  mark : Bool
  bad : Bool
abbrev BV := Value × Blk
def blkCells (p : BV) : List Value := [.bool p.2.mark, p.1, .bool p.2.bad]
def datS (p : BV) : SA := rowS 5 1 p.1 p.2.data.length (Lib.byteCells p.2.data)
def blksS (v : Value) (bs : List Blk) : SA := fun h => ∃ ps : List BV, ps.map Prod.snd = bs ∧ star [rowT 66 3 v ps.length (ps.flatMap blkCells), star (ps.map datS)] h
theorem blkCells_get : ∀ (ps : List BV) (i k : Nat) (p : BV), ps[i]? = some p → k < 3 → (ps.flatMap blkCells)[i * 3 + k]? = (blkCells p)[k]?
  | [], i, k, p, h, _ => by simp at h
  | q :: ps, 0, k, p, h, hk => by
    simp at h; subst h
    simp only [List.flatMap_cons, Nat.zero_mul, Nat.zero_add]
    rw [List.getElem?_append_left (by simp [blkCells]; omega)]
  | q :: ps, i + 1, k, p, h, hk => by
    simp only [List.flatMap_cons]
    rw [List.getElem?_append_right (by simp [blkCells]; omega), show (i + 1) * 3 + k - (blkCells q).length = i * 3 + k by simp [blkCells]; omega]
    exact blkCells_get ps i k p (by simpa using h) hk
section
variable {W w w' : World} {F : List SA}
theorem blksS_open {v : Value} {bs : List Blk} (S : SL W (blksS v bs :: F) w) : ∃ ps : List BV, ps.map Prod.snd = bs ∧ SL W (rowT 66 3 v ps.length (ps.flatMap blkCells) :: star (ps.map datS) :: F) w :=
  SL.unpack (α := List BV) (φ := fun ps : List BV => ps.map Prod.snd = bs) (K := fun ps : List BV => [rowT 66 3 v ps.length (ps.flatMap blkCells), star (ps.map datS)]) S (by
    rintro h ⟨ps, e, s⟩
    exact ⟨ps, e, s⟩)
theorem blksS_close {v : Value} {ps : List BV} (S : SL W (rowT 66 3 v ps.length (ps.flatMap blkCells) :: star (ps.map datS) :: F) w) : SL W (blksS v (ps.map Prod.snd) :: F) w :=
  SL.pack (L := [rowT 66 3 v ps.length (ps.flatMap blkCells), star (ps.map datS)]) S fun _ h => ⟨ps, rfl, h⟩
end
end Go.Proofs.YtfhpaehfihnjaaaGreat.T
namespace Go.Proofs.YtfhpaehfihnjaaaGreat.T
open Go.RowKit
theorem bElem : Elem Tryz.prog 50 5 (.int .u8 0) 1 1 := ⟨Tryz.underlying50, by kernel_rfl, rfl, by omega⟩
section
variable {W w : World} {F : List SA}
theorem sclone_any (A : Option Addr) (l : List UInt8) (c : Nat) (S : SL W F w) (hr : Rd W F A (Lib.byteCells l)) (hl : l.length ≤ 1073741824) :
    Calls Tryz.prog 79 #[.slice A l.length c] w fun e w' => ∃ v, e = .returned v ∧ SL W (rowS 5 1 v l.length (Lib.byteCells l) :: F) w' := by
  have HA := Lib.hid (hr w S)
  have HS := Lib.hid S
  clear S
  have qT : ∀ (w : World) (a : Option Addr) (n c : Nat), (binOp .eql 50 (.slice a n c) (.slice none 0 0)).run Tryz.prog w = .ok (.bool a.isNone) w := fun w a n c => Lib.run_eql_slice_nil w _ _ _ _ _ _ _ Tryz.underlying50
  go_enter Tryz.func79, Tryz.ntmps79
  cases A with
  | none =>
    have : l = [] := by
      rcases l with _ | ⟨x, l⟩
      · rfl
      · obtain ⟨b, off, h, _⟩ := HA.out (by simp [Lib.byteCells])
        cases h
    subst this
    go_wp2
    go_ret
    exact ⟨_, rfl, HS.out.nil _ _⟩
  | some ad =>
    go_wp2_with (at_builtin; refine wpList_appS rfl _ _ _ rfl bElem _ 0 [] rfl (HS.out.lit #[] 5 1 0 rfl (by decide)) _ (some ad) l.length c (Lib.byteCells l) rfl (hr.cons _ (HS.out.lit #[] 5 1 0 rfl (by decide))) (by rw [byteCells_len, Nat.mul_one]) (byteCells_one _) (by unfold maxLen; omega) (by omega) ?_
                 intro A2 c2 w2 S2)
    go_ret
    simp only [Nat.zero_add, List.nil_append] at S2 ⊢
    exact ⟨_, rfl, S2⟩
end
end Go.Proofs.YtfhpaehfihnjaaaGreat.T
namespace Go.Proofs.YtfhpaehfihnjaaaGreat.T
open Go.RowKit
abbrev Rep := List UInt8 × Nat × Nat
structure TP where
  bs : List Blk
  pos : Nat
  loaded : Bool
  sense : Nat
  last : Option (Nat × List Blk × Bool)
def tpPassed (b : Blk) (read reverse : Bool) : Rep :=
  if b.mark then ([], 13, 0) else if !read then ([], 12, 0) else if b.bad then ([], 14, 8) else (if reverse then b.data.reverse else b.data, 12, 0)
def tpCut (s : TP) (block : Bool) : TP := { s with last := some (s.pos, s.bs.drop s.pos, block), bs := s.bs.take s.pos }
def tpWrite (s : TP) (b : Blk) : TP × Rep :=
  if s.pos = 4096 then (s, [], 14, 1) else ({ tpCut s (!b.mark) with bs := s.bs.take s.pos ++ [b], pos := s.pos + 1 }, [], 12, 0)
def backTo (bs : List Blk) : Nat → Option Nat
  | 0 => none
  | k + 1 => match bs[k]? with
    | some b => if b.mark then some k else backTo bs k
    | none => backTo bs k
def tpMove (s : TP) (op : Int) : TP × Rep :=
  if op = 2 ∨ op = 55 then
    match s.bs[s.pos]? with
    | none => (s, [], 14, 2)
    | some b => ({ s with pos := s.pos + 1 }, tpPassed b (op == 2) false)
  else if op = 12 ∨ op = 39 then
    if s.pos = 0 then (s, [], 14, 2) else
    match s.bs[s.pos - 1]? with
    | none => (s, [], 14, 2)
    | some b => ({ s with pos := s.pos - 1 }, tpPassed b (op == 12) true)
  else if op = 63 then
    match (s.bs.drop s.pos).findIdx? (·.mark) with
    | none => ({ s with pos := s.bs.length }, [], 14, 2)
    | some n => ({ s with pos := s.pos + n + 1 }, [], 13, 0)
  else
    match backTo s.bs s.pos with
    | none => ({ s with pos := 0 }, [], 12, 0)
    | some k => ({ s with pos := k }, [], 13, 0)
def tpPerform (s : TP) (op : Int) (data : List UInt8) : TP × Rep :=
  if op = 3 then (s, [], 12, 0)
  else if op = 4 then (s, [UInt8.ofNat s.sense], 12, 0)
  else if op ∉ [1, 2, 7, 12, 15, 23, 31, 39, 47, 55, 63] then (s, [], 14, 128)
  else if !s.loaded then (s, [], 14, 64)
  else if op = 1 then (if data.length < 1 ∨ 1024 < data.length then (s, [], 14, 128) else tpWrite s ⟨data, false, false⟩)
  else if op = 31 then tpWrite s ⟨[], true, false⟩
  else if op = 23 then (tpCut s false, [], 12, 0)
  else if op = 7 then ({ s with pos := 0 }, [], 12, 0)
  else if op = 15 then ({ s with pos := 0, loaded := false }, [], 12, 0)
  else tpMove s op
def tpDo (s : TP) (op : Int) (data : List UInt8) : TP × Rep :=
  let r := tpPerform { s with last := none } op data
  (if r.2.2.1 = 14 then { r.1 with sense := r.2.2.2 } else r.1, r.2)
def tpUndo (s : TP) (how : Int) : TP × Bool :=
  match s.last with
  | none => (s, false)
  | some (a, old, blk) =>
    if how < 0 ∨ 2 < how then (s, false)
    else if how = 2 ∧ blk = true then ({ s with last := none, bs := s.bs.modify a fun b => { b with bad := true } }, true)
    else if 0 < how then ({ s with last := none, bs := s.bs.take a ++ old, pos := a }, true)
    else ({ s with last := none }, true)
def tpPower (s : TP) : TP := { s with loaded := true, pos := 0, sense := 0, last := none }
end Go.Proofs.YtfhpaehfihnjaaaGreat.T
namespace Go.Proofs.YtfhpaehfihnjaaaGreat.T
open Go.RowKit
theorem blkElem : Elem Tryz.prog 59 66 (.agg #[.bool false, .slice none 0 0, .bool false]) 3 40 := ⟨Tryz.underlying59, by kernel_rfl, rfl, by omega⟩
def BlksAt (w : World) (A : Option Addr) (bs : List Blk) : Prop := ∀ i b, bs[i]? = some b → ∃ g off A' c', A = some ⟨g, off, none⟩ ∧ w.cell? ⟨g, off + i * 3, none⟩ = some (.bool b.mark) ∧ w.cell? ⟨g, off + i * 3 + 1, none⟩ = some (.slice A' b.data.length c') ∧ w.cell? ⟨g, off + i * 3 + 2, none⟩ = some (.bool b.bad) ∧ At w w.heap.size A' (Lib.byteCells b.data) ∧ b.data.length ≤ c' ∧ c' ≤ maxLen
def BlksRd (W : World) (F : List SA) (A : Option Addr) (bs : List Blk) : Prop := ∀ w, SL W F w → BlksAt w A bs
def Fit (bs : List Blk) : Prop := bs.length ≤ 1048576 ∧ ∀ b ∈ bs, b.data.length ≤ 1073741824
section
variable {W w : World} {F : List SA}
set_option maxHeartbeats 2000000 in
theorem bclone_any (A : Option Addr) (bs : List Blk) (c : Nat) (S : SL W F w) (hr : BlksRd W F A bs) (hf : Fit bs) :
    Calls Tryz.prog 56 #[.slice A bs.length c] w fun e w' => ∃ v, e = .returned v ∧ SL W (blksS v bs :: F) w' := by
  have HR := Lib.hid hr
  have HF := Lib.hid hf
  have HS := Lib.hid S
  clear S hr hf
  go_enter Tryz.func56, Tryz.ntmps56
  go_wp2
  go_loopw [3, 8] (fun o i wr => ∃ (k : Nat) (A3 : Option Addr) (c3 : Nat) (ps : List BV), k ≤ bs.length ∧ i = .int .i64 k ∧ o = .slice A3 k c3 ∧ ps.length = k ∧ ps.map Prod.snd = bs.take k ∧
    SL W (rowT 66 3 (.slice A3 k c3) k (ps.flatMap blkCells) :: star (ps.map datS) :: F) wr) (fun _ i _ => bs.length - (intOf i).toNat)
  case atStart => exact ⟨0, none, 0, [], Nat.zero_le _, rfl, rfl, rfl, rfl, HS.out.empty.nilT _ _⟩
  case round =>
    obtain ⟨k, A3, c3, ps, hk, rfl, rfl, hp1, hp2, S1⟩ := hrel
    have H1 := Lib.hid S1
    have HP := Lib.hid (And.intro hp1 hp2)
    clear S1 HS hp1 hp2
    have hle := HF.out.1
    by_cases hlt : k < bs.length
    · have hb : bs[k]? = some bs[k] := by simp [hlt]
      have hbl := HF.out.2 bs[k] (List.getElem_mem hlt)
      generalize bs[k] = b at hb hbl
      obtain ⟨g, off, A4, c4, hA, k0, k1, k2, a4, h4, h5⟩ := HR.out wr H1.out.drop.drop k b hb
      subst hA
      go_wp2_with fail
      refine (sclone_any A4 b.data c4 ((SL.start wr).allocC #[.bool b.mark, .slice A4 b.data.length c4, .bool b.bad] 66) (Rd.base a4) hbl).mono ?_
      rintro e w2 ⟨v2, rfl, S2⟩
      obtain ⟨A2, c2, rfl, _, _⟩ := own_slice S2.own
      have H2 := Lib.hid (H1.out.join S2)
      have HB := Lib.hid hb
      clear S2 k0 k1 k2 a4 h4 h5 hb H1 hbl
      generalize wr.heap.size = yb at *
      obtain ⟨L, K, z⟩ := H2.out.s1.look
      have HW : Hid (SL W (rowT 66 3 (.slice A3 k c3) k (ps.flatMap blkCells) :: rowS 5 1 (.slice A2 b.data.length c2) b.data.length (Lib.byteCells b.data) :: star (ps.map datS) :: F) (w2.setCell ⟨yb, 1, none⟩ (.slice A2 b.data.length c2))) := Lib.hid (SL.set (off := 1) (v := .slice A2 b.data.length c2) (cs' := #[.bool b.mark, .slice A2 b.data.length c2, .bool b.bad]) H2.out.s1 rfl).drop.s1
      go_wp2_with (at_builtin; refine wpList_pushT rfl _ _ _ rfl blkElem (w2.setCell ⟨yb, 1, none⟩ (.slice A2 b.data.length c2)) [.bool b.mark, .slice A2 b.data.length c2, .bool b.bad] 1 rfl rfl (by simp [Value.oneCell']) _ k _ rfl (by rw [World.size_setCell]; rfl) HW.out (by have := HF.out.1; unfold maxLen; omega) (by have := HF.out.1; omega) ?_
                   intro A6 c6 w6 S6
                   have H6 := Lib.hid S6
                   clear S6 H2 L K z HW)
      go_roundw
      case rel =>
        refine ⟨k + 1, A6, c6, ps ++ [(.slice A2 b.data.length c2, b)], by omega, by go_num, rfl, by simp [HP.out.1], by rw [List.take_add_one, HB.out]; simp [HP.out.2], ?_⟩
        simp only [List.map_append, List.map_cons, List.map_nil, List.flatMap_append, List.flatMap_cons, List.flatMap_nil, List.append_nil]
        exact (SL.snoc (P := datS (.slice A2 b.data.length c2, b)) H6.out.b2).s1
      case measure => simp [intOf]; omega
    · obtain rfl : k = bs.length := by omega
      go_wp2
      go_ret
      refine ⟨_, rfl, ?_⟩
      have e1 : ps.map Prod.snd = bs := by rw [HP.out.2]; simp
      rw [← HP.out.1] at H1
      have h := blksS_close (v := .slice A3 ps.length c3) H1.out
      rw [e1, HP.out.1] at h
      exact h
end
end Go.Proofs.YtfhpaehfihnjaaaGreat.T
namespace Go.Proofs.YtfhpaehfihnjaaaGreat.T
open Go.RowKit
def RetS (W : World) (F : List SA) (r : Rep) (e : Ending) (w' : World) : Prop :=
  ∃ A c, e = .returned (.agg #[.slice A r.1.length c, .int .i64 (r.2.1 : Int), .int .i64 (r.2.2 : Int)]) ∧ SL W (rowS 5 1 (.slice A r.1.length c) r.1.length (Lib.byteCells r.1) :: F) w'
theorem RetS.of {W w' : World} {F : List SA} {st sn : Nat} (S : SL W F w') : RetS W F ([], st, sn) (.returned (.agg #[.slice none 0 0, .int .i64 (st : Int), .int .i64 (sn : Int)])) w' := ⟨none, 0, rfl, S.nil _ _⟩
def lastS (lp : Option Addr) : Option (Nat × List Blk × Bool) → SA
  | none => fun _ => lp = none
  | some (a, old, b) => fun h => ∃ p : Nat × Value, lp = some ⟨p.1, 0, none⟩ ∧ star [cel p.1 #[.int .i64 (a : Int), p.2, .bool b] 240, blksS p.2 old] h
def tapeS (tb : Nat) (name : ByteArray) (s : TP) : SA := fun h => ∃ p : Value × Option Addr, True ∧
  star [cel tb #[.string name, p.1, .int .i64 (s.pos : Int), .bool s.loaded, .int .u8 (s.sense : Int), .pointer p.2] 126, blksS p.1 s.bs, lastS p.2 s.last] h
section
variable {W w w' : World} {F : List SA} {tb : Nat} {name : ByteArray} {s : TP}
theorem tapeS_open (S : SL W (tapeS tb name s :: F) w) : ∃ v lp, SL W (cel tb #[.string name, v, .int .i64 (s.pos : Int), .bool s.loaded, .int .u8 (s.sense : Int), .pointer lp] 126 :: blksS v s.bs :: lastS lp s.last :: F) w := by
  obtain ⟨p, _, h⟩ := S.unpack (α := Value × Option Addr) (φ := fun _ => True) (K := fun p => [cel tb #[.string name, p.1, .int .i64 (s.pos : Int), .bool s.loaded, .int .u8 (s.sense : Int), .pointer p.2] 126, blksS p.1 s.bs, lastS p.2 s.last]) (fun h p => p)
  exact ⟨p.1, p.2, h⟩
theorem tapeS_close {v : Value} {lp : Option Addr} (S : SL W (cel tb #[.string name, v, .int .i64 (s.pos : Int), .bool s.loaded, .int .u8 (s.sense : Int), .pointer lp] 126 :: blksS v s.bs :: lastS lp s.last :: F) w) : SL W (tapeS tb name s :: F) w :=
  SL.pack (L := [cel tb #[.string name, v, .int .i64 (s.pos : Int), .bool s.loaded, .int .u8 (s.sense : Int), .pointer lp] 126, blksS v s.bs, lastS lp s.last]) S fun _ h => ⟨(v, lp), trivial, h⟩
theorem lastS_none (S : SL W F w) : SL W (lastS none none :: F) w := (S.nil 5 1).head fun _ _ => rfl
theorem lastS_of_none {lp : Option Addr} (S : SL W (lastS lp none :: F) w) : lp = none := S.pure (φ := lp = none) fun _ h => h
theorem lastS_open {lp : Option Addr} {a : Nat} {old : List Blk} {b : Bool} (S : SL W (lastS lp (some (a, old, b)) :: F) w) : ∃ lb v, lp = some ⟨lb, 0, none⟩ ∧ SL W (cel lb #[.int .i64 (a : Int), v, .bool b] 240 :: blksS v old :: F) w := by
  obtain ⟨p, h1, h⟩ := S.unpack (α := Nat × Value) (φ := fun p => lp = some ⟨p.1, 0, none⟩) (K := fun p => [cel p.1 #[.int .i64 (a : Int), p.2, .bool b] 240, blksS p.2 old]) (fun h p => p)
  exact ⟨p.1, p.2, h1, h⟩
theorem lastS_close {lb a : Nat} {old : List Blk} {b : Bool} {v : Value} (S : SL W (cel lb #[.int .i64 (a : Int), v, .bool b] 240 :: blksS v old :: F) w) : SL W (lastS (some ⟨lb, 0, none⟩) (some (a, old, b)) :: F) w :=
  SL.pack (L := [cel lb #[.int .i64 (a : Int), v, .bool b] 240, blksS v old]) S fun _ h => ⟨(lb, v), rfl, h⟩
theorem blksS_slice {v : Value} {bs : List Blk} (S : SL W (blksS v bs :: F) w) : ∃ A c, v = .slice A bs.length c ∧ bs.length ≤ c ∧ c ≤ maxLen := by
  obtain ⟨ps, rfl, S1⟩ := blksS_open S
  rw [List.length_map]
  rcases S1.rowTo with ⟨rfl, h, _⟩ | ⟨g, cap, cur, rfl, h1, h2, _⟩
  · rw [h]; exact ⟨none, 0, rfl, Nat.le_refl _, by unfold maxLen; omega⟩
  · exact ⟨_, cap, rfl, h1, h2⟩
theorem datS_slice {p : BV} (S : SL W (datS p :: F) w) : ∃ A c, p.1 = .slice A p.2.data.length c ∧ p.2.data.length ≤ c ∧ c ≤ maxLen ∧ At w w.heap.size A (Lib.byteCells p.2.data) := by
  obtain ⟨A, c, e, h1, h2⟩ := own_slice (SL.own S)
  unfold datS at S
  rw [e] at S
  exact ⟨A, c, e, h1, h2, S.at_⟩
theorem blksS_at {A : Option Addr} {n c : Nat} {bs : List Blk} (S : SL W (blksS (.slice A n c) bs :: F) w) : BlksAt w A bs := by
  intro i b hb
  obtain ⟨ps, rfl, S1⟩ := blksS_open S
  rw [List.getElem?_map, Option.map_eq_some_iff] at hb
  obtain ⟨p, hp, rfl⟩ := hb
  have hlen : i < ps.length := by
    rw [List.getElem?_eq_some_iff] at hp; exact hp.1
  have g0 := blkCells_get ps i 0 p hp (by omega)
  have g1 := blkCells_get ps i 1 p hp (by omega)
  have g2 := blkCells_get ps i 2 p hp (by omega)
  have e : n = ps.length := by
    rcases S1.rowTo with ⟨h1, h2, _⟩ | ⟨g, cap, cur, h1, _⟩
    · injection h1; omega
    · injection h1
  subst e
  obtain ⟨g, hA, _, k0⟩ := S1.cellT (j := i * 3) (u := .bool p.2.mark) (by rw [show i * 3 = i * 3 + 0 by rfl, g0]; rfl)
  obtain ⟨g', hA', _, k1⟩ := S1.cellT (j := i * 3 + 1) (u := p.1) (by rw [g1]; rfl)
  obtain ⟨g'', hA'', _, k2⟩ := S1.cellT (j := i * 3 + 2) (u := .bool p.2.bad) (by rw [g2]; rfl)
  rw [hA] at hA' hA''
  injection hA' with hA'; injection hA' with hA'; subst hA'
  injection hA'' with hA''; injection hA'' with hA''; subst hA''
  obtain ⟨A2, c2, e2, h1, h2, h3⟩ := datS_slice (S1.s1.take (i := i) (P := datS p) (by rw [List.getElem?_map, hp]; rfl))
  rw [e2] at k1
  exact ⟨g, 0, A2, c2, hA, by rw [Nat.zero_add]; exact k0, by rw [Nat.zero_add]; exact k1, by rw [Nat.zero_add]; exact k2, h3, h1, h2⟩
theorem BlksRd.head {A : Option Addr} {n c : Nat} {bs : List Blk} : BlksRd W (blksS (.slice A n c) bs :: F) A bs := fun _ S => blksS_at S
theorem BlksRd.cons {A : Option Addr} {bs : List Blk} {P : SA} (h : BlksRd W F A bs) : BlksRd W (P :: F) A bs := fun w S => h w S.drop
theorem BlksAt.drop {A : Option Addr} {bs : List Blk} (h : BlksAt w A bs) (k : Nat) : BlksAt w (A.map fun a => a.add (k * 3)) (bs.drop k) := by
  intro i b hb
  rw [List.getElem?_drop] at hb
  obtain ⟨g, off, A', c', rfl, h1, h2, h3, h4⟩ := h _ b hb
  refine ⟨g, off + k * 3, A', c', by simp [Addr.add], ?_, ?_, ?_, h4⟩
  · rw [← h1]; congr 2; omega
  · rw [← h2]; congr 2; omega
  · rw [← h3]; congr 2; omega
end
section
variable {W w w' : World} {F : List SA}
theorem done_any (A : Option Addr) (n c : Nat) (w : World) : Calls Tryz.prog 180 #[.slice A n c] w fun e w' => e = .returned (.agg #[.slice A n c, .int .i64 12, .int .i64 0]) ∧ Below w.heap.size w w' := by
  go_enter Tryz.func180, Tryz.ntmps180
  go_wp2
  exact bodyPost_ret (v := .agg #[.slice A n c, .int .i64 12, .int .i64 0]) (by simp [results, Tryz.results180, go_sem]) rfl ⟨rfl, by (repeat' (first | (with_reducible exact Below.refl _ _) | (with_reducible assumption) | (with_reducible refine below_drewN ?_ _) | (with_reducible refine Below.drew ?_) | (with_reducible refine Below.alloc ?_ ?_ _) | (with_reducible refine Below.setCell ?_ ?_ _) | (with_reducible refine below_row ?_ ?_ _) | (with_reducible exact Nat.le_refl _) | omega | (simp only [World.size_alloc, World.size_setCell, World.size_drew, World.size_drewN]; omega) | (simp; done) | (simp; omega)))⟩
theorem mark_any (w : World) : Calls Tryz.prog 187 #[] w fun e w' => e = .returned (.agg #[.slice none 0 0, .int .i64 13, .int .i64 0]) ∧ Below w.heap.size w w' := by
  go_enter Tryz.func187, Tryz.ntmps187
  go_wp2
  exact bodyPost_ret (v := .agg #[.slice none 0 0, .int .i64 13, .int .i64 0]) (by simp [results, Tryz.results187, go_sem]) rfl ⟨rfl, by (repeat' (first | (with_reducible exact Below.refl _ _) | (with_reducible assumption) | (with_reducible refine below_drewN ?_ _) | (with_reducible refine Below.drew ?_) | (with_reducible refine Below.alloc ?_ ?_ _) | (with_reducible refine Below.setCell ?_ ?_ _) | (with_reducible refine below_row ?_ ?_ _) | (with_reducible exact Nat.le_refl _) | omega | (simp only [World.size_alloc, World.size_setCell, World.size_drew, World.size_drewN]; omega) | (simp; done) | (simp; omega)))⟩
theorem check_any (n : Int) (w : World) : Calls Tryz.prog 178 #[.int .i64 n] w fun e w' => e = .returned (.agg #[.slice none 0 0, .int .i64 14, .int .i64 n]) ∧ Below w.heap.size w w' := by
  go_enter Tryz.func178, Tryz.ntmps178
  go_wp2
  exact bodyPost_ret (v := .agg #[.slice none 0 0, .int .i64 14, .int .i64 n]) (by simp [results, Tryz.results178, go_sem]) rfl ⟨rfl, by (repeat' (first | (with_reducible exact Below.refl _ _) | (with_reducible assumption) | (with_reducible refine below_drewN ?_ _) | (with_reducible refine Below.drew ?_) | (with_reducible refine Below.alloc ?_ ?_ _) | (with_reducible refine Below.setCell ?_ ?_ _) | (with_reducible refine below_row ?_ ?_ _) | (with_reducible exact Nat.le_refl _) | omega | (simp only [World.size_alloc, World.size_setCell, World.size_drew, World.size_drewN]; omega) | (simp; done) | (simp; omega)))⟩
variable {tb : Nat} {name : ByteArray} {s : TP}
theorem at_any (S : SL W (tapeS tb name s :: F) w) : Calls Tryz.prog 41 #[.pointer (some ⟨tb, 0, none⟩)] w fun e w' => e = .returned (.int .i64 (s.pos : Int)) ∧ SL W (tapeS tb name s :: F) w' := by
  have HS := Lib.hid S
  obtain ⟨v, lp, S1⟩ := tapeS_open S
  obtain ⟨L, K, z⟩ := S1.look
  clear S S1
  go_enter Tryz.func41, Tryz.ntmps41
  go_wp2
  go_ret
  exact ⟨rfl, HS.out⟩
theorem loaded_any (S : SL W (tapeS tb name s :: F) w) : Calls Tryz.prog 42 #[.pointer (some ⟨tb, 0, none⟩)] w fun e w' => e = .returned (.bool s.loaded) ∧ SL W (tapeS tb name s :: F) w' := by
  have HS := Lib.hid S
  obtain ⟨v, lp, S1⟩ := tapeS_open S
  obtain ⟨L, K, z⟩ := S1.look
  clear S S1
  go_enter Tryz.func42, Tryz.ntmps42
  go_wp2
  go_ret
  exact ⟨rfl, HS.out⟩
theorem serial_any (S : SL W (tapeS tb name s :: F) w) : Calls Tryz.prog 40 #[.pointer (some ⟨tb, 0, none⟩)] w fun e w' => e = .returned (.string name) ∧ SL W (tapeS tb name s :: F) w' := by
  have HS := Lib.hid S
  obtain ⟨v, lp, S1⟩ := tapeS_open S
  obtain ⟨L, K, z⟩ := S1.look
  clear S S1
  go_enter Tryz.func40, Tryz.ntmps40
  go_wp2
  go_ret
  exact ⟨rfl, HS.out⟩
theorem blocks_any (S : SL W (tapeS tb name s :: F) w) (hf : Fit s.bs) : Calls Tryz.prog 20 #[.pointer (some ⟨tb, 0, none⟩)] w fun e w' => ∃ v, e = .returned v ∧ SL W (blksS v s.bs :: tapeS tb name s :: F) w' := by
  obtain ⟨v, lp, S1⟩ := tapeS_open S
  obtain ⟨L, K, z⟩ := S1.look
  have H1 := Lib.hid S1
  obtain ⟨A, c, rfl, _, _⟩ := blksS_slice S1.s1
  clear S S1
  go_enter Tryz.func20, Tryz.ntmps20
  go_wp2_with fail
  refine (bclone_any A s.bs c H1.out (fun w2 S2 => blksS_at S2.s1) hf).mono ?_
  rintro e w2 ⟨v2, rfl, S2⟩
  have H2 := Lib.hid S2
  clear S2
  go_wp2
  go_ret
  exact ⟨_, rfl, SL.s1 (tapeS_close H2.out.b3)⟩
theorem mounted_yes (hn : name.toList.isEmpty = false) (S : SL W (tapeS tb name s :: F) w) : Calls Tryz.prog 177 #[.pointer (some ⟨tb, 0, none⟩)] w fun e w' => e = .returned (.bool true) ∧ w' = w := by
  obtain ⟨v, lp, S1⟩ := tapeS_open S
  obtain ⟨L, K, z⟩ := S1.look
  clear S S1
  go_enter Tryz.func177, Tryz.ntmps177
  go_wp2
  go_ret
  exact ⟨rfl, rfl⟩
theorem power_any (hn : name.toList.isEmpty = false) (S : SL W (tapeS tb name s :: F) w) : Calls Tryz.prog 175 #[.pointer (some ⟨tb, 0, none⟩)] w fun e w' => e = .returned (.tuple #[]) ∧ SL W (tapeS tb name (tpPower s) :: F) w' := by
  have HM := Lib.hid (mounted_yes hn S)
  have HS := Lib.hid S
  obtain ⟨v, lp, S1⟩ := tapeS_open S
  obtain ⟨L, K, z⟩ := S1.look
  have H1 := Lib.hid S1
  clear S S1
  go_enter Tryz.func175, Tryz.ntmps175
  go_wp2_with fail
  refine HM.out.mono ?_
  rintro e w2 ⟨rfl, rfl⟩
  go_wp2
  refine bodyPost_end (v := .tuple #[]) (by simp [results, Tryz.results175, go_sem]) rfl ⟨rfl, ?_⟩
  have S2 := (((H1.out.set (off := 3) (v := .bool true) rfl).set (off := 2) (v := .int .i64 0) rfl).set (off := 4) (v := .int .u8 0) rfl).set (off := 5) (v := .pointer none) rfl
  exact tapeS_close (s := tpPower s) ((lastS_none S2.s2.drop).b2)
end
end Go.Proofs.YtfhpaehfihnjaaaGreat.T
namespace Go.Proofs.YtfhpaehfihnjaaaGreat.T
open Go.RowKit
def Mir (xs ys : List Value) (k : Nat) : Prop := ys.length = xs.length ∧ ∀ m, m < xs.length → ys[m]? = if m < k ∨ xs.length ≤ m + k then xs[xs.length - 1 - m]? else xs[m]?
theorem Mir.zero (xs : List Value) : Mir xs xs 0 := ⟨rfl, fun m h => by rw [if_neg (by omega)]⟩
theorem Mir.end_ {xs ys : List Value} {k : Nat} (h : Mir xs ys k) (hk : xs.length ≤ 2 * k + 1) : ys = xs.reverse := by
  refine List.ext_getElem? fun m => ?_
  by_cases hm : m < xs.length
  · rw [h.2 m hm, List.getElem?_reverse hm]
    split
    · rfl
    · congr 1; omega
  · rw [List.getElem?_eq_none (by have := h.1; omega), List.getElem?_eq_none (by simp; omega)]
theorem Mir.next {xs ys : List Value} {k : Nat} {x y : Value} (h : Mir xs ys k) (hk : 2 * k + 1 < xs.length) (hx : ys[xs.length - 1 - k]? = some x) (hy : ys[k]? = some y) : Mir xs ((ys.set k x).set (xs.length - 1 - k) y) (k + 1) := by
  refine ⟨by simp [h.1], fun m hm => ?_⟩
  have hl := h.1
  rw [h.2 _ (by omega), if_neg (by omega)] at hx hy
  rw [List.getElem?_set, List.getElem?_set]
  by_cases h1 : xs.length - 1 - k = m
  · rw [if_pos h1, if_pos (by simp; omega), if_pos (by omega), ← hy]
    congr 1; omega
  · rw [if_neg h1]
    by_cases h2 : k = m
    · rw [if_pos h2, if_pos (by omega), if_pos (by omega), ← hx]
      congr 1; omega
    · rw [if_neg h2, h.2 m hm]
      by_cases h3 : m < k ∨ xs.length ≤ m + k
      · rw [if_pos h3, if_pos (by omega)]
      · rw [if_neg h3, if_neg (by omega)]
theorem Mir.mem {xs ys : List Value} {k m : Nat} {x : Value} (h : Mir xs ys k) (hx : ys[m]? = some x) : x ∈ xs := by
  have hm : m < xs.length := by rw [← h.1]; rw [List.getElem?_eq_some_iff] at hx; exact hx.1
  rw [h.2 m hm] at hx
  split at hx <;> exact List.mem_of_getElem? hx
section
variable {W w w' : World} {F : List SA}
theorem rev_cel (g n c : Nat) (xs tl : List Value) (S : SL W (cel g (xs ++ tl).toArray 5 :: F) w) (hn : xs.length = n) (hu : ∀ u ∈ xs, ∃ z : Int, u = .int .u8 z) (hm : n ≤ maxLen) :
    Calls Tryz.prog 188 #[.slice (some ⟨g, 0, none⟩) n c] w fun e w' => e = .returned (.tuple #[]) ∧ SL W (cel g (xs.reverse ++ tl).toArray 5 :: F) w' := by
  have HS := Lib.hid S
  have HN := Lib.hid (And.intro hn hu)
  have hm' : n ≤ 9223372036854775807 := by unfold maxLen at hm; omega
  clear S hn hu
  go_enter Tryz.func188, Tryz.ntmps188
  go_wp2
  go_loopw [2, 3] (fun i j wr => ∃ (k : Nat) (ys : List Value), 2 * k ≤ n + 1 ∧ i = .int .i64 k ∧ j = .int .i64 ((n : Int) - 1 - k) ∧ Mir xs ys k ∧ SL W (cel g (ys ++ tl).toArray 5 :: F) wr) (fun i _ _ => n - (intOf i).toNat)
  case atStart =>
    refine ⟨0, xs, by omega, rfl, by go_num, Mir.zero xs, HS.out⟩
  case round =>
    obtain ⟨k, ys, hk, rfl, rfl, hM, S1⟩ := hrel
    have H1 := Lib.hid S1
    have HM := Lib.hid hM
    clear S1 HS hM
    by_cases hlt : 2 * k + 1 < n
    · have hy1 : ys.length = n := by rw [HM.out.1, HN.out.1]
      obtain ⟨x, hx⟩ : ∃ x, ys[n - 1 - k]? = some x := ⟨_, List.getElem?_eq_getElem (by omega)⟩
      obtain ⟨y, hy⟩ : ∃ y, ys[k]? = some y := ⟨_, List.getElem?_eq_getElem (by omega)⟩
      obtain ⟨zx, rfl⟩ := HN.out.2 x (HM.out.mem hx)
      obtain ⟨zy, rfl⟩ := HN.out.2 y (HM.out.mem hy)
      obtain ⟨m, hm1⟩ : ∃ m, n - 1 - k = m := ⟨_, rfl⟩
      have HX := Lib.hid (And.intro hx hy)
      rw [hm1] at hx
      have e0 : (n : Int) - 1 - (k : Int) = (m : Int) := by omega
      have hm2 : m < n := by omega
      have hm3 : k < m := by omega
      rw [e0]
      obtain ⟨L, K, z⟩ := H1.out.look
      have q1 : wr.cell? ⟨g, k, none⟩ = some (.int .u8 zy) := by rw [L]; simpa using (List.getElem?_append_left (by omega)).trans hy
      have q2 : wr.cell? ⟨g, m, none⟩ = some (.int .u8 zx) := by rw [L]; simpa using (List.getElem?_append_left (by omega)).trans hx
      have k1 : wr.frozen? ⟨g, k, none⟩ = false := K _
      have k2 : wr.frozen? ⟨g, m, none⟩ = false := K _
      clear L K hx hy
      go_wp2_with fail
      go_big_region
      go_wp2
      go_roundw
      case rel =>
        refine ⟨k + 1, (ys.set k (.int .u8 zx)).set m (.int .u8 zy), by omega, by go_num, by go_num, ?_, ?_⟩
        · have h := HM.out.next (k := k) (by rw [HN.out.1]; omega) (by rw [HN.out.1]; exact HX.out.1) HX.out.2
          rw [HN.out.1, hm1] at h
          exact h
        · have h := (H1.out.drew.set (off := k) (v := .int .u8 zx) rfl).set (off := m) (v := .int .u8 zy) rfl
          rw [List.setIfInBounds_toArray, List.setIfInBounds_toArray, List.set_append_left _ _ (by omega), List.set_append_left _ _ (by simp; omega)] at h
          exact h
      case measure => simp [intOf]; omega
    · have e0 : ¬ ((k : Int) < (n : Int) - 1 - (k : Int)) := by omega
      go_wp2
      refine bodyPost_end (v := .tuple #[]) (by simp [results, Tryz.results188, go_sem]) rfl ⟨rfl, ?_⟩
      rw [← HM.out.end_ (by rw [HN.out.1]; omega)]
      exact H1.out
theorem rev_zero (A : Option Addr) (c : Nat) (w : World) :
    Calls Tryz.prog 188 #[.slice A 0 c] w fun e w' => e = .returned (.tuple #[]) ∧ w' = w := by
  go_enter Tryz.func188, Tryz.ntmps188
  go_wp2
  go_loopw [2, 3] (fun i j wr => i = .int .i64 0 ∧ j = .int .i64 (-1) ∧ wr = w) (fun i _ _ => 0)
  case atStart => exact ⟨rfl, rfl, rfl⟩
  case round =>
    obtain ⟨rfl, rfl, rfl⟩ := hrel
    go_wp2
    exact bodyPost_end (v := .tuple #[]) (by simp [results, Tryz.results188, go_sem]) rfl ⟨rfl, rfl⟩
theorem rev_any (A : Option Addr) (c : Nat) (l : List UInt8) (S : SL W (rowS 5 1 (.slice A l.length c) l.length (Lib.byteCells l) :: F) w) :
    Calls Tryz.prog 188 #[.slice A l.length c] w fun e w' => e = .returned (.tuple #[]) ∧ SL W (rowS 5 1 (.slice A l.length c) l.length (Lib.byteCells l.reverse) :: F) w' := by
  by_cases h0 : l.length = 0
  · obtain rfl := List.eq_nil_of_length_eq_zero h0
    refine (rev_zero A c w).mono ?_
    rintro e w2 ⟨rfl, rfl⟩
    exact ⟨rfl, S⟩
  · obtain ⟨g, cap, cur, hv, h1, h2, h3, h4, S1⟩ := S.rowCel (by omega)
    injection hv with hA _ hc
    subst hA; subst hc
    rw [Nat.mul_one] at h3 h4
    have e1 : cur = (Lib.byteCells l ++ cur.toList.drop l.length).toArray := by
      apply Array.toList_inj.1
      conv => lhs; rw [← List.take_append_drop l.length cur.toList, h4]
    rw [e1] at S1
    refine (rev_cel g l.length c (Lib.byteCells l) _ S1 (byteCells_len l) ?_ (by omega)).mono ?_
    · intro u hu
      obtain ⟨b, _, rfl⟩ := List.mem_map.1 hu
      exact ⟨_, rfl⟩
    · rintro e w2 ⟨rfl, S2⟩
      refine ⟨rfl, ?_⟩
      have e2 : (Lib.byteCells l).reverse = Lib.byteCells l.reverse := by simp [Lib.byteCells]
      rw [e2] at S2
      refine S2.head (rowS_pts h1 h2 ?_ ?_)
      · simp [byteCells_len]; rw [h3]; omega
      · simp only [Nat.mul_one]; exact List.take_left' (by simp [byteCells_len])
set_option maxHeartbeats 2000000 in
theorem passed_any (A : Option Addr) (c : Nat) (b : Blk) (rd rv : Bool) (S : SL W F w) (hr : Rd W F A (Lib.byteCells b.data)) (hl : b.data.length ≤ 1073741824) :
    Calls Tryz.prog 184 #[.agg #[.bool b.mark, .slice A b.data.length c, .bool b.bad], .bool rd, .bool rv] w fun e w' => RetS W F (tpPassed b rd rv) e w' := by
  have HR := Lib.hid hr
  have HD := Lib.hid (And.intro mark_any (check_any 8))
  have HE := Lib.hid done_any
  obtain ⟨l, mk, bd⟩ := b
  dsimp only at *
  have H1 : Hid (SL W (cel (w.heap.size + 1) #[.slice none 0 0, .int .i64 0, .int .i64 0] 55 :: F) ((w.alloc (.cells #[.bool mk, .slice A l.length c, .bool bd] 66)).alloc (.cells #[.slice none 0 0, .int .i64 0, .int .i64 0] 55))) :=
    Lib.hid (by
      have h := (S.allocC #[.bool mk, .slice A l.length c, .bool bd] 66).drop.allocC #[.slice none 0 0, .int .i64 0, .int .i64 0] 55
      rw [World.size_alloc] at h
      exact h)
  clear S hr
  have fin : ∀ (w2 : World) (v : Value) (x y : Int), Hid (SL W (cel (w.heap.size + 1) #[.slice none 0 0, .int .i64 0, .int .i64 0] 55 :: F) w2) →
      Hid (SL W (cel (w.heap.size + 1) #[v, .int .i64 x, .int .i64 y] 55 :: F) (((w2.setCell ⟨w.heap.size + 1, 0, none⟩ v).setCell ⟨w.heap.size + 1, 1, none⟩ (.int .i64 x)).setCell ⟨w.heap.size + 1, 2, none⟩ (.int .i64 y))) := fun w2 v x y h => Lib.hid h.out.set3
  cases mk with
  | true =>
    go_enter Tryz.func184, Tryz.ntmps184
    go_wp2_with (refine (HD.out.1 _).mono ?_; rintro e w2 ⟨rfl, b2⟩; have H2 := Lib.hid (H1.out.grow b2); clear b2; obtain ⟨L2, K2, z2⟩ := H2.out.look)
    have H3 := fin _ (.slice none 0 0) 13 0 H2
    obtain ⟨L3, K3, z3⟩ := H3.out.look
    refine bodyPost_ret (v := .agg #[.slice none 0 0, .int .i64 13, .int .i64 0]) (by simp [results, Tryz.results184, go_sem, L2]) rfl ?_
    exact RetS.of (st := 13) (sn := 0) H3.out.drop
  | false =>
    cases rd with
    | false =>
      go_enter Tryz.func184, Tryz.ntmps184
      go_wp2_with (refine (HE.out none 0 0 _).mono ?_; rintro e w2 ⟨rfl, b2⟩; have H2 := Lib.hid (H1.out.grow b2); clear b2; obtain ⟨L2, K2, z2⟩ := H2.out.look)
      have H3 := fin _ (.slice none 0 0) 12 0 H2
      obtain ⟨L3, K3, z3⟩ := H3.out.look
      refine bodyPost_ret (v := .agg #[.slice none 0 0, .int .i64 12, .int .i64 0]) (by simp [results, Tryz.results184, go_sem, L2]) rfl ?_
      exact RetS.of (st := 12) (sn := 0) H3.out.drop
    | true =>
      cases bd with
      | true =>
        go_enter Tryz.func184, Tryz.ntmps184
        go_wp2_with (refine (HD.out.2 _).mono ?_; rintro e w2 ⟨rfl, b2⟩; have H2 := Lib.hid (H1.out.grow b2); clear b2; obtain ⟨L2, K2, z2⟩ := H2.out.look)
        have H3 := fin _ (.slice none 0 0) 14 8 H2
        obtain ⟨L3, K3, z3⟩ := H3.out.look
        refine bodyPost_ret (v := .agg #[.slice none 0 0, .int .i64 14, .int .i64 8]) (by simp [results, Tryz.results184, go_sem, L2]) rfl ?_
        exact RetS.of (st := 14) (sn := 8) H3.out.drop
      | false =>
        cases rv with
        | true =>
          go_enter Tryz.func184, Tryz.ntmps184
          go_wp2_with (first
            | (refine (sclone_any A l c H1.out HR.out.cons hl).mono ?_; rintro e w2 ⟨v2, rfl, S2⟩; obtain ⟨A2, c2, rfl, _, _⟩ := own_slice S2.own; have H2 := Lib.hid S2; clear S2)
            | (refine (rev_any A2 c2 l H2.out).mono ?_; rintro e w3 ⟨rfl, S3⟩; have H3 := Lib.hid S3; clear S3)
            | (refine (HE.out A2 l.length c2 _).mono ?_; rintro e w4 ⟨rfl, b4⟩; have H4 := Lib.hid (H3.out.grow b4).s1; clear b4; obtain ⟨L2, K2, z2⟩ := H4.out.look))
          have H5 := H4.out.set3 (u0 := .slice A2 l.length c2) (u1 := .int .i64 12) (u2 := .int .i64 0)
          refine bodyPost_ret (v := .agg #[.slice A2 l.length c2, .int .i64 12, .int .i64 0]) (by simp [results, Tryz.results184, go_sem, L2]) rfl ?_
          exact ⟨A2, c2, by simp [tpPassed], by simpa [tpPassed] using H5.drop⟩
        | false =>
          go_enter Tryz.func184, Tryz.ntmps184
          go_wp2_with (first
            | (refine (sclone_any A l c H1.out HR.out.cons hl).mono ?_; rintro e w2 ⟨v2, rfl, S2⟩; obtain ⟨A2, c2, rfl, _, _⟩ := own_slice S2.own; have H2 := Lib.hid S2; clear S2)
            | (refine (HE.out A2 l.length c2 _).mono ?_; rintro e w4 ⟨rfl, b4⟩; have H4 := Lib.hid (H2.out.grow b4).s1; clear b4; obtain ⟨L2, K2, z2⟩ := H4.out.look))
          have H5 := H4.out.set3 (u0 := .slice A2 l.length c2) (u1 := .int .i64 12) (u2 := .int .i64 0)
          refine bodyPost_ret (v := .agg #[.slice A2 l.length c2, .int .i64 12, .int .i64 0]) (by simp [results, Tryz.results184, go_sem, L2]) rfl ?_
          exact ⟨A2, c2, by simp [tpPassed], by simpa [tpPassed] using H5.drop⟩
end
end Go.Proofs.YtfhpaehfihnjaaaGreat.T
namespace Go.Proofs.YtfhpaehfihnjaaaGreat.T
open Go.RowKit
theorem BlksAt.slice {w : World} {A : Option Addr} {bs : List Blk} {c : Nat} (h : BlksAt w A bs) (k : Nat) (hc : bs.length ≤ c) : BlksAt w (if c = k then A else A.map fun x => x.add (k * 3)) (bs.drop k) := by
  by_cases e : c = k
  · rw [List.drop_eq_nil_of_le (by omega)]
    intro i b hb
    simp at hb
  · rw [if_neg e]; exact h.drop k
theorem Fit.drop {bs : List Blk} (h : Fit bs) (k : Nat) : Fit (bs.drop k) := ⟨by have := h.1; rw [List.length_drop]; omega, fun b hb => h.2 b (List.mem_of_mem_drop hb)⟩
theorem take_blkCells (ps : List BV) (k : Nat) : (ps.flatMap blkCells).take (k * 3) = (ps.take k).flatMap blkCells := by
  induction ps generalizing k with
  | nil => simp
  | cons p ps ih =>
    cases k with
    | zero => simp
    | succ k =>
      simp only [List.flatMap_cons, List.take_succ_cons]
      rw [show (k + 1) * 3 = (blkCells p).length + k * 3 by simp [blkCells]; omega, List.take_append, List.take_of_length_le (by omega), Nat.add_sub_cancel_left, ih]
theorem blksS_cut {W w : World} {F : List SA} {A : Option Addr} {c k : Nat} {bs : List Blk} (S : SL W (blksS (.slice A bs.length c) bs :: F) w) (hk : k ≤ bs.length) : SL W (blksS (.slice A k k) (bs.take k) :: F) w := by
  obtain ⟨ps, rfl, S1⟩ := blksS_open S
  rw [List.length_map] at hk S1
  have S2 := (S1.cutT hk).s1
  rw [take_blkCells] at S2
  have e : (if A = none then 0 else k) = k := by
    by_cases h : A = none
    · rw [if_pos h]
      rcases S1.rowTo with ⟨_, h1, _⟩ | ⟨g, cap, cur, h1, _⟩
      · omega
      · rw [h] at h1; cases h1
    · rw [if_neg h]
  rw [e] at S2
  have S3 := (S2.head (b := star ((ps.take k).map datS)) fun h s => by
    rw [← List.take_append_drop k ps, List.map_append] at s
    obtain ⟨h1, h2, p, _, _, l1, _⟩ := star_append s
    exact star_le l1 p).s1
  have hl : (ps.take k).length = k := by rw [List.length_take]; omega
  have h := blksS_close (v := .slice A k k) (ps := ps.take k) (by rw [hl]; exact S3)
  rw [← List.map_take]
  exact h
section
variable {W w w' : World} {F : List SA} {tb : Nat} {name : ByteArray} {s : TP}
set_option maxHeartbeats 4000000 in
theorem cut_any (block : Bool) (S : SL W (tapeS tb name s :: F) w) (hp : s.pos ≤ s.bs.length) (hf : Fit s.bs) :
    Calls Tryz.prog 182 #[.pointer (some ⟨tb, 0, none⟩), .bool block] w fun e w' => e = .returned (.tuple #[]) ∧ SL W (tapeS tb name (tpCut s block) :: F) w' := by
  obtain ⟨v, lp, S1⟩ := tapeS_open S
  obtain ⟨A, c, rfl, hc1, hc2⟩ := blksS_slice S1.s1
  obtain ⟨bs, pos, ld, se, la⟩ := s
  dsimp only at *
  have H1 := Lib.hid S1
  have HF := Lib.hid hf
  clear S S1 hf
  have hl1 : bs.length ≤ 1048576 := HF.out.1
  go_enter Tryz.func182, Tryz.ntmps182
  go_wp2_with fail
  refine wp_region_order (SL W (cel tb #[.string name, .slice A bs.length c, .int .i64 (pos : Int), .bool ld, .int .u8 (se : Int), .pointer lp] 126 :: blksS (.slice A bs.length c) bs :: lastS lp la :: F)) [] [0, 1, 2, 3, 4, 5, 6, 7, 8, 9, 10, 11, 12, 13, 15] [] [14, 16, 17, 18, 19] [20] (by kernel_rfl) (by kernel_rfl) H1.out.drew (by intro c a d v w h; cases d <;> exact h) ?_
  simp only [pick, List.filterMap_cons, List.filterMap_nil, List.getElem?_cons_zero, List.getElem?_cons_succ]
  (repeat (refine wpPure_step (fun K hK => ?_); go_simp; refine hK _ ?_; clear hK K)); refine wpPure_nil ?_
  repeat (refine wpLoads_step (fun K hK => ?_); go_simp; first | (refine hK _ ?_; clear hK K) | (refine ⟨_, fun wx S => (by obtain ⟨f3, f4, f5⟩ := S.look; go_simp; rfl), hK _ ?_⟩; clear hK K))
  refine wpLoads_nil (wpQuiet_nil ?_)
  intro wq hwq
  have H2 := Lib.hid hwq
  clear hwq H1
  (refine wpKeep_step ?_; intro K hK; go_simp)
  have hd : (bs.drop pos).length = bs.length - pos := List.length_drop
  rw [← hd]
  refine (bclone_any _ (bs.drop pos) (c - pos) H2.out (fun w2 S2 => (blksS_at S2.s1).slice pos hc1) (HF.out.drop pos)).mono ?_
  rintro e w3 ⟨v3, rfl, S3⟩
  obtain ⟨A3, c3, rfl, _, _⟩ := blksS_slice S3
  have H3 := Lib.hid S3
  clear S3 H2
  refine hK _ _ H3.out.drop ?_
  clear hK K
  rw [hd]
  generalize (if c = pos then A else Option.map (fun x => x.add (pos * 3)) A) = A0
  (refine wpKeep_step ?_; intro K hK; go_simp)
  refine hK _ _ H3.out.drop ?_
  clear hK K
  (refine wpKeep_step ?_; intro K hK; go_simp)
  refine hK _ _ (H3.out.drop.alloc _).drop ?_
  clear hK K
  (refine wpKeep_step ?_; intro K hK; go_simp)
  refine hK _ _ (H3.out.drop.alloc _).drop ?_
  clear hK K
  (refine wpKeep_step ?_; intro K hK; go_simp)
  refine hK _ _ (H3.out.drop.alloc _).drop ?_
  clear hK K
  refine wpKeep_nil ?_
  have H4 : Hid (SL W (cel w3.heap.size #[.int .i64 (pos : Int), .slice A3 (bs.length - pos) c3, .bool block] 240 :: cel tb #[.string name, .slice A bs.length c, .int .i64 (pos : Int), .bool ld, .int .u8 (se : Int), .pointer (some ⟨w3.heap.size, 0, none⟩)] 126 :: blksS (.slice A3 (bs.length - pos) c3) (bs.drop pos) :: blksS (.slice A bs.length c) bs :: lastS lp la :: F)
    ((w3.setCell ⟨tb, 5, none⟩ (.pointer (some ⟨w3.heap.size, 0, none⟩))).alloc (.cells #[.int .i64 (pos : Int), .slice A3 (bs.length - pos) c3, .bool block] 240))) := Lib.hid (by
      have h := (SL.set (off := 5) (v := .pointer (some ⟨w3.heap.size, 0, none⟩)) (cs' := #[.string name, .slice A bs.length c, .int .i64 (pos : Int), .bool ld, .int .u8 (se : Int), .pointer (some ⟨w3.heap.size, 0, none⟩)]) H3.out.s1 rfl).allocC #[.int .i64 (pos : Int), .slice A3 (bs.length - pos) c3, .bool block] 240
      rw [World.size_setCell] at h
      rw [hd] at h
      exact h)
  obtain ⟨L, K, z⟩ := H3.out.s1.look
  go_wp2_with fail
  refine name_world (P := Code.wp _ _ _ _) ?_
  intro wd hwd
  rw [← hwd] at H4
  clear hwd L K z H3
  generalize w3.heap.size = lb at *
  obtain ⟨L, K, z⟩ := H4.out.s1.look
  go_big_region
  go_wp2
  refine bodyPost_end (v := .tuple #[]) (by simp [results, Tryz.results182, go_sem]) rfl ⟨rfl, ?_⟩
  have h := (SL.set (off := 1) (v := .slice A pos pos) (cs' := #[.string name, .slice A pos pos, .int .i64 (pos : Int), .bool ld, .int .u8 (se : Int), .pointer (some ⟨lb, 0, none⟩)]) H4.out.s1 rfl).drew.s4.drop.s3
  exact tapeS_close (s := tpCut ⟨bs, pos, ld, se, la⟩ block) (lastS_close ((blksS_cut h hp).s3.s3)).s1.s2
end
end Go.Proofs.YtfhpaehfihnjaaaGreat.T
namespace Go.Proofs.YtfhpaehfihnjaaaGreat.T
open Go.RowKit
theorem Fit.take {bs : List Blk} (h : Fit bs) (k : Nat) : Fit (bs.take k) := ⟨by have := h.1; rw [List.length_take]; omega, fun b hb => h.2 b (List.mem_of_mem_take hb)⟩
section
variable {W w w' : World} {F : List SA} {tb : Nat} {name : ByteArray} {s : TP}
theorem blksS_push {ps : List BV} {A' : Option Addr} {c' : Nat} {p : BV} (S : SL W (rowT 66 3 (.slice A' (ps.length + 1) c') (ps.length + 1) (ps.flatMap blkCells ++ blkCells p) :: datS p :: star (ps.map datS) :: F) w) :
    SL W (blksS (.slice A' (ps.length + 1) c') (ps.map Prod.snd ++ [p.2]) :: F) w := by
  have h := (SL.snoc (P := datS p) S.s2.s2).s1
  have e : (ps ++ [p]).length = ps.length + 1 := by simp
  have h2 := blksS_close (v := .slice A' (ps.length + 1) c') (ps := ps ++ [p]) (F := F) (w := w) (W := W) (by
    rw [e, List.flatMap_append, List.map_append]
    simpa using h)
  rw [List.map_append] at h2
  exact h2
set_option maxHeartbeats 4000000 in
theorem write_any (b : Blk) (A : Option Addr) (c : Nat) (S : SL W (datS (.slice A b.data.length c, b) :: tapeS tb name s :: F) w) (hp : s.pos ≤ s.bs.length) (hf : Fit s.bs) (h40 : s.bs.length ≤ 4096) :
    Calls Tryz.prog 181 #[.pointer (some ⟨tb, 0, none⟩), .agg #[.bool b.mark, .slice A b.data.length c, .bool b.bad]] w fun e w' => RetS W (tapeS tb name (tpWrite s b).1 :: F) (tpWrite s b).2 e w' := by
  have HD := Lib.hid (check_any 1)
  have HE := Lib.hid done_any
  have H1 : Hid (SL W (cel (w.heap.size + 1) #[.slice none 0 0, .int .i64 0, .int .i64 0] 55 :: cel w.heap.size #[.bool b.mark, .slice A b.data.length c, .bool b.bad] 66 :: datS (.slice A b.data.length c, b) :: tapeS tb name s :: F) ((w.alloc (.cells #[.bool b.mark, .slice A b.data.length c, .bool b.bad] 66)).alloc (.cells #[.slice none 0 0, .int .i64 0, .int .i64 0] 55))) :=
    Lib.hid (by
      have h := (S.allocC #[.bool b.mark, .slice A b.data.length c, .bool b.bad] 66).allocC #[.slice none 0 0, .int .i64 0, .int .i64 0] 55
      rw [World.size_alloc] at h
      exact h)
  have HF := Lib.hid hf
  obtain ⟨v0, lp, S1⟩ := tapeS_open S.s1
  obtain ⟨L0, K0, z0⟩ := S1.look
  clear S S1 hf
  generalize hl : b.data.length = dl at *
  obtain ⟨bs, pos, ld, se, la⟩ := s
  dsimp only at *
  by_cases h : pos = 4096
  · subst h
    go_enter Tryz.func181, Tryz.ntmps181
    go_wp2_with (refine (HD.out _).mono ?_; rintro e w2 ⟨rfl, b2⟩; have H2 := Lib.hid (H1.out.grow b2); clear b2; obtain ⟨L2, K2, z2⟩ := H2.out.look)
    refine bodyPost_ret (v := .agg #[.slice none 0 0, .int .i64 14, .int .i64 1]) (by simp [results, Tryz.results181, go_sem, L2]) rfl ?_
    exact RetS.of (st := 14) (sn := 1) (H2.out.set3.drop.drop.drop)
  · go_enter Tryz.func181, Tryz.ntmps181
    have hn : ((pos : Int) == 4096) = false := by
      rw [beq_eq_false_iff_ne]; omega
    go_wp2_with fail
    refine (cut_any (!b.mark) H1.out.s3 hp HF.out).mono ?_
    rintro e w2 ⟨rfl, S2⟩
    have H2 := Lib.hid S2
    clear S2 H1
    obtain ⟨v2, lp2, S3⟩ := tapeS_open H2.out
    obtain ⟨A2, c2, rfl, _, _⟩ := blksS_slice S3.s1
    obtain ⟨ps, hps, S4⟩ := blksS_open S3.s1
    have hpl : ps.length = pos := by
      have := congrArg List.length hps
      simp [tpCut] at this
      omega
    clear S3 H2 L0 K0 z0
    subst hpl
    have e1 : (List.take ps.length bs).length = ps.length := by rw [List.length_take]; omega
    have hl1 : bs.length ≤ 1048576 := HF.out.1
    simp only [tpCut, e1] at S4
    have H4 := Lib.hid S4
    have HP := Lib.hid hps
    clear S4 hps HF
    go_wp2_with fail
    refine wp_region_order (SL W _) [0] [1, 2, 3, 4, 5] [] [6] [7, 8, 9, 10] (by kernel_rfl) (by kernel_rfl) H4.out.drew (by intro c a d v w h; cases d <;> exact h) ?_
    simp only [pick, List.filterMap_cons, List.filterMap_nil, List.getElem?_cons_zero, List.getElem?_cons_succ]
    (repeat (refine wpPure_step (fun K hK => ?_); go_simp; refine hK _ ?_; clear hK K)); refine wpPure_nil ?_
    repeat (refine wpLoads_step (fun K hK => ?_); go_simp; first | (refine hK _ ?_; clear hK K) | (refine ⟨_, fun wx S => (by obtain ⟨f3, f4, f5⟩ := S.s2.look; obtain ⟨g3, g4, g5⟩ := S.s5.look; go_simp; rfl), hK _ ?_⟩; clear hK K))
    refine wpLoads_nil (wpQuiet_nil ?_)
    intro wq hwq
    have H5 := Lib.hid hwq
    clear hwq H4
    (refine wpKeep_step ?_; intro K hK; go_simp)
    refine hK _ _ (H5.out.alloc _).drop ?_
    clear hK K
    refine wpKeep_nil ?_
    refine wpList_pushT rfl _ _ _ rfl blkElem wq [.bool b.mark, .slice A dl c, .bool b.bad] 1 rfl rfl (by simp [Value.oneCell']) _ ps.length _ rfl rfl H5.out (by unfold maxLen; omega) (by omega) ?_
    intro A6 c6 w6 S6
    have H6 := Lib.hid S6
    clear S6 H5
    have H7 := Lib.hid ((SL.set (off := 1) (v := .slice A6 (ps.length + 1) c6) (cs' := #[.string name, .slice A6 (ps.length + 1) c6, .int .i64 (ps.length : Int), .bool ld, .int .u8 (se : Int), .pointer lp2]) H6.out.s2 rfl).set (off := 2) (v := .int .i64 ((ps.length : Int) + 1)) (cs' := #[.string name, .slice A6 (ps.length + 1) c6, .int .i64 ((ps.length : Int) + 1), .bool ld, .int .u8 (se : Int), .pointer lp2]) rfl)
    obtain ⟨f3, f4, f5⟩ := H6.out.s2.look
    obtain ⟨g3, g4, g5⟩ := H6.out.s4.look
    have hne := (H6.out.s4.s3).cne
    go_wp2_with (refine (HE.out none 0 0 _).mono ?_; rintro e w7 ⟨rfl, b7⟩; have H8 := Lib.hid (H7.out.grow b7).s4; clear b7 g3 g4 g5; obtain ⟨g3, g4, g5⟩ := H8.out.look)
    refine bodyPost_ret (v := .agg #[.slice none 0 0, .int .i64 12, .int .i64 0]) (by simp [results, Tryz.results181, go_sem, g3]) rfl ?_
    have h9 := H8.out.set3 (u0 := .slice none 0 0) (u1 := .int .i64 12) (u2 := .int .i64 0)
    have h10 := blksS_push (p := (.slice A dl c, b)) (h9.drop.s4.drop.s4.s3.s1.s3)
    rw [HP.out] at h10
    have e2 : tpWrite ⟨bs, ps.length, ld, se, la⟩ b = (⟨bs.take ps.length ++ [b], ps.length + 1, ld, se, some (ps.length, bs.drop ps.length, !b.mark)⟩, [], 12, 0) := by
      unfold tpWrite
      rw [if_neg h]
      rfl
    rw [e2]
    exact RetS.of (st := 12) (sn := 0) (tapeS_close (s := ⟨bs.take ps.length ++ [b], ps.length + 1, ld, se, some (ps.length, bs.drop ps.length, !b.mark)⟩) h10.s1)
end
end Go.Proofs.YtfhpaehfihnjaaaGreat.T
namespace Go.Proofs.YtfhpaehfihnjaaaGreat.T
open Go.RowKit
def markAt (bs : List Blk) : Int := match bs.findIdx? (·.mark) with | none => -1 | some k => (k : Int)
theorem markAt_some {bs : List Blk} {k : Nat} {b : Blk} (h : ∀ j c, j < k → bs[j]? = some c → c.mark = false) (hb : bs[k]? = some b) (hm : b.mark = true) : bs.findIdx? (·.mark) = some k := by
  rw [List.findIdx?_eq_some_iff_getElem]
  have hk : k < bs.length := by rw [List.getElem?_eq_some_iff] at hb; exact hb.1
  refine ⟨hk, ?_, fun j hj => ?_⟩
  · rw [List.getElem?_eq_getElem hk] at hb; injection hb with hb; rw [hb]; exact hm
  · have := h j bs[j] hj (List.getElem?_eq_getElem (by omega))
    simp [this]
theorem markAt_none {bs : List Blk} (h : ∀ j c, j < bs.length → bs[j]? = some c → c.mark = false) : bs.findIdx? (·.mark) = none := by
  rw [List.findIdx?_eq_none_iff]
  intro b hb
  obtain ⟨j, hj, rfl⟩ := List.getElem_of_mem hb
  exact h j _ hj (List.getElem?_eq_getElem hj)
section
variable {W w w' : World} {F : List SA}
theorem isMark_any (mk bd : Bool) (A : Option Addr) (n c : Nat) (w : World) : Calls Tryz.prog 186 #[.agg #[.bool mk, .slice A n c, .bool bd]] w fun e w' => e = .returned (.bool mk) ∧ Below w.heap.size w w' := by
  go_enter Tryz.func186, Tryz.ntmps186
  go_wp2
  go_ret
  exact ⟨rfl, by (repeat' (first | (with_reducible exact Below.refl _ _) | (with_reducible assumption) | (with_reducible refine below_drewN ?_ _) | (with_reducible refine Below.drew ?_) | (with_reducible refine Below.alloc ?_ ?_ _) | (with_reducible refine Below.setCell ?_ ?_ _) | (with_reducible refine below_row ?_ ?_ _) | (with_reducible exact Nat.le_refl _) | omega | (simp only [World.size_alloc, World.size_setCell, World.size_drew, World.size_drewN]; omega) | (simp; done) | (simp; omega)))⟩
set_option maxHeartbeats 2000000 in
theorem idx_any (A : Option Addr) (bs : List Blk) (c : Nat) (S : SL W F w) (hr : BlksRd W F A bs) (hl : bs.length ≤ 1048576) :
    Calls Tryz.prog 185 #[.slice A bs.length c, .func (.func 186) #[] #[]] w fun e w' => e = .returned (.int .i64 (markAt bs)) ∧ SL W F w' := by
  have HR := Lib.hid hr
  have HS := Lib.hid S
  clear S hr
  go_enter Tryz.func185, Tryz.ntmps185
  go_wp2
  go_loopw [8] (fun i wr => ∃ k : Nat, k ≤ bs.length ∧ i = .int .i64 k ∧ (∀ j c, j < k → bs[j]? = some c → c.mark = false) ∧ SL W F wr) (fun i _ => bs.length - (intOf i).toNat)
  case atStart => exact ⟨0, Nat.zero_le _, rfl, fun j c h => by omega, HS.out⟩
  case round =>
    obtain ⟨k, hk, rfl, hm, S1⟩ := hrel
    have H1 := Lib.hid S1
    have HM := Lib.hid hm
    clear S1 HS hm
    by_cases hlt : k < bs.length
    · have hb : bs[k]? = some bs[k] := by simp [hlt]
      generalize bs[k] = b at hb
      obtain ⟨g, off, A4, c4, hA, k0, k1, k2, a4, h4, h5⟩ := HR.out wr H1.out k b hb
      subst hA
      have HB := Lib.hid hb
      clear hb
      go_wp2_with (refine (isMark_any b.mark b.bad A4 b.data.length c4 wr).mono ?_; rintro e w2 ⟨rfl, b2⟩; have H2 := Lib.hid (H1.out.grow b2); clear b2)
      · rename_i hmk
        go_ret
        refine ⟨?_, H2.out⟩
        unfold markAt
        rw [markAt_some HM.out HB.out hmk]
        rfl
      · rename_i hmk
        go_roundw
        case rel =>
          refine ⟨k + 1, by omega, by go_num, fun j c hj hc => ?_, H2.out⟩
          by_cases e : j = k
          · subst e
            have h := HB.out
            rw [hc] at h
            injection h with h
            rw [h]; exact hmk
          · exact HM.out j c (by omega) hc
        case measure => simp [intOf]; omega
    · obtain rfl : k = bs.length := by omega
      go_wp2
      go_ret
      refine ⟨?_, H1.out⟩
      unfold markAt
      rw [markAt_none HM.out]
      rfl
end
end Go.Proofs.YtfhpaehfihnjaaaGreat.T
