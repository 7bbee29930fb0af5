/- UnitCuts: the plant while blocks are written. -/
import Derived.Test.YtlbbmfmkhmmikaaGreatWk
import Derived.Test.YtlbbmfmkhmmikaaGreatURdA
namespace Go.Proofs.YtlbbmfmkhmmikaaGreat
open Go.RowKit
def mkB (d : List UInt8) : T.Blk := ⟨d, false, false⟩
def lastC (ds : List (List UInt8)) : Option (Nat × List T.Blk × Bool) := if ds = [] then none else some (ds.length - 1, [], true)
def tpW (ds : List (List UInt8)) : T.TP := ⟨ds.map mkB, ds.length, true, 0, lastC ds⟩
def cutG (tp : T.TP) (u : UN) (la : Option Nat) (off : Bool) : ST :=
  ⟨[mkU cReader (.reader 0 0 0 []), mkU cPunch (.punch 0 []), mkU cPrinter (.printer ⟨0, [], 0⟩), mkU cTape (.tape nmA tp), u], la, off⟩
def uDisk : UN := mkU cDisk (.disk (D.freshDK nmB 1 1))
theorem cutG_plant : plantST = cutG (tpW []) uDisk none false := rfl
section
variable {tp : T.TP} {u : UN} {la : Option Nat} {off : Bool}
theorem cutG_f3 : (cutG tp u la off).find 384 = some 3 := rfl
theorem cutG_f1 : (cutG tp u la off).find 13 = some 1 := rfl
theorem cutG_f4 : (cutG tp uDisk la off).find 400 = some 4 := rfl
theorem tpW_do {ds : List (List UInt8)} {b : List UInt8} (hl : ds.length < 4096) (h1 : 1 ≤ b.length) (h2 : b.length ≤ 1024) : T.tpDo (tpW ds) 1 b = (tpW (ds ++ [b]), [], 12, 0) := by
  have h : T.tpPerform { tpW ds with last := none } 1 b = (tpW (ds ++ [b]), [], 12, 0) := by
    unfold T.tpPerform
    rw [if_neg (by decide), if_neg (by decide), if_neg (by simp), if_neg (by simp [tpW]), if_pos rfl, if_neg (by omega)]
    unfold T.tpWrite
    rw [if_neg (by show ¬ ds.length = 4096; omega)]
    simp [tpW, T.tpCut, lastC, mkB]
    exact List.take_of_length_le (by simp)
  unfold T.tpDo
  rw [h]
  rfl
theorem cutG_settle (h : la = none ∨ la = some 3) : (cutG tp u la off).settle 3 = (cutG tp u la off).us := by rcases h with rfl | rfl <;> rfl
theorem cutG_write {ds : List (List UInt8)} {b : List UInt8} (h : la = none ∨ la = some 3) (hl : ds.length < 4096) (h1 : 1 ≤ b.length) (h2 : b.length ≤ 1024) : (cutG (tpW ds) u la false).act 384 1 b = (cutG (tpW (ds ++ [b])) u (some 3) false, [], 12, 0) := by
  unfold ST.act
  rw [cutG_f3]
  dsimp only
  have hu : (cutG (tpW ds) u la false).us[3]? = some (mkU cTape (.tape nmA (tpW ds))) := rfl
  rw [if_neg (by show ¬ false = true; decide), hu]
  dsimp only
  have hc : (mkU cTape (.tape nmA (tpW ds))).cmd 1 b = (mkU cTape (.tape nmA (tpW (ds ++ [b]))), [], 12, 0) := by
    unfold UN.cmd UN.run
    rw [if_neg (by decide), if_neg (by exact Nat.lt_irrefl 0), if_neg (by exact Nat.lt_irrefl 0)]
    unfold Dev.act
    dsimp only [mkU]
    rw [tpW_do hl h1 h2]
    rfl
  rw [if_neg (fun h => absurd h.1 (by decide)), cutG_settle h, hc]
  rfl
/-- The tape as it lies when another unit has worked. -/
def tpS (tp : T.TP) (la : Option Nat) : T.TP := if la = some 3 then (T.tpUndo tp 0).1 else tp
theorem cutG_other {op : Int} (h : la = none ∨ la = some 3) (ho : op ≠ 4) : (cutG tp uDisk la false).act 400 op [] = (cutG (tpS tp la) (uDisk.cmd op []).1 (some 4) false, (uDisk.cmd op []).2) := by
  unfold ST.act
  rw [cutG_f4]
  dsimp only
  have hu : (cutG tp uDisk la false).us[4]? = some uDisk := rfl
  rw [if_neg (by show ¬ false = true; decide), hu]
  dsimp only
  rw [if_neg (fun h => absurd h.1 ho)]
  rcases h with rfl | rfl <;> rfl
theorem cutG_cut {how : Int} (h : ¬ (how < 0 ∨ 2 < how)) : (cutG tp u la false).cut how = (cutG (T.tpUndo tp how).1 (u.undo how) la true, 0) := by
  unfold ST.cut
  rw [if_neg h]
  rfl
theorem cutG_cut2 {how : Int} (h : ¬ (how < 0 ∨ 2 < how)) : (cutG tp u la true).cut how = (cutG tp u la true, 171) := by
  unfold ST.cut
  rw [if_neg h]
  rfl
theorem cutG_off3 {l : List UInt8} : (cutG tp u la true).act 384 1 l = (cutG tp u la true, [], 14, 64) := by
  unfold ST.act
  rw [cutG_f3]
  rfl
theorem cutG_off1 {l : List UInt8} : (cutG tp u la true).act 13 1 l = (cutG tp u la true, [], 14, 64) := by
  unfold ST.act
  rw [cutG_f1]
  rfl
theorem cutG_up : (cutG tp u la true).up = (cutG (T.tpPower tp) u.up none false, 0) := by
  unfold ST.up
  rfl
theorem cutG_up2 : (cutG tp u la false).up = (cutG tp u la false, 8) := by
  unfold ST.up
  rfl
/-- The blocks that the tape must have. -/
def wantC (ds : List (List UInt8)) (how : Nat) (other : Bool) : List T.Blk :=
  if other then ds.map mkB else if how = 1 then (ds.map mkB).take (ds.length - 1) else if how = 2 ∧ ds ≠ [] then (ds.map mkB).modify (ds.length - 1) (fun b => { b with bad := true }) else ds.map mkB
theorem undo_bs (ds : List (List UInt8)) {how : Nat} (h : how < 3) : (T.tpUndo (tpW ds) how).1.bs = wantC ds how false := by
  by_cases he : ds = []
  · subst he
    match how, h with
    | 0, _ => rfl
    | 1, _ => rfl
    | 2, _ => rfl
  · have hl : (tpW ds).last = some (ds.length - 1, [], true) := by simp [tpW, lastC, he]
    unfold T.tpUndo wantC
    rw [hl]
    match how, h with
    | 0, _ => simp [tpW]
    | 1, _ => simp [tpW]
    | 2, _ => simp [tpW, he]
theorem tpS_bs {ds : List (List UInt8)} : (tpS (tpW ds) la).bs = ds.map mkB := by
  unfold tpS
  split
  · unfold T.tpUndo
    cases (tpW ds).last with
    | none => rfl
    | some p => obtain ⟨a, o, k⟩ := p; simp [tpW]
  · rfl
/-- What is left of the tape after a cut when another unit came last. -/
theorem tpS_cut {ds : List (List UInt8)} {how : Int} (h : la = some 3 ∨ ds = []) : (T.tpUndo (tpS (tpW ds) la) how).1.bs = ds.map mkB := by
  have hn : (tpS (tpW ds) la).last = none := by
    rcases h with rfl | rfl
    · unfold tpS
      rw [if_pos rfl]
      unfold T.tpUndo
      cases hl : (tpW ds).last with
      | none => simp [hl]
      | some p => obtain ⟨a, o, k⟩ := p; simp
    · unfold tpS
      split
      · rfl
      · rfl
  unfold T.tpUndo
  rw [hn]
  exact tpS_bs
end
end Go.Proofs.YtlbbmfmkhmmikaaGreat
namespace Go.Proofs.YtlbbmfmkhmmikaaGreat
open Go.RowKit
theorem rowS_short {W w : World} {F : List SA} {e : TypeId} {A : Option Addr} {n c k : Nat} {xs : List Value} (S : SL W (rowS e 1 (.slice A n c) n xs :: F) w) (hk : k ≤ n) : SL W (rowS e 1 (.slice A k c) k (xs.take k) :: F) w := by
  by_cases h0 : n = 0
  · subst h0
    obtain rfl : k = 0 := by omega
    have h := S.own.1
    obtain rfl : xs = [] := List.eq_nil_of_length_eq_zero (by omega)
    simpa using S
  · obtain ⟨x, cap, cur, hv, h1, h2, h3, h4, S'⟩ := S.rowCel (by omega)
    injection hv with hA _ hc
    subst hA; subst hc
    exact SL.head S' (rowS_pts (by omega) h2 h3 (by rw [← h4, List.take_take, Nat.mul_one, Nat.mul_one, Nat.min_eq_left hk]))
theorem _root_.Go.Proofs.YtlbbmfmkhmmikaaGreat.T.BlksAt.take' {w : World} {A : Option Addr} {bs : List T.Blk} (h : T.BlksAt w A bs) (k : Nat) : T.BlksAt w A (bs.take k) := fun i b hb => h i b (by
  rw [List.getElem?_take] at hb
  split at hb
  · exact hb
  · cases hb)
theorem bc_take (l : List UInt8) (n : Nat) : Lib.byteCells (l.take n) = (Lib.byteCells l).take n := by simp [Lib.byteCells]
def normC (d : List UInt8) : List UInt8 := if d.length = 0 then [0] else d.take 60
theorem normC_len (d : List UInt8) : 1 ≤ (normC d).length ∧ (normC d).length ≤ 60 := by
  unfold normC
  split
  · simp
  · simp; omega
def dsOf (l : List U.CardV) (k : Nat) : List (List UInt8) := (l.take k).map fun c => normC c.2.1
theorem dsOf_len {l : List U.CardV} {k : Nat} (h : k ≤ l.length) : (dsOf l k).length = k := by simp [dsOf, h]
theorem dsOf_succ {l : List U.CardV} {k : Nat} {c : U.CardV} (h : l[k]? = some c) : dsOf l (k + 1) = dsOf l k ++ [normC c.2.1] := by
  unfold dsOf
  rw [List.take_add_one, h]
  simp
end Go.Proofs.YtlbbmfmkhmmikaaGreat
