/- Blocks of a tape as assertions that lie apart. -/
import Derived.Test.YtbbokikjpabfkaaSepT
namespace Go.Proofs.Ytbbokikjpabfkaa
open Go.RowKit

structure Blk where
  data : List UInt8
  mark : Bool
  bad : Bool
abbrev BV := Value × Blk
def blkCells (p : BV) : List Value := [.bool p.2.mark, p.1, .bool p.2.bad]
/-- The bytes of a block: a row of the call's own. -/
def datS (p : BV) : SA := rowS 5 1 p.1 p.2.data.length (Lib.byteCells p.2.data)
def blksS (v : Value) (bs : List Blk) : SA := fun h => ∃ ps : List BV, ps.map Prod.snd = bs ∧ star [rowT 25 3 v ps.length (ps.flatMap blkCells), star (ps.map datS)] h
theorem blkCells_get : ∀ (ps : List BV) (i k : Nat) (p : BV), ps[i]? = some p → k < 3 → (ps.flatMap blkCells)[i * 3 + k]? = (blkCells p)[k]?
  | [], i, k, p, h, _ => by simp at h
  | q :: ps, 0, k, p, h, hk => by
    simp at h; subst h
    simp only [List.flatMap_cons, Nat.zero_mul, Nat.zero_add]
    rw [List.getElem?_append_left (by simp [blkCells]; omega)]
  | q :: ps, i + 1, k, p, h, hk => by
    simp only [List.flatMap_cons]
    rw [List.getElem?_append_right (by simp [blkCells]; omega), show (i + 1) * 3 + k - (blkCells q).length = i * 3 + k by simp [blkCells]; omega]
    exact blkCells_get ps i k p (by simpa using h) hk
section
variable {W w w' : World} {F : List SA}
theorem blksS_open {v : Value} {bs : List Blk} (S : SL W (blksS v bs :: F) w) : ∃ ps : List BV, ps.map Prod.snd = bs ∧ SL W (rowT 25 3 v ps.length (ps.flatMap blkCells) :: star (ps.map datS) :: F) w :=
  SL.unpack (α := List BV) (φ := fun ps : List BV => ps.map Prod.snd = bs) (K := fun ps : List BV => [rowT 25 3 v ps.length (ps.flatMap blkCells), star (ps.map datS)]) S (by
    rintro h ⟨ps, e, s⟩
    exact ⟨ps, e, s⟩)
theorem blksS_close {v : Value} {ps : List BV} (S : SL W (rowT 25 3 v ps.length (ps.flatMap blkCells) :: star (ps.map datS) :: F) w) : SL W (blksS v (ps.map Prod.snd) :: F) w :=
  SL.pack (L := [rowT 25 3 v ps.length (ps.flatMap blkCells), star (ps.map datS)]) S fun _ h => ⟨ps, rfl, h⟩
end
end Go.Proofs.Ytbbokikjpabfkaa
