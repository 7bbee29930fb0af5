import Derived.Test.YtheiickihjcdlaaECaw
import Derived.Test.YtheiickihjcdlaaWorks
import Derived.Test.YtheiickihjcdlaaDec8
import Derived.Laws.StructEq
namespace Go.Proofs.Ytheiickihjcdlaa
open Go.RowKit

/-- What a list of bytes says as a command word: the eight fields, and whether it is one. -/
def dC (l : List UInt8) : Array Value := match l with | [x0, x1, x2, x3, x4, _, x6, x7] => decC x0 x1 x2 x3 x4 x6 x7 | _ => ccwZero
def dB (l : List UInt8) : Bool := match l with | [x0, _, _, _, x4, _, x6, x7] => decB x0 x4 x6 x7 | _ => false
def sC (l : List UInt8) : Array Value := match l with | [x0, x1, x2, x3, x4, x5, x6, x7] => decS x0 x1 x2 x3 x4 x5 x6 x7 | _ => cswZero
def sB (l : List UInt8) : Bool := match l with | [x0, _, _, _, _, _, _, _] => decide (x0.toNat % 16 = 0) | _ => false
def kK (l : List UInt8) : Int := match l with | [x0, _, _, x3] => cawKey x0 x3 | _ => 0
def kA (l : List UInt8) : Int := match l with | [x0, x1, x2, x3] => cawAddr x0 x1 x2 x3 | _ => 0
def kB (l : List UInt8) : Bool := match l with | [x0, _, _, x3] => cawOk x0 x3 | _ => false

theorem list8 (l : List UInt8) : (∃ x0 x1 x2 x3 x4 x5 x6 x7, l = [x0, x1, x2, x3, x4, x5, x6, x7]) ∨ (l.length ≠ 8 ∧ dC l = ccwZero ∧ dB l = false ∧ sC l = cswZero ∧ sB l = false) := by
  match l with
  | [x0, x1, x2, x3, x4, x5, x6, x7] => exact Or.inl ⟨_, _, _, _, _, _, _, _, rfl⟩
  | [] => exact Or.inr ⟨by simp, rfl, rfl, rfl, rfl⟩
  | [_] => exact Or.inr ⟨by simp, rfl, rfl, rfl, rfl⟩
  | [_, _] => exact Or.inr ⟨by simp, rfl, rfl, rfl, rfl⟩
  | [_, _, _] => exact Or.inr ⟨by simp, rfl, rfl, rfl, rfl⟩
  | [_, _, _, _] => exact Or.inr ⟨by simp, rfl, rfl, rfl, rfl⟩
  | [_, _, _, _, _] => exact Or.inr ⟨by simp, rfl, rfl, rfl, rfl⟩
  | [_, _, _, _, _, _] => exact Or.inr ⟨by simp, rfl, rfl, rfl, rfl⟩
  | [_, _, _, _, _, _, _] => exact Or.inr ⟨by simp, rfl, rfl, rfl, rfl⟩
  | _ :: _ :: _ :: _ :: _ :: _ :: _ :: _ :: _ :: _ => exact Or.inr ⟨by simp, rfl, rfl, rfl, rfl⟩
theorem list4 (l : List UInt8) : (∃ x0 x1 x2 x3, l = [x0, x1, x2, x3]) ∨ (l.length ≠ 4 ∧ kK l = 0 ∧ kA l = 0 ∧ kB l = false) := by
  match l with
  | [x0, x1, x2, x3] => exact Or.inl ⟨_, _, _, _, rfl⟩
  | [] => exact Or.inr ⟨by simp, rfl, rfl, rfl⟩
  | [_] => exact Or.inr ⟨by simp, rfl, rfl, rfl⟩
  | [_, _] => exact Or.inr ⟨by simp, rfl, rfl, rfl⟩
  | [_, _, _] => exact Or.inr ⟨by simp, rfl, rfl, rfl⟩
  | _ :: _ :: _ :: _ :: _ :: _ => exact Or.inr ⟨by simp, rfl, rfl, rfl⟩

section
variable (A : Option Addr) (l : List UInt8) (c : Nat) (w : World) (ha : At w w.heap.size A (Lib.byteCells l)) (hc : l.length ≤ c)
include ha
theorem decode_l : Calls Try.prog 15 #[.slice A l.length c] w fun e w' => e = .returned (.tuple #[.agg (dC l), .bool (dB l)]) ∧ Below w.heap.size w w' := by
  rcases list8 l with ⟨x0, x1, x2, x3, x4, x5, x6, x7, rfl⟩ | ⟨hl, h1, h2, _, _⟩
  · exact decode_8 A x0 x1 x2 x3 x4 x5 x6 x7 c w ha
  · rw [h1, h2]; exact decode_no A l.length c w hl
theorem decodeCsw_l : Calls Try.prog 17 #[.slice A l.length c] w fun e w' => e = .returned (.tuple #[.agg (sC l), .bool (sB l)]) ∧ Below w.heap.size w w' := by
  rcases list8 l with ⟨x0, x1, x2, x3, x4, x5, x6, x7, rfl⟩ | ⟨hl, _, _, h1, h2⟩
  · obtain ⟨b, off, rfl, _⟩ := ha (by simp [Lib.byteCells])
    exact decodeCsw_8 b off x0 x1 x2 x3 x4 x5 x6 x7 c w ha
  · rw [h1, h2]; exact decodeCsw_no A l.length c w hl
theorem caw_l : Calls Try.prog 19 #[.slice A l.length c] w fun e w' => e = .returned (.tuple #[.int .i64 (kK l), .int .i64 (kA l), .bool (kB l)]) ∧ Still w w' := by
  rcases list4 l with ⟨x0, x1, x2, x3, rfl⟩ | ⟨hl, h1, h2, h3⟩
  · obtain ⟨b, off, rfl, _⟩ := ha (by simp [Lib.byteCells])
    exact caw_4 b off x0 x1 x2 x3 c w ha
  · rw [h1, h2, h3]; exact caw_no A l.length c w hl
include hc
theorem rdecode_l : Calls Try.prog 16 #[.slice A l.length c] w fun e w' => e = .returned (.tuple #[.agg (dC l), .bool (dB l)]) ∧ Below w.heap.size w w' := by
  rcases list8 l with ⟨x0, x1, x2, x3, x4, x5, x6, x7, rfl⟩ | ⟨hl, h1, h2, _, _⟩
  · obtain ⟨b, off, rfl, _⟩ := ha (by simp [Lib.byteCells])
    exact rdecode_8 b off x0 x1 x2 x3 x4 x5 x6 x7 c w ha hc
  · rw [h1, h2]; exact rdecode_no A l.length c w hl
theorem rdecodeCsw_l : Calls Try.prog 18 #[.slice A l.length c] w fun e w' => e = .returned (.tuple #[.agg (sC l), .bool (sB l)]) ∧ Below w.heap.size w w' := by
  rcases list8 l with ⟨x0, x1, x2, x3, x4, x5, x6, x7, rfl⟩ | ⟨hl, _, _, h1, h2⟩
  · obtain ⟨b, off, rfl, _⟩ := ha (by simp [Lib.byteCells])
    exact rdecodeCsw_8 b off x0 x1 x2 x3 x4 x5 x6 x7 c w ha hc
  · rw [h1, h2]; exact rdecodeCsw_no A l.length c w hl
theorem rcaw_l : Calls Try.prog 20 #[.slice A l.length c] w fun e w' => e = .returned (.tuple #[.int .i64 (kK l), .int .i64 (kA l), .bool (kB l)]) ∧ Still w w' := by
  rcases list4 l with ⟨x0, x1, x2, x3, rfl⟩ | ⟨hl, h1, h2, h3⟩
  · obtain ⟨b, off, rfl, _⟩ := ha (by simp [Lib.byteCells])
    exact rcaw_4 b off x0 x1 x2 x3 c w ha hc
  · rw [h1, h2, h3]; exact rcaw_no A l.length c w hl
end

theorem dC_cells (l : List UInt8) : ∃ (op addr count : Int) (cd cc sli skip pci : Bool), dC l = ccwCells op addr count cd cc sli skip pci := by
  rcases list8 l with ⟨x0, x1, x2, x3, x4, x5, x6, x7, rfl⟩ | ⟨_, h, _⟩
  · show ∃ (op addr count : Int) (cd cc sli skip pci : Bool), decC x0 x1 x2 x3 x4 x6 x7 = _
    unfold decC
    split
    · exact ⟨_, _, _, _, _, _, _, _, rfl⟩
    · split
      · exact ⟨_, _, _, _, _, _, _, _, rfl⟩
      · split
        · exact ⟨_, _, _, _, _, _, _, _, rfl⟩
        · exact ⟨_, _, _, _, _, _, _, _, rfl⟩
  · exact ⟨_, _, _, _, _, _, _, _, h⟩
theorem sC_cells (l : List UInt8) : ∃ key addr unit chan count : Int, sC l = cswCells key addr unit chan count := by
  rcases list8 l with ⟨x0, x1, x2, x3, x4, x5, x6, x7, rfl⟩ | ⟨_, _, _, h, _⟩
  · show ∃ key addr unit chan count : Int, decS x0 x1 x2 x3 x4 x5 x6 x7 = _
    unfold decS
    split
    · exact ⟨_, _, _, _, _, rfl⟩
    · exact ⟨0, 0, 0, 0, 0, rfl⟩
  · exact ⟨0, 0, 0, 0, 0, h⟩

set_option maxHeartbeats 2000000 in
theorem walk_ccwDecodes (w : World) (A : Option Addr) (l : List UInt8) (c : Nat) (hlc : l.length ≤ c) (_hcm : c ≤ maxLen) (ha : At w w.heap.size A (Lib.byteCells l)) :
    Calls Try.prog 5 #[.slice A l.length c] w fun e w' => e = .returned (.bool true) ∧ Below w.heap.size w w' := by
  obtain ⟨op, addr, count, cd, cc, sli, skip, pci, hC⟩ := dC_cells l
  obtain ⟨key, sa, unit, chan, sn, hS⟩ := sC_cells l
  have K1 := Lib.hid (fun (w' : World) (h : Below w.heap.size w w') => decode_l A l c w' ((ha.below h).mono h.size))
  have K2 := Lib.hid (fun (w' : World) (h : Below w.heap.size w w') => rdecode_l A l c w' ((ha.below h).mono h.size) hlc)
  have K3 := Lib.hid (fun (w' : World) (h : Below w.heap.size w w') => decodeCsw_l A l c w' ((ha.below h).mono h.size))
  have K4 := Lib.hid (fun (w' : World) (h : Below w.heap.size w w') => rdecodeCsw_l A l c w' ((ha.below h).mono h.size) hlc)
  have K5 := Lib.hid (fun (w' : World) (h : Below w.heap.size w w') => caw_l A l c w' ((ha.below h).mono h.size))
  have K6 := Lib.hid (fun (w' : World) (h : Below w.heap.size w w') => rcaw_l A l c w' ((ha.below h).mono h.size) hlc)
  rw [hC] at K1 K2
  rw [hS] at K3 K4
  unfold ccwCells at K1 K2
  unfold cswCells at K3 K4
  clear hC hS ha
  generalize dB l = dok at *
  generalize sB l = sok at *
  generalize kK l = kk at *
  generalize kA l = ka at *
  generalize kB l = kok at *
  go_enter Try.func5, Try.ntmps5
  go_wp2_with fail
  refine (K1.out _ (Below.refl _ _)).mono ?_
  rintro e w1 ⟨rfl, b1⟩
  have z1 := b1.size
  go_wp2_with fail
  refine (K2.out _ (by (repeat' (first | (with_reducible exact Below.refl _ _) | (with_reducible assumption) | (with_reducible refine below_drewN ?_ _) | (with_reducible refine Below.drew ?_) | (with_reducible refine Below.alloc ?_ ?_ _) | (with_reducible refine Below.setCell ?_ ?_ _) | (with_reducible refine below_row ?_ ?_ _) | (with_reducible exact Nat.le_refl _) | omega | (simp only [World.size_alloc, World.size_setCell, World.size_drew, World.size_drewN]; omega) | (simp; done) | (simp; omega))))).mono ?_
  rintro e w2 ⟨rfl, b2⟩
  obtain ⟨r1, z2, b2'⟩ := alloc_call b2
  have B2 : Below w.heap.size w w2 := b1.trans (b2'.mono z1)
  have R1 := Lib.hid r1
  clear r1 b2 b2' b1
  go_wp2_with fail
  refine (K3.out _ (by (repeat' (first | (with_reducible exact Below.refl _ _) | (with_reducible assumption) | (with_reducible refine below_drewN ?_ _) | (with_reducible refine Below.drew ?_) | (with_reducible refine Below.alloc ?_ ?_ _) | (with_reducible refine Below.setCell ?_ ?_ _) | (with_reducible refine below_row ?_ ?_ _) | (with_reducible exact Nat.le_refl _) | omega | (simp only [World.size_alloc, World.size_setCell, World.size_drew, World.size_drewN]; omega) | (simp; done) | (simp; omega))))).mono ?_
  rintro e w3 ⟨rfl, b3⟩
  obtain ⟨r2, z3, b3'⟩ := alloc_call b3
  have R1' := Lib.hid (hl_below b3' (by omega) R1.out)
  have B3 : Below w.heap.size w w3 := B2.trans (b3'.mono B2.size)
  have R2 := Lib.hid r2
  clear r2 b3 b3' R1 B2
  go_wp2_with fail
  refine (K4.out _ (by (repeat' (first | (with_reducible exact Below.refl _ _) | (with_reducible assumption) | (with_reducible refine below_drewN ?_ _) | (with_reducible refine Below.drew ?_) | (with_reducible refine Below.alloc ?_ ?_ _) | (with_reducible refine Below.setCell ?_ ?_ _) | (with_reducible refine below_row ?_ ?_ _) | (with_reducible exact Nat.le_refl _) | omega | (simp only [World.size_alloc, World.size_setCell, World.size_drew, World.size_drewN]; omega) | (simp; done) | (simp; omega))))).mono ?_
  rintro e w4 ⟨rfl, b4⟩
  obtain ⟨r3, z4, b4'⟩ := alloc_call b4
  have R1 := Lib.hid (hl_below b4' (by omega) R1'.out)
  have R2' := Lib.hid (hl_below b4' (by omega) R2.out)
  have B4 : Below w.heap.size w w4 := B3.trans (b4'.mono B3.size)
  have R3 := Lib.hid r3
  clear r3 b4 b4' R1' R2 B3
  go_wp2_with fail
  refine (K5.out _ (by (repeat' (first | (with_reducible exact Below.refl _ _) | (with_reducible assumption) | (with_reducible refine below_drewN ?_ _) | (with_reducible refine Below.drew ?_) | (with_reducible refine Below.alloc ?_ ?_ _) | (with_reducible refine Below.setCell ?_ ?_ _) | (with_reducible refine below_row ?_ ?_ _) | (with_reducible exact Nat.le_refl _) | omega | (simp only [World.size_alloc, World.size_setCell, World.size_drew, World.size_drewN]; omega) | (simp; done) | (simp; omega))))).mono ?_
  rintro e w5 ⟨rfl, ⟨m5, rfl⟩⟩
  go_wp2_with fail
  refine (K6.out _ (by (repeat' (first | (with_reducible exact Below.refl _ _) | (with_reducible assumption) | (with_reducible refine below_drewN ?_ _) | (with_reducible refine Below.drew ?_) | (with_reducible refine Below.alloc ?_ ?_ _) | (with_reducible refine Below.setCell ?_ ?_ _) | (with_reducible refine below_row ?_ ?_ _) | (with_reducible exact Nat.le_refl _) | omega | (simp only [World.size_alloc, World.size_setCell, World.size_drew, World.size_drewN]; omega) | (simp; done) | (simp; omega))))).mono ?_
  rintro e w6 ⟨rfl, ⟨m6, rfl⟩⟩
  obtain ⟨L1, _, _⟩ := row_look R1.out
  obtain ⟨L2, _, _⟩ := row_look R2'.out
  obtain ⟨L3, _, _⟩ := row_look R3.out
  go_wp2_with fail
  refine (works_any _).mono ?_
  rintro e w7 ⟨rfl, b7⟩
  go_wp2_with fail
  go_ret
  have z4 := B4.size
  exact ⟨rfl, Below.trans (by (repeat' (first | (with_reducible exact Below.refl _ _) | (with_reducible assumption) | (with_reducible refine below_drewN ?_ _) | (with_reducible refine Below.drew ?_) | (with_reducible refine Below.alloc ?_ ?_ _) | (with_reducible refine Below.setCell ?_ ?_ _) | (with_reducible refine below_row ?_ ?_ _) | (with_reducible exact Nat.le_refl _) | omega | (simp only [World.size_alloc, World.size_setCell, World.size_drew, World.size_drewN]; omega) | (simp; done) | (simp; omega)))) (b7.mono (by (repeat' (first | (with_reducible exact Below.refl _ _) | (with_reducible assumption) | (with_reducible refine below_drewN ?_ _) | (with_reducible refine Below.drew ?_) | (with_reducible refine Below.alloc ?_ ?_ _) | (with_reducible refine Below.setCell ?_ ?_ _) | (with_reducible refine below_row ?_ ?_ _) | (with_reducible exact Nat.le_refl _) | omega | (simp only [World.size_alloc, World.size_setCell, World.size_drew, World.size_drewN]; omega) | (simp; done) | (simp; omega)))))⟩

end Go.Proofs.Ytheiickihjcdlaa
