import Derived.Test.YtheiickihjcdlaaRDec
namespace Go.Proofs.Ytheiickihjcdlaa
open Go.RowKit

def cswZero : Array Value := #[.int .i64 0, .int .i64 0, .int .i64 0, .int .i64 0, .int .i64 0]
def cswCells (key addr unit chan count : Int) : Array Value := #[.int .i64 key, .int .i64 addr, .int .i64 unit, .int .i64 chan, .int .i64 count]
def decS (x0 x1 x2 x3 x4 x5 x6 x7 : UInt8) : Array Value :=
  if x0.toNat % 16 = 0 then cswCells ((x0.toNat / 16 : Nat) : Int) (adOf x1 x2 x3) x4.toNat x5.toNat (cntOf x6 x7) else cswZero

set_option maxHeartbeats 1000000 in
theorem decodeCsw_no (A : Option Addr) (len c : Nat) (w : World) (hl : len ≠ 8) :
    Calls Try.prog 17 #[.slice A len c] w fun e w' => e = .returned (.tuple #[.agg cswZero, .bool false]) ∧ Below w.heap.size w w' := by
  have q : ((len : Int) != 8) = true := by rw [bne_iff_ne]; omega
  go_enter Try.func17, Try.ntmps17
  go_wp2
  refine bodyPost_ret (v := .tuple #[.agg cswZero, .bool false]) (by simp [results, Try.results17, go_sem, cswZero]) rfl ⟨rfl, by (repeat' (first | (with_reducible exact Below.refl _ _) | (with_reducible assumption) | (with_reducible refine below_drewN ?_ _) | (with_reducible refine Below.drew ?_) | (with_reducible refine Below.alloc ?_ ?_ _) | (with_reducible refine Below.setCell ?_ ?_ _) | (with_reducible refine below_row ?_ ?_ _) | (with_reducible exact Nat.le_refl _) | omega | (simp only [World.size_alloc, World.size_setCell, World.size_drew, World.size_drewN]; omega) | (simp; done) | (simp; omega)))⟩

set_option maxHeartbeats 1000000 in
theorem rdecodeCsw_no (A : Option Addr) (len c : Nat) (w : World) (hl : len ≠ 8) :
    Calls Try.prog 18 #[.slice A len c] w fun e w' => e = .returned (.tuple #[.agg cswZero, .bool false]) ∧ Below w.heap.size w w' := by
  have q : ((len : Int) != 8) = true := by rw [bne_iff_ne]; omega
  go_enter Try.func18, Try.ntmps18
  go_wp2
  refine bodyPost_ret (v := .tuple #[.agg cswZero, .bool false]) (by simp [results, Try.results18, go_sem, cswZero]) rfl ⟨rfl, by (repeat' (first | (with_reducible exact Below.refl _ _) | (with_reducible assumption) | (with_reducible refine below_drewN ?_ _) | (with_reducible refine Below.drew ?_) | (with_reducible refine Below.alloc ?_ ?_ _) | (with_reducible refine Below.setCell ?_ ?_ _) | (with_reducible refine below_row ?_ ?_ _) | (with_reducible exact Nat.le_refl _) | omega | (simp only [World.size_alloc, World.size_setCell, World.size_drew, World.size_drewN]; omega) | (simp; done) | (simp; omega)))⟩

set_option maxHeartbeats 1000000 in
theorem rdecode_no (A : Option Addr) (len c : Nat) (w : World) (hl : len ≠ 8) :
    Calls Try.prog 16 #[.slice A len c] w fun e w' => e = .returned (.tuple #[.agg ccwZero, .bool false]) ∧ Below w.heap.size w w' := by
  have q : ((len : Int) != 8) = true := by rw [bne_iff_ne]; omega
  go_enter Try.func16, Try.ntmps16
  go_wp2
  refine bodyPost_ret (v := .tuple #[.agg ccwZero, .bool false]) (by simp [results, Try.results16, go_sem, ccwZero, ccwCells]) rfl ⟨rfl, by (repeat' (first | (with_reducible exact Below.refl _ _) | (with_reducible assumption) | (with_reducible refine below_drewN ?_ _) | (with_reducible refine Below.drew ?_) | (with_reducible refine Below.alloc ?_ ?_ _) | (with_reducible refine Below.setCell ?_ ?_ _) | (with_reducible refine below_row ?_ ?_ _) | (with_reducible exact Nat.le_refl _) | omega | (simp only [World.size_alloc, World.size_setCell, World.size_drew, World.size_drewN]; omega) | (simp; done) | (simp; omega)))⟩

theorem addrOf_8 (b off : Nat) (x0 x1 x2 x3 x4 x5 x6 x7 : UInt8) (c : Nat) (w : World) (ha : At w w.heap.size (some ⟨b, off, none⟩) (Lib.byteCells [x0, x1, x2, x3, x4, x5, x6, x7])) :
    Calls Try.prog 31 #[.slice (some ⟨b, off, none⟩) 8 c] w fun e w' => e = .returned (.int .i64 (adOf x1 x2 x3)) ∧ Still w w' := addrOf_any _ [x0, x1, x2, x3, x4, x5, x6, x7] c w ha (by simp) (by simp)
theorem countOf_8 (b off : Nat) (x0 x1 x2 x3 x4 x5 x6 x7 : UInt8) (c : Nat) (w : World) (ha : At w w.heap.size (some ⟨b, off, none⟩) (Lib.byteCells [x0, x1, x2, x3, x4, x5, x6, x7])) :
    Calls Try.prog 33 #[.slice (some ⟨b, off, none⟩) 8 c] w fun e w' => e = .returned (.int .i64 (cntOf x6 x7)) ∧ Still w w' := countOf_any _ [x0, x1, x2, x3, x4, x5, x6, x7] c w ha (by simp) (by simp)

theorem number_3 (b off : Nat) (x0 x1 x2 x3 x4 x5 x6 x7 : UInt8) (c : Nat) (w : World) (ha : At w w.heap.size (some ⟨b, off, none⟩) (Lib.byteCells [x0, x1, x2, x3, x4, x5, x6, x7])) :
    Calls Try.prog 34 #[.slice (some ⟨b, off + 1, none⟩) 3 (c - 1)] w fun e w' => e = .returned (.int .i64 (adOf x1 x2 x3)) ∧ w = w' := by
  have hn1 : ((numOf [x1, x2, x3] : Nat) : Int) = adOf x1 x2 x3 := by simp [numOf, adOf]; omega
  rw [← hn1]
  exact rnumber_any (some ⟨b, off + 1, none⟩) [x1, x2, x3] (c - 1) w (at_sub ha 1 3) (by simp)
theorem number_2 (b off : Nat) (x0 x1 x2 x3 x4 x5 x6 x7 : UInt8) (c : Nat) (w : World) (ha : At w w.heap.size (some ⟨b, off, none⟩) (Lib.byteCells [x0, x1, x2, x3, x4, x5, x6, x7])) :
    Calls Try.prog 34 #[.slice (some ⟨b, off + 6, none⟩) 2 (c - 6)] w fun e w' => e = .returned (.int .i64 (cntOf x6 x7)) ∧ w = w' := by
  have hn2 : ((numOf [x6, x7] : Nat) : Int) = cntOf x6 x7 := by simp [numOf, cntOf]; omega
  rw [← hn2]
  exact rnumber_any (some ⟨b, off + 6, none⟩) [x6, x7] (c - 6) w (at_sub ha 6 2) (by simp)

set_option maxHeartbeats 2000000 in
theorem decodeCsw_8 (b off : Nat) (x0 x1 x2 x3 x4 x5 x6 x7 : UInt8) (c : Nat) (w : World) (ha : At w w.heap.size (some ⟨b, off, none⟩) (Lib.byteCells [x0, x1, x2, x3, x4, x5, x6, x7])) :
    Calls Try.prog 17 #[.slice (some ⟨b, off, none⟩) 8 c] w fun e w' => e = .returned (.tuple #[.agg (decS x0 x1 x2 x3 x4 x5 x6 x7), .bool (decide (x0.toNat % 16 = 0))]) ∧ Below w.heap.size w w' := by
  have HA := Lib.hid ha
  obtain ⟨b', off', e, hbl, hc⟩ := ha (by simp [Lib.byteCells])
  injection e with e; injection e with e1 e2; subst e1; subst e2
  have c0 : w.cell? ⟨b, off, none⟩ = some (.int .u8 (x0.toNat : Int)) := hc 0 _ rfl
  have c4 : w.cell? ⟨b, off + 4, none⟩ = some (.int .u8 (x4.toNat : Int)) := hc 4 _ rfl
  have c5 : w.cell? ⟨b, off + 5, none⟩ = some (.int .u8 (x5.toNat : Int)) := hc 5 _ rfl
  clear hc
  have hne : ¬ (w.heap.size = b) := by omega
  have HAD := Lib.hid (fun (w' : World) (h : Below w.heap.size w w') => addrOf_8 b off x0 x1 x2 x3 x4 x5 x6 x7 c w' ((HA.out.below h).mono h.size))
  have HCN := Lib.hid (fun (w' : World) (h : Below w.heap.size w w') => countOf_8 b off x0 x1 x2 x3 x4 x5 x6 x7 c w' ((HA.out.below h).mono h.size))
  have l0 := x0.toNat_lt
  have hw0 : IntKind.i64.wrap (x0.toNat : Int) = (x0.toNat : Int) := by rw [IntKind.wrap_i64]; omega
  have l4 := x4.toNat_lt
  have hw4 : IntKind.i64.wrap (x4.toNat : Int) = (x4.toNat : Int) := by rw [IntKind.wrap_i64]; omega
  have l5 := x5.toNat_lt
  have hw5 : IntKind.i64.wrap (x5.toNat : Int) = (x5.toNat : Int) := by rw [IntKind.wrap_i64]; omega
  have hws : IntKind.i64.wrap ((x0.toNat : Int) / 16) = (x0.toNat : Int) / 16 := by rw [IntKind.wrap_i64]; omega
  by_cases hm : x0.toNat % 16 = 0
  · have hS : decS x0 x1 x2 x3 x4 x5 x6 x7 = cswCells ((x0.toNat / 16 : Nat) : Int) (adOf x1 x2 x3) x4.toNat x5.toNat (cntOf x6 x7) := by unfold decS; rw [if_pos hm]
    have hd : decide (x0.toNat % 16 = 0) = true := by simp [hm]
    have ht : ((x0.toNat : Int) % 16 != 0) = false := by simp; omega
    rw [hS, hd]
    clear hm hS hd
    go_enter Try.func17, Try.ntmps17
    go_wp2_with fail
    go_region_held3 (fun w' => w'.cell? ⟨b, off, none⟩ = some (.int .u8 (x0.toNat : Int)) ∧ w'.cell? ⟨b, off + 4, none⟩ = some (.int .u8 (x4.toNat : Int)) ∧ w'.cell? ⟨b, off + 5, none⟩ = some (.int .u8 (x5.toNat : Int)))
      (first | go_keep)
      ((first
        | (go_simp; go_at_call 31; refine Calls.mono (HAD.out _ (by (repeat' (first | (with_reducible exact Below.refl _ _) | (with_reducible assumption) | (with_reducible refine below_drewN ?_ _) | (with_reducible refine Below.drew ?_) | (with_reducible refine Below.alloc ?_ ?_ _) | (with_reducible refine Below.setCell ?_ ?_ _) | (with_reducible refine below_row ?_ ?_ _) | (with_reducible exact Nat.le_refl _) | omega | (simp only [World.size_alloc, World.size_setCell, World.size_drew, World.size_drewN]; omega) | (simp; done) | (simp; omega))))) ?_; rintro e w5 ⟨rfl, ⟨m5, rfl⟩⟩)
        | (go_simp; go_at_call 33; refine Calls.mono (HCN.out _ (by (repeat' (first | (with_reducible exact Below.refl _ _) | (with_reducible assumption) | (with_reducible refine below_drewN ?_ _) | (with_reducible refine Below.drew ?_) | (with_reducible refine Below.alloc ?_ ?_ _) | (with_reducible refine Below.setCell ?_ ?_ _) | (with_reducible refine below_row ?_ ?_ _) | (with_reducible exact Nat.le_refl _) | omega | (simp only [World.size_alloc, World.size_setCell, World.size_drew, World.size_drewN]; omega) | (simp; done) | (simp; omega))))) ?_; rintro e w5 ⟨rfl, ⟨m6, rfl⟩⟩)))
    all_goals
      go_wp2
      refine bodyPost_ret (v := .tuple #[.agg (cswCells ((x0.toNat / 16 : Nat) : Int) (adOf x1 x2 x3) x4.toNat x5.toNat (cntOf x6 x7)), .bool true]) (by simp [results, Try.results17, go_sem, cswCells]) rfl ⟨rfl, ?_⟩
      (repeat' (first | (with_reducible exact Below.refl _ _) | (with_reducible assumption) | (with_reducible refine below_drewN ?_ _) | (with_reducible refine Below.drew ?_) | (with_reducible refine Below.alloc ?_ ?_ _) | (with_reducible refine Below.setCell ?_ ?_ _) | (with_reducible refine below_row ?_ ?_ _) | (with_reducible exact Nat.le_refl _) | omega | (simp only [World.size_alloc, World.size_setCell, World.size_drew, World.size_drewN]; omega) | (simp; done) | (simp; omega)))
  · have ht : ((x0.toNat : Int) % 16 != 0) = true := by simp; omega
    have hS : decS x0 x1 x2 x3 x4 x5 x6 x7 = cswZero := by unfold decS; rw [if_neg hm]
    have hd : decide (x0.toNat % 16 = 0) = false := by simp [hm]
    rw [hS, hd]
    clear hm hS hd
    go_enter Try.func17, Try.ntmps17
    go_wp2
    refine bodyPost_ret (v := .tuple #[.agg cswZero, .bool false]) (by simp [results, Try.results17, go_sem, cswZero]) rfl ⟨rfl, by (repeat' (first | (with_reducible exact Below.refl _ _) | (with_reducible assumption) | (with_reducible refine below_drewN ?_ _) | (with_reducible refine Below.drew ?_) | (with_reducible refine Below.alloc ?_ ?_ _) | (with_reducible refine Below.setCell ?_ ?_ _) | (with_reducible refine below_row ?_ ?_ _) | (with_reducible exact Nat.le_refl _) | omega | (simp only [World.size_alloc, World.size_setCell, World.size_drew, World.size_drewN]; omega) | (simp; done) | (simp; omega)))⟩

set_option maxHeartbeats 2000000 in
theorem rdecodeCsw_8 (b off : Nat) (x0 x1 x2 x3 x4 x5 x6 x7 : UInt8) (c : Nat) (w : World) (ha : At w w.heap.size (some ⟨b, off, none⟩) (Lib.byteCells [x0, x1, x2, x3, x4, x5, x6, x7])) (hc8 : 8 ≤ c) :
    Calls Try.prog 18 #[.slice (some ⟨b, off, none⟩) 8 c] w fun e w' => e = .returned (.tuple #[.agg (decS x0 x1 x2 x3 x4 x5 x6 x7), .bool (decide (x0.toNat % 16 = 0))]) ∧ Below w.heap.size w w' := by
  have HA := Lib.hid ha
  obtain ⟨b', off', e, hbl, hc⟩ := ha (by simp [Lib.byteCells])
  injection e with e; injection e with e1 e2; subst e1; subst e2
  have c0 : w.cell? ⟨b, off, none⟩ = some (.int .u8 (x0.toNat : Int)) := hc 0 _ rfl
  have c4 : w.cell? ⟨b, off + 4, none⟩ = some (.int .u8 (x4.toNat : Int)) := hc 4 _ rfl
  have c5 : w.cell? ⟨b, off + 5, none⟩ = some (.int .u8 (x5.toNat : Int)) := hc 5 _ rfl
  clear hc
  have hne : ¬ (w.heap.size = b) := by omega
  have HN1 := Lib.hid (fun (w' : World) (h : Below w.heap.size w w') => number_3 b off x0 x1 x2 x3 x4 x5 x6 x7 c w' ((HA.out.below h).mono h.size))
  have HN2 := Lib.hid (fun (w' : World) (h : Below w.heap.size w w') => number_2 b off x0 x1 x2 x3 x4 x5 x6 x7 c w' ((HA.out.below h).mono h.size))
  have hcI : (8 : Int) ≤ (c : Int) := by omega
  have hc4 : (4 : Int) ≤ (c : Int) := by omega
  have hc1 : ¬ (c = 1) := by omega
  have hc6 : ¬ (c = 6) := by omega
  have l0 := x0.toNat_lt
  have hw0 : IntKind.i64.wrap (x0.toNat : Int) = (x0.toNat : Int) := by rw [IntKind.wrap_i64]; omega
  have l4 := x4.toNat_lt
  have hw4 : IntKind.i64.wrap (x4.toNat : Int) = (x4.toNat : Int) := by rw [IntKind.wrap_i64]; omega
  have l5 := x5.toNat_lt
  have hw5 : IntKind.i64.wrap (x5.toNat : Int) = (x5.toNat : Int) := by rw [IntKind.wrap_i64]; omega
  have hws : IntKind.i64.wrap ((x0.toNat : Int) / 16) = (x0.toNat : Int) / 16 := by rw [IntKind.wrap_i64]; omega
  by_cases hm : x0.toNat % 16 = 0
  · have hS : decS x0 x1 x2 x3 x4 x5 x6 x7 = cswCells ((x0.toNat / 16 : Nat) : Int) (adOf x1 x2 x3) x4.toNat x5.toNat (cntOf x6 x7) := by unfold decS; rw [if_pos hm]
    have hd : decide (x0.toNat % 16 = 0) = true := by simp [hm]
    have ht : ((x0.toNat : Int) % 16 != 0) = false := by simp; omega
    rw [hS, hd]
    clear hm hS hd
    go_enter Try.func18, Try.ntmps18
    go_wp2_with fail
    go_region_held3 (fun w' => w'.cell? ⟨b, off, none⟩ = some (.int .u8 (x0.toNat : Int)) ∧ w'.cell? ⟨b, off + 4, none⟩ = some (.int .u8 (x4.toNat : Int)) ∧ w'.cell? ⟨b, off + 5, none⟩ = some (.int .u8 (x5.toNat : Int)))
      (first | go_keep)
      ((first
        | (go_simp; go_at_call 34; (with_reducible refine Calls.mono (HN1.out _ ?_) ?_); (repeat' (first | (with_reducible exact Below.refl _ _) | (with_reducible assumption) | (with_reducible refine below_drewN ?_ _) | (with_reducible refine Below.drew ?_) | (with_reducible refine Below.alloc ?_ ?_ _) | (with_reducible refine Below.setCell ?_ ?_ _) | (with_reducible refine below_row ?_ ?_ _) | (with_reducible exact Nat.le_refl _) | omega | (simp only [World.size_alloc, World.size_setCell, World.size_drew, World.size_drewN]; omega) | (simp; done) | (simp; omega))); rintro e w5 ⟨rfl, rfl⟩)
        | (go_simp; go_at_call 34; (with_reducible refine Calls.mono (HN2.out _ ?_) ?_); (repeat' (first | (with_reducible exact Below.refl _ _) | (with_reducible assumption) | (with_reducible refine below_drewN ?_ _) | (with_reducible refine Below.drew ?_) | (with_reducible refine Below.alloc ?_ ?_ _) | (with_reducible refine Below.setCell ?_ ?_ _) | (with_reducible refine below_row ?_ ?_ _) | (with_reducible exact Nat.le_refl _) | omega | (simp only [World.size_alloc, World.size_setCell, World.size_drew, World.size_drewN]; omega) | (simp; done) | (simp; omega))); rintro e w5 ⟨rfl, rfl⟩)))
    all_goals
      go_wp2
      refine bodyPost_ret (v := .tuple #[.agg (cswCells ((x0.toNat / 16 : Nat) : Int) (adOf x1 x2 x3) x4.toNat x5.toNat (cntOf x6 x7)), .bool true]) (by simp [results, Try.results18, go_sem, cswCells]) rfl ⟨rfl, ?_⟩
      (repeat' (first | (with_reducible exact Below.refl _ _) | (with_reducible assumption) | (with_reducible refine below_drewN ?_ _) | (with_reducible refine Below.drew ?_) | (with_reducible refine Below.alloc ?_ ?_ _) | (with_reducible refine Below.setCell ?_ ?_ _) | (with_reducible refine below_row ?_ ?_ _) | (with_reducible exact Nat.le_refl _) | omega | (simp only [World.size_alloc, World.size_setCell, World.size_drew, World.size_drewN]; omega) | (simp; done) | (simp; omega)))
  · have ht : ((x0.toNat : Int) % 16 != 0) = true := by simp; omega
    have hS : decS x0 x1 x2 x3 x4 x5 x6 x7 = cswZero := by unfold decS; rw [if_neg hm]
    have hd : decide (x0.toNat % 16 = 0) = false := by simp [hm]
    rw [hS, hd]
    clear hm hS hd
    go_enter Try.func18, Try.ntmps18
    go_wp2
    refine bodyPost_ret (v := .tuple #[.agg cswZero, .bool false]) (by simp [results, Try.results18, go_sem, cswZero]) rfl ⟨rfl, by (repeat' (first | (with_reducible exact Below.refl _ _) | (with_reducible assumption) | (with_reducible refine below_drewN ?_ _) | (with_reducible refine Below.drew ?_) | (with_reducible refine Below.alloc ?_ ?_ _) | (with_reducible refine Below.setCell ?_ ?_ _) | (with_reducible refine below_row ?_ ?_ _) | (with_reducible exact Nat.le_refl _) | omega | (simp only [World.size_alloc, World.size_setCell, World.size_drew, World.size_drewN]; omega) | (simp; done) | (simp; omega)))⟩

end Go.Proofs.Ytheiickihjcdlaa
