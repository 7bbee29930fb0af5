import Derived.Test.YtheiickihjcdlaaDir
import Derived.BigRegion
namespace Go.Proofs.Ytheiickihjcdlaa
open Go.RowKit

set_option maxHeartbeats 1000000 in
/-- ccw.flags -/
theorem flags_any (b : Nat) (w : World) : Calls Try.prog 32 #[.pointer (some ⟨b, 0, none⟩)] w fun e w' =>
    e = .returned (.agg #[.pointer (some ⟨b, 2, none⟩), .pointer (some ⟨b, 3, none⟩), .pointer (some ⟨b, 4, none⟩), .pointer (some ⟨b, 5, none⟩), .pointer (some ⟨b, 6, none⟩)]) ∧ Below w.heap.size w w' := by
  go_enter Try.func32, Try.ntmps32
  go_wp2
  go_region
  go_wp2
  refine bodyPost_ret (v := .agg #[.pointer (some ⟨b, 2, none⟩), .pointer (some ⟨b, 3, none⟩), .pointer (some ⟨b, 4, none⟩), .pointer (some ⟨b, 5, none⟩), .pointer (some ⟨b, 6, none⟩)]) (by simp [results, Try.results32, go_sem]) rfl ⟨rfl, ?_⟩
  exact ((Below.refl _ _).alloc (Nat.le_refl _) _).drew

set_option maxHeartbeats 400000 in
/-- jobshopref12.flag -/
theorem flag_any (is : Bool) (v : Int) (w : World) : Calls Try.prog 37 #[.bool is, .int .i64 v] w fun e w' => e = .returned (.int .i64 (if is then v else 0)) ∧ w = w' := by
  cases is
  all_goals
    go_enter Try.func37, Try.ntmps37
    go_wp2
    go_ret
    exact ⟨rfl, rfl⟩

/-- The flag byte. -/
def flagsN (cd cc sli skip pci : Bool) : Int := (if cd then 128 else 0) + (if cc then 64 else 0) + (if sli then 32 else 0) + (if skip then 16 else 0) + (if pci then 8 else 0)
theorem flagsN_bd (cd cc sli skip pci : Bool) : 0 ≤ flagsN cd cc sli skip pci ∧ flagsN cd cc sli skip pci ≤ 248 := by
  cases cd <;> cases cc <;> cases sli <;> cases skip <;> cases pci <;> simp [flagsN]

set_option maxHeartbeats 1000000 in
/-- jobshopref12.flags -/
theorem rflags_any (op addr count : Int) (cd cc sli skip pci : Bool) (w : World) : Calls Try.prog 29 #[.agg #[.int .i64 op, .int .i64 addr, .bool cd, .bool cc, .bool sli, .bool skip, .bool pci, .int .i64 count]] w fun e w' =>
    e = .returned (.int .i64 (flagsN cd cc sli skip pci)) ∧ Below w.heap.size w w' := by
  go_enter Try.func29, Try.ntmps29
  go_wp2
  go_quiet ((go_at_call 37; exact Calls.quiet_of_same ((flag_any _ _ _).mono fun e w' h => ⟨h.1, h.2.symm⟩)))
  go_wp2
  all_goals
    go_ret
    exact ⟨rfl, below_drewN ((Below.refl _ _).alloc (Nat.le_refl _) _) _⟩

/-- The struct of a command word. -/
def ccwCells (op addr count : Int) (cd cc sli skip pci : Bool) : Array Value := #[.int .i64 op, .int .i64 addr, .bool cd, .bool cc, .bool sli, .bool skip, .bool pci, .int .i64 count]

/-- What packed has gathered after k flags. -/
def part (cd cc sli skip pci : Bool) (k : Nat) : Int := (if cd && decide (0 < k) then 128 else 0) + (if cc && decide (1 < k) then 64 else 0) + (if sli && decide (2 < k) then 32 else 0) + (if skip && decide (3 < k) then 16 else 0) + (if pci && decide (4 < k) then 8 else 0)

theorem p0y (cc sli skip pci : Bool) : bits BinOp.or IntKind.u8 (part true cc sli skip pci 0) 128 = part true cc sli skip pci 1 := by
  revert cc sli skip pci; decide
theorem p0n (cc sli skip pci : Bool) : part false cc sli skip pci 0 = part false cc sli skip pci 1 := by
  revert cc sli skip pci; decide
theorem p1y (cd sli skip pci : Bool) : bits BinOp.or IntKind.u8 (part cd true sli skip pci 1) 64 = part cd true sli skip pci 2 := by
  revert cd sli skip pci; decide
theorem p1n (cd sli skip pci : Bool) : part cd false sli skip pci 1 = part cd false sli skip pci 2 := by
  revert cd sli skip pci; decide
theorem p2y (cd cc skip pci : Bool) : bits BinOp.or IntKind.u8 (part cd cc true skip pci 2) 32 = part cd cc true skip pci 3 := by
  revert cd cc skip pci; decide
theorem p2n (cd cc skip pci : Bool) : part cd cc false skip pci 2 = part cd cc false skip pci 3 := by
  revert cd cc skip pci; decide
theorem p3y (cd cc sli pci : Bool) : bits BinOp.or IntKind.u8 (part cd cc sli true pci 3) 16 = part cd cc sli true pci 4 := by
  revert cd cc sli pci; decide
theorem p3n (cd cc sli pci : Bool) : part cd cc sli false pci 3 = part cd cc sli false pci 4 := by
  revert cd cc sli pci; decide
theorem p4y (cd cc sli skip : Bool) : bits BinOp.or IntKind.u8 (part cd cc sli skip true 4) 8 = part cd cc sli skip true 5 := by
  revert cd cc sli skip; decide
theorem p4n (cd cc sli skip : Bool) : part cd cc sli skip false 4 = part cd cc sli skip false 5 := by
  revert cd cc sli skip; decide

set_option maxHeartbeats 2000000 in
/-- ccw.packed -/
theorem packed_any (op addr count : Int) (cd cc sli skip pci : Bool) (w : World) : Calls Try.prog 26 #[.agg #[.int .i64 op, .int .i64 addr, .bool cd, .bool cc, .bool sli, .bool skip, .bool pci, .int .i64 count]] w fun e w' =>
    e = .returned (.int .u8 (flagsN cd cc sli skip pci)) ∧ Below w.heap.size w w' := by
  go_enter Try.func26, Try.ntmps26
  go_wp2_with (go_at_call 32; refine (flags_any _ _).mono ?_; rintro e w1 ⟨rfl, b1⟩)
  have hz : w.heap.size < w1.heap.size := by have := b1.size; simp at this; omega
  have hs : ∀ (o : Obj) (j : Nat), (w1.alloc o).cell? ⟨w.heap.size, j, none⟩ = (ccwCells op addr count cd cc sli skip pci)[j]? := fun o j => by
    rw [World.cell?_alloc_lt w1 o ⟨w.heap.size, j, none⟩ hz, b1.cell (p := ⟨w.heap.size, j, none⟩) (by simp)]
    exact cell_of_row _ _ _ _ 26 (0, 0) (heap_alloc_new w _)
  have hbel : ∀ o, Below w.heap.size w (w1.alloc o) := fun o => (((Below.refl _ _).alloc (Nat.le_refl _) _).trans (b1.mono (by simp))).alloc (by omega) o
  have ha : ∀ (cs : Array Value) (t : TypeId) (j : Nat), (w1.alloc (.cells cs t)).cell? ⟨w1.heap.size, j, none⟩ = cs[j]? := fun cs t j => cell_of_row _ _ _ _ t (0, 0) (heap_alloc_new w1 _)
  have HS := Lib.hid hs
  have HB := Lib.hid hbel
  have HA := Lib.hid ha
  clear hs hbel ha b1
  go_wp2
  obtain ⟨W1, hW1⟩ : ∃ W1, W1 = w1.alloc (.cells #[.pointer (some ⟨w.heap.size, 2, none⟩), .pointer (some ⟨w.heap.size, 3, none⟩), .pointer (some ⟨w.heap.size, 4, none⟩), .pointer (some ⟨w.heap.size, 5, none⟩), .pointer (some ⟨w.heap.size, 6, none⟩)] 54) := ⟨_, rfl⟩
  rw [← hW1]
  have hb : Below w.heap.size w W1 := by rw [hW1]; exact HB.out _
  have s0 : W1.cell? ⟨w.heap.size, 2, none⟩ = some (.bool cd) := by rw [hW1]; exact HS.out _ 2
  have s1 : W1.cell? ⟨w.heap.size, 3, none⟩ = some (.bool cc) := by rw [hW1]; exact HS.out _ 3
  have s2 : W1.cell? ⟨w.heap.size, 4, none⟩ = some (.bool sli) := by rw [hW1]; exact HS.out _ 4
  have s3 : W1.cell? ⟨w.heap.size, 5, none⟩ = some (.bool skip) := by rw [hW1]; exact HS.out _ 5
  have s4 : W1.cell? ⟨w.heap.size, 6, none⟩ = some (.bool pci) := by rw [hW1]; exact HS.out _ 6
  have a0 : W1.cell? ⟨w1.heap.size, 0, none⟩ = some (.pointer (some ⟨w.heap.size, 2, none⟩)) := by rw [hW1]; exact HA.out _ _ 0
  have a1 : W1.cell? ⟨w1.heap.size, 1, none⟩ = some (.pointer (some ⟨w.heap.size, 3, none⟩)) := by rw [hW1]; exact HA.out _ _ 1
  have a2 : W1.cell? ⟨w1.heap.size, 2, none⟩ = some (.pointer (some ⟨w.heap.size, 4, none⟩)) := by rw [hW1]; exact HA.out _ _ 2
  have a3 : W1.cell? ⟨w1.heap.size, 3, none⟩ = some (.pointer (some ⟨w.heap.size, 5, none⟩)) := by rw [hW1]; exact HA.out _ _ 3
  have a4 : W1.cell? ⟨w1.heap.size, 4, none⟩ = some (.pointer (some ⟨w.heap.size, 6, none⟩)) := by rw [hW1]; exact HA.out _ _ 4
  clear hW1 HS HB HA
  go_loop [4, 7] (fun b i => ∃ k : Nat, k ≤ 5 ∧ i = .int .i64 k ∧ b = .int .u8 (part cd cc sli skip pci k)) (fun _ i => 5 - (intOf i).toNat)
  case atStart => exact ⟨0, by omega, rfl, by simp [part]⟩
  case round =>
    obtain ⟨k, hk, rfl, rfl⟩ := hrel
    by_cases hlt : k < 5
    · rcases (show k = 0 ∨ k = 1 ∨ k = 2 ∨ k = 3 ∨ k = 4 from by omega) with rfl | rfl | rfl | rfl | rfl
      · go_wp2
        · obtain rfl : cd = true := by assumption
          go_round
          case rel => exact ⟨1, by omega, rfl, congrArg (Value.int .u8) (p0y _ _ _ _)⟩
          case measure => simp [intOf]
        · obtain rfl : cd = false := by assumption
          go_round
          case rel => exact ⟨1, by omega, rfl, congrArg (Value.int .u8) (p0n _ _ _ _)⟩
          case measure => simp [intOf]
      · go_wp2
        · obtain rfl : cc = true := by assumption
          go_round
          case rel => exact ⟨2, by omega, rfl, congrArg (Value.int .u8) (p1y _ _ _ _)⟩
          case measure => simp [intOf]
        · obtain rfl : cc = false := by assumption
          go_round
          case rel => exact ⟨2, by omega, rfl, congrArg (Value.int .u8) (p1n _ _ _ _)⟩
          case measure => simp [intOf]
      · go_wp2
        · obtain rfl : sli = true := by assumption
          go_round
          case rel => exact ⟨3, by omega, rfl, congrArg (Value.int .u8) (p2y _ _ _ _)⟩
          case measure => simp [intOf]
        · obtain rfl : sli = false := by assumption
          go_round
          case rel => exact ⟨3, by omega, rfl, congrArg (Value.int .u8) (p2n _ _ _ _)⟩
          case measure => simp [intOf]
      · go_wp2
        · obtain rfl : skip = true := by assumption
          go_round
          case rel => exact ⟨4, by omega, rfl, congrArg (Value.int .u8) (p3y _ _ _ _)⟩
          case measure => simp [intOf]
        · obtain rfl : skip = false := by assumption
          go_round
          case rel => exact ⟨4, by omega, rfl, congrArg (Value.int .u8) (p3n _ _ _ _)⟩
          case measure => simp [intOf]
      · go_wp2
        · obtain rfl : pci = true := by assumption
          go_round
          case rel => exact ⟨5, by omega, rfl, congrArg (Value.int .u8) (p4y _ _ _ _)⟩
          case measure => simp [intOf]
        · obtain rfl : pci = false := by assumption
          go_round
          case rel => exact ⟨5, by omega, rfl, congrArg (Value.int .u8) (p4n _ _ _ _)⟩
          case measure => simp [intOf]
    · obtain rfl : k = 5 := by omega
      have hp : part cd cc sli skip pci 5 = flagsN cd cc sli skip pci := by simp [part, flagsN]
      have HP := Lib.hid hp
      clear hp
      go_wp2
      go_ret
      exact ⟨ret_int HP.out, hb⟩

end Go.Proofs.Ytheiickihjcdlaa
