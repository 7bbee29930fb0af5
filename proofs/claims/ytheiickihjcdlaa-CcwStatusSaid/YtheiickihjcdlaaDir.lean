import Derived.Test.YtheiickihjcdlaaBase
namespace Go.Proofs.Ytheiickihjcdlaa
open Go.RowKit

/-- n is from 0 to most. -/
def inB (n most : Int) : Bool := decide (0 ≤ n) && decide (n ≤ most)
theorem inB_yes {n most : Int} (h0 : 0 ≤ n) (h : n ≤ most) : inB n most = true := by simp [inB, h0, h]
theorem inB_no {n most : Int} (h : ¬ (0 ≤ n ∧ n ≤ most)) : inB n most = false := by
  cases hb : inB n most
  · rfl
  · simp [inB] at hb; exact absurd hb h
theorem inB_iff {n most : Int} : inB n most = true ↔ 0 ≤ n ∧ n ≤ most := by simp [inB]

set_option maxHeartbeats 400000 in
/-- ccw.outside -/
theorem outside_any (n most : Int) (w : World) : Calls Try.prog 25 #[.int .i64 n, .int .i64 most] w fun e w' => e = .returned (.bool (!inB n most)) ∧ w = w' := by
  by_cases h0 : n < 0
  · rw [inB_no (by omega)]
    go_enter Try.func25, Try.ntmps25
    go_wp2
    go_ret
    exact ⟨ret_bool (by simp), rfl⟩
  · by_cases h1 : most < n
    · rw [inB_no (by omega)]
      go_enter Try.func25, Try.ntmps25
      go_wp2
      go_ret
      exact ⟨ret_bool (by simp), rfl⟩
    · rw [inB_yes (by omega) (by omega)]
      go_enter Try.func25, Try.ntmps25
      go_wp2
      go_ret
      exact ⟨ret_bool (by simp), rfl⟩

set_option maxHeartbeats 400000 in
/-- jobshopref12.in -/
theorem rin_any (n most : Int) (w : World) : Calls Try.prog 28 #[.int .i64 n, .int .i64 most] w fun e w' => e = .returned (.bool (inB n most)) ∧ w = w' := by
  by_cases h0 : n < 0
  · rw [inB_no (by omega)]
    go_enter Try.func28, Try.ntmps28
    go_wp2
    go_ret
    exact ⟨ret_bool (by simp), rfl⟩
  · by_cases h1 : most < n
    · rw [inB_no (by omega)]
      go_enter Try.func28, Try.ntmps28
      go_wp2
      go_ret
      exact ⟨ret_bool (by simp; omega), rfl⟩
    · rw [inB_yes (by omega) (by omega)]
      go_enter Try.func28, Try.ntmps28
      go_wp2
      go_ret
      exact ⟨ret_bool (by simp), rfl⟩

/-- The direction of a code from 0 to 255. -/
def dirN (n : Nat) : Nat := if n % 16 = 0 then 0 else if n % 16 = 4 then 5 else if n % 16 = 8 then 6 else if n % 16 = 12 then 3 else if n % 4 = 1 then 1 else if n % 4 = 2 then 2 else 4
def dir (op : Int) : Int := if inB op 255 then (dirN op.toNat : Int) else 0

theorem and_low (n m k : Nat) (hn : n < 256) (hm : m + 1 = 2 ^ k) (hk : k < 60) : bits BinOp.and IntKind.i64 (n : Int) (m : Int) = ((n % 2 ^ k : Nat) : Int) := by
  have h2 : 2 ^ k ≤ 2 ^ 60 := Nat.pow_le_pow_right (by omega) (by omega)
  have ha : (BitVec.ofInt 64 (n : Int)).toNat = n := by rw [BitVec.toNat_ofInt]; omega
  have hb : (BitVec.ofInt 64 (m : Int)).toNat = m := by rw [BitVec.toNat_ofInt]; omega
  show IntKind.i64.wrap (((BitVec.ofInt 64 (n : Int) &&& BitVec.ofInt 64 (m : Int)).toNat : Nat) : Int) = _
  rw [BitVec.toNat_and, ha, hb, show m = 2 ^ k - 1 from by omega, Nat.and_two_pow_sub_one_eq_mod, IntKind.wrap_i64]
  have := Nat.mod_le n (2 ^ k)
  omega

set_option maxHeartbeats 1000000 in
/-- ccw.Direction -/
theorem dir_any (op : Int) (w : World) : Calls Try.prog 9 #[.int .i64 op] w fun e w' => e = .returned (.int .i64 (dir op)) ∧ w = w' := by
  cases hin : inB op 255
  · have hd : dir op = 0 := by simp [dir, hin]
    rw [hd]
    have HIN := Lib.hid hin
    clear hin hd
    go_enter Try.func9, Try.ntmps9
    go_wp2_with (go_at_call 25; refine (outside_any _ _ _).mono ?_; rw [HIN.out]; rintro e w1 ⟨rfl, rfl⟩)
    go_ret
    exact ⟨rfl, rfl⟩
  · obtain ⟨h0, h1⟩ := inB_iff.1 hin
    obtain ⟨n, rfl⟩ := Int.eq_ofNat_of_zero_le h0
    have hd : dir n = (dirN n : Int) := by simp [dir, hin]
    rw [hd]
    have HIN := Lib.hid hin
    have e15 : bits BinOp.and IntKind.i64 (n : Int) 15 = ((n % 16 : Nat) : Int) := and_low n 15 4 (by omega) rfl (by omega)
    have e3 : bits BinOp.and IntKind.i64 (n : Int) 3 = ((n % 4 : Nat) : Int) := and_low n 3 2 (by omega) rfl (by omega)
    have hcase : (n % 16 = 0 ∧ dirN n = 0) ∨ (n % 16 = 4 ∧ dirN n = 5) ∨ (n % 16 = 8 ∧ dirN n = 6) ∨ (n % 16 = 12 ∧ dirN n = 3) ∨
        ((((n % 16 : Nat) : Int) == 0) = false ∧ (((n % 16 : Nat) : Int) == 4) = false ∧ (((n % 16 : Nat) : Int) == 8) = false ∧ (((n % 16 : Nat) : Int) == 12) = false ∧ (n % 4 = 1 ∧ dirN n = 1 ∨ n % 4 = 2 ∧ dirN n = 2 ∨ n % 4 = 3 ∧ dirN n = 4)) := by
      unfold dirN
      simp only [beq_eq_false_iff_ne]
      split
      · omega
      · split
        · omega
        · split
          · omega
          · split
            · omega
            · split
              · omega
              · split <;> omega
    clear hin hd
    rcases hcase with ⟨hm, hd⟩ | ⟨hm, hd⟩ | ⟨hm, hd⟩ | ⟨hm, hd⟩ | ⟨t0, t4, t8, t12, hm⟩
    · rw [hm] at e15
      rw [hd]
      clear hm hd e3
      go_enter Try.func9, Try.ntmps9
      go_wp2_with (go_at_call 25; refine (outside_any _ _ _).mono ?_; rw [HIN.out]; rintro e w1 ⟨rfl, rfl⟩)
      go_ret
      exact ⟨rfl, rfl⟩
    · rw [hm] at e15
      rw [hd]
      clear hm hd e3
      go_enter Try.func9, Try.ntmps9
      go_wp2_with (go_at_call 25; refine (outside_any _ _ _).mono ?_; rw [HIN.out]; rintro e w1 ⟨rfl, rfl⟩)
      go_ret
      exact ⟨rfl, rfl⟩
    · rw [hm] at e15
      rw [hd]
      clear hm hd e3
      go_enter Try.func9, Try.ntmps9
      go_wp2_with (go_at_call 25; refine (outside_any _ _ _).mono ?_; rw [HIN.out]; rintro e w1 ⟨rfl, rfl⟩)
      go_ret
      exact ⟨rfl, rfl⟩
    · rw [hm] at e15
      rw [hd]
      clear hm hd e3
      go_enter Try.func9, Try.ntmps9
      go_wp2_with (go_at_call 25; refine (outside_any _ _ _).mono ?_; rw [HIN.out]; rintro e w1 ⟨rfl, rfl⟩)
      go_ret
      exact ⟨rfl, rfl⟩
    · generalize n % 16 = q at e15 t0 t4 t8 t12
      have i1 : ∀ w, (Instr.index 47 (.agg #[.int .i64 0, .int .i64 1, .int .i64 2, .int .i64 4]) (.int .i64 1)).run Try.prog w = .ok (.int .i64 1) w := fun _ => by kernel_rfl
      have i2 : ∀ w, (Instr.index 47 (.agg #[.int .i64 0, .int .i64 1, .int .i64 2, .int .i64 4]) (.int .i64 2)).run Try.prog w = .ok (.int .i64 2) w := fun _ => by kernel_rfl
      have i3 : ∀ w, (Instr.index 47 (.agg #[.int .i64 0, .int .i64 1, .int .i64 2, .int .i64 4]) (.int .i64 3)).run Try.prog w = .ok (.int .i64 4) w := fun _ => by kernel_rfl
      rcases hm with ⟨hm, hd⟩ | ⟨hm, hd⟩ | ⟨hm, hd⟩
      all_goals
        rw [hm] at e3
        rw [hd]
        clear hm hd
        go_enter Try.func9, Try.ntmps9
        go_wp2_with (go_at_call 25; refine (outside_any _ _ _).mono ?_; rw [HIN.out]; rintro e w1 ⟨rfl, rfl⟩)
        go_ret
        exact ⟨rfl, rfl⟩

set_option maxHeartbeats 1000000 in
/-- jobshopref12.Direction -/
theorem rdir_any (op : Int) (w : World) : Calls Try.prog 10 #[.int .i64 op] w fun e w' => e = .returned (.int .i64 (dir op)) ∧ w = w' := by
  by_cases h0 : op < 0
  · have hd : dir op = 0 := by simp [dir, inB_no (show ¬ (0 ≤ op ∧ op ≤ 255) by omega)]
    rw [hd]
    clear hd
    go_enter Try.func10, Try.ntmps10
    go_wp2
    go_ret
    exact ⟨rfl, rfl⟩
  · by_cases h1 : 255 < op
    · have hd : dir op = 0 := by simp [dir, inB_no (show ¬ (0 ≤ op ∧ op ≤ 255) by omega)]
      rw [hd]
      clear hd
      go_enter Try.func10, Try.ntmps10
      go_wp2
      go_ret
      exact ⟨rfl, rfl⟩
    · obtain ⟨n, rfl⟩ := Int.eq_ofNat_of_zero_le (show 0 ≤ op by omega)
      have hd : dir n = (dirN n : Int) := by simp [dir, inB_yes (show (0 : Int) ≤ n by omega) (show (n : Int) ≤ 255 by omega)]
      rw [hd]
      clear hd
      go_enter Try.func10, Try.ntmps10
      go_wp2
      all_goals go_ret
      all_goals refine ⟨ret_int ?_, rfl⟩
      all_goals unfold dirN
      all_goals simp only [beq_iff_eq, beq_eq_false_iff_ne] at *
      all_goals (repeat' split)
      all_goals omega


end Go.Proofs.Ytheiickihjcdlaa
