/- at of the program (word.Half), half of the reference. -/
import Derived.Test.YtelfihgkbbaifaaEncQ
import Derived.Laws.BitsAllLaws
namespace Go.Proofs.Ytelfihgkbbaifaa
open Go.RowKit
/-- word.fits -/
def fitsB (len : Nat) (at_ n : Int) : Bool := decide (0 ≤ at_) && decide (at_ ≤ (len : Int) - n)
theorem fitsB_yes {len : Nat} {at_ n : Int} (h0 : 0 ≤ at_) (h : at_ ≤ (len : Int) - n) : fitsB len at_ n = true := by simp [fitsB, h0, h]
theorem fitsB_no {len : Nat} {at_ n : Int} (h : ¬ (0 ≤ at_ ∧ at_ ≤ (len : Int) - n)) : fitsB len at_ n = false := by
  cases hb : fitsB len at_ n
  · rfl
  · simp [fitsB] at hb; exact absurd hb h

set_option maxHeartbeats 400000 in
theorem wdfits_any (A : Option Addr) (len c : Nat) (at_ n : Int) (w : World) (hl : len ≤ maxLen) (hn0 : 0 ≤ n) (hn : n ≤ maxLen) :
    Calls Try.prog 76 #[.slice A len c, .int .i64 at_, .int .i64 n] w fun e w' => e = .returned (.bool (fitsB len at_ n)) ∧ w = w' := by
  unfold maxLen at hl hn
  by_cases h0 : 0 ≤ at_
  · by_cases h1 : at_ ≤ (len : Int) - n
    · rw [fitsB_yes h0 h1]
      go_enter Try.func76, Try.ntmps76
      go_wp2
      go_ret
      exact ⟨ret_bool (by simp), rfl⟩
    · rw [fitsB_no (fun h => h1 h.2)]
      go_enter Try.func76, Try.ntmps76
      go_wp2
      go_ret
      exact ⟨ret_bool (by simp), rfl⟩
  · rw [fitsB_no (fun h => h0 h.1)]
    go_enter Try.func76, Try.ntmps76
    go_wp2
    go_ret
    exact ⟨ret_bool (by simp), rfl⟩

/-- What Half returns of two bytes: the halfword with its sign spread. -/
def half32 (x y : UInt8) : Int := wrap32 (bits BinOp.or IntKind.i16 (IntKind.i16.wrap (IntKind.i16.wrap (x.toNat : Int) * 256)) (IntKind.i16.wrap (y.toNat : Int))) % 4294967296

set_option maxHeartbeats 1000000 in
/-- word.Half, where it fits -/
theorem half_yes (A : Option Addr) (l : List UInt8) (c : Nat) (k : Nat) (w : World) (ha : At w w.heap.size A (Lib.byteCells l)) (hl : l.length ≤ 1000000000) (hk : k + 1 < l.length) :
    Calls Try.prog 69 #[.slice A l.length c, .int .i64 (k : Int)] w fun e w' => e = .returned (.tuple #[.int .u32 (half32 l[k] l[k + 1]), .bool true]) ∧ Still w w' := by
  have h1 : k < l.length := by omega
  obtain ⟨b, off, rfl, _, hc⟩ := ha (by intro h; have := congrArg List.length h; simp [Lib.byteCells] at this; subst this; simp at h1)
  have c0 := hc k _ (byteCells_get l k h1)
  have c1 := hc (k + 1) _ (byteCells_get l (k + 1) hk)
  clear hc
  go_enter Try.func69, Try.ntmps69
  go_wp2_with (go_at_call 76; refine (wdfits_any _ _ _ _ _ _ (by unfold maxLen; omega) (by omega) (by unfold maxLen; omega)).mono ?_; rw [fitsB_yes (by omega) (by omega)]; rintro e w1 ⟨rfl, rfl⟩)
  go_quiet (fail)
  go_wp2
  go_ret2
  exact ⟨rfl, by first | exact still_1 _ _ | exact still_2 _ _ _⟩

theorem i16_wrap (n : Int) : IntKind.i16.wrap n = (n + 32768) % 65536 - 32768 := by
  simp only [IntKind.wrap, IntKind.signed, IntKind.bits]
  simp
  split <;> omega
theorem half32_eq (x y : UInt8) : half32 x y = if x.toNat < 128 then ((x.toNat * 256 + y.toNat : Nat) : Int) else ((x.toNat * 256 + y.toNat : Nat) : Int) + 4294901760 := by
  have hx := x.toNat_lt
  have hy := y.toNat_lt
  unfold half32
  have h1 : (BitVec.ofInt 16 (IntKind.i16.wrap (IntKind.i16.wrap (x.toNat : Int) * 256))).toNat = x.toNat * 256 := by
    rw [BitVec.toNat_ofInt, i16_wrap, i16_wrap]
    omega
  have h2 : (BitVec.ofInt 16 (IntKind.i16.wrap (y.toNat : Int))).toNat = y.toNat := by
    rw [BitVec.toNat_ofInt, i16_wrap]
    omega
  have h3 : bits BinOp.or IntKind.i16 (IntKind.i16.wrap (IntKind.i16.wrap (x.toNat : Int) * 256)) (IntKind.i16.wrap (y.toNat : Int)) = IntKind.i16.wrap ((x.toNat * 256 + y.toNat : Nat) : Int) := by
    show IntKind.i16.wrap (((BitVec.ofInt 16 _ ||| BitVec.ofInt 16 _).toNat : Nat) : Int) = _
    rw [BitVec.toNat_or, h1, h2, nat_join 8 _ _ (by omega) (by omega)]
  rw [h3, i16_wrap]
  unfold wrap32
  split <;> omega
/-- The low half of what Half returns. -/
theorem half_low (x y : UInt8) : bits .and .u32 (half32 x y) 65535 = ((x.toNat * 256 + y.toNat : Nat) : Int) ∧ 0 ≤ half32 x y ∧ half32 x y < 4294967296 := by
  have hx := x.toNat_lt
  have hy := y.toNat_lt
  have key : ∀ n : Nat, n < 4294967296 → bits .and .u32 (n : Int) 65535 = ((n % 65536 : Nat) : Int) := fun n hn => by
    rw [show (65535 : Int) = ((65535 : Nat) : Int) from rfl, u32_and_nat n 65535 hn (by omega)]
    congr 1
    exact Nat.and_two_pow_sub_one_eq_mod n 16
  rw [half32_eq]
  split
  · exact ⟨by rw [key _ (by omega)]; omega, by omega, by omega⟩
  · rw [show ((x.toNat * 256 + y.toNat : Nat) : Int) + 4294901760 = ((x.toNat * 256 + y.toNat + 4294901760 : Nat) : Int) by omega]
    exact ⟨by rw [key _ (by omega)]; omega, by omega, by omega⟩

/-- The number in two bytes. -/
def hN (l : List UInt8) (i : Nat) : Nat := 256 * (l.getD i 0).toNat + (l.getD (i + 1) 0).toNat
theorem hN_lt (l : List UInt8) (i : Nat) : hN l i ≤ 65535 := by
  unfold hN
  have h1 := (l.getD i 0).toNat_lt
  have h2 := (l.getD (i + 1) 0).toNat_lt
  omega
theorem hN_eq {l : List UInt8} {i : Nat} (h : i + 1 < l.length) : l[i].toNat * 256 + l[i + 1].toNat = hN l i := by
  unfold hN
  rw [List.getD_eq_getElem?_getD, List.getD_eq_getElem?_getD, List.getElem?_eq_getElem h, List.getElem?_eq_getElem (by omega)]
  simp only [Option.getD_some]; omega
section
variable {W w : World} {F : List SA}
theorem byte_cell {w : World} {A : Option Addr} {l : List UInt8} {i : Nat} (hr : At w w.heap.size A (Lib.byteCells l)) (hi : i < l.length) : ∃ b off, A = some ⟨b, off, none⟩ ∧ w.cell? ⟨b, off + i, none⟩ = some (.int .u8 ((l.getD i 0).toNat : Int)) := by
  obtain ⟨b, off, hA, _, hc⟩ := hr.cell (byteCells_get l i hi)
  refine ⟨b, off, hA, ?_⟩
  rw [hc, List.getD_eq_getElem?_getD, List.getElem?_eq_getElem hi]; rfl
set_option maxHeartbeats 4000000 in
theorem at_any (A : Option Addr) (l : List UInt8) (c i : Nat) (w : World) (hr : At w w.heap.size A (Lib.byteCells l)) (h : i + 1 < l.length) (hl : l.length ≤ 1000000000) :
    Calls Try.prog 53 #[.slice A l.length c, .int .i64 (i : Int)] w fun e w' => e = .returned (.int .i64 (hN l i : Int)) ∧ Still w w' := by
  have HH := Lib.hid (half_yes A l c i w hr hl h)
  have HL := Lib.hid (half_low l[i] l[i + 1])
  have HE := Lib.hid (hN_eq h)
  have hlt := hN_lt l i
  clear hr
  generalize half32 l[i] l[i + 1] = r at *
  generalize l[i].toNat * 256 + l[i + 1].toNat = q at *
  generalize hN l i = q2 at *
  obtain rfl := HE.out
  go_enter Try.func53, Try.ntmps53
  go_wp2_with fail
  refine HH.out.mono ?_
  rintro e w1 ⟨rfl, s1⟩
  have S1 := Lib.hid s1
  clear s1 HH HE
  have hb := HL.out.1
  go_wp2
  go_ret
  exact ⟨ret_int (by rfl), S1.out⟩
set_option maxHeartbeats 4000000 in
theorem rhalf2_any (A : Option Addr) (l : List UInt8) (c i : Nat) (w : World) (hr : At w w.heap.size A (Lib.byteCells l)) (h : i + 1 < l.length) (hl : l.length ≤ 1000000000) :
    Calls Try.prog 66 #[.slice A l.length c, .int .i64 (i : Int)] w fun e w' => e = .returned (.int .i64 (hN l i : Int)) ∧ Still w w' := by
  have HE := Lib.hid (show hN l i = 256 * (l.getD i 0).toNat + (l.getD (i + 1) 0).toNat from rfl)
  obtain ⟨b, off, hA, c0⟩ := byte_cell hr (i := i) (by omega)
  obtain ⟨b2, off2, hA2, c1⟩ := byte_cell hr (i := i + 1) h
  rw [hA] at hA2
  injection hA2 with h2; injection h2 with h2 h3
  subst h2; subst h3; subst hA
  have hb0 := (l.getD i 0).toNat_lt
  have hb1 := (l.getD (i + 1) 0).toNat_lt
  generalize hN l i = r at *
  generalize (l.getD i 0).toNat = x at *
  generalize (l.getD (i + 1) 0).toNat = y at *
  clear hr
  have hw1 : IntKind.i64.wrap ((i : Int) + 1) = (i : Int) + 1 := IntWalk.i64_in _ (by omega)
  have hw2 : (0 : Int) ≤ (i : Int) + 1 := by omega
  have hw3 : ((i : Int) + 1).toNat = i + 1 := by omega
  have hw4 : IntKind.i64.wrap (256 * (x : Int)) = 256 * (x : Int) := IntWalk.i64_in _ (by omega)
  have hw5 : IntKind.i64.wrap (256 * (x : Int) + (y : Int)) = 256 * (x : Int) + (y : Int) := IntWalk.i64_in _ (by omega)
  go_enter Try.func66, Try.ntmps66
  go_wp2_with fail
  go_big_region
  go_wp2
  go_ret
  exact ⟨ret_int (show 256 * (x : Int) + (y : Int) = (r : Int) by have := HE.out; omega), still_1 _ 1⟩
end
end Go.Proofs.Ytelfihgkbbaifaa
