import Derived.Test.YtheiickihjcdlaaDec

namespace Go.Proofs.Ytheiickihjcdlaa
open Go.RowKit

theorem at_sub {w : World} {B b off : Nat} {xs : List Value} (h : At w B (some ⟨b, off, none⟩) xs) (k n : Nat) : At w B (some ⟨b, off + k, none⟩) ((xs.drop k).take n) := fun hne => by
  obtain ⟨b', off', e, hb, hc⟩ := h (by rintro rfl; simp at hne)
  injection e with e
  injection e with e1 e2
  subst e1; subst e2
  refine ⟨b, off + k, rfl, hb, fun j u hu => ?_⟩
  rw [List.getElem?_take] at hu
  split at hu
  · rw [List.getElem?_drop] at hu
    rw [show off + k + j = off + (k + j) from by omega]
    exact hc _ u hu
  · cases hu

/-- The value of big-endian bytes. -/
def numOf (l : List UInt8) : Nat := l.foldl (fun n x => 256 * n + x.toNat) 0
theorem numOf_snoc (l : List UInt8) (k : Nat) (h : k < l.length) : numOf (l.take (k + 1)) = 256 * numOf (l.take k) + l[k].toNat := by
  rw [List.take_succ_eq_append_getElem h, numOf, List.foldl_append]; rfl
theorem numOf_lt : ∀ (k : Nat) (l : List UInt8), k ≤ l.length → numOf (l.take k) < 256 ^ k
  | 0, _, _ => by simp [numOf]
  | k + 1, l, h => by
    rw [numOf_snoc l k (by omega), Nat.pow_succ]
    have := numOf_lt k l (by omega)
    have := l[k].toNat_lt
    omega

set_option maxHeartbeats 1000000 in
/-- jobshopref12.number -/
theorem rnumber_any (A : Option Addr) (l : List UInt8) (c : Nat) (w : World) (ha : At w w.heap.size A (Lib.byteCells l)) (hl : l.length ≤ 4) :
    Calls Try.prog 34 #[.slice A l.length c] w fun e w' => e = .returned (.int .i64 (numOf l : Int)) ∧ w = w' := by
  go_enter Try.func34, Try.ntmps34
  go_wp2
  go_loop [3, 4] (fun n i => ∃ k : Nat, k ≤ l.length ∧ i = .int .i64 k ∧ n = .int .i64 (numOf (l.take k) : Int)) (fun _ i => l.length - (intOf i).toNat)
  case atStart => exact ⟨0, Nat.zero_le _, rfl, rfl⟩
  case round =>
    obtain ⟨k, hk, rfl, rfl⟩ := hrel
    by_cases hlt : k < l.length
    · obtain ⟨b, off, rfl, _, hca⟩ := ha.cell (byteCells_get l k hlt)
      have hs := numOf_snoc l k hlt
      have h1 := numOf_lt k l (by omega)
      have h2 := l[k].toNat_lt
      have h3 : 256 ^ k ≤ 256 ^ 3 := Nat.pow_le_pow_right (by omega) (by omega)
      have hq : numOf (l.take k) < 16777216 := by omega
      have HS := Lib.hid hs
      clear hs h1 h3
      generalize numOf (l.take k) = q at *
      have hw1 : IntKind.i64.wrap (l[k].toNat : Int) = (l[k].toNat : Int) := by rw [IntKind.wrap_i64]; omega
      have hw2 : IntKind.i64.wrap (256 * (q : Int)) = 256 * (q : Int) := by rw [IntKind.wrap_i64]; omega
      have hw3 : IntKind.i64.wrap (256 * (q : Int) + (l[k].toNat : Int)) = 256 * (q : Int) + (l[k].toNat : Int) := by rw [IntKind.wrap_i64]; omega
      go_wp2
      go_round
      case rel => exact ⟨k + 1, by omega, by go_num, by rw [HS.out]; go_num⟩
      case measure => simp [intOf]; omega
    · obtain rfl : k = l.length := by omega
      go_wp2
      go_ret
      exact ⟨ret_int (by simp), rfl⟩

end Go.Proofs.Ytheiickihjcdlaa
