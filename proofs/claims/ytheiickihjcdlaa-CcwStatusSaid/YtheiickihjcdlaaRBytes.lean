import Derived.Test.YtheiickihjcdlaaEight
namespace Go.Proofs.Ytheiickihjcdlaa
open Go.RowKit

/-- So many bytes of a number, the highest first. -/
def beN (n count : Nat) : List UInt8 := (List.range count).map fun i => UInt8.ofNat (n / 256 ^ (count - 1 - i))
theorem beN_length (n count : Nat) : (beN n count).length = count := by simp [beN]
def tailOf (n count k : Nat) : List UInt8 := List.replicate k 0 ++ (beN n count).drop k
theorem tailOf_length (n count k : Nat) (h : k ≤ count) : (tailOf n count k).length = count := by simp [tailOf, beN_length]; omega
theorem tailOf_set (n count k : Nat) (h : k < count) : (tailOf n count (k + 1)).set k (UInt8.ofNat (n / 256 ^ (count - (k + 1)))) = tailOf n count k := by
  apply List.ext_getElem?
  intro j
  unfold tailOf
  rw [List.getElem?_set]
  by_cases hj : k = j
  · subst hj
    rw [if_pos rfl, if_pos (by simp [beN_length]; omega), List.getElem?_append_right (by simp)]
    simp [beN, h, Nat.sub_sub, Nat.add_comm]
  · rw [if_neg hj]
    by_cases hlt : j < k
    · rw [List.getElem?_append_left (by simp; omega), List.getElem?_append_left (by simp; omega)]
      simp [hlt, Nat.lt_succ_of_lt hlt]
    · rw [List.getElem?_append_right (by simp; omega), List.getElem?_append_right (by simp; omega)]
      simp only [List.length_replicate, List.getElem?_drop]
      congr 1
      omega

set_option maxHeartbeats 1000000 in
/-- jobshopref12.bytes -/
theorem rbytes_any (n count : Nat) (hn : n < 4294967296) (hc : count ≤ 8) (w : World) : Calls Try.prog 30 #[.int .i64 (n : Int), .int .i64 (count : Int)] w fun e w' =>
    ∃ A c, e = .returned (.slice A count c) ∧ w'.ownsRow w.heap.size 5 1 (.slice A count c) count (Lib.byteCells (beN n count)) ∧ Below w.heap.size w w' := by
  go_enter Try.func30, Try.ntmps30
  go_wp2_with (with_reducible refine wpList_make rfl _ _ _ rfl wElem .i64 .i64 (count : Int) (count : Int) count rfl rfl rfl rfl (by omega) (by unfold maxLen; omega) ?_)
  intro w1 o1 b1
  rw [zeros_cells, show List.replicate count (0 : UInt8) = tailOf n count count from by simp [tailOf, beN_length, List.drop_of_length_le]] at o1
  go_wp2
  go_loopw [0, 6] (fun m i wr => ∃ k : Nat, k ≤ count ∧ i = .int .i64 ((k : Int) - 1) ∧ m = .int .i64 ((n / 256 ^ (count - k) : Nat) : Int) ∧ wr.ownsRow w.heap.size 5 1 (.slice (some ⟨w.heap.size, 0, none⟩) count count) count (Lib.byteCells (tailOf n count k)) ∧ Below w.heap.size w wr) (fun _ i _ => (intOf i + 1).toNat)
  case atStart => exact ⟨count, Nat.le_refl _, rfl, by simp, o1, b1⟩
  case round =>
    obtain ⟨k, hk, rfl, rfl, hown, hb⟩ := hrel
    cases k with
    | zero =>
      have HO := Lib.hid hown
      clear hown
      go_wp2
      go_ret
      exact ⟨_, _, rfl, by have := HO.out; simpa [tailOf] using this, hb⟩
    | succ k =>
      have hpow : n / 256 ^ (count - (k + 1)) ≤ n := Nat.div_le_self _ _
      have hnext : n / 256 ^ (count - k) = n / 256 ^ (count - (k + 1)) / 256 := by
        rw [Nat.div_div_eq_div_mul, ← Nat.pow_succ]; congr 2; omega
      have hset := tailOf_set n count k (by omega)
      generalize n / 256 ^ (count - (k + 1)) = m at *
      have HN := Lib.hid hnext
      have HS := Lib.hid hset
      clear hnext hset
      obtain ⟨v0, hv0⟩ : ∃ v0, wr.cell? ⟨w.heap.size, k, none⟩ = some v0 := by
        rw [hown.cellAt k (by omega)]
        exact ⟨_, List.getElem?_eq_getElem (by rw [hown.1]; omega)⟩
      have hfz := hown.frozenAt k
      have hst := (hown.stored k (.int .u8 ((UInt8.ofNat m).toNat : Int))).1
      rw [byteCells_set, HS.out, UInt8.toNat_ofNat'] at hst
      have HST := Lib.hid hst
      clear hown hst
      go_wp2
      go_roundw
      case rel => exact ⟨k, by omega, rfl, by rw [HN.out]; rfl, HST.out, hb.setCell (Nat.le_refl _) _⟩
      case measure => simp [intOf]

theorem be3_eq (n : Nat) : beN n 3 = [UInt8.ofNat (n / 65536), UInt8.ofNat (n / 256), UInt8.ofNat n] := by
  simp [beN, List.range_succ]
theorem be2_eq (n : Nat) : beN n 2 = [UInt8.ofNat (n / 256), UInt8.ofNat n] := by
  simp [beN, List.range_succ]

end Go.Proofs.Ytheiickihjcdlaa
