/- Encoding and padding as plain functions on lists. No program is named here. -/
import Derived.Test.YtijkckhgaigbgaaSpec
import Derived.Lib.UnsafeStr
namespace Job.Ebcdic
open Go Go.Lib

/-- The codes of l, cut or filled up with blanks to n. -/
def target (l : List UInt8) (n : Nat) : List UInt8 := enc (l.take n) ++ List.replicate (n - l.length) 0x40
theorem target_length (l : List UInt8) (n : Nat) : (target l n).length = n := by simp [target, enc]; omega
theorem target_code (l : List UInt8) (n k : Nat) (hk : k < n) (h : k < l.length) : (target l n)[k]? = some (code l[k]) := by
  unfold target
  rw [List.getElem?_append_left (by simp [enc]; omega)]
  simp [enc, hk, h]
theorem target_blank (l : List UInt8) (n k : Nat) (hk : k < n) (h : ¬ k < l.length) : (target l n)[k]? = some 0x40 := by
  unfold target
  rw [List.getElem?_append_right (by simp [enc]; omega), List.getElem?_replicate, if_pos]
  simp only [enc, List.length_map, List.length_take]; omega
theorem target_self (l : List UInt8) : target l l.length = enc l := by simp [target]

/-- What stands in n bytes, of which the first k have been filled. -/
def fill (t : List UInt8) (k n : Nat) : List UInt8 := t.take k ++ List.replicate (n - k) 0
theorem fill_length (t : List UInt8) (k n : Nat) (ht : t.length = n) (hk : k ≤ n) : (fill t k n).length = n := by simp [fill]; omega
theorem fill_zero (t : List UInt8) (n : Nat) : fill t 0 n = List.replicate n 0 := by simp [fill]
theorem fill_all (t : List UInt8) (n : Nat) (ht : t.length = n) : fill t n n = t := by simp [fill, List.take_of_length_le (show t.length ≤ n by omega)]
theorem fill_set (t : List UInt8) (k n : Nat) (ht : t.length = n) (hk : k < n) (x : UInt8) (hx : t[k]? = some x) : (byteCells (fill t k n)).set k (.int .u8 (x.toNat : Int)) = byteCells (fill t (k + 1) n) := by
  unfold byteCells
  rw [← List.map_set]
  congr 1
  apply List.ext_getElem?
  intro j
  unfold fill
  rw [List.getElem?_set]
  simp only [List.length_append, List.length_take, List.length_replicate]
  by_cases hj : k = j
  · subst hj
    rw [if_pos rfl, if_pos (by omega), List.getElem?_append_left (by simp; omega), List.getElem?_take, if_pos (by omega), hx]
  · rw [if_neg hj]
    by_cases hlt : j < k
    · rw [List.getElem?_append_left (by simp; omega), List.getElem?_append_left (by simp; omega), List.getElem?_take, List.getElem?_take, if_pos hlt, if_pos (by omega)]
    · rw [List.getElem?_append_right (by simp; omega), List.getElem?_append_right (by simp; omega)]
      simp only [List.length_take, List.getElem?_replicate]
      by_cases hj2 : j < n
      · rw [if_pos (by omega), if_pos (by omega)]
      · rw [if_neg (by omega), if_neg (by omega)]
theorem set_twice (xs : List Value) (k : Nat) (u v : Value) : (xs.set k u).set k v = xs.set k v := by simp
theorem fine_succ (l : List UInt8) (k : Nat) (h : k < l.length) (hf : fine (l.take k) = true) (hc : hasCode l[k] = true) : fine (l.take (k + 1)) = true := by
  rw [List.take_succ_eq_append_getElem h]; simp only [fine, List.all_append, List.all_cons, List.all_nil, Bool.and_true, Bool.and_eq_true]; exact ⟨hf, hc⟩
theorem fine_over (l : List UInt8) (k : Nat) (h : ¬ k < l.length) (hf : fine (l.take k) = true) : fine (l.take (k + 1)) = true := by
  rw [List.take_of_length_le (by omega)] at hf ⊢; exact hf
theorem fine_bad (l : List UInt8) (k n : Nat) (h : k < l.length) (hn : k < n) (hc : hasCode l[k] = false) : fine (l.take n) = false := by
  unfold fine
  rw [List.all_eq_false]
  exact ⟨l[k], List.mem_take_iff_getElem.2 ⟨k, by omega, rfl⟩, by rw [hc]; simp⟩
end Job.Ebcdic
