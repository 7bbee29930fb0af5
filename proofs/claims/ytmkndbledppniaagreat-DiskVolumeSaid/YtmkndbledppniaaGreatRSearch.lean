/- Search of the reference. -/
import Derived.Test.YtmkndbledppniaaGreatSearch
namespace Go.Proofs.YtmkndbledppniaaGreat
open Go.RowKit
theorem less_eq : ∀ (a b : List UInt8), Op.bytesLess a b = decide (Lib.compareBytes a b < 0)
  | [], [] => by simp [Op.bytesLess, Lib.compareBytes]
  | [], _ :: _ => by simp [Op.bytesLess, Lib.compareBytes]
  | _ :: _, [] => by simp [Op.bytesLess, Lib.compareBytes]
  | x :: a, y :: b => by
    have ih := less_eq a b
    unfold Op.bytesLess Lib.compareBytes
    by_cases h : x < y
    · have h2 : x ≠ y := by rintro rfl; exact UInt8.lt_irrefl _ h
      simp [h]
    · by_cases h2 : y < x
      · have h3 : x ≠ y := by rintro rfl; exact UInt8.lt_irrefl _ h2
        simp [h, h2, h3]
      · have h3 : x = y := by
          apply UInt8.toNat_inj.1
          simp only [UInt8.lt_iff_toNat_lt] at h h2
          omega
        subst h3
        simp [ih]
theorem cmp_self : ∀ (a : List UInt8), Lib.compareBytes a a = 0
  | [] => rfl
  | x :: a => by unfold Lib.compareBytes; simp [UInt8.lt_irrefl, cmp_self a]
/-- The test of the reference. -/
def hitB (fr : Int) (key : List UInt8) (high : Bool) (i : Nat) (x : Rec) : Bool :=
  decide (fr ≤ i) && !decide (key.length = 0) && (if high then matchH key x else matchE key x)
theorem searchN_some {rs : List Rec} {fr : Int} {key : List UInt8} {high : Bool} {k : Nat} {x : Rec} (hx : rs[k]? = some x) (hp : hitB fr key high k x = true) (h : ∀ j y, j < k → rs[j]? = some y → hitB fr key high j y = false) : searchN rs fr key high = some k := by
  unfold hitB at hp
  simp only [Bool.and_eq_true, decide_eq_true_iff, Bool.not_eq_true', decide_eq_false_iff_not] at hp
  obtain ⟨⟨h1, h2⟩, h3⟩ := hp
  have hk := (List.getElem?_eq_some_iff.1 hx).1
  unfold searchN
  rw [if_neg (by rintro (h | h) <;> omega), findIdx_some (k := k - fr.toNat) (x := x) (by rw [List.getElem?_drop, ← hx]; congr 1; omega) (by cases high <;> exact h3)]
  · simp only [Option.map_some]; congr 1; omega
  · intro j y hj hy
    rw [List.getElem?_drop] at hy
    have := h _ y (by omega) hy
    unfold hitB at this
    rw [decide_eq_true (by omega : fr ≤ ((fr.toNat + j : Nat) : Int)), decide_eq_false h2] at this
    cases high <;> simpa using this
theorem searchN_none {rs : List Rec} {fr : Int} {key : List UInt8} {high : Bool} (h : ∀ j y, j < rs.length → rs[j]? = some y → hitB fr key high j y = false) : searchN rs fr key high = none := by
  unfold searchN
  split
  · rfl
  · rename_i hn
    rw [findIdx_none]
    · rfl
    · intro j y hj hy
      rw [List.length_drop] at hj
      rw [List.getElem?_drop] at hy
      have := h _ y (by omega) hy
      unfold hitB at this
      rw [decide_eq_true (by omega : fr ≤ ((fr.toNat + j : Nat) : Int)), decide_eq_false (by omega)] at this
      cases high <;> simpa using this
theorem hit_before {fr : Int} {key : List UInt8} {high : Bool} {i : Nat} {x : Rec} (h : (i : Int) < fr) : hitB fr key high i x = false := by
  unfold hitB; rw [decide_eq_false (by omega)]; rfl
theorem hit_bad {fr : Int} {key : List UInt8} {high : Bool} {i : Nat} {x : Rec} (h : x.bad = true) : hitB fr key high i x = false := by
  unfold hitB matchH matchE; rw [h]; cases high <;> simp
theorem hit_zero {fr : Int} {key : List UInt8} {high : Bool} {i : Nat} {x : Rec} (h : key.length = 0) : hitB fr key high i x = false := by
  unfold hitB; simp [h]
theorem hit_len {fr : Int} {key : List UInt8} {high : Bool} {i : Nat} {x : Rec} (h : x.key.length ≠ key.length) : hitB fr key high i x = false := by
  have h2 : x.key ≠ key := fun e => h (by rw [e])
  unfold hitB matchH matchE; cases high <;> simp [h, h2]
theorem hit_else {fr : Int} {key : List UInt8} {high : Bool} {i : Nat} {x : Rec} (h1 : fr ≤ i) (h2 : x.bad = false) (h3 : key.length ≠ 0) (h4 : x.key.length = key.length) : hitB fr key high i x = (decide (x.key = key) || (high && !(Op.bytesLess x.key key || decide (x.key = key)))) := by
  unfold hitB matchH matchE
  rw [decide_eq_true h1, decide_eq_false h3, h2]
  cases high
  · simp
  · simp only [if_true, h4, decide_true, less_eq]
    by_cases h : x.key = key
    · rw [h, cmp_self]; simp
    · by_cases h5 : Lib.compareBytes x.key key < 0
      · have h6 : ¬ (0 ≤ Lib.compareBytes x.key key) := by omega
        simp [h, h5, h6]
      · have h6 : 0 ≤ Lib.compareBytes x.key key := by omega
        simp [h, h5, h6]
theorem bytes_less (a b : List UInt8) : Op.bytesLess (⟨a.toArray⟩ : ByteArray).toList (⟨b.toArray⟩ : ByteArray).toList = Op.bytesLess a b := by
  rw [ByteArray.toList_eq, ByteArray.toList_eq]
end Go.Proofs.YtmkndbledppniaaGreat
