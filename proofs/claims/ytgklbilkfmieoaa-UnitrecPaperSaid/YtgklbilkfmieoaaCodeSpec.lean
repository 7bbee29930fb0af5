/- The code table as the shelf's search and as the reference's loop see it. No program is named here. -/
import Derived.Test.YtgklbilkfmieoaaSpec
import Derived.Lib.Bytealg
namespace Job.Ebcdic

theorem index_yes (b : UInt8) (h : hasChar b = true) : Go.Lib.indexByte codes b = ((char b).toNat : Int) - 32 ∧ 32 ≤ (char b).toNat ∧ (char b).toNat ≤ 126 := by
  have := every (fun b => !hasChar b || (decide (Go.Lib.indexByte codes b = ((char b).toNat : Int) - 32) && decide (32 ≤ (char b).toNat) && decide ((char b).toNat ≤ 126))) (by decide +kernel) b
  simpa [h, and_assoc] using this
theorem index_no (b : UInt8) (h : hasChar b = false) : Go.Lib.indexByte codes b = -1 := by
  have := every (fun b => hasChar b || decide (Go.Lib.indexByte codes b = -1)) (by decide +kernel) b
  simpa [h] using this
theorem char_no (b : UInt8) (h : hasChar b = false) : char b = 0 := by unfold char; rw [h]; rfl
theorem code_no (c : UInt8) (h : hasCode c = false) : code c = 0 := by unfold code; rw [h]; rfl
theorem code_yes (c : UInt8) (h : hasCode c = true) : codes[c.toNat - 32]? = some (code c) := by
  have h' := h
  simp only [hasCode, Bool.and_eq_true, decide_eq_true_eq] at h'
  have hl : codes.length = 95 := rfl
  unfold code
  rw [if_pos h, List.getD_eq_getElem?_getD, List.getElem?_eq_getElem (by omega)]; rfl
/-- Where the loop of the reference stops. -/
theorem char_at (b : UInt8) (k : Nat) (hk : k < 95) (h : codes.getD k 0 = b) : hasChar b = true ∧ (char b).toNat = 32 + k := by
  have hall : (List.range 95).all (fun k => hasChar (codes.getD k 0) && (char (codes.getD k 0)).toNat == 32 + k) = true := by decide +kernel
  have := List.all_eq_true.1 hall k (by simpa using hk)
  rw [h] at this
  simpa using this
theorem char_none (b : UInt8) (h : ∀ k, k < 95 → codes.getD k 0 ≠ b) : hasChar b = false := by
  cases hb : hasChar b
  · rfl
  · exfalso
    have hm : b ∈ codes := by simpa [hasChar] using hb
    obtain ⟨k, hk, he⟩ := List.getElem_of_mem hm
    refine h k (by have hl : codes.length = 95 := rfl; omega) ?_
    rw [List.getD_eq_getElem?_getD, List.getElem?_eq_getElem hk]; exact he
end Job.Ebcdic
