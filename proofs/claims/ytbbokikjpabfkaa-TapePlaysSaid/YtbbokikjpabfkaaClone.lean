/- slices.Clone. -/
import Derived.Test.YtbbokikjpabfkaaBlk
import Derived.WalkSpells
namespace Go.Proofs.Ytbbokikjpabfkaa
open Go.RowKit
theorem bElem : Elem Try.prog 23 5 (.int .u8 0) 1 1 := ⟨Try.underlying23, by kernel_rfl, rfl, by omega⟩
section
variable {W w : World} {F : List SA}
theorem sclone_any (A : Option Addr) (l : List UInt8) (c : Nat) (S : SL W F w) (hr : Rd W F A (Lib.byteCells l)) (hl : l.length ≤ 1073741824) :
    Calls Try.prog 39 #[.slice A l.length c] w fun e w' => ∃ v, e = .returned v ∧ SL W (rowS 5 1 v l.length (Lib.byteCells l) :: F) w' := by
  have HA := Lib.hid (hr w S)
  have HS := Lib.hid S
  clear S
  have qT : ∀ (w : World) (a : Option Addr) (n c : Nat), (binOp .eql 23 (.slice a n c) (.slice none 0 0)).run Try.prog w = .ok (.bool a.isNone) w := fun w a n c => Lib.run_eql_slice_nil w _ _ _ _ _ _ _ Try.underlying23
  go_enter Try.func39, Try.ntmps39
  cases A with
  | none =>
    have : l = [] := by
      rcases l with _ | ⟨x, l⟩
      · rfl
      · obtain ⟨b, off, h, _⟩ := HA.out (by simp [Lib.byteCells])
        cases h
    subst this
    go_wp2
    go_ret
    exact ⟨_, rfl, HS.out.nil _ _⟩
  | some ad =>
    go_wp2_with (at_builtin; refine wpList_appS rfl _ _ _ rfl bElem _ 0 [] rfl (HS.out.lit #[] 5 1 0 rfl (by decide)) _ (some ad) l.length c (Lib.byteCells l) rfl (hr.cons _ (HS.out.lit #[] 5 1 0 rfl (by decide))) (by rw [byteCells_len, Nat.mul_one]) (byteCells_one _) (by unfold maxLen; omega) (by omega) ?_
                 intro A2 c2 w2 S2)
    go_ret
    simp only [Nat.zero_add, List.nil_append] at S2 ⊢
    exact ⟨_, rfl, S2⟩
end
end Go.Proofs.Ytbbokikjpabfkaa
