/- Nil units, and units that New did not return. -/
import Derived.Test.YtbbokikjpabfkaaWorks
namespace Go.Proofs.Ytbbokikjpabfkaa
open Go.RowKit

section
variable {W w w' : World} {F : List SA} {tb : Nat} {s : TP}
abbrev nilBytes : ByteArray := ⟨#[]⟩
theorem mounted_nil (w : World) : Calls Try.prog 30 #[.pointer none] w fun e w' => e = .returned (.bool false) ∧ w' = w := by
  go_enter Try.func30, Try.ntmps30
  go_wp2
  go_ret
  exact ⟨rfl, rfl⟩
theorem mounted_un (S : SL W (tapeS tb nilBytes s :: F) w) : Calls Try.prog 30 #[.pointer (some ⟨tb, 0, none⟩)] w fun e w' => e = .returned (.bool false) ∧ w' = w := by
  obtain ⟨v, lp, S1⟩ := tapeS_open S
  obtain ⟨L, K, z⟩ := S1.look
  clear S S1
  have t : ((⟨#[]⟩ : ByteArray) != ⟨#[]⟩) = false := bytes_ne _
  go_enter Try.func30, Try.ntmps30
  go_wp2
  go_ret
  exact ⟨rfl, rfl⟩
theorem power_nil (w : World) : Calls Try.prog 15 #[.pointer none] w fun e w' => e = .returned (.tuple #[]) ∧ w' = w := by
  go_enter Try.func15, Try.ntmps15
  go_wp2_with ((with_reducible refine (mounted_nil _).mono ?_); rintro e w2 ⟨rfl, rfl⟩)
  exact bodyPost_end (v := .tuple #[]) (by simp [results, Try.results15, go_sem]) rfl ⟨rfl, rfl⟩
theorem power_un (S : SL W (tapeS tb nilBytes s :: F) w) : Calls Try.prog 15 #[.pointer (some ⟨tb, 0, none⟩)] w fun e w' => e = .returned (.tuple #[]) ∧ w' = w := by
  have HM := Lib.hid (mounted_un S)
  clear S
  go_enter Try.func15, Try.ntmps15
  go_wp2_with ((with_reducible refine HM.out.mono ?_); rintro e w2 ⟨rfl, rfl⟩)
  exact bodyPost_end (v := .tuple #[]) (by simp [results, Try.results15, go_sem]) rfl ⟨rfl, rfl⟩
theorem do_nil (op : Int) (A : Option Addr) (n c : Nat) (S : SL W F w) : Calls Try.prog 11 #[.pointer none, .int .i64 op, .slice A n c] w fun e w' => e = .returned (.agg #[.slice none 0 0, .int .i64 14, .int .i64 64]) ∧ SL W F w' := by
  have HD := Lib.hid (check_any 64)
  have H1 := Lib.hid (resS S)
  clear S
  go_enter Try.func11, Try.ntmps11
  go_wp2_with (first
    | ((with_reducible refine (mounted_nil _).mono ?_); rintro e w2 ⟨rfl, rfl⟩)
    | ((with_reducible refine (HD.out _).mono ?_); rintro e w4 ⟨rfl, b4⟩; have H4 := Lib.hid (H1.out.grow b4); clear b4; obtain ⟨g3, g4, g5⟩ := H4.out.look))
  refine bodyPost_ret (v := .agg #[.slice none 0 0, .int .i64 14, .int .i64 64]) (by simp [results, Try.results11, go_sem, g3]) rfl ?_
  exact ⟨rfl, H4.out.set3.drop⟩
theorem do_un (op : Int) (A : Option Addr) (n c : Nat) (S : SL W (tapeS tb nilBytes s :: F) w) : Calls Try.prog 11 #[.pointer (some ⟨tb, 0, none⟩), .int .i64 op, .slice A n c] w fun e w' => e = .returned (.agg #[.slice none 0 0, .int .i64 14, .int .i64 64]) ∧ SL W (tapeS tb nilBytes s :: F) w' := by
  have HD := Lib.hid (check_any 64)
  have H1 := Lib.hid (resS S)
  have HM := Lib.hid (mounted_un H1.out.s1)
  clear S
  go_enter Try.func11, Try.ntmps11
  go_wp2_with (first
    | ((with_reducible refine HM.out.mono ?_); rintro e w2 ⟨rfl, rfl⟩)
    | ((with_reducible refine (HD.out _).mono ?_); rintro e w4 ⟨rfl, b4⟩; have H4 := Lib.hid (H1.out.grow b4); clear b4; obtain ⟨g3, g4, g5⟩ := H4.out.look))
  refine bodyPost_ret (v := .agg #[.slice none 0 0, .int .i64 14, .int .i64 64]) (by simp [results, Try.results11, go_sem, g3]) rfl ?_
  exact ⟨rfl, H4.out.set3.drop⟩
theorem undo_nil (how : Int) (w : World) : Calls Try.prog 21 #[.pointer none, .int .i64 how] w fun e w' => e = .returned (.bool false) ∧ w' = w := by
  go_enter Try.func21, Try.ntmps21
  go_wp2
  go_ret
  exact ⟨rfl, rfl⟩
theorem loaded_nil (w : World) : Calls Try.prog 25 #[.pointer none] w fun e w' => e = .returned (.bool false) ∧ w' = w := by
  go_enter Try.func25, Try.ntmps25
  go_wp2
  go_ret
  exact ⟨rfl, rfl⟩
theorem at_nil (w : World) : Calls Try.prog 14 #[.pointer none] w fun e w' => e = .returned (.int .i64 0) ∧ w' = w := by
  go_enter Try.func14, Try.ntmps14
  go_wp2
  go_ret
  exact ⟨rfl, rfl⟩
theorem serial_nil (w : World) : Calls Try.prog 26 #[.pointer none] w fun e w' => e = .returned (.string nilBytes) ∧ w' = w := by
  go_enter Try.func26, Try.ntmps26
  go_wp2
  go_ret
  exact ⟨rfl, rfl⟩
theorem blocks_nil (w : World) : Calls Try.prog 12 #[.pointer none] w fun e w' => e = .returned (.slice none 0 0) ∧ w' = w := by
  go_enter Try.func12, Try.ntmps12
  go_wp2
  go_ret
  exact ⟨rfl, rfl⟩
end
end Go.Proofs.Ytbbokikjpabfkaa
