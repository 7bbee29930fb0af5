/- A nil set. -/
import Derived.Test.YtlbbmfmkhmmikaaGreatSetD
import Derived.Test.YtlbbmfmkhmmikaaGreatSetQ
namespace Go.Proofs.YtlbbmfmkhmmikaaGreat
open Go.RowKit
section
variable {w : World}
set_option maxRecDepth 100000 in
theorem find_nil (addr : Int) : Calls Tryz.prog 43 #[.pointer none, .int .i64 addr] w fun e w' => e = .returned (.pointer none) ∧ w' = w := by
  go_enter Tryz.func43, Tryz.ntmps43
  go_wp2
  go_ret
  exact ⟨rfl, rfl⟩
set_option maxRecDepth 100000 in
set_option maxHeartbeats 2000000 in
theorem do_nil (addr op : Int) (v : Value) : Calls Tryz.prog 13 #[.pointer none, .int .i64 addr, .int .i64 op, v] w fun e w' => e = .returned (.agg #[.slice none 0 0, .int .i64 14, .int .i64 64]) ∧ Below w.heap.size w w' := by
  have H0 := Lib.hid ((SL.start w).allocC #[.slice none 0 0, .int .i64 0, .int .i64 0] 30)
  go_enter Tryz.func13, Tryz.ntmps13
  go_wp2_with fail
  refine (find_nil _).mono ?_
  rintro e w1 ⟨rfl, rfl⟩
  go_wp2_with fail
  refine (scheck_any _ _).mono ?_
  rintro e w1 ⟨rfl, b1⟩
  have H1 := Lib.hid (H0.out.grow b1)
  obtain ⟨L1, K1, z1⟩ := H1.out.look
  clear b1
  go_wp2
  refine bodyPost_ret (v := .agg #[.slice none 0 0, .int .i64 14, .int .i64 64]) (by simp [results, Tryz.results13, go_sem, L1]) rfl ?_
  exact ⟨rfl, H1.out.set3.drop.below⟩
set_option maxRecDepth 100000 in
theorem fail_nil (a b c : Int) : Calls Tryz.prog 25 #[.pointer none, .int .i64 a, .int .i64 b, .int .i64 c] w fun e w' => e = .returned (.int .i64 9) ∧ w' = w := by
  go_enter Tryz.func25, Tryz.ntmps25
  go_wp2
  go_ret
  exact ⟨rfl, rfl⟩
set_option maxRecDepth 100000 in
theorem cut_nil (a : Int) : Calls Tryz.prog 14 #[.pointer none, .int .i64 a] w fun e w' => e = .returned (.int .i64 9) ∧ w' = w := by
  go_enter Tryz.func14, Tryz.ntmps14
  go_wp2
  go_ret
  exact ⟨rfl, rfl⟩
set_option maxRecDepth 100000 in
theorem up_nil : Calls Tryz.prog 19 #[.pointer none] w fun e w' => e = .returned (.int .i64 9) ∧ w' = w := by
  go_enter Tryz.func19, Tryz.ntmps19
  go_wp2
  go_ret
  exact ⟨rfl, rfl⟩
set_option maxRecDepth 100000 in
theorem down_nil : Calls Tryz.prog 15 #[.pointer none] w fun e w' => e = .returned (.bool false) ∧ w' = w := by
  go_enter Tryz.func15, Tryz.ntmps15
  go_wp2
  go_ret
  exact ⟨rfl, rfl⟩
set_option maxRecDepth 100000 in
theorem addrs_nil : Calls Tryz.prog 23 #[.pointer none] w fun e w' => e = .returned (.slice none 0 0) ∧ w' = w := by
  go_enter Tryz.func23, Tryz.ntmps23
  go_wp2
  go_ret
  exact ⟨rfl, rfl⟩
set_option maxRecDepth 100000 in
theorem kind_nil (a : Int) : Calls Tryz.prog 24 #[.pointer none, .int .i64 a] w fun e w' => e = .returned (.int .i64 0) ∧ w' = w := by
  go_enter Tryz.func24, Tryz.ntmps24
  go_wp2_with fail
  refine (find_nil a).mono ?_
  rintro e w1 ⟨rfl, rfl⟩
  go_wp2
  go_ret
  exact ⟨rfl, rfl⟩
set_option maxRecDepth 100000 in
theorem nilReader (a : Int) : Calls Tryz.prog 29 #[.pointer none, .int .i64 a] w fun e w' => e = .returned (.pointer none) ∧ w' = w := by
  go_enter Tryz.func29, Tryz.ntmps29
  go_wp2_with fail
  refine (find_nil a).mono ?_
  rintro e w1 ⟨rfl, rfl⟩
  go_wp2
  go_ret
  exact ⟨rfl, rfl⟩
set_option maxRecDepth 100000 in
theorem nilPunch (a : Int) : Calls Tryz.prog 21 #[.pointer none, .int .i64 a] w fun e w' => e = .returned (.pointer none) ∧ w' = w := by
  go_enter Tryz.func21, Tryz.ntmps21
  go_wp2_with fail
  refine (find_nil a).mono ?_
  rintro e w1 ⟨rfl, rfl⟩
  go_wp2
  go_ret
  exact ⟨rfl, rfl⟩
set_option maxRecDepth 100000 in
theorem nilPrinter (a : Int) : Calls Tryz.prog 30 #[.pointer none, .int .i64 a] w fun e w' => e = .returned (.pointer none) ∧ w' = w := by
  go_enter Tryz.func30, Tryz.ntmps30
  go_wp2_with fail
  refine (find_nil a).mono ?_
  rintro e w1 ⟨rfl, rfl⟩
  go_wp2
  go_ret
  exact ⟨rfl, rfl⟩
set_option maxRecDepth 100000 in
theorem nilTape (a : Int) : Calls Tryz.prog 17 #[.pointer none, .int .i64 a] w fun e w' => e = .returned (.pointer none) ∧ w' = w := by
  go_enter Tryz.func17, Tryz.ntmps17
  go_wp2_with fail
  refine (find_nil a).mono ?_
  rintro e w1 ⟨rfl, rfl⟩
  go_wp2
  go_ret
  exact ⟨rfl, rfl⟩
set_option maxRecDepth 100000 in
theorem nilDisk (a : Int) : Calls Tryz.prog 31 #[.pointer none, .int .i64 a] w fun e w' => e = .returned (.pointer none) ∧ w' = w := by
  go_enter Tryz.func31, Tryz.ntmps31
  go_wp2_with fail
  refine (find_nil a).mono ?_
  rintro e w1 ⟨rfl, rfl⟩
  go_wp2
  go_ret
  exact ⟨rfl, rfl⟩
end
end Go.Proofs.YtlbbmfmkhmmikaaGreat
