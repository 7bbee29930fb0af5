/- A unit's undo; the devices' methods behind their interface. -/
import Derived.Test.YtlbbmfmkhmmikaaGreatSetX
import Derived.Test.YtlbbmfmkhmmikaaGreatTD
import Derived.Test.YtlbbmfmkhmmikaaGreatDUn
import Derived.Stop.Asserts
namespace Go.Proofs.YtlbbmfmkhmmikaaGreat
open Go.RowKit
section
variable {W w : World} {F : List SA} {b db : Nat} {u : UN}
theorem ta1 (a : Option Addr) (w : World) : (Instr.typeAssert (.iface 64 (.pointer a)) 106 160 true).run Tryz.prog w = .ok (.tuple #[.nilIface, .bool false]) w := run_typeAssert_lacksB Tryz.underlying160 (by kernel_rfl) (by kernel_rfl) _ _ w
theorem ta2 (a : Option Addr) (w : World) : (Instr.typeAssert (.iface 42 (.pointer a)) 106 160 true).run Tryz.prog w = .ok (.tuple #[.nilIface, .bool false]) w := run_typeAssert_lacksB Tryz.underlying160 (by kernel_rfl) (by kernel_rfl) _ _ w
theorem ta3 (a : Option Addr) (w : World) : (Instr.typeAssert (.iface 66 (.pointer a)) 106 160 true).run Tryz.prog w = .ok (.tuple #[.nilIface, .bool false]) w := run_typeAssert_lacksB Tryz.underlying160 (by kernel_rfl) (by kernel_rfl) _ _ w
theorem ta4 (a : Option Addr) (w : World) : (Instr.typeAssert (.iface 37 (.pointer a)) 106 160 true).run Tryz.prog w = .ok (.tuple #[.iface 37 (.pointer a), .bool true]) w := by kernel_rfl
theorem ta5 (a : Option Addr) (w : World) : (Instr.typeAssert (.iface 68 (.pointer a)) 106 160 true).run Tryz.prog w = .ok (.tuple #[.iface 68 (.pointer a), .bool true]) w := by kernel_rfl
set_option maxRecDepth 100000 in
set_option maxHeartbeats 4000000 in
theorem undo_any (how : Int) {k : Nat} (hok : u.dev.ok k) (S : SL W (cel b (oneCells db u) 108 :: devS db u.dev :: F) w) : Calls Tryz.prog 45 #[ptrV b, .int .i64 how] w fun e w' => e = .returned (.tuple #[]) ∧ SL W (cel b (oneCells db (u.undo how)) 108 :: devS db (u.undo how).dev :: F) w' := by
  obtain ⟨L, K, z⟩ := S.look
  have L5 : w.cell? ⟨b, 5, none⟩ = some (devV db u.dev) := L 5
  have HS := Lib.hid S
  clear S L
  obtain ⟨cf, dev, af, ti, eq⟩ := u
  unfold ptrV
  cases dev with
  | reader se tk st cs =>
    unfold devV at L5
    simp only [devT] at L5
    have h1 := ta1
    go_enter Tryz.func45, Tryz.ntmps45
    go_wp2
    go_end0
    exact ⟨rfl, HS.out⟩
  | punch se cs =>
    unfold devV at L5
    simp only [devT] at L5
    have h1 := ta2
    go_enter Tryz.func45, Tryz.ntmps45
    go_wp2
    go_end0
    exact ⟨rfl, HS.out⟩
  | printer s =>
    unfold devV at L5
    simp only [devT] at L5
    have h1 := ta3
    go_enter Tryz.func45, Tryz.ntmps45
    go_wp2
    go_end0
    exact ⟨rfl, HS.out⟩
  | tape n s =>
    unfold devV at L5
    simp only [devT] at L5
    have h1 := ta4
    go_enter Tryz.func45, Tryz.ntmps45
    go_wp2_with fail
    refine (T.undo_any how HS.out.s1 hok.2.1).mono ?_
    rintro e w2 ⟨rfl, S2⟩
    have H2 := Lib.hid S2.s1
    clear S2
    go_wp2
    go_end0
    exact ⟨rfl, H2.out⟩
  | disk s =>
    unfold devV at L5
    simp only [devT] at L5
    have h1 := ta5
    go_enter Tryz.func45, Tryz.ntmps45
    go_wp2_with fail
    refine (D.undo_any how hok HS.out.s1).mono ?_
    rintro e w2 ⟨rfl, S2⟩
    have H2 := Lib.hid S2.s1
    clear S2
    go_wp2
    go_end0
    exact ⟨rfl, H2.out⟩
end
end Go.Proofs.YtlbbmfmkhmmikaaGreat
