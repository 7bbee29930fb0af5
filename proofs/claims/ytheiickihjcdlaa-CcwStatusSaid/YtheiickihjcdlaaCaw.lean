import Derived.Test.YtheiickihjcdlaaCsw
namespace Go.Proofs.Ytheiickihjcdlaa
open Go.RowKit

theorem addrOf_4 (b off : Nat) (x0 x1 x2 x3 : UInt8) (c : Nat) (w : World) (ha : At w w.heap.size (some ⟨b, off, none⟩) (Lib.byteCells [x0, x1, x2, x3])) :
    Calls Try.prog 31 #[.slice (some ⟨b, off, none⟩) 4 c] w fun e w' => e = .returned (.int .i64 (adOf x1 x2 x3)) ∧ Still w w' := addrOf_any _ [x0, x1, x2, x3] c w ha (by simp) (by simp)
theorem number_34 (b off : Nat) (x0 x1 x2 x3 : UInt8) (c : Nat) (w : World) (ha : At w w.heap.size (some ⟨b, off, none⟩) (Lib.byteCells [x0, x1, x2, x3])) :
    Calls Try.prog 34 #[.slice (some ⟨b, off + 1, none⟩) 3 (c - 1)] w fun e w' => e = .returned (.int .i64 (adOf x1 x2 x3)) ∧ w = w' := by
  have hn1 : ((numOf [x1, x2, x3] : Nat) : Int) = adOf x1 x2 x3 := by simp [numOf, adOf]; omega
  rw [← hn1]
  exact rnumber_any (some ⟨b, off + 1, none⟩) [x1, x2, x3] (c - 1) w (at_sub ha 1 3) (by simp)

def cawOk (x0 x3 : UInt8) : Bool := decide (x0.toNat % 16 = 0) && decide (x3.toNat % 8 = 0)
def cawKey (x0 x3 : UInt8) : Int := if cawOk x0 x3 then ((x0.toNat / 16 : Nat) : Int) else 0
def cawAddr (x0 x1 x2 x3 : UInt8) : Int := if cawOk x0 x3 then adOf x1 x2 x3 else 0

set_option maxHeartbeats 1000000 in
theorem caw_no (A : Option Addr) (len c : Nat) (w : World) (hl : len ≠ 4) :
    Calls Try.prog 19 #[.slice A len c] w fun e w' => e = .returned (.tuple #[.int .i64 0, .int .i64 0, .bool false]) ∧ Still w w' := by
  have q : ((len : Int) != 4) = true := by rw [bne_iff_ne]; omega
  go_enter Try.func19, Try.ntmps19
  go_wp2
  go_ret3
  exact ⟨rfl, still_refl _⟩

set_option maxHeartbeats 2000000 in
theorem caw_4 (b off : Nat) (x0 x1 x2 x3 : UInt8) (c : Nat) (w : World) (ha : At w w.heap.size (some ⟨b, off, none⟩) (Lib.byteCells [x0, x1, x2, x3])) :
    Calls Try.prog 19 #[.slice (some ⟨b, off, none⟩) 4 c] w fun e w' => e = .returned (.tuple #[.int .i64 (cawKey x0 x3), .int .i64 (cawAddr x0 x1 x2 x3), .bool (cawOk x0 x3)]) ∧ Still w w' := by
  have HA := Lib.hid ha
  obtain ⟨b', off', e, hbl, hc⟩ := ha (by simp [Lib.byteCells])
  injection e with e; injection e with e1 e2; subst e1; subst e2
  have c0 : w.cell? ⟨b, off, none⟩ = some (.int .u8 (x0.toNat : Int)) := hc 0 _ rfl
  have c3 : w.cell? ⟨b, off + 3, none⟩ = some (.int .u8 (x3.toNat : Int)) := hc 3 _ rfl
  clear hc
  have l0 := x0.toNat_lt
  have l3 := x3.toNat_lt
  have hw0 : IntKind.i64.wrap (x0.toNat : Int) = (x0.toNat : Int) := by rw [IntKind.wrap_i64]; omega
  have hws : IntKind.i64.wrap ((x0.toNat : Int) / 16) = (x0.toNat : Int) / 16 := by rw [IntKind.wrap_i64]; omega
  have HAD := Lib.hid (fun (n : Nat) => addrOf_4 b off x0 x1 x2 x3 c (w.drewN n) HA.out)
  by_cases hm : x0.toNat % 16 = 0
  · have ht : ((x0.toNat : Int) % 16 != 0) = false := by simp; omega
    by_cases hn : x3.toNat % 8 = 0
    · have ht3 : ((x3.toNat : Int) % 8 != 0) = false := by simp; omega
      have hok : cawOk x0 x3 = true := by simp [cawOk, hm, hn]
      have hk : cawKey x0 x3 = ((x0.toNat / 16 : Nat) : Int) := by simp [cawKey, hok]
      have had : cawAddr x0 x1 x2 x3 = adOf x1 x2 x3 := by simp [cawAddr, hok]
      rw [hok, hk, had]
      clear hok hk had hm hn
      go_enter Try.func19, Try.ntmps19
      go_wp2
      go_quiet ((go_at_call 31; exact (HAD.out _).mono fun e w2 h => ⟨h.1, by obtain ⟨m, hm⟩ := h.2; exact ⟨_, by rw [hm, World.drewN_drewN]⟩⟩))
      go_wp2
      go_ret3
      exact ⟨rfl, by first | exact still_1 _ _ | exact still_2 _ _ _⟩
    · have ht3 : ((x3.toNat : Int) % 8 != 0) = true := by simp; omega
      have hok : cawOk x0 x3 = false := by simp [cawOk, hn]
      have hk : cawKey x0 x3 = 0 := by simp [cawKey, hok]
      have had : cawAddr x0 x1 x2 x3 = 0 := by simp [cawAddr, hok]
      rw [hok, hk, had]
      clear hok hk had hm hn
      go_enter Try.func19, Try.ntmps19
      go_wp2
      go_ret3
      exact ⟨rfl, still_refl _⟩
  · have ht : ((x0.toNat : Int) % 16 != 0) = true := by simp; omega
    have hok : cawOk x0 x3 = false := by simp [cawOk, hm]
    have hk : cawKey x0 x3 = 0 := by simp [cawKey, hok]
    have had : cawAddr x0 x1 x2 x3 = 0 := by simp [cawAddr, hok]
    rw [hok, hk, had]
    clear hok hk had hm
    go_enter Try.func19, Try.ntmps19
    go_wp2
    go_ret3
    exact ⟨rfl, still_refl _⟩

set_option maxHeartbeats 1000000 in
theorem rcaw_no (A : Option Addr) (len c : Nat) (w : World) (hl : len ≠ 4) :
    Calls Try.prog 20 #[.slice A len c] w fun e w' => e = .returned (.tuple #[.int .i64 0, .int .i64 0, .bool false]) ∧ Still w w' := by
  have q : ((len : Int) != 4) = true := by rw [bne_iff_ne]; omega
  go_enter Try.func20, Try.ntmps20
  go_wp2
  go_ret3
  exact ⟨rfl, still_refl _⟩

set_option maxHeartbeats 2000000 in
theorem rcaw_4 (b off : Nat) (x0 x1 x2 x3 : UInt8) (c : Nat) (w : World) (ha : At w w.heap.size (some ⟨b, off, none⟩) (Lib.byteCells [x0, x1, x2, x3])) (hc4 : 4 ≤ c) :
    Calls Try.prog 20 #[.slice (some ⟨b, off, none⟩) 4 c] w fun e w' => e = .returned (.tuple #[.int .i64 (cawKey x0 x3), .int .i64 (cawAddr x0 x1 x2 x3), .bool (cawOk x0 x3)]) ∧ Still w w' := by
  have HA := Lib.hid ha
  obtain ⟨b', off', e, hbl, hc⟩ := ha (by simp [Lib.byteCells])
  injection e with e; injection e with e1 e2; subst e1; subst e2
  have c0 : w.cell? ⟨b, off, none⟩ = some (.int .u8 (x0.toNat : Int)) := hc 0 _ rfl
  have c3 : w.cell? ⟨b, off + 3, none⟩ = some (.int .u8 (x3.toNat : Int)) := hc 3 _ rfl
  clear hc
  have l0 := x0.toNat_lt
  have l3 := x3.toNat_lt
  have hw0 : IntKind.i64.wrap (x0.toNat : Int) = (x0.toNat : Int) := by rw [IntKind.wrap_i64]; omega
  have hws : IntKind.i64.wrap ((x0.toNat : Int) / 16) = (x0.toNat : Int) / 16 := by rw [IntKind.wrap_i64]; omega
  have hcI : (4 : Int) ≤ (c : Int) := by omega
  have hc1 : ¬ (c = 1) := by omega
  have HAD := Lib.hid (fun (n : Nat) => number_34 b off x0 x1 x2 x3 c (w.drewN n) HA.out)
  by_cases hm : x0.toNat % 16 = 0
  · have ht : ((x0.toNat : Int) % 16 != 0) = false := by simp; omega
    by_cases hn : x3.toNat % 8 = 0
    · have ht3 : ((x3.toNat : Int) % 8 != 0) = false := by simp; omega
      have hok : cawOk x0 x3 = true := by simp [cawOk, hm, hn]
      have hk : cawKey x0 x3 = ((x0.toNat / 16 : Nat) : Int) := by simp [cawKey, hok]
      have had : cawAddr x0 x1 x2 x3 = adOf x1 x2 x3 := by simp [cawAddr, hok]
      rw [hok, hk, had]
      clear hok hk had hm hn
      go_enter Try.func20, Try.ntmps20
      go_wp2
      go_quiet ((go_at_call 34; exact (HAD.out _).mono fun e w2 h => ⟨h.1, ⟨_, h.2.symm⟩⟩))
      go_wp2
      go_ret3
      exact ⟨rfl, by first | exact still_1 _ _ | exact still_2 _ _ _⟩
    · have ht3 : ((x3.toNat : Int) % 8 != 0) = true := by simp; omega
      have hok : cawOk x0 x3 = false := by simp [cawOk, hn]
      have hk : cawKey x0 x3 = 0 := by simp [cawKey, hok]
      have had : cawAddr x0 x1 x2 x3 = 0 := by simp [cawAddr, hok]
      rw [hok, hk, had]
      clear hok hk had hm hn
      go_enter Try.func20, Try.ntmps20
      go_wp2
      go_ret3
      exact ⟨rfl, still_refl _⟩
  · have ht : ((x0.toNat : Int) % 16 != 0) = true := by simp; omega
    have hok : cawOk x0 x3 = false := by simp [cawOk, hm]
    have hk : cawKey x0 x3 = 0 := by simp [cawKey, hok]
    have had : cawAddr x0 x1 x2 x3 = 0 := by simp [cawAddr, hok]
    rw [hok, hk, had]
    clear hok hk had hm
    go_enter Try.func20, Try.ntmps20
    go_wp2
    go_ret3
    exact ⟨rfl, still_refl _⟩

end Go.Proofs.Ytheiickihjcdlaa
