/- half of the program, Half of the reference; the form of a track in bytes. -/
import Derived.Test.YtelfihgkbbaifaaRep
namespace Go.Proofs.Ytelfihgkbbaifaa
open Go.RowKit
def halfL (n : Nat) : List UInt8 := [UInt8.ofNat (n / 256), UInt8.ofNat (n % 256)]
def encR (c h : Nat) (x : Rec) : List UInt8 := halfL c ++ halfL h ++ [UInt8.ofNat x.r.toNat, UInt8.ofNat x.key.length] ++ halfL x.data.length ++ x.key ++ x.data
def encL (c h : Nat) (rs : List Rec) : List UInt8 := rs.flatMap (encR c h)
section
variable {W w : World} {F : List SA}
set_option maxRecDepth 10000 in
theorem half_cells (n : Nat) (h : n ≤ 65535) : Lib.byteCells (halfL n) = [.int .u8 ((n : Int) / 256), .int .u8 ((n : Int) % 256)] := by
  have h1 : ((UInt8.ofNat (n / 256)).toNat : Int) = (n : Int) / 256 := by rw [UInt8.toNat_ofNat']; omega
  have h2 : ((UInt8.ofNat (n % 256)).toNat : Int) = (n : Int) % 256 := by rw [UInt8.toNat_ofNat']; omega
  show [Value.int .u8 ((UInt8.ofNat (n / 256)).toNat : Int), Value.int .u8 ((UInt8.ofNat (n % 256)).toNat : Int)] = _
  rw [h1, h2]
theorem byteCells_app (a b : List UInt8) : Lib.byteCells (a ++ b) = Lib.byteCells a ++ Lib.byteCells b := by simp [Lib.byteCells]
theorem SL.atT {e : TypeId} {size n c : Nat} {A : Option Addr} {xs : List Value} (S : SL W (rowT e size (.slice A n c) n xs :: F) w) : At w w.heap.size A xs := fun hne => by
  obtain ⟨x, l, rfl⟩ := List.exists_cons_of_ne_nil hne
  obtain ⟨b, hA, _, c0⟩ := S.cellT (j := 0) (u := x) rfl
  refine ⟨b, 0, hA, World.block_lt_of_cell? w _ c0, fun j u hu => ?_⟩
  obtain ⟨b2, hA2, _, cj⟩ := S.cellT hu
  rw [hA] at hA2
  injection hA2 with h
  injection h with h
  subst h
  rw [Nat.zero_add]
  exact cj
set_option maxHeartbeats 2000000 in
theorem half_any (v : Value) (l : List UInt8) (m n : Nat) (S : SL W (rowS 5 1 v m (Lib.byteCells l) :: F) w) (hn : n ≤ 65535) (hl : m ≤ 1073741824) :
    Calls Try.prog 51 #[v, .int .i64 (n : Int)] w fun e w' => ∃ A c, e = .returned (.slice A (m + 2) c) ∧ SL W (rowS 5 1 (.slice A (m + 2) c) (m + 2) (Lib.byteCells (l ++ halfL n)) :: F) w' := by
  have HS := Lib.hid S
  obtain ⟨A0, c0, rfl, _, _⟩ := own_slice S.own
  clear S
  have hc := half_cells n hn
  go_enter Try.func51, Try.ntmps51
  have HC := Lib.hid hc
  clear hc
  go_wp2_with (at_builtin; refine wpList_pushS rfl _ _ _ rfl bElem w [.int .u8 ((n : Int) / 256), .int .u8 ((n : Int) % 256)] 2 rfl rfl (by simp [Value.oneCell']) _ m _ rfl rfl HS.out (by unfold maxLen; omega) (by omega) ?_
               intro A6 c6 w6 S6
               have H6 := Lib.hid S6
               clear S6)
  go_ret
  refine ⟨_, _, rfl, ?_⟩
  rw [byteCells_app, HC.out]
  exact H6.out
set_option maxHeartbeats 2000000 in
theorem rhalf_any (n : Nat) (S : SL W F w) (hn : n ≤ 65535) :
    Calls Try.prog 47 #[.int .i64 (n : Int)] w fun e w' => ∃ A c, e = .returned (.slice A 2 c) ∧ SL W (rowS 5 1 (.slice A 2 c) 2 (Lib.byteCells (halfL n)) :: F) w' := by
  have HS := Lib.hid S
  clear S
  have hc := half_cells n hn
  go_enter Try.func47, Try.ntmps47
  have HC := Lib.hid hc
  clear hc
  go_wp2
  go_ret
  refine ⟨_, _, rfl, ?_⟩
  rw [HC.out]
  exact HS.out.lit _ _ 1 2 rfl (by decide)
end
end Go.Proofs.Ytelfihgkbbaifaa
