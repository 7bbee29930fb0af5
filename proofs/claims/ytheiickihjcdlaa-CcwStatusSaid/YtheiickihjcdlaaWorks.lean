import Derived.Test.YtheiickihjcdlaaSame
import Derived.Test.YtheiickihjcdlaaEnc
import Derived.Test.YtheiickihjcdlaaDec8
namespace Go.Proofs.Ytheiickihjcdlaa
open Go.RowKit

def exBytes : List UInt8 := [2, 0, 16, 0, 64, 0, 0, 80]
theorem enc_lit (w : World) : Calls Try.prog 12 #[.agg #[.int .i64 2, .int .i64 4096, .bool false, .bool true, .bool false, .bool false, .bool false, .int .i64 80]] w fun e w' =>
    ∃ A c, e = .returned (.tuple #[.slice A 8 c, .int .i64 0]) ∧ At w' w'.heap.size A (Lib.byteCells exBytes) ∧ Below w.heap.size w w' := by
  refine (encode_any 2 4096 80 false true false false false w).mono fun e w' h => ?_
  have he : ccwErr 2 4096 80 false true false false false = 0 := by decide +kernel
  have hb : ccwBytes 2 4096 80 false true false false false = exBytes := by decide +kernel
  rw [he, hb] at h
  obtain ⟨A, c, h1, h2, h3⟩ := h
  exact ⟨A, c, h1, own_at h2, h3⟩
theorem dec_lit (A : Option Addr) (c : Nat) (w : World) (ha : At w w.heap.size A (Lib.byteCells exBytes)) : Calls Try.prog 15 #[.slice A 8 c] w fun e w' =>
    e = .returned (.tuple #[.agg #[.int .i64 2, .int .i64 4096, .bool false, .bool true, .bool false, .bool false, .bool false, .int .i64 80], .bool true]) ∧ Below w.heap.size w w' := by
  refine (decode_8 A 2 0 16 0 64 0 0 80 c w ha).mono fun e w' h => ⟨?_, h.2⟩
  rw [h.1]
  have h1 : decB 2 64 0 80 = true := by decide +kernel
  have h2 : decC 2 0 16 0 64 0 80 = #[.int .i64 2, .int .i64 4096, .bool false, .bool true, .bool false, .bool false, .bool false, .int .i64 80] := by kernel_rfl
  rw [h1, h2]
theorem same_lit (A C : Option Addr) (c d : Nat) (w : World) (B : Nat) (ha : At w B A (Lib.byteCells exBytes)) (hc : At w B C (Lib.byteCells exBytes)) :
    Calls Try.prog 14 #[.slice A 8 c, .slice C 8 d] w fun e w' => e = .returned (.bool true) ∧ Still w w' := by
  exact (same_any A C exBytes exBytes c d w B ha hc (by decide) (by decide)).mono fun e w' h => ⟨h.1.trans (ret_bool (by decide +kernel)), h.2⟩

set_option maxHeartbeats 4000000 in
/-- jobshoplaw12.works -/
theorem works_any (w : World) : Calls Try.prog 11 #[] w fun e w' => e = .returned (.bool true) ∧ Below w.heap.size w w' := by
  have hb1 : ∀ o, Below w.heap.size w (w.alloc o) := fun o => (Below.refl _ _).alloc (Nat.le_refl _) o
  have HB1 := Lib.hid hb1
  clear hb1
  go_enter Try.func11, Try.ntmps11
  go_wp2_with fail
  refine (enc_lit _).mono ?_
  rintro e w1 ⟨A1, c1, rfl, h1, b1⟩
  have hs : ∀ j, w1.cell? ⟨w.heap.size, j, none⟩ = #[Value.int .i64 2, .int .i64 4096, .bool false, .bool true, .bool false, .bool false, .bool false, .int .i64 80][j]? := fun j => by
    rw [b1.cell (p := ⟨w.heap.size, j, none⟩) (by simp)]
    exact cell_of_row _ _ _ _ 26 (0, 0) (heap_alloc_new w _)
  have hz1 : w.heap.size < w1.heap.size := by have := b1.size; simp at this; omega
  have B1 : Below w.heap.size w w1 := (HB1.out _).trans (b1.mono (by simp))
  have HS := Lib.hid hs
  have H1 := Lib.hid h1
  clear hs h1 b1
  go_wp2_with fail
  refine (dec_lit _ _ _ ((at_lit w1 exBytes 5).mono (by simp))).mono ?_
  rintro e w2 ⟨rfl, b2⟩
  have hz2 : w1.heap.size < w2.heap.size := by have := b2.size; simp at this; omega
  have b3 : Below w1.heap.size w1 w2 := ((Below.refl _ _).alloc (Nat.le_refl _) _).trans (b2.mono (by simp))
  have hs : ∀ j, w2.cell? ⟨w.heap.size, j, none⟩ = #[Value.int .i64 2, .int .i64 4096, .bool false, .bool true, .bool false, .bool false, .bool false, .int .i64 80][j]? := fun j => by
    rw [b3.cell (p := ⟨w.heap.size, j, none⟩) hz1]
    exact HS.out j
  have B2 : Below w.heap.size w w2 := B1.trans (b3.mono (Nat.le_of_lt hz1))
  have H2 := Lib.hid (H1.out.below b3)
  have s0 : w2.cell? ⟨w.heap.size, 0, none⟩ = some (.int .i64 2) := hs 0
  have s1 : w2.cell? ⟨w.heap.size, 1, none⟩ = some (.int .i64 4096) := hs 1
  have s2 : w2.cell? ⟨w.heap.size, 2, none⟩ = some (.bool false) := hs 2
  have s3 : w2.cell? ⟨w.heap.size, 3, none⟩ = some (.bool true) := hs 3
  have s4 : w2.cell? ⟨w.heap.size, 4, none⟩ = some (.bool false) := hs 4
  have s5 : w2.cell? ⟨w.heap.size, 5, none⟩ = some (.bool false) := hs 5
  have s6 : w2.cell? ⟨w.heap.size, 6, none⟩ = some (.bool false) := hs 6
  have s7 : w2.cell? ⟨w.heap.size, 7, none⟩ = some (.int .i64 80) := hs 7
  have hlt : w.heap.size < w2.heap.size := by omega
  have ha2 : ∀ X Y, At ((w2.alloc X).alloc Y) (w2.heap.size + 2) A1 (Lib.byteCells exBytes) := fun X Y => (((H2.out.mono (Nat.le_of_lt hz2)).alloc (Nat.le_refl _) X).alloc (by simp) Y).mono (by omega)
  have hl2 : ∀ X, At ((w2.alloc X).alloc (.cells #[Value.int .u8 2, .int .u8 0, .int .u8 16, .int .u8 0, .int .u8 64, .int .u8 0, .int .u8 0, .int .u8 80] 5)) (w2.heap.size + 2) (some ⟨w2.heap.size + 1, 0, none⟩) (Lib.byteCells exBytes) := fun X => by
    have := at_lit (w2.alloc X) exBytes 5
    rw [World.size_alloc] at this
    exact this
  have HA2 := Lib.hid ha2
  have HL2 := Lib.hid hl2
  clear ha2 hl2
  clear hs b2 b3 B1 hz1
  go_wp2_with fail
  refine (same_lit _ _ _ _ _ (w2.heap.size + 2) (HA2.out _ _) (HL2.out _)).mono ?_
  rintro e w3 ⟨rfl, ⟨m, rfl⟩⟩
  go_wp2
  go_ret
  refine ⟨rfl, ?_⟩
  have hq : ∀ X Y, Below w.heap.size w (((w2.alloc X).alloc Y).drewN m) := fun X Y => below_drewN ((B2.alloc (Nat.le_of_lt hlt) X).alloc (by rw [World.size_alloc]; omega) Y) m
  exact hq _ _

end Go.Proofs.Ytheiickihjcdlaa
