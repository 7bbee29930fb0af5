import Derived.Test.YtheiickihjcdlaaEnc
import Derived.Test.YtheiickihjcdlaaRBytes
import Derived.Deep.RegionHeld3
namespace Go.Proofs.Ytheiickihjcdlaa
open Go.RowKit

theorem u8_wrap (n : Int) : IntKind.u8.wrap n = n % 256 := by
  simp only [IntKind.wrap, IntKind.signed, IntKind.bits]
  simp

theorem word8_cells (f ad fl n : Nat) (hf : f < 256) (hfb : fl < 256) : [Value.int .u8 (f : Int)] ++ Lib.byteCells (beN ad 3) ++ [.int .u8 (fl : Int), .int .u8 0] ++ Lib.byteCells (beN n 2) = Lib.byteCells (word8 f ad fl 0 n) := by
  rw [be3_eq, be2_eq, u8_small f hf, u8_small fl hfb]
  rfl

set_option maxHeartbeats 4000000 in
/-- jobshopref12.Encode, where the word is valid -/
theorem rencode_tail (f ad n fl : Nat) (cd cc sli skip pci : Bool) (hf : f < 256) (had : ad < 16777216) (hn : n < 65536) (h1 : inB (f : Int) 255 = true) (h2 : inB (ad : Int) 16777215 = true) (h3 : inB (n : Int) 65535 = true)
    (d : Int) (hd : d = dir f) (hfl : (fl : Int) = flagsN cd cc sli skip pci) (hfb : fl < 256) (hok : (d == 0) = false ∧ ((d == 6) = true ∧ ((fl : Int) != 0) = false ∧ ((n : Int) != 0) = false ∧ (d != 6) = false ∨ (d == 6) = false ∧ (d != 6) = true ∧ ((n : Int) == 0) = false)) (w : World) :
    Calls Try.prog 13 #[.agg #[.int .i64 (f : Int), .int .i64 (ad : Int), .bool cd, .bool cc, .bool sli, .bool skip, .bool pci, .int .i64 (n : Int)]] w
      (BytesRet (word8 f ad fl 0 n) 0 w) := by
  have hb1 : ∀ o, Below w.heap.size w (w.alloc o) := fun o => (Below.refl _ _).alloc (Nat.le_refl _) o
  have HB1 := Lib.hid hb1
  have H1 := Lib.hid h1
  have H2 := Lib.hid h2
  have H3 := Lib.hid h3
  have HD := Lib.hid hd
  have HFL := Lib.hid hfl
  clear hb1 h1 h2 h3 hd hfl
  obtain ⟨q0, hok⟩ := hok
  rcases hok with ⟨q6, hfl, qn, q7⟩ | ⟨q6, q7, qn⟩
  · skip
    go_enter Try.func13, Try.ntmps13
    go_wp2_with fail
    refine (rin_any _ _ _).mono ?_
    rw [H1.out]
    rintro e w1 ⟨rfl, rfl⟩
    go_wp2_with fail
    refine (rin_any _ _ _).mono ?_
    rw [H2.out]
    rintro e w1 ⟨rfl, rfl⟩
    go_wp2_with fail
    refine (rin_any _ _ _).mono ?_
    rw [H3.out]
    rintro e w1 ⟨rfl, rfl⟩
    go_wp2_with fail
    refine (rdir_any _ _).mono ?_
    rw [← HD.out]
    rintro e w2 ⟨rfl, rfl⟩
    go_wp2_with fail
    refine (rflags_any _ _ _ _ _ _ _ _ _).mono ?_
    rw [← HFL.out]
    rintro e w1 ⟨rfl, b1⟩
    have hs : ∀ j, w1.cell? ⟨w.heap.size, j, none⟩ = (ccwCells f ad n cd cc sli skip pci)[j]? := fun j => by
      rw [b1.cell (p := ⟨w.heap.size, j, none⟩) (by simp)]
      exact cell_of_row _ _ _ _ 26 (0, 0) (heap_alloc_new w _)
    have s0 : w1.cell? ⟨w.heap.size, 0, none⟩ = some (.int .i64 (f : Int)) := hs 0
    have s1 : w1.cell? ⟨w.heap.size, 1, none⟩ = some (.int .i64 (ad : Int)) := hs 1
    have s7 : w1.cell? ⟨w.heap.size, 7, none⟩ = some (.int .i64 (n : Int)) := hs 7
    have B1 : Below w.heap.size w w1 := (HB1.out _).trans (b1.mono (by simp))
    have hz : w.heap.size < w1.heap.size := by have := b1.size; simp at this; omega
    have hwf : IntKind.u8.wrap (f : Int) = (f : Int) := by rw [u8_wrap]; omega
    have HS := Lib.hid hs
    clear hs b1
    go_wp2_with fail
    go_region_held3 (fun w' => w'.cell? ⟨w.heap.size, 0, none⟩ = some (.int .i64 (f : Int)) ∧ w'.cell? ⟨w.heap.size, 1, none⟩ = some (.int .i64 (ad : Int)))
      (first | go_keep | (refine ⟨?_, ?_⟩ <;> (rw [b5.cell (by simp; omega)]; go_keep)) | (refine ⟨?_, ?_⟩ <;> (rw [b6.cell (by omega)]; go_keep)))
      ((first
        | (refine step_append_at (by rfl) _ _ _ (by rfl) wElem w1.heap.size _ 1 [.int .u8 (f : Int)] (by rfl) (own_below (w := (w1.alloc (.cells #[.int .u8 (f : Int)] 5)).drew) (World.ownsRow_lit w1 #[.int .u8 (f : Int)] 1 (Nat.le_refl _) (by decide) rfl) b5) w5.heap.size A5 3 c5 _ (by rfl) (own_at o5) (by simp [byteCells_len, beN_length]) (byteCells_one _) (by decide) (by omega) B5.size ?_; intro A6 c6 w6 o6 g6; have b6 : Below w1.heap.size w1 w6 := B5.trans g6)
        | (refine step_append_at (by rfl) _ _ _ (by rfl) wElem w1.heap.size _ 1 [.int .u8 (f : Int)] (by rfl) (World.ownsRow_lit w5 #[.int .u8 (f : Int)] 1 B5.size (by decide) rfl) w5.heap.size A5 3 c5 _ (by rfl) ((own_at o5).alloc (Nat.le_refl _) _) (by simp [byteCells_len, beN_length]) (byteCells_one _) (by decide) (by omega) (by have := B5.size; simp; omega) ?_; intro A6 c6 w6 o6 g6; have b6 : Below w1.heap.size w1 w6 := (B5.alloc B5.size _).trans g6)
        | (go_simp; go_at_call 30; refine (rbytes_any ad 3 (by omega) (by omega) _).mono ?_; rintro e w5 ⟨A5, c5, rfl, o5, b5⟩
           have B5 : Below w1.heap.size w1 w5 := by first | exact (Below.refl _ _).drew.trans b5 | exact ((Below.refl _ _).alloc (Nat.le_refl _) _).drew.trans (b5.mono (by simp)))))
    all_goals
      have hz6 := b6.size
      have hs6 : ∀ j, w6.cell? ⟨w.heap.size, j, none⟩ = (ccwCells f ad n cd cc sli skip pci)[j]? := fun j => by rw [b6.cell (p := ⟨w.heap.size, j, none⟩) hz]; exact HS.out j
      have r0 : w6.cell? ⟨w.heap.size, 0, none⟩ = some (.int .i64 (f : Int)) := hs6 0
      have r1 : w6.cell? ⟨w.heap.size, 1, none⟩ = some (.int .i64 (ad : Int)) := hs6 1
      have r2 : w6.cell? ⟨w.heap.size, 2, none⟩ = some (.bool cd) := hs6 2
      have r3 : w6.cell? ⟨w.heap.size, 3, none⟩ = some (.bool cc) := hs6 3
      have r4 : w6.cell? ⟨w.heap.size, 4, none⟩ = some (.bool sli) := hs6 4
      have r5 : w6.cell? ⟨w.heap.size, 5, none⟩ = some (.bool skip) := hs6 5
      have r6 : w6.cell? ⟨w.heap.size, 6, none⟩ = some (.bool pci) := hs6 6
      have r7 : w6.cell? ⟨w.heap.size, 7, none⟩ = some (.int .i64 (n : Int)) := hs6 7
      have O6 := Lib.hid o6
      clear hs6 o6
      go_wp2_with fail
      refine (rflags_any _ _ _ _ _ _ _ _ _).mono ?_
      rw [← HFL.out]
      rintro e w7 ⟨rfl, b7⟩
      have hwl : IntKind.u8.wrap (fl : Int) = (fl : Int) := by rw [u8_wrap]; omega
      have hz7 := b7.size
      have t7 : w7.cell? ⟨w.heap.size, 7, none⟩ = some (.int .i64 (n : Int)) := by rw [b7.cell (p := ⟨w.heap.size, 7, none⟩) (show w.heap.size < w6.heap.size by omega)]; exact r7
      have HO8 := Lib.hid (own_below O6.out (b7.alloc hz7 (.cells #[.int .u8 (fl : Int), .int .u8 0] 5)))
      have HA8 := Lib.hid (own_at (World.ownsRow_lit w7 (e := 5) #[.int .u8 (fl : Int), .int .u8 0] 2 (Nat.le_refl _) (by decide) rfl))
      go_wp2_with (first
        | (at_builtin
           refine wpList_append_at (by rfl) _ _ _ (by rfl) wElem w1.heap.size _ 4 _ (by rfl) HO8.out (w7.alloc (.cells #[.int .u8 (fl : Int), .int .u8 0] 5)).heap.size (some ⟨w7.heap.size, 0, none⟩) 2 2 [.int .u8 (fl : Int), .int .u8 0] (by rfl) HA8.out (by rfl) (by intro u hu; simp at hu; rcases hu with rfl | rfl <;> rfl) (by decide) (by decide) (by simp; omega) ?_
           intro A8 c8 w8 o8 g8
           have b8 : Below w1.heap.size w7 w8 := ((Below.refl _ _).alloc (show w1.heap.size ≤ w7.heap.size by omega) _).grown g8 (by simp; omega) (own_ge HO8.out)
           have hz8 : w1.heap.size ≤ w8.heap.size := by have := b8.size; omega
           have t8 : w8.cell? ⟨w.heap.size, 7, none⟩ = some (.int .i64 (n : Int)) := by rw [b8.cell (p := ⟨w.heap.size, 7, none⟩) hz]; exact t7
           have B8 : Below w1.heap.size w1 w8 := (b6.trans (b7.mono hz6)).trans b8
           have O8 := Lib.hid o8
           clear o8 g8)
        | (go_at_call 30
           refine (rbytes_any n 2 (by omega) (by omega) _).mono ?_
           rintro e w9 ⟨A9, c9, rfl, o9, b9⟩
           have HA9 := Lib.hid (own_at o9)
           have HO9 := Lib.hid (own_below O8.out b9)
           have hz9 : w1.heap.size ≤ w9.heap.size := by have := b9.size; omega
           clear o9)
        | (at_builtin
           refine wpList_append_at (by rfl) _ _ _ (by rfl) wElem w1.heap.size _ 6 _ (by rfl) HO9.out w9.heap.size A9 2 c9 (Lib.byteCells (beN n 2)) (by rfl) HA9.out (by simp [byteCells_len, beN_length]) (byteCells_one _) (by decide) (by decide) (by have := b9.size; omega) ?_
           intro A10 c10 w10 o10 g10
           have b10 : Below w1.heap.size w1 w10 := (B8.trans (b9.mono hz8)).grown g10 hz9 (own_ge HO9.out)
           have O10 := Lib.hid o10
           clear o10 g10))
      go_ret2
      refine BytesRet.own (n := 8) rfl rfl (own_mono ?_ (Nat.le_of_lt hz)) (B1.trans (b10.mono (Nat.le_of_lt hz)))
      rw [← word8_cells f ad fl n hf hfb]
      exact O10.out
  · skip
    go_enter Try.func13, Try.ntmps13
    go_wp2_with fail
    refine (rin_any _ _ _).mono ?_
    rw [H1.out]
    rintro e w1 ⟨rfl, rfl⟩
    go_wp2_with fail
    refine (rin_any _ _ _).mono ?_
    rw [H2.out]
    rintro e w1 ⟨rfl, rfl⟩
    go_wp2_with fail
    refine (rin_any _ _ _).mono ?_
    rw [H3.out]
    rintro e w1 ⟨rfl, rfl⟩
    go_wp2_with fail
    refine (rdir_any _ _).mono ?_
    rw [← HD.out]
    rintro e w2 ⟨rfl, rfl⟩
    have b1 := Below.refl (w.alloc (.cells #[.int .i64 (f : Int), .int .i64 (ad : Int), .bool cd, .bool cc, .bool sli, .bool skip, .bool pci, .int .i64 (n : Int)] 26)).heap.size (w.alloc (.cells #[.int .i64 (f : Int), .int .i64 (ad : Int), .bool cd, .bool cc, .bool sli, .bool skip, .bool pci, .int .i64 (n : Int)] 26))
    revert b1
    have hb0 := (Below.refl w.heap.size w).alloc (Nat.le_refl _) (.cells #[.int .i64 (f : Int), .int .i64 (ad : Int), .bool cd, .bool cc, .bool sli, .bool skip, .bool pci, .int .i64 (n : Int)] 26)
    have hs0 : ∀ j, (w.alloc (.cells #[.int .i64 (f : Int), .int .i64 (ad : Int), .bool cd, .bool cc, .bool sli, .bool skip, .bool pci, .int .i64 (n : Int)] 26)).cell? ⟨w.heap.size, j, none⟩ = (ccwCells f ad n cd cc sli skip pci)[j]? := fun j => cell_of_row _ _ _ _ 26 (0, 0) (heap_alloc_new w _)
    have hz0 : w.heap.size < (w.alloc (.cells #[.int .i64 (f : Int), .int .i64 (ad : Int), .bool cd, .bool cc, .bool sli, .bool skip, .bool pci, .int .i64 (n : Int)] 26)).heap.size := by simp
    generalize w.alloc (.cells #[.int .i64 (f : Int), .int .i64 (ad : Int), .bool cd, .bool cc, .bool sli, .bool skip, .bool pci, .int .i64 (n : Int)] 26) = w1 at *
    intro b1
    have hs : ∀ j, w1.cell? ⟨w.heap.size, j, none⟩ = (ccwCells f ad n cd cc sli skip pci)[j]? := hs0
    have s0 : w1.cell? ⟨w.heap.size, 0, none⟩ = some (.int .i64 (f : Int)) := hs 0
    have s1 : w1.cell? ⟨w.heap.size, 1, none⟩ = some (.int .i64 (ad : Int)) := hs 1
    have s7 : w1.cell? ⟨w.heap.size, 7, none⟩ = some (.int .i64 (n : Int)) := hs 7
    have B1 : Below w.heap.size w w1 := hb0
    have hz : w.heap.size < w1.heap.size := hz0
    have hwf : IntKind.u8.wrap (f : Int) = (f : Int) := by rw [u8_wrap]; omega
    have HS := Lib.hid hs
    clear hs b1 hs0
    go_wp2_with fail
    go_region_held3 (fun w' => w'.cell? ⟨w.heap.size, 0, none⟩ = some (.int .i64 (f : Int)) ∧ w'.cell? ⟨w.heap.size, 1, none⟩ = some (.int .i64 (ad : Int)))
      (first | go_keep | (refine ⟨?_, ?_⟩ <;> (rw [b5.cell (by simp; omega)]; go_keep)) | (refine ⟨?_, ?_⟩ <;> (rw [b6.cell (by omega)]; go_keep)))
      ((first
        | (refine step_append_at (by rfl) _ _ _ (by rfl) wElem w1.heap.size _ 1 [.int .u8 (f : Int)] (by rfl) (own_below (w := (w1.alloc (.cells #[.int .u8 (f : Int)] 5)).drew) (World.ownsRow_lit w1 #[.int .u8 (f : Int)] 1 (Nat.le_refl _) (by decide) rfl) b5) w5.heap.size A5 3 c5 _ (by rfl) (own_at o5) (by simp [byteCells_len, beN_length]) (byteCells_one _) (by decide) (by omega) B5.size ?_; intro A6 c6 w6 o6 g6; have b6 : Below w1.heap.size w1 w6 := B5.trans g6)
        | (refine step_append_at (by rfl) _ _ _ (by rfl) wElem w1.heap.size _ 1 [.int .u8 (f : Int)] (by rfl) (World.ownsRow_lit w5 #[.int .u8 (f : Int)] 1 B5.size (by decide) rfl) w5.heap.size A5 3 c5 _ (by rfl) ((own_at o5).alloc (Nat.le_refl _) _) (by simp [byteCells_len, beN_length]) (byteCells_one _) (by decide) (by omega) (by have := B5.size; simp; omega) ?_; intro A6 c6 w6 o6 g6; have b6 : Below w1.heap.size w1 w6 := (B5.alloc B5.size _).trans g6)
        | (go_simp; go_at_call 30; refine (rbytes_any ad 3 (by omega) (by omega) _).mono ?_; rintro e w5 ⟨A5, c5, rfl, o5, b5⟩
           have B5 : Below w1.heap.size w1 w5 := by first | exact (Below.refl _ _).drew.trans b5 | exact ((Below.refl _ _).alloc (Nat.le_refl _) _).drew.trans (b5.mono (by simp)))))
    all_goals
      have hz6 := b6.size
      have hs6 : ∀ j, w6.cell? ⟨w.heap.size, j, none⟩ = (ccwCells f ad n cd cc sli skip pci)[j]? := fun j => by rw [b6.cell (p := ⟨w.heap.size, j, none⟩) hz]; exact HS.out j
      have r0 : w6.cell? ⟨w.heap.size, 0, none⟩ = some (.int .i64 (f : Int)) := hs6 0
      have r1 : w6.cell? ⟨w.heap.size, 1, none⟩ = some (.int .i64 (ad : Int)) := hs6 1
      have r2 : w6.cell? ⟨w.heap.size, 2, none⟩ = some (.bool cd) := hs6 2
      have r3 : w6.cell? ⟨w.heap.size, 3, none⟩ = some (.bool cc) := hs6 3
      have r4 : w6.cell? ⟨w.heap.size, 4, none⟩ = some (.bool sli) := hs6 4
      have r5 : w6.cell? ⟨w.heap.size, 5, none⟩ = some (.bool skip) := hs6 5
      have r6 : w6.cell? ⟨w.heap.size, 6, none⟩ = some (.bool pci) := hs6 6
      have r7 : w6.cell? ⟨w.heap.size, 7, none⟩ = some (.int .i64 (n : Int)) := hs6 7
      have O6 := Lib.hid o6
      clear hs6 o6
      go_wp2_with fail
      refine (rflags_any _ _ _ _ _ _ _ _ _).mono ?_
      rw [← HFL.out]
      rintro e w7 ⟨rfl, b7⟩
      have hwl : IntKind.u8.wrap (fl : Int) = (fl : Int) := by rw [u8_wrap]; omega
      have hz7 := b7.size
      have t7 : w7.cell? ⟨w.heap.size, 7, none⟩ = some (.int .i64 (n : Int)) := by rw [b7.cell (p := ⟨w.heap.size, 7, none⟩) (show w.heap.size < w6.heap.size by omega)]; exact r7
      have HO8 := Lib.hid (own_below O6.out (b7.alloc hz7 (.cells #[.int .u8 (fl : Int), .int .u8 0] 5)))
      have HA8 := Lib.hid (own_at (World.ownsRow_lit w7 (e := 5) #[.int .u8 (fl : Int), .int .u8 0] 2 (Nat.le_refl _) (by decide) rfl))
      go_wp2_with (first
        | (at_builtin
           refine wpList_append_at (by rfl) _ _ _ (by rfl) wElem w1.heap.size _ 4 _ (by rfl) HO8.out (w7.alloc (.cells #[.int .u8 (fl : Int), .int .u8 0] 5)).heap.size (some ⟨w7.heap.size, 0, none⟩) 2 2 [.int .u8 (fl : Int), .int .u8 0] (by rfl) HA8.out (by rfl) (by intro u hu; simp at hu; rcases hu with rfl | rfl <;> rfl) (by decide) (by decide) (by simp; omega) ?_
           intro A8 c8 w8 o8 g8
           have b8 : Below w1.heap.size w7 w8 := ((Below.refl _ _).alloc (show w1.heap.size ≤ w7.heap.size by omega) _).grown g8 (by simp; omega) (own_ge HO8.out)
           have hz8 : w1.heap.size ≤ w8.heap.size := by have := b8.size; omega
           have t8 : w8.cell? ⟨w.heap.size, 7, none⟩ = some (.int .i64 (n : Int)) := by rw [b8.cell (p := ⟨w.heap.size, 7, none⟩) hz]; exact t7
           have B8 : Below w1.heap.size w1 w8 := (b6.trans (b7.mono hz6)).trans b8
           have O8 := Lib.hid o8
           clear o8 g8)
        | (go_at_call 30
           refine (rbytes_any n 2 (by omega) (by omega) _).mono ?_
           rintro e w9 ⟨A9, c9, rfl, o9, b9⟩
           have HA9 := Lib.hid (own_at o9)
           have HO9 := Lib.hid (own_below O8.out b9)
           have hz9 : w1.heap.size ≤ w9.heap.size := by have := b9.size; omega
           clear o9)
        | (at_builtin
           refine wpList_append_at (by rfl) _ _ _ (by rfl) wElem w1.heap.size _ 6 _ (by rfl) HO9.out w9.heap.size A9 2 c9 (Lib.byteCells (beN n 2)) (by rfl) HA9.out (by simp [byteCells_len, beN_length]) (byteCells_one _) (by decide) (by decide) (by have := b9.size; omega) ?_
           intro A10 c10 w10 o10 g10
           have b10 : Below w1.heap.size w1 w10 := (B8.trans (b9.mono hz8)).grown g10 hz9 (own_ge HO9.out)
           have O10 := Lib.hid o10
           clear o10 g10))
      go_ret2
      refine BytesRet.own (n := 8) rfl rfl (own_mono ?_ (Nat.le_of_lt hz)) (B1.trans (b10.mono (Nat.le_of_lt hz)))
      rw [← word8_cells f ad fl n hf hfb]
      exact O10.out

end Go.Proofs.Ytheiickihjcdlaa
