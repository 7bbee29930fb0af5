import Derived.Test.YtheiickihjcdlaaFlags
import Derived.Test.YtheiickihjcdlaaEight
namespace Go.Proofs.Ytheiickihjcdlaa
open Go.RowKit

/-- The error of encoding a command word, 0 where there is none. -/
def ccwErr (op addr count : Int) (cd cc sli skip pci : Bool) : Int :=
  if inB op 255 && inB addr 16777215 && inB count 65535 then
    (if dir op = 0 then 1 else if dir op = 6 then (if flagsN cd cc sli skip pci = 0 ∧ count = 0 then 0 else 1) else if count = 0 then 1 else 0)
  else 6
def ccwBytes (op addr count : Int) (cd cc sli skip pci : Bool) : List UInt8 := word8 op.toNat addr.toNat (flagsN cd cc sli skip pci).toNat 0 count.toNat

/-- What a function that returns bytes and an error leaves: the bytes in new memory of the call's own, or nil and the error. -/
def BytesRet (out : List UInt8) (err : Int) (w : World) (e : Ending) (w' : World) : Prop :=
  ∃ A c, e = .returned (.tuple #[.slice A (if err = 0 then out else []).length c, .int .i64 err]) ∧ w'.ownsRow w.heap.size 5 1 (.slice A (if err = 0 then out else []).length c) (if err = 0 then out else []).length (Lib.byteCells (if err = 0 then out else [])) ∧ Below w.heap.size w w'
theorem BytesRet.err {out : List UInt8} {err : Int} {w w' : World} {e : Ending} (h : err ≠ 0) (he : e = .returned (.tuple #[.slice none 0 0, .int .i64 err])) (hb : Below w.heap.size w w') : BytesRet out err w e w' := by
  unfold BytesRet
  rw [if_neg h]
  exact ⟨none, 0, he, World.ownsRow_nil _ _ _ _, hb⟩
theorem BytesRet.own {out : List UInt8} {w w' : World} {e : Ending} {A : Option Addr} {n c : Nat} (hn : out.length = n) (he : e = .returned (.tuple #[.slice A n c, .int .i64 0])) (ho : w'.ownsRow w.heap.size 5 1 (.slice A n c) n (Lib.byteCells out)) (hb : Below w.heap.size w w') : BytesRet out 0 w e w' := by
  unfold BytesRet
  rw [if_pos rfl]
  subst hn
  exact ⟨A, c, he, ho, hb⟩

set_option maxHeartbeats 4000000 in
/-- ccw.Encode -/
theorem encode_any (op addr count : Int) (cd cc sli skip pci : Bool) (w : World) : Calls Try.prog 12 #[.agg #[.int .i64 op, .int .i64 addr, .bool cd, .bool cc, .bool sli, .bool skip, .bool pci, .int .i64 count]] w
    (BytesRet (ccwBytes op addr count cd cc sli skip pci) (ccwErr op addr count cd cc sli skip pci) w) := by
  have hb1 : ∀ o, Below w.heap.size w (w.alloc o) := fun o => (Below.refl _ _).alloc (Nat.le_refl _) o
  have HB1 := Lib.hid hb1
  clear hb1
  cases h1 : inB op 255
  · have he : ccwErr op addr count cd cc sli skip pci = 6 := by simp [ccwErr, h1]
    rw [he]
    have H1 := Lib.hid h1
    clear h1 he
    go_enter Try.func12, Try.ntmps12
    go_wp2_with fail
    refine (outside_any _ _ _).mono ?_
    rw [H1.out]
    rintro e w1 ⟨rfl, rfl⟩
    go_wp2
    go_ret2
    exact BytesRet.err (by decide) rfl (HB1.out _)
  · cases h2 : inB addr 16777215
    · have he : ccwErr op addr count cd cc sli skip pci = 6 := by simp [ccwErr, h2]
      rw [he]
      have H1 := Lib.hid h1
      have H2 := Lib.hid h2
      clear h1 h2 he
      go_enter Try.func12, Try.ntmps12
      go_wp2_with fail
      refine (outside_any _ _ _).mono ?_
      rw [H1.out]
      rintro e w1 ⟨rfl, rfl⟩
      go_wp2_with fail
      refine (outside_any _ _ _).mono ?_
      rw [H2.out]
      rintro e w1 ⟨rfl, rfl⟩
      go_wp2
      go_ret2
      exact BytesRet.err (by decide) rfl (HB1.out _)
    · cases h3 : inB count 65535
      · have he : ccwErr op addr count cd cc sli skip pci = 6 := by simp [ccwErr, h3]
        rw [he]
        have H1 := Lib.hid h1
        have H2 := Lib.hid h2
        have H3 := Lib.hid h3
        clear h1 h2 h3 he
        go_enter Try.func12, Try.ntmps12
        go_wp2_with fail
        refine (outside_any _ _ _).mono ?_
        rw [H1.out]
        rintro e w1 ⟨rfl, rfl⟩
        go_wp2_with fail
        refine (outside_any _ _ _).mono ?_
        rw [H2.out]
        rintro e w1 ⟨rfl, rfl⟩
        go_wp2_with fail
        refine (outside_any _ _ _).mono ?_
        rw [H3.out]
        rintro e w1 ⟨rfl, rfl⟩
        go_wp2
        go_ret2
        exact BytesRet.err (by decide) rfl (HB1.out _)
      · have he : ccwErr op addr count cd cc sli skip pci = (if dir op = 0 then 1 else if dir op = 6 then (if flagsN cd cc sli skip pci = 0 ∧ count = 0 then 0 else 1) else if count = 0 then 1 else 0) := by simp [ccwErr, h1, h2, h3]
        rw [he]
        clear he
        obtain ⟨o1, o2⟩ := inB_iff.1 h1
        obtain ⟨a1, a2⟩ := inB_iff.1 h2
        obtain ⟨c1, c2⟩ := inB_iff.1 h3
        have H1 := Lib.hid h1
        have H2 := Lib.hid h2
        have H3 := Lib.hid h3
        obtain ⟨fl, hfl⟩ : ∃ fl, fl = flagsN cd cc sli skip pci := ⟨_, rfl⟩
        have hfb := flagsN_bd cd cc sli skip pci
        rw [← hfl] at hfb
        unfold ccwBytes
        rw [← hfl]
        obtain ⟨f0, rfl⟩ := Int.eq_ofNat_of_zero_le o1
        obtain ⟨ad0, rfl⟩ := Int.eq_ofNat_of_zero_le a1
        obtain ⟨fl0, rfl⟩ := Int.eq_ofNat_of_zero_le hfb.1
        rw [Int.toNat_natCast, Int.toNat_natCast, Int.toNat_natCast]
        obtain ⟨d, hd⟩ : ∃ d, d = dir (f0 : Int) := ⟨_, rfl⟩
        rw [← hd]
        have HFL := Lib.hid hfl
        have HD := Lib.hid hd
        clear h1 h2 h3 hfl hd
        have hcases : (d = 0) ∨ (d ≠ 0 ∧ d = 6 ∧ fl0 = 0 ∧ count = 0) ∨ (d ≠ 0 ∧ d = 6 ∧ fl0 ≠ 0) ∨ (d ≠ 0 ∧ d = 6 ∧ fl0 = 0 ∧ count ≠ 0) ∨ (d ≠ 0 ∧ d ≠ 6 ∧ count = 0) ∨ (d ≠ 0 ∧ d ≠ 6 ∧ count ≠ 0) := by omega
        rcases hcases with rfl | ⟨hd0, rfl, rfl, rfl⟩ | ⟨hd0, rfl, hf⟩ | ⟨hd0, rfl, rfl, hc⟩ | ⟨hd0, hd6, rfl⟩ | ⟨hd0, hd6, hc⟩
        · skip
          rw [if_pos rfl]
          go_enter Try.func12, Try.ntmps12
          go_wp2_with fail
          refine (outside_any _ _ _).mono ?_
          rw [H1.out]
          rintro e w1 ⟨rfl, rfl⟩
          go_wp2_with fail
          refine (outside_any _ _ _).mono ?_
          rw [H2.out]
          rintro e w1 ⟨rfl, rfl⟩
          go_wp2_with fail
          refine (outside_any _ _ _).mono ?_
          rw [H3.out]
          rintro e w1 ⟨rfl, rfl⟩
          go_wp2_with fail
          refine (packed_any _ _ _ _ _ _ _ _ _).mono ?_
          rw [← HFL.out]
          rintro e w1 ⟨rfl, b1⟩
          have hs : ∀ j, w1.cell? ⟨w.heap.size, j, none⟩ = (ccwCells f0 ad0 count cd cc sli skip pci)[j]? := fun j => by
            rw [b1.cell (p := ⟨w.heap.size, j, none⟩) (by simp)]
            exact cell_of_row _ _ _ _ 26 (0, 0) (heap_alloc_new w _)
          have s0 : w1.cell? ⟨w.heap.size, 0, none⟩ = some (.int .i64 (f0 : Int)) := hs 0
          have s1 : w1.cell? ⟨w.heap.size, 1, none⟩ = some (.int .i64 (ad0 : Int)) := hs 1
          have s7 : w1.cell? ⟨w.heap.size, 7, none⟩ = some (.int .i64 count) := hs 7
          have B1 : Below w.heap.size w w1 := (HB1.out _).trans (b1.mono (by simp))
          clear hs b1
          go_wp2_with fail
          refine (dir_any _ _).mono ?_
          rw [← HD.out]
          rintro e w2 ⟨rfl, rfl⟩
          go_wp2
          go_ret2
          exact BytesRet.err (by decide) rfl B1
        · clear hd0
          rw [if_neg (by decide), if_pos rfl, if_pos ⟨rfl, rfl⟩]
          go_enter Try.func12, Try.ntmps12
          go_wp2_with fail
          refine (outside_any _ _ _).mono ?_
          rw [H1.out]
          rintro e w1 ⟨rfl, rfl⟩
          go_wp2_with fail
          refine (outside_any _ _ _).mono ?_
          rw [H2.out]
          rintro e w1 ⟨rfl, rfl⟩
          go_wp2_with fail
          refine (outside_any _ _ _).mono ?_
          rw [H3.out]
          rintro e w1 ⟨rfl, rfl⟩
          go_wp2_with fail
          refine (packed_any _ _ _ _ _ _ _ _ _).mono ?_
          rw [← HFL.out]
          rintro e w1 ⟨rfl, b1⟩
          have hs : ∀ j, w1.cell? ⟨w.heap.size, j, none⟩ = (ccwCells f0 ad0 0 cd cc sli skip pci)[j]? := fun j => by
            rw [b1.cell (p := ⟨w.heap.size, j, none⟩) (by simp)]
            exact cell_of_row _ _ _ _ 26 (0, 0) (heap_alloc_new w _)
          have s0 : w1.cell? ⟨w.heap.size, 0, none⟩ = some (.int .i64 (f0 : Int)) := hs 0
          have s1 : w1.cell? ⟨w.heap.size, 1, none⟩ = some (.int .i64 (ad0 : Int)) := hs 1
          have s7 : w1.cell? ⟨w.heap.size, 7, none⟩ = some (.int .i64 0) := hs 7
          have B1 : Below w.heap.size w w1 := (HB1.out _).trans (b1.mono (by simp))
          clear hs b1
          go_wp2_with fail
          refine (dir_any _ _).mono ?_
          rw [← HD.out]
          rintro e w2 ⟨rfl, rfl⟩
          go_wp2_with fail
          refine (eight_any f0 ad0 0 0 0 (by omega) (by omega) (by omega) (by omega) (by omega) _).mono ?_
          rintro e w3 ⟨A3, c3, rfl, o3, b3⟩
          have B3 := B1.trans (b3.mono B1.size)
          have O3 := Lib.hid (own_mono o3 B1.size)
          clear o3 b3
          go_wp2
          go_ret2
          exact BytesRet.own rfl rfl O3.out B3
        · clear hd0
          have q1 : ((fl0 : Int) != 0) = true := by rw [bne_iff_ne]; omega
          rw [if_neg (by decide), if_pos rfl, if_neg (fun h => hf (by omega))]
          go_enter Try.func12, Try.ntmps12
          go_wp2_with fail
          refine (outside_any _ _ _).mono ?_
          rw [H1.out]
          rintro e w1 ⟨rfl, rfl⟩
          go_wp2_with fail
          refine (outside_any _ _ _).mono ?_
          rw [H2.out]
          rintro e w1 ⟨rfl, rfl⟩
          go_wp2_with fail
          refine (outside_any _ _ _).mono ?_
          rw [H3.out]
          rintro e w1 ⟨rfl, rfl⟩
          go_wp2_with fail
          refine (packed_any _ _ _ _ _ _ _ _ _).mono ?_
          rw [← HFL.out]
          rintro e w1 ⟨rfl, b1⟩
          have hs : ∀ j, w1.cell? ⟨w.heap.size, j, none⟩ = (ccwCells f0 ad0 count cd cc sli skip pci)[j]? := fun j => by
            rw [b1.cell (p := ⟨w.heap.size, j, none⟩) (by simp)]
            exact cell_of_row _ _ _ _ 26 (0, 0) (heap_alloc_new w _)
          have s0 : w1.cell? ⟨w.heap.size, 0, none⟩ = some (.int .i64 (f0 : Int)) := hs 0
          have s1 : w1.cell? ⟨w.heap.size, 1, none⟩ = some (.int .i64 (ad0 : Int)) := hs 1
          have s7 : w1.cell? ⟨w.heap.size, 7, none⟩ = some (.int .i64 count) := hs 7
          have B1 : Below w.heap.size w w1 := (HB1.out _).trans (b1.mono (by simp))
          clear hs b1
          go_wp2_with fail
          refine (dir_any _ _).mono ?_
          rw [← HD.out]
          rintro e w2 ⟨rfl, rfl⟩
          go_wp2
          go_ret2
          exact BytesRet.err (by decide) rfl B1
        · clear hd0
          have q1 : (count != 0) = true := by simpa using hc
          rw [if_neg (by decide), if_pos rfl, if_neg (fun h => hc h.2)]
          go_enter Try.func12, Try.ntmps12
          go_wp2_with fail
          refine (outside_any _ _ _).mono ?_
          rw [H1.out]
          rintro e w1 ⟨rfl, rfl⟩
          go_wp2_with fail
          refine (outside_any _ _ _).mono ?_
          rw [H2.out]
          rintro e w1 ⟨rfl, rfl⟩
          go_wp2_with fail
          refine (outside_any _ _ _).mono ?_
          rw [H3.out]
          rintro e w1 ⟨rfl, rfl⟩
          go_wp2_with fail
          refine (packed_any _ _ _ _ _ _ _ _ _).mono ?_
          rw [← HFL.out]
          rintro e w1 ⟨rfl, b1⟩
          have hs : ∀ j, w1.cell? ⟨w.heap.size, j, none⟩ = (ccwCells f0 ad0 count cd cc sli skip pci)[j]? := fun j => by
            rw [b1.cell (p := ⟨w.heap.size, j, none⟩) (by simp)]
            exact cell_of_row _ _ _ _ 26 (0, 0) (heap_alloc_new w _)
          have s0 : w1.cell? ⟨w.heap.size, 0, none⟩ = some (.int .i64 (f0 : Int)) := hs 0
          have s1 : w1.cell? ⟨w.heap.size, 1, none⟩ = some (.int .i64 (ad0 : Int)) := hs 1
          have s7 : w1.cell? ⟨w.heap.size, 7, none⟩ = some (.int .i64 count) := hs 7
          have B1 : Below w.heap.size w w1 := (HB1.out _).trans (b1.mono (by simp))
          clear hs b1
          go_wp2_with fail
          refine (dir_any _ _).mono ?_
          rw [← HD.out]
          rintro e w2 ⟨rfl, rfl⟩
          go_wp2
          go_ret2
          exact BytesRet.err (by decide) rfl B1
        · skip
          have q0 : (d == 0) = false := by simpa using hd0
          have q1 : (d == 6) = false := by simpa using hd6
          rw [if_neg hd0, if_neg hd6, if_pos rfl]
          go_enter Try.func12, Try.ntmps12
          go_wp2_with fail
          refine (outside_any _ _ _).mono ?_
          rw [H1.out]
          rintro e w1 ⟨rfl, rfl⟩
          go_wp2_with fail
          refine (outside_any _ _ _).mono ?_
          rw [H2.out]
          rintro e w1 ⟨rfl, rfl⟩
          go_wp2_with fail
          refine (outside_any _ _ _).mono ?_
          rw [H3.out]
          rintro e w1 ⟨rfl, rfl⟩
          go_wp2_with fail
          refine (packed_any _ _ _ _ _ _ _ _ _).mono ?_
          rw [← HFL.out]
          rintro e w1 ⟨rfl, b1⟩
          have hs : ∀ j, w1.cell? ⟨w.heap.size, j, none⟩ = (ccwCells f0 ad0 0 cd cc sli skip pci)[j]? := fun j => by
            rw [b1.cell (p := ⟨w.heap.size, j, none⟩) (by simp)]
            exact cell_of_row _ _ _ _ 26 (0, 0) (heap_alloc_new w _)
          have s0 : w1.cell? ⟨w.heap.size, 0, none⟩ = some (.int .i64 (f0 : Int)) := hs 0
          have s1 : w1.cell? ⟨w.heap.size, 1, none⟩ = some (.int .i64 (ad0 : Int)) := hs 1
          have s7 : w1.cell? ⟨w.heap.size, 7, none⟩ = some (.int .i64 0) := hs 7
          have B1 : Below w.heap.size w w1 := (HB1.out _).trans (b1.mono (by simp))
          clear hs b1
          go_wp2_with fail
          refine (dir_any _ _).mono ?_
          rw [← HD.out]
          rintro e w2 ⟨rfl, rfl⟩
          go_wp2
          go_ret2
          exact BytesRet.err (by decide) rfl B1
        · skip
          have q0 : (d == 0) = false := by simpa using hd0
          have q1 : (d == 6) = false := by simpa using hd6
          have q2 : (count == 0) = false := by simpa using hc
          rw [if_neg hd0, if_neg hd6, if_neg hc]
          go_enter Try.func12, Try.ntmps12
          go_wp2_with fail
          refine (outside_any _ _ _).mono ?_
          rw [H1.out]
          rintro e w1 ⟨rfl, rfl⟩
          go_wp2_with fail
          refine (outside_any _ _ _).mono ?_
          rw [H2.out]
          rintro e w1 ⟨rfl, rfl⟩
          go_wp2_with fail
          refine (outside_any _ _ _).mono ?_
          rw [H3.out]
          rintro e w1 ⟨rfl, rfl⟩
          go_wp2_with fail
          refine (packed_any _ _ _ _ _ _ _ _ _).mono ?_
          rw [← HFL.out]
          rintro e w1 ⟨rfl, b1⟩
          have hs : ∀ j, w1.cell? ⟨w.heap.size, j, none⟩ = (ccwCells f0 ad0 count cd cc sli skip pci)[j]? := fun j => by
            rw [b1.cell (p := ⟨w.heap.size, j, none⟩) (by simp)]
            exact cell_of_row _ _ _ _ 26 (0, 0) (heap_alloc_new w _)
          have s0 : w1.cell? ⟨w.heap.size, 0, none⟩ = some (.int .i64 (f0 : Int)) := hs 0
          have s1 : w1.cell? ⟨w.heap.size, 1, none⟩ = some (.int .i64 (ad0 : Int)) := hs 1
          have s7 : w1.cell? ⟨w.heap.size, 7, none⟩ = some (.int .i64 count) := hs 7
          have B1 : Below w.heap.size w w1 := (HB1.out _).trans (b1.mono (by simp))
          clear hs b1
          go_wp2_with fail
          refine (dir_any _ _).mono ?_
          rw [← HD.out]
          rintro e w2 ⟨rfl, rfl⟩
          obtain ⟨n0, rfl⟩ := Int.eq_ofNat_of_zero_le c1
          rw [Int.toNat_natCast]
          go_wp2_with fail
          refine (eight_any f0 ad0 fl0 0 n0 (by omega) (by omega) (by omega) (by omega) (by omega) _).mono ?_
          rintro e w3 ⟨A3, c3, rfl, o3, b3⟩
          have B3 := B1.trans (b3.mono B1.size)
          have O3 := Lib.hid (own_mono o3 B1.size)
          clear o3 b3
          go_wp2
          go_ret2
          exact BytesRet.own rfl rfl O3.out B3

end Go.Proofs.Ytheiickihjcdlaa
