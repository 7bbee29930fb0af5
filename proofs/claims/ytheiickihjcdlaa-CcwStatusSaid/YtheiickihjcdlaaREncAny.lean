import Derived.Test.YtheiickihjcdlaaEnc
import Derived.Test.YtheiickihjcdlaaREnc
namespace Go.Proofs.Ytheiickihjcdlaa
open Go.RowKit

set_option maxHeartbeats 4000000 in
/-- jobshopref12.Encode -/
theorem rencode_any (op addr count : Int) (cd cc sli skip pci : Bool) (w : World) : Calls Try.prog 13 #[.agg #[.int .i64 op, .int .i64 addr, .bool cd, .bool cc, .bool sli, .bool skip, .bool pci, .int .i64 count]] w
    (BytesRet (ccwBytes op addr count cd cc sli skip pci) (ccwErr op addr count cd cc sli skip pci) w) := by
  have hb1 : ∀ o, Below w.heap.size w (w.alloc o) := fun o => (Below.refl _ _).alloc (Nat.le_refl _) o
  have HB1 := Lib.hid hb1
  clear hb1
  cases h1 : inB op 255
  · have he : ccwErr op addr count cd cc sli skip pci = 6 := by simp [ccwErr, h1]
    rw [he]
    have H1 := Lib.hid h1
    clear he h1
    go_enter Try.func13, Try.ntmps13
    go_wp2_with fail
    refine (rin_any _ _ _).mono ?_
    rw [H1.out]
    rintro e w1 ⟨rfl, rfl⟩
    go_wp2
    go_ret2
    exact BytesRet.err (by decide) rfl (HB1.out _)
  · cases h2 : inB addr 16777215
    · have he : ccwErr op addr count cd cc sli skip pci = 6 := by simp [ccwErr, h2]
      rw [he]
      have H1 := Lib.hid h1
      have H2 := Lib.hid h2
      clear he h1 h2
      go_enter Try.func13, Try.ntmps13
      go_wp2_with fail
      refine (rin_any _ _ _).mono ?_
      rw [H1.out]
      rintro e w1 ⟨rfl, rfl⟩
      go_wp2_with fail
      refine (rin_any _ _ _).mono ?_
      rw [H2.out]
      rintro e w1 ⟨rfl, rfl⟩
      go_wp2
      go_ret2
      exact BytesRet.err (by decide) rfl (HB1.out _)
    · cases h3 : inB count 65535
      · have he : ccwErr op addr count cd cc sli skip pci = 6 := by simp [ccwErr, h3]
        rw [he]
        have H1 := Lib.hid h1
        have H2 := Lib.hid h2
        have H3 := Lib.hid h3
        clear he h1 h2 h3
        go_enter Try.func13, Try.ntmps13
        go_wp2_with fail
        refine (rin_any _ _ _).mono ?_
        rw [H1.out]
        rintro e w1 ⟨rfl, rfl⟩
        go_wp2_with fail
        refine (rin_any _ _ _).mono ?_
        rw [H2.out]
        rintro e w1 ⟨rfl, rfl⟩
        go_wp2_with fail
        refine (rin_any _ _ _).mono ?_
        rw [H3.out]
        rintro e w1 ⟨rfl, rfl⟩
        go_wp2
        go_ret2
        exact BytesRet.err (by decide) rfl (HB1.out _)
      · have he : ccwErr op addr count cd cc sli skip pci = (if dir op = 0 then 1 else if dir op = 6 then (if flagsN cd cc sli skip pci = 0 ∧ count = 0 then 0 else 1) else if count = 0 then 1 else 0) := by simp [ccwErr, h1, h2, h3]
        rw [he]
        clear he
        obtain ⟨o1, o2⟩ := inB_iff.1 h1
        obtain ⟨a1, a2⟩ := inB_iff.1 h2
        obtain ⟨c1, c2⟩ := inB_iff.1 h3
        have H1 := Lib.hid h1
        have H2 := Lib.hid h2
        have H3 := Lib.hid h3
        obtain ⟨fl, hfl⟩ : ∃ fl, fl = flagsN cd cc sli skip pci := ⟨_, rfl⟩
        have hfb := flagsN_bd cd cc sli skip pci
        rw [← hfl] at hfb
        unfold ccwBytes
        rw [← hfl]
        obtain ⟨f0, rfl⟩ := Int.eq_ofNat_of_zero_le o1
        obtain ⟨ad0, rfl⟩ := Int.eq_ofNat_of_zero_le a1
        obtain ⟨fl0, rfl⟩ := Int.eq_ofNat_of_zero_le hfb.1
        obtain ⟨n0, rfl⟩ := Int.eq_ofNat_of_zero_le c1
        rw [Int.toNat_natCast, Int.toNat_natCast, Int.toNat_natCast, Int.toNat_natCast]
        obtain ⟨d, hd⟩ : ∃ d, d = dir (f0 : Int) := ⟨_, rfl⟩
        rw [← hd]
        have HFL := Lib.hid hfl
        have HD := Lib.hid hd
        clear h1 h2 h3 hfl hd
        have hcases : (d = 0) ∨ (d ≠ 0 ∧ d = 6 ∧ fl0 = 0 ∧ n0 = 0) ∨ (d ≠ 0 ∧ d = 6 ∧ fl0 ≠ 0) ∨ (d ≠ 0 ∧ d = 6 ∧ fl0 = 0 ∧ n0 ≠ 0) ∨ (d ≠ 0 ∧ d ≠ 6 ∧ n0 = 0) ∨ (d ≠ 0 ∧ d ≠ 6 ∧ n0 ≠ 0) := by omega
        rcases hcases with rfl | ⟨hd0, rfl, rfl, rfl⟩ | ⟨hd0, rfl, hf⟩ | ⟨hd0, rfl, rfl, hc⟩ | ⟨hd0, hd6, rfl⟩ | ⟨hd0, hd6, hc⟩
        · rw [if_pos rfl]
          go_enter Try.func13, Try.ntmps13
          go_wp2_with fail
          refine (rin_any _ _ _).mono ?_
          rw [H1.out]
          rintro e w1 ⟨rfl, rfl⟩
          go_wp2_with fail
          refine (rin_any _ _ _).mono ?_
          rw [H2.out]
          rintro e w1 ⟨rfl, rfl⟩
          go_wp2_with fail
          refine (rin_any _ _ _).mono ?_
          rw [H3.out]
          rintro e w1 ⟨rfl, rfl⟩
          go_wp2_with fail
          refine (rdir_any _ _).mono ?_
          rw [← HD.out]
          rintro e w2 ⟨rfl, rfl⟩
          go_wp2
          go_ret2
          exact BytesRet.err (by decide) rfl (HB1.out _)
        · rw [if_neg (by decide), if_pos rfl, if_pos ⟨rfl, rfl⟩]
          exact rencode_tail f0 ad0 0 0 cd cc sli skip pci (by omega) (by omega) (by omega) H1.out H2.out H3.out 6 HD.out HFL.out (by omega) ⟨rfl, Or.inl ⟨rfl, rfl, rfl, rfl⟩⟩ w
        · clear hd0
          have q1 : ((fl0 : Int) != 0) = true := by rw [bne_iff_ne]; omega
          rw [if_neg (by decide), if_pos rfl, if_neg (fun h => hf (by omega))]
          go_enter Try.func13, Try.ntmps13
          go_wp2_with fail
          refine (rin_any _ _ _).mono ?_
          rw [H1.out]
          rintro e w1 ⟨rfl, rfl⟩
          go_wp2_with fail
          refine (rin_any _ _ _).mono ?_
          rw [H2.out]
          rintro e w1 ⟨rfl, rfl⟩
          go_wp2_with fail
          refine (rin_any _ _ _).mono ?_
          rw [H3.out]
          rintro e w1 ⟨rfl, rfl⟩
          go_wp2_with fail
          refine (rdir_any _ _).mono ?_
          rw [← HD.out]
          rintro e w2 ⟨rfl, rfl⟩
          go_wp2_with fail
          refine (rflags_any _ _ _ _ _ _ _ _ _).mono ?_
          rw [← HFL.out]
          rintro e w1 ⟨rfl, b1⟩
          have hs : ∀ j, w1.cell? ⟨w.heap.size, j, none⟩ = (ccwCells f0 ad0 n0 cd cc sli skip pci)[j]? := fun j => by
            rw [b1.cell (p := ⟨w.heap.size, j, none⟩) (by simp)]
            exact cell_of_row _ _ _ _ 26 (0, 0) (heap_alloc_new w _)
          have s0 : w1.cell? ⟨w.heap.size, 0, none⟩ = some (.int .i64 (f0 : Int)) := hs 0
          have s1 : w1.cell? ⟨w.heap.size, 1, none⟩ = some (.int .i64 (ad0 : Int)) := hs 1
          have s7 : w1.cell? ⟨w.heap.size, 7, none⟩ = some (.int .i64 (n0 : Int)) := hs 7
          have B1 : Below w.heap.size w w1 := (HB1.out _).trans (b1.mono (by simp))
          clear hs b1
          go_wp2
          go_ret2
          exact BytesRet.err (by decide) rfl B1
        · clear hd0
          have q1 : ((n0 : Int) != 0) = true := by rw [bne_iff_ne]; omega
          rw [if_neg (by decide), if_pos rfl, if_neg (fun h => hc (by omega))]
          go_enter Try.func13, Try.ntmps13
          go_wp2_with fail
          refine (rin_any _ _ _).mono ?_
          rw [H1.out]
          rintro e w1 ⟨rfl, rfl⟩
          go_wp2_with fail
          refine (rin_any _ _ _).mono ?_
          rw [H2.out]
          rintro e w1 ⟨rfl, rfl⟩
          go_wp2_with fail
          refine (rin_any _ _ _).mono ?_
          rw [H3.out]
          rintro e w1 ⟨rfl, rfl⟩
          go_wp2_with fail
          refine (rdir_any _ _).mono ?_
          rw [← HD.out]
          rintro e w2 ⟨rfl, rfl⟩
          go_wp2_with fail
          refine (rflags_any _ _ _ _ _ _ _ _ _).mono ?_
          rw [← HFL.out]
          rintro e w1 ⟨rfl, b1⟩
          have hs : ∀ j, w1.cell? ⟨w.heap.size, j, none⟩ = (ccwCells f0 ad0 n0 cd cc sli skip pci)[j]? := fun j => by
            rw [b1.cell (p := ⟨w.heap.size, j, none⟩) (by simp)]
            exact cell_of_row _ _ _ _ 26 (0, 0) (heap_alloc_new w _)
          have s0 : w1.cell? ⟨w.heap.size, 0, none⟩ = some (.int .i64 (f0 : Int)) := hs 0
          have s1 : w1.cell? ⟨w.heap.size, 1, none⟩ = some (.int .i64 (ad0 : Int)) := hs 1
          have s7 : w1.cell? ⟨w.heap.size, 7, none⟩ = some (.int .i64 (n0 : Int)) := hs 7
          have B1 : Below w.heap.size w w1 := (HB1.out _).trans (b1.mono (by simp))
          clear hs b1
          go_wp2
          go_ret2
          exact BytesRet.err (by decide) rfl B1
        · have q0 : (d == 0) = false := by simpa using hd0
          have q1 : (d == 6) = false := by simpa using hd6
          have q2 : (d != 6) = true := by simpa using hd6
          rw [if_neg hd0, if_neg hd6, if_pos (by rfl)]
          have H3 := Lib.hid (show inB (0 : Int) 65535 = true from H3.out)
          go_enter Try.func13, Try.ntmps13
          go_wp2_with fail
          refine (rin_any _ _ _).mono ?_
          rw [H1.out]
          rintro e w1 ⟨rfl, rfl⟩
          go_wp2_with fail
          refine (rin_any _ _ _).mono ?_
          rw [H2.out]
          rintro e w1 ⟨rfl, rfl⟩
          go_wp2_with fail
          refine (rin_any _ _ _).mono ?_
          rw [H3.out]
          rintro e w1 ⟨rfl, rfl⟩
          go_wp2_with fail
          refine (rdir_any _ _).mono ?_
          rw [← HD.out]
          rintro e w2 ⟨rfl, rfl⟩
          go_wp2
          go_ret2
          exact BytesRet.err (by decide) rfl (HB1.out _)
        · have q0 : (d == 0) = false := by simpa using hd0
          have q1 : (d == 6) = false := by simpa using hd6
          have q2 : (d != 6) = true := by simpa using hd6
          have q3 : ((n0 : Int) == 0) = false := by rw [beq_eq_false_iff_ne]; omega
          rw [if_neg hd0, if_neg hd6, if_neg (by omega)]
          exact rencode_tail f0 ad0 n0 fl0 cd cc sli skip pci (by omega) (by omega) (by omega) H1.out H2.out H3.out d HD.out HFL.out (by omega) ⟨q0, Or.inr ⟨q1, q2, q3⟩⟩ w

end Go.Proofs.Ytheiickihjcdlaa
